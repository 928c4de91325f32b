/- Part of a proof over the seat YtacfncmndodlpaaGreat. Its claim's last module says what is proved. -/
import Derived.Test.YtacfncmndodlpaaGreatQ1
set_option linter.all false
set_option maxHeartbeats 12800000
namespace Go.Proofs.YtacfncmndodlpaaGreat
section
open Go.Proofs Tryz Go.RowKit
section
variable {P:Program} {X:Cx} {n:Nat} {ds:List Deferred} {ρ:aK} {Γ:List HP} {Nx:Value→List HP→Prop} {d:Nat} {ty:TypeId}
theorem LD{t s:Nat}{x:Operand}{b o:Nat}{us:List Value}[T:cI P t s](hx:ev ρ x=some (.pointer (some ⟨b,o,none⟩)))[H:lq Γ b o us](hl:us.length=s)(hn:Nat.blt d n=true)
 (h:Nx (.agg us.toArray) Γ):bm P X n ds (some d) (.load t x) ty Nx ρ Γ:=
 FP hx hl (fun j v hj=>Cell.row (off:=o) (by rw[za9];omega) (by rw[zS];exact hj)) hn h
theorem rC{t s:Nat}{x:Operand}{b o:Nat}{us:List Value}[T:cI P t s](hx:ev ρ x=some (.pointer (some ⟨b,o,none⟩)))[H:lq Γ b o us](hl:us.length=s):bI P (.load t x) ty ρ Γ (.agg us.toArray):=
 FQ hx hl (fun j v hj=>Cell.row (off:=o) (by rw[za9];omega) (by rw[zS];exact hj))
theorem dt{t s:Nat}{x y:Operand}{b o:Nat}{vs us:List Value}{K:HP→List HP}[T:cI P t s](hx:ev ρ x=some (.pointer (some ⟨b,o,none⟩)))(hy:ev ρ y=some (.agg us.toArray))(ju:us.length=s)(h1:us.all Value.oneCell'=true)
 [H:km Γ b o vs K] (hl:us.length=vs.length) (h:Nx undef (K (Row b o us))):bm P X n ds none (.store t x y) ty Nx ρ Γ:=
 jH hx hy ju h1 (by rw[za9];omega) (by omega) (by
  rw[zbX,zbq,zB,zO,hl,zb0,zF];exact h)
theorem tn{t m e s:Nat}{parts:List (Nat×Operand)}{vs:List (Nat×Value)}{zs cs:List Value}[T:iR P t m e s][Z:cp P t zs](hx:sJ ρ parts=some vs)(hf:ux (fun i=>some (i*s,s)) zs vs=some cs)(hn:Nat.blt d n=true)
 (h:Nx (.agg cs.toArray) Γ):bm P X n ds (some d) (.build t parts.toArray) ty Nx ρ Γ:=
 b_ (by simp) hn fun ee o w ax aS he bg hs=>⟨_,w,Γ,by
  obtain⟨i,zv,hi,hz,rfl⟩:=Z.h;obtain⟨hu,inf,en,bZ⟩:=T.fL;have h2:=CB hf;have h5:(List.map (fun x:Nat×Operand=>(x.1,ee x.2)) parts)=vs:=CC he hx;simp[execOp,ax,Instr.build,zeroValue,m6 hi,hz,cN hu,eB en,bZ,h5];simp at h2;rw[h2];simp,hs,h⟩
end
theorem aV {P:Program} {X:Cx} {n:Nat} {ds:List Deferred} {ρ ρ':aK} {Γ Γ':List HP} {todo:List Item} (h:Ex P X n ds todo ρ' Γ') [S:Sub Γ Γ'] (hρ:wk ρ' ρ:=by (repeat' (first|exact trivial|refine⟨rfl,?_⟩))):Ex P X n ds todo ρ Γ:=bf h hρ S.h
def x_inB:List Nat→Nat→Bool
 |[],_=>false
 |j::l,i=>cond (Nat.beq i j) true (x_inB l i)
def aX (a:List Nat):List Nat→List (Nat×Bool)
 |[]=>[]
 |i::l=>(i,x_inB a i)::aX a l
theorem aZ {X:Cx} {n:Nat} {ds:List Deferred} {k:List Item} {ρ:aK} {Γ Δ':List HP} {id:Nat} {l:List Oper} (m:Nat) (π:List (Nat×Bool)) (F:List HP) [T:nN Γ F Δ'] (h:iW prog X n ds l m ρ F k π [] Γ) (ha:(KH l m π&&wK l m ρ&&(dstsOf l).all (fun d=>Nat.blt d n))=true:=by kernel_rfl):Ex prog X n ds (.code (.region id l.toArray true)::k) ρ Γ:=nc m π F mixed ha bd h
theorem Dp {X:Cx} {n:Nat} {ds:List Deferred} {k:List Item} {ρ:aK} {Γ:List HP} {id:Nat} {l:List Oper} (m:Nat) (π:List (Nat×Bool)) (F:List HP) (h:iW prog X n ds l m ρ [] k π [] Γ) (ha:(KH l m π&&wK l m ρ&&(dstsOf l).all (fun d=>Nat.blt d n))=true:=by kernel_rfl):Ex prog X n ds (.code (.region id l.toArray true)::k) ρ Γ:=nc m π [] mixed ha Gf h
theorem aJ {P:Program} {X:Cx} {n:Nat} {ds:List Deferred} {ops:Array Oper} {l:List Oper} {k:List Item} {ρ:aK} {Γ:List HP} {d:Nat} {ty:TypeId} {pos:String} {af:Array Edge} {f:FuncId} {args:List Operand} {ts:Array TypeId} {vs:List Value} {A Δ:List HP} {R:Value→List HP→Prop} (ha:gk ρ args=some vs) [C:aB P f] (S:Spec P f vs A R) [T:nN Γ A Δ] (hn:Nat.blt d n=true) (h:∀v B,R v B→jt P X n ds ops l k ((d,v)::ρ) (B++Δ)):jt P X n ds ops (⟨some d,.call ⟨.value (.func f),args.toArray,ts⟩,ty,pos,af,none⟩::l) k ρ Γ:=ao (aq ha S hn h)
theorem x_tv {ρ ρ':aK} (h:wk ρ' ρ:=by (repeat' (first|exact trivial|refine⟨rfl,?_⟩))):wk ρ' ρ:=h
theorem x_sp {P:Program} {f:FuncId} {fn:Func} {c:Code} {n:Nat} {args:List Value} {A:List HP} {R:Value→List HP→Prop} (hf:P.funcs[f]? =some fn) (hn:fn.ntmps=n) (h:∀E cs Γ,Ex P (jX P f E cs R Γ) n [] [.code c] (sK 0 args) (A++Γ)) (hb:fn.body=some c:=by exact rfl) (hl:Nat.ble args.length n=true:=by exact rfl):Spec P f args A R:=Spec.az hf hb hn hl h
structure Hd(G:Prop):Prop where
 out:G
variable {G K:Prop}
theorem qf(p:Hd K→G:=by intro h;simp only[sK,Nat.reduceAdd,zB];exact h.1)(h:K):G:=p ⟨h⟩
theorem aw(p:Hd K→G:=by intro h;refine ao ?_;exact h.1)(h:K):G:=p ⟨h⟩
theorem iu(p:Hd K→G:=by intro h;refine ao (lr rfl rfl ?_);exact h.1)(h:K):G:=p ⟨h⟩
theorem uI(p:Hd K→G:=by intro h;refine m5 rfl (lr rfl rfl ?_);exact h.1)(h:K):G:=p ⟨h⟩
theorem fT(p:Hd K→G:=by intro h;refine m5 rfl ?_;exact h.1)(h:K):G:=p ⟨h⟩
theorem BA(p:Hd K→G:=by intro h;refine ao (Cm rfl rfl ?_);exact h.1)(h:K):G:=p ⟨h⟩
theorem eR(p:Hd K→G:=by intro h;refine Q6 ?_;exact h.1)(h:K):G:=p ⟨h⟩
theorem jx(p:Hd K→G:=by intro h;simp only[sK,zl,zB];exact h.1)(h:K):G:=p ⟨h⟩
theorem ko(p:Hd K→G:=by intro h;simp only[sK,zB];exact h.1)(h:K):G:=p ⟨h⟩
theorem eg(p:Hd K→G:=by intro h;simp only[sK,Nat.reduceAdd,zl,zB];exact h.1)(h:K):G:=p ⟨h⟩
theorem bQ(p:Hd K→G:=by intro h;refine yB (Cj ?_);exact h.1)(h:K):G:=p ⟨h⟩
theorem dh(p:Hd K→G:=by intro h;rintro v B ⟨rfl,rfl⟩;exact h.1)(h:K):G:=p ⟨h⟩
theorem dq(p:Hd K→G:=by intro h;simp only[zB];exact h.1)(h:K):G:=p ⟨h⟩
theorem a_(p:Hd K→G:=by intro h;simp only[zl,zB];exact h.1)(h:K):G:=p ⟨h⟩
theorem wZ(p:Hd K→G:=by intro h;refine ao (Kk rfl rfl ?_);exact h.1)(h:K):G:=p ⟨h⟩
theorem eM(p:Hd K→G:=by intro h;refine yB ?_;exact h.1)(h:K):G:=p ⟨h⟩
theorem nW(p:Hd K→G:=by intro h;refine Cj ?_;exact h.1)(h:K):G:=p ⟨h⟩
theorem eW(p:Hd K→G:=by intro h;refine Q4 ?_;exact h.1)(h:K):G:=p ⟨h⟩
theorem dD(p:Hd K→G:=by intro h;refine au rfl (lU rfl) ?_;exact h.1)(h:K):G:=p ⟨h⟩
theorem nn(p:Hd K→G:=by intro h;refine au rfl (qY rfl rfl rfl) ?_;exact h.1)(h:K):G:=p ⟨h⟩
theorem kx(p:Hd K→G:=by intro h;refine⟨bd,?_⟩;exact h.1)(h:K):G:=p ⟨h⟩
theorem ql(p:Hd K→G:=by intro h;refine au rfl (J4 rfl) ?_;exact h.1)(h:K):G:=p ⟨h⟩
theorem dU(p:Hd K→G:=by intro h;refine SG rfl ?_;exact h.1)(h:K):G:=p ⟨h⟩
theorem iz(p:Hd K→G:=by intro h;refine Q3 ?_;exact h.1)(h:K):G:=p ⟨h⟩
theorem dO(p:Hd K→G:=by intro h;refine yC ?_;exact h.1)(h:K):G:=p ⟨h⟩
theorem Gs(p:Hd K→G:=by intro h;refine eZ rfl rfl rfl rfl (by simp) ?_;exact h.1)(h:K):G:=p ⟨h⟩
theorem Gt(p:Hd K→G:=by intro h;try dsimp only[Nat.reduceSub,Nat.reduceAdd,List.set];exact h.1)(h:K):G:=p ⟨h⟩
theorem Ax(p:Hd K→G:=by intro h;refine m5 rfl (iF (i:=2) rfl (by omega) rfl rfl ?_);exact h.1)(h:K):G:=p ⟨h⟩
theorem D8(p:Hd K→G:=by intro h;refine au rfl (Fz rfl) ?_;exact h.1)(h:K):G:=p ⟨h⟩
theorem j6(p:Hd K→G:=by intro h;refine au rfl (om rfl) ?_;exact h.1)(h:K):G:=p ⟨h⟩
theorem CY(p:Hd K→G:=by intro h;refine ao (Rb rfl rfl ?_);exact h.1)(h:K):G:=p ⟨h⟩
theorem Lf(p:Hd K→G:=by intro h;refine yC (iS (i:=1) rfl rfl rfl (by omega) rfl ?_);exact h.1)(h:K):G:=p ⟨h⟩
theorem Lg(p:Hd K→G:=by intro h;refine ao (iF (i:=2) rfl (by omega) rfl rfl ?_);exact h.1)(h:K):G:=p ⟨h⟩
theorem pP(p:Hd K→G:=by intro h;refine au rfl (J2 rfl) ?_;exact h.1)(h:K):G:=p ⟨h⟩
theorem w_(p:Hd K→G:=by intro h;refine m5 rfl (Kk rfl rfl ?_);exact h.1)(h:K):G:=p ⟨h⟩
theorem xh(p:Hd K→G:=by intro h;refine au rfl (J8 rfl rfl (by omega)) ?_;exact h.1)(h:K):G:=p ⟨h⟩
theorem xi(p:Hd K→G:=by intro h;refine au rfl (J_ rfl rfl (by omega)) ?_;exact h.1)(h:K):G:=p ⟨h⟩
theorem Dh(p:Hd K→G:=by intro h;refine ao (sG rfl rfl (qa (by omega)) rfl ?_);exact h.1)(h:K):G:=p ⟨h⟩
theorem Dj(p:Hd K→G:=by intro h;refine ao (J5 rfl rfl (by omega) (by omega) rfl ?_);exact h.1)(h:K):G:=p ⟨h⟩
theorem G0(p:Hd K→G:=by intro h;refine ao (Cq rfl rfl (gE (by omega)) rfl ?_);exact h.1)(h:K):G:=p ⟨h⟩
theorem LV(p:Hd K→G:=by intro h;refine au rfl (Rh rfl rfl (by omega) (by omega)) ?_;exact h.1)(h:K):G:=p ⟨h⟩
theorem LW(p:Hd K→G:=by intro h;refine au rfl (Cr rfl rfl (gE (by omega))) ?_;exact h.1)(h:K):G:=p ⟨h⟩
theorem iA(p:Hd K→G:=by intro h;refine au rfl (rC rfl rfl) ?_;exact h.1)(h:K):G:=p ⟨h⟩
theorem Dr(p:Hd K→G:=by intro h;refine ao (LD rfl rfl rfl ?_);exact h.1)(h:K):G:=p ⟨h⟩
theorem L7(p:Hd K→G:=by intro h;refine au rfl (FB rfl rfl (F6 (by omega))) ?_;exact h.1)(h:K):G:=p ⟨h⟩
theorem AT(p:Hd K→G:=by intro h;refine ao (um rfl rfl rfl rfl ?_);exact h.1)(h:K):G:=p ⟨h⟩
theorem acu(p:Hd K→G:=by intro h;try dsimp only[Nat.reduceSub,Nat.reduceAdd,List.take,List.drop,List.length,List.cons_append,List.nil_append,List.append_nil];exact h.1)(h:K):G:=p ⟨h⟩
theorem DC(p:Hd K→G:=by intro h;refine au rfl (Cp rfl rfl (qa (by omega))) ?_;exact h.1)(h:K):G:=p ⟨h⟩
theorem vb(p:Hd K→G:=by intro h;refine au rfl (yL rfl (by rfl)) ?_;exact h.1)(h:K):G:=p ⟨h⟩
theorem xB(p:Hd K→G:=by intro h;refine ao (uq rfl rfl rfl rfl rfl ?_);exact h.1)(h:K):G:=p ⟨h⟩
theorem Bj(p:Hd K→G:=by intro h;refine bE rfl rfl (J_ rfl rfl (by omega)) ?_;exact h.1)(h:K):G:=p ⟨h⟩
theorem xT(p:Hd K→G:=by intro h;refine au rfl (Q_ rfl rfl) ?_;exact h.1)(h:K):G:=p ⟨h⟩
theorem lP(p:Hd K→G:=by intro h;refine bE rfl rfl (om rfl) ?_;exact h.1)(h:K):G:=p ⟨h⟩
theorem HL(p:Hd K→G:=by intro h;refine bE rfl rfl (rC rfl rfl) ?_;exact h.1)(h:K):G:=p ⟨h⟩
theorem DV(p:Hd K→G:=by intro h;refine bE rfl rfl (J8 rfl rfl (by omega)) ?_;exact h.1)(h:K):G:=p ⟨h⟩
theorem HM(p:Hd K→G:=by intro h;refine ao (Kf rfl rfl (by omega) rfl ?_);exact h.1)(h:K):G:=p ⟨h⟩
theorem xS(p:Hd K→G:=by intro h;refine bE rfl rfl (lU rfl) ?_;exact h.1)(h:K):G:=p ⟨h⟩
theorem D5(p:Hd K→G:=by intro h;refine bE rfl rfl (FB rfl rfl (F6 (by omega))) ?_;exact h.1)(h:K):G:=p ⟨h⟩
theorem qB(p:Hd K→G:=by intro h;refine bE rfl rfl (J4 rfl) ?_;exact h.1)(h:K):G:=p ⟨h⟩
theorem Eb(p:Hd K→G:=by intro h;refine ao (Cs rfl rfl (by omega) rfl ?_);exact h.1)(h:K):G:=p ⟨h⟩
theorem Ei(p:Hd K→G:=by intro h;refine bE rfl rfl (FL rfl rfl (by omega)) ?_;exact h.1)(h:K):G:=p ⟨h⟩
theorem Bt(p:Hd K→G:=by intro h;refine bE rfl rfl (qY rfl rfl rfl) ?_;exact h.1)(h:K):G:=p ⟨h⟩
theorem NK(p:Hd K→G:=by intro h;refine bE rfl rfl (FI rfl rfl (by omega)) ?_;exact h.1)(h:K):G:=p ⟨h⟩
theorem aA(p:Hd K→G:=by intro h;refine Wq ?_;refine aw (h:=?_);exact h.1)(h:K):G:=p ⟨h⟩
theorem bU(p:Hd K→G:=by intro h;refine BA (h:=eR (h:=?_));exact h.1)(h:K):G:=p ⟨h⟩
theorem bW(p:Hd K→G:=by intro h;refine a_ (h:=Wq ?_);exact h.1)(h:K):G:=p ⟨h⟩
theorem Ee(p:Hd K→G:=by intro h;refine dh (h:=kx (h:=?_));exact h.1)(h:K):G:=p ⟨h⟩
theorem cS(p:Hd K→G:=by intro h;refine dh (h:=dq (h:=?_));exact h.1)(h:K):G:=p ⟨h⟩
theorem dQ(p:Hd K→G:=by intro h;refine dU (h:=Wq ?_);exact h.1)(h:K):G:=p ⟨h⟩
theorem cn(p:Hd K→G:=by intro h;refine Ee (h:=dq (h:=?_));exact h.1)(h:K):G:=p ⟨h⟩
theorem dc(p:Hd K→G:=by intro h;refine kx (h:=a_ (h:=?_));exact h.1)(h:K):G:=p ⟨h⟩
theorem de(p:Hd K→G:=by intro h;refine dh (h:=a_ (h:=?_));exact h.1)(h:K):G:=p ⟨h⟩
theorem df(p:Hd K→G:=by intro h;refine pP (h:=dU (h:=?_));exact h.1)(h:K):G:=p ⟨h⟩
theorem gj(p:Hd K→G:=by intro h;refine iu (h:=?_);refine ao (J3 rfl rfl rfl ?_);refine ao (J3 rfl rfl rfl ?_);exact h.1)(h:K):G:=p ⟨h⟩
theorem dK(p:Hd K→G:=by intro h;refine dD (h:=dD (h:=?_));exact h.1)(h:K):G:=p ⟨h⟩
theorem dx(p:Hd K→G:=by intro h;refine eg (h:=bQ (h:=?_));exact h.1)(h:K):G:=p ⟨h⟩
theorem eU(p:Hd K→G:=by intro h;refine Wl ?_;refine aw (h:=?_);exact h.1)(h:K):G:=p ⟨h⟩
theorem eh(p:Hd K→G:=by intro h;refine jx (h:=bQ (h:=?_));exact h.1)(h:K):G:=p ⟨h⟩
theorem ew(p:Hd K→G:=by intro h;refine Wv ?_;refine aw (h:=?_);exact h.1)(h:K):G:=p ⟨h⟩
theorem fv(p:Hd K→G:=by intro h;refine iu (h:=aw (h:=?_));exact h.1)(h:K):G:=p ⟨h⟩
theorem gg(p:Hd K→G:=by intro h;refine Wq ?_;refine fT (h:=?_);exact h.1)(h:K):G:=p ⟨h⟩
theorem gi(p:Hd K→G:=by intro h;refine ko (h:=bQ (h:=?_));exact h.1)(h:K):G:=p ⟨h⟩
theorem mY(p:Hd K→G:=by intro h;refine a_ (h:=eR (h:=?_));exact h.1)(h:K):G:=p ⟨h⟩
theorem kC(p:Hd K→G:=by intro h;refine Ws ?_;refine dU (h:=?_);exact h.1)(h:K):G:=p ⟨h⟩
theorem gJ(p:Hd K→G:=by intro h;refine eg (h:=Wq ?_);exact h.1)(h:K):G:=p ⟨h⟩
theorem qj(p:Hd K→G:=by intro h;refine bQ (h:=iu (h:=?_));exact h.1)(h:K):G:=p ⟨h⟩
theorem l9(p:Hd K→G:=by intro h;refine bQ (h:=aw (h:=?_));exact h.1)(h:K):G:=p ⟨h⟩
theorem jC(p:Hd K→G:=by intro h;refine dh (h:=bW (h:=?_));exact h.1)(h:K):G:=p ⟨h⟩
theorem mc(p:Hd K→G:=by intro h;refine Ee (h:=a_ (h:=?_));exact h.1)(h:K):G:=p ⟨h⟩
theorem jO(p:Hd K→G:=by intro h;refine cS (h:=Wq ?_);exact h.1)(h:K):G:=p ⟨h⟩
theorem tq(p:Hd K→G:=by intro h;refine eM (h:=nW (h:=?_));exact h.1)(h:K):G:=p ⟨h⟩
theorem CV(p:Hd K→G:=by intro h;refine Fu rfl ?_;refine Ci rfl ?_;exact h.1)(h:K):G:=p ⟨h⟩
theorem j7(p:Hd K→G:=by intro h;refine jx (h:=Wq ?_);exact h.1)(h:K):G:=p ⟨h⟩
theorem j_(p:Hd K→G:=by intro h;refine bQ (h:=Wq ?_);exact h.1)(h:K):G:=p ⟨h⟩
theorem kB(p:Hd K→G:=by intro h;refine pP (h:=dQ (h:=?_));exact h.1)(h:K):G:=p ⟨h⟩
theorem kD(p:Hd K→G:=by intro h;refine ko (h:=Wq ?_);exact h.1)(h:K):G:=p ⟨h⟩
theorem lJ(p:Hd K→G:=by intro h;refine eM (h:=eM (h:=?_));exact h.1)(h:K):G:=p ⟨h⟩
theorem lL(p:Hd K→G:=by intro h;refine qf (h:=bQ (h:=?_));exact h.1)(h:K):G:=p ⟨h⟩
theorem lM(p:Hd K→G:=by intro h;refine dD (h:=?_);refine au rfl (yF rfl rfl) ?_;refine au rfl (yF rfl rfl) ?_;exact h.1)(h:K):G:=p ⟨h⟩
theorem lN(p:Hd K→G:=by intro h;refine eM (h:=qj (h:=?_));exact h.1)(h:K):G:=p ⟨h⟩
theorem tJ(p:Hd K→G:=by intro h;refine au rfl (Cn rfl rfl) ?_;refine dU (h:=?_);exact h.1)(h:K):G:=p ⟨h⟩
theorem mC(p:Hd K→G:=by intro h;refine Wl ?_;refine Wq ?_;exact h.1)(h:K):G:=p ⟨h⟩
theorem rk(p:Hd K→G:=by intro h;refine eR (h:=?_);refine sF rfl ?_;exact h.1)(h:K):G:=p ⟨h⟩
theorem mR(p:Hd K→G:=by intro h;refine qf (h:=Wq ?_);exact h.1)(h:K):G:=p ⟨h⟩
theorem mS(p:Hd K→G:=by intro h;refine yC (jH rfl rfl rfl rfl rfl (by simp) ?_);refine acu (h:=eR (h:=?_));exact h.1)(h:K):G:=p ⟨h⟩
theorem rI(p:Hd K→G:=by intro h;refine Fu rfl ?_;refine JW ?_;exact h.1)(h:K):G:=p ⟨h⟩
theorem nr(p:Hd K→G:=by intro h;refine bU (h:=eM (h:=?_));exact h.1)(h:K):G:=p ⟨h⟩
theorem nB(p:Hd K→G:=by intro h;refine bQ (h:=aA (h:=?_));exact h.1)(h:K):G:=p ⟨h⟩
theorem nC(p:Hd K→G:=by intro h;refine a_ (h:=gj (h:=?_));exact h.1)(h:K):G:=p ⟨h⟩
theorem nT(p:Hd K→G:=by intro h;refine tq (h:=aw (h:=?_));exact h.1)(h:K):G:=p ⟨h⟩
theorem nU(p:Hd K→G:=by intro h;refine mY (h:=eW (h:=?_));exact h.1)(h:K):G:=p ⟨h⟩
theorem nZ(p:Hd K→G:=by intro h;refine dq (h:=Wq ?_);exact h.1)(h:K):G:=p ⟨h⟩
theorem n9(p:Hd K→G:=by intro h;refine a_ (h:=aA (h:=?_));exact h.1)(h:K):G:=p ⟨h⟩
theorem oC(p:Hd K→G:=by intro h;refine wZ (h:=aw (h:=?_));exact h.1)(h:K):G:=p ⟨h⟩
theorem oM(p:Hd K→G:=by intro h;refine xS (h:=xS (h:=?_));exact h.1)(h:K):G:=p ⟨h⟩
theorem Ar(p:Hd K→G:=by intro h;refine iu (h:=eR (h:=?_));exact h.1)(h:K):G:=p ⟨h⟩
theorem pu(p:Hd K→G:=by intro h;refine D8 (h:=j6 (h:=?_));exact h.1)(h:K):G:=p ⟨h⟩
theorem qh(p:Hd K→G:=by intro h;refine BA (h:=bU (h:=?_));exact h.1)(h:K):G:=p ⟨h⟩
theorem qq(p:Hd K→G:=by intro h;refine dq (h:=gj (h:=?_));exact h.1)(h:K):G:=p ⟨h⟩
theorem qC(p:Hd K→G:=by intro h;refine a_ (h:=Wr ?_);exact h.1)(h:K):G:=p ⟨h⟩
theorem rc(p:Hd K→G:=by intro h;refine a_ (h:=aw (h:=?_));exact h.1)(h:K):G:=p ⟨h⟩
theorem rj(p:Hd K→G:=by intro h;refine Ww ?_;refine aw (h:=?_);exact h.1)(h:K):G:=p ⟨h⟩
theorem rn(p:Hd K→G:=by intro h;refine j6 (h:=nn (h:=?_));exact h.1)(h:K):G:=p ⟨h⟩
theorem rE(p:Hd K→G:=by intro h;refine bU (h:=bQ (h:=?_));exact h.1)(h:K):G:=p ⟨h⟩
theorem rP(p:Hd K→G:=by intro h;refine dc (h:=Ws ?_);exact h.1)(h:K):G:=p ⟨h⟩
theorem rR(p:Hd K→G:=by intro h;refine tJ (h:=CV (h:=?_));exact h.1)(h:K):G:=p ⟨h⟩
theorem rS(p:Hd K→G:=by intro h;refine kC (h:=CV (h:=?_));exact h.1)(h:K):G:=p ⟨h⟩
theorem ta(p:Hd K→G:=by intro h;refine bU (h:=l9 (h:=?_));exact h.1)(h:K):G:=p ⟨h⟩
theorem tK(p:Hd K→G:=by intro h;refine au rfl (Cn rfl rfl) ?_;refine dQ (h:=?_);exact h.1)(h:K):G:=p ⟨h⟩
theorem uJ(p:Hd K→G:=by intro h;refine ao (Fx rfl rfl rfl ?_);refine bU (h:=?_);exact h.1)(h:K):G:=p ⟨h⟩
theorem uM(p:Hd K→G:=by intro h;refine eR (h:=bQ (h:=?_));exact h.1)(h:K):G:=p ⟨h⟩
theorem uN(p:Hd K→G:=by intro h;refine Ar (h:=eW (h:=?_));exact h.1)(h:K):G:=p ⟨h⟩
theorem uX(p:Hd K→G:=by intro h;refine dK (h:=dD (h:=?_));exact h.1)(h:K):G:=p ⟨h⟩
theorem uZ(p:Hd K→G:=by intro h;refine a_ (h:=?_);refine ao (Co rfl rfl ?_);refine rk (h:=?_);exact h.1)(h:K):G:=p ⟨h⟩
theorem u6(p:Hd K→G:=by intro h;refine eR (h:=eM (h:=?_));exact h.1)(h:K):G:=p ⟨h⟩
theorem vj(p:Hd K→G:=by intro h;refine xT (h:=dQ (h:=?_));exact h.1)(h:K):G:=p ⟨h⟩
theorem vu(p:Hd K→G:=by intro h;refine de (h:=aA (h:=?_));exact h.1)(h:K):G:=p ⟨h⟩
theorem wS(p:Hd K→G:=by intro h;refine jx (h:=eU (h:=?_));exact h.1)(h:K):G:=p ⟨h⟩
theorem wW(p:Hd K→G:=by intro h;refine dU (h:=rI (h:=?_));exact h.1)(h:K):G:=p ⟨h⟩
theorem wY(p:Hd K→G:=by intro h;refine dU (h:=iz (h:=?_));exact h.1)(h:K):G:=p ⟨h⟩
theorem w9(p:Hd K→G:=by intro h;refine mc (h:=df (h:=?_));exact h.1)(h:K):G:=p ⟨h⟩
theorem xk(p:Hd K→G:=by intro h;refine cS (h:=gj (h:=?_));exact h.1)(h:K):G:=p ⟨h⟩
theorem xn(p:Hd K→G:=by intro h;refine cS (h:=bU (h:=?_));exact h.1)(h:K):G:=p ⟨h⟩
theorem xF(p:Hd K→G:=by intro h;refine a_ (h:=bU (h:=?_));exact h.1)(h:K):G:=p ⟨h⟩
theorem xG(p:Hd K→G:=by intro h;refine iu (h:=?_);refine m5 rfl (LD rfl rfl rfl ?_);refine fT (h:=?_);exact h.1)(h:K):G:=p ⟨h⟩
theorem xJ(p:Hd K→G:=by intro h;refine cS (h:=eR (h:=?_));exact h.1)(h:K):G:=p ⟨h⟩
theorem x_(p:Hd K→G:=by intro h;refine iA (h:=dD (h:=?_));exact h.1)(h:K):G:=p ⟨h⟩
theorem ya(p:Hd K→G:=by intro h;refine ao (J9 rfl rfl (by omega) rfl ?_);refine eR (h:=?_);exact h.1)(h:K):G:=p ⟨h⟩
theorem Xqc(p:Hd K→G:=by intro h;(first|refine yB ?_|refine Cj ?_|refine Q3 ?_|refine JW ?_|refine sF rfl ?_|refine Fu rfl ?_|refine Ci rfl ?_|refine Q5 ?_|refine Cg ?_|refine acv ?_);exact h.1)(h:K):G:=p ⟨h⟩
theorem Xqr(p:Hd K→G:=by intro h;(first|refine Fv rfl rfl rfl ?_|refine acw rfl rfl ?_|refine Q6 ?_);exact h.1)(h:K):G:=p ⟨h⟩
theorem Xqo(p:Hd K→G:=by intro h;(first|refine ao ?_|refine yC ?_|refine m5 rfl ?_);exact h.1)(h:K):G:=p ⟨h⟩
theorem Xqp(p:Hd K→G:=by intro h;(first|refine lr rfl rfl ?_|refine Kk rfl rfl ?_|refine um rfl rfl rfl rfl ?_|refine J3 rfl rfl rfl ?_|refine yG rfl rfl ?_|refine Kl rfl rfl ?_|refine Fx rfl rfl rfl ?_|refine Fy rfl rfl rfl ?_|refine Rb rfl rfl ?_|refine Co rfl rfl ?_|refine o_field rfl rfl rfl ?_|refine Cm rfl rfl ?_);exact h.1)(h:K):G:=p ⟨h⟩
theorem Xqm(p:Hd K→G:=by intro h;(first|refine LD rfl rfl rfl ?_|refine uq rfl rfl rfl rfl rfl ?_|refine dt rfl rfl rfl rfl rfl ?_|(refine jH rfl rfl rfl rfl rfl (by simp) ?_;try dsimp only[Nat.reduceSub,Nat.reduceAdd,List.take,List.drop,List.length,List.cons_append,List.nil_append,List.append_nil])|refine lV rfl (by rfl) rfl ?_|refine tn rfl (by rfl) rfl ?_);exact h.1)(h:K):G:=p ⟨h⟩
theorem Xqd(p:Hd K→G:=by intro h;(first|refine Rn rfl rfl (by omega) rfl ?_|refine J9 rfl rfl (by omega) rfl ?_|refine sG rfl rfl (qa (by omega)) rfl ?_|(refine eZ rfl rfl rfl rfl (by simp) ?_;try dsimp only[Nat.reduceSub,Nat.reduceAdd,List.set])|refine FK rfl rfl (by omega) rfl ?_|refine Rp rfl rfl (by omega) rfl ?_|refine Ki rfl rfl (by omega) rfl ?_|refine Cs rfl rfl (by omega) rfl ?_|refine FG rfl rfl (by omega) rfl ?_|refine FH rfl rfl (by omega) rfl ?_|refine Ka rfl rfl (by omega) rfl ?_|refine Kb rfl rfl (by omega) rfl ?_|refine Kd rfl rfl (by omega) rfl ?_|refine Kf rfl rfl (by omega) rfl ?_|refine FA rfl rfl (F6 (by omega)) rfl ?_|refine RJ rfl rfl rfl ?_|refine RD rfl rfl rfl ?_);exact h.1)(h:K):G:=p ⟨h⟩
theorem Xqn(p:Hd K→G:=by intro h;(first|refine Cq rfl rfl (gE (by omega)) rfl ?_|refine Rj rfl rfl (by omega) (by omega) (gE (by omega)) rfl ?_|refine J5 rfl rfl (by omega) (by omega) rfl ?_);exact h.1)(h:K):G:=p ⟨h⟩
theorem Xsv(p:Hd K→G:=by intro h;(first|refine acz rfl rfl rfl ?_|refine acA rfl rfl ?_|refine au rfl (lU rfl) ?_|refine au rfl (J2 rfl) ?_|refine au rfl (qY rfl rfl rfl) ?_|refine au rfl (fk rfl rfl rfl) ?_|refine au rfl (om rfl) ?_|refine au rfl (Fz rfl) ?_|refine au rfl (Ct rfl) ?_|refine au rfl (acy rfl) ?_|refine au rfl (Cn rfl rfl) ?_|refine au rfl (Q_ rfl rfl) ?_|refine au rfl (J4 rfl) ?_|refine au rfl (yF rfl rfl) ?_|refine au rfl (v_field rfl rfl) ?_|refine au rfl (J8 rfl rfl (by omega)) ?_|refine au rfl (J_ rfl rfl (by omega)) ?_|refine au rfl (Kh rfl rfl (by omega)) ?_|refine au rfl (Rq rfl rfl (by omega)) ?_|refine au rfl (Ru rfl rfl (by omega)) ?_|refine au rfl (FL rfl rfl (by omega)) ?_|refine au rfl (Kc rfl rfl (by omega)) ?_|refine au rfl (FI rfl rfl (by omega)) ?_|refine au rfl (Ro rfl rfl (by omega)) ?_|refine au rfl (acx rfl rfl (by omega)) ?_|refine au rfl (Ke rfl rfl (by omega)) ?_|refine au rfl (Kg rfl rfl (by omega)) ?_|refine bE rfl rfl (lU rfl) ?_|refine bE rfl rfl (J2 rfl) ?_|refine bE rfl rfl (qY rfl rfl rfl) ?_|refine bE rfl rfl (fk rfl rfl rfl) ?_|refine bE rfl rfl (om rfl) ?_|refine bE rfl rfl (Fz rfl) ?_|refine bE rfl rfl (Ct rfl) ?_|refine bE rfl rfl (acy rfl) ?_|refine bE rfl rfl (Cn rfl rfl) ?_|refine bE rfl rfl (Q_ rfl rfl) ?_|refine bE rfl rfl (J4 rfl) ?_|refine bE rfl rfl (yF rfl rfl) ?_|refine bE rfl rfl (v_field rfl rfl) ?_|refine bE rfl rfl (J8 rfl rfl (by omega)) ?_|refine bE rfl rfl (J_ rfl rfl (by omega)) ?_|refine bE rfl rfl (Kh rfl rfl (by omega)) ?_|refine bE rfl rfl (Rq rfl rfl (by omega)) ?_|refine bE rfl rfl (Ru rfl rfl (by omega)) ?_|refine bE rfl rfl (FL rfl rfl (by omega)) ?_|refine bE rfl rfl (Kc rfl rfl (by omega)) ?_|refine bE rfl rfl (FI rfl rfl (by omega)) ?_|refine bE rfl rfl (Ro rfl rfl (by omega)) ?_|refine bE rfl rfl (acx rfl rfl (by omega)) ?_|refine bE rfl rfl (Ke rfl rfl (by omega)) ?_|refine bE rfl rfl (Kg rfl rfl (by omega)) ?_);exact h.1)(h:K):G:=p ⟨h⟩
theorem Xsm(p:Hd K→G:=by intro h;(first|refine au rfl (rC rfl rfl) ?_|refine au rfl (oz rfl rfl rfl rfl) ?_|refine au rfl (v_min rfl rfl) ?_|refine au rfl (v_max rfl rfl) ?_|refine au rfl (yL rfl (by rfl)) ?_|refine au rfl (v_buildA rfl (by rfl)) ?_|refine au rfl (Cp rfl rfl (qa (by omega))) ?_|refine au rfl (FB rfl rfl (F6 (by omega))) ?_|refine au rfl (Cr rfl rfl (gE (by omega))) ?_|refine au rfl (Rh rfl rfl (by omega) (by omega)) ?_|refine au rfl (J6 rfl rfl (by omega) (by omega) (gE (by omega))) ?_|refine bE rfl rfl (rC rfl rfl) ?_|refine bE rfl rfl (oz rfl rfl rfl rfl) ?_|refine bE rfl rfl (v_min rfl rfl) ?_|refine bE rfl rfl (v_max rfl rfl) ?_|refine bE rfl rfl (yL rfl (by rfl)) ?_|refine bE rfl rfl (v_buildA rfl (by rfl)) ?_|refine bE rfl rfl (Cp rfl rfl (qa (by omega))) ?_|refine bE rfl rfl (FB rfl rfl (F6 (by omega))) ?_|refine bE rfl rfl (Cr rfl rfl (gE (by omega))) ?_|refine bE rfl rfl (Rh rfl rfl (by omega) (by omega)) ?_|refine bE rfl rfl (J6 rfl rfl (by omega) (by omega) (gE (by omega))) ?_);exact h.1)(h:K):G:=p ⟨h⟩
theorem Wq(h:K)(p:Hd K→G:=by intro h;(repeat (first|refine Xqr (h:=?_)|refine Xqc (h:=?_)|refine Q4 ?_|(refine Xqo (h:=?_);first|refine Xqp (h:=?_)|refine Xqm (h:=?_)|refine Xqd (h:=?_)|refine Xqn (h:=?_))));exact h.1):G:=p ⟨h⟩
theorem Wl(h:K)(p:Hd K→G:=by intro h;(repeat (first|refine Xqr (h:=?_)|refine Xqc (h:=?_)|refine Q4 ?_|(refine Xqo (h:=?_);first|refine Xqp (h:=?_))));exact h.1):G:=p ⟨h⟩
theorem Ww(h:K)(p:Hd K→G:=by intro h;(repeat (first|refine Xqr (h:=?_)|refine Xqc (h:=?_)|refine Q4 ?_|(refine Xqo (h:=?_);first|refine Xqp (h:=?_)|refine Xqd (h:=?_))));exact h.1):G:=p ⟨h⟩
theorem Wv(h:K)(p:Hd K→G:=by intro h;(repeat (first|refine Xqr (h:=?_)|refine Xqc (h:=?_)|refine Q4 ?_|(refine Xqo (h:=?_);first|refine Xqp (h:=?_)|refine Xqd (h:=?_)|refine Xqn (h:=?_))));exact h.1):G:=p ⟨h⟩
theorem Wb(h:K)(p:Hd K→G:=by intro h;(repeat (first|refine Xqr (h:=?_)|refine Xqc (h:=?_)|(refine Xqo (h:=?_);first|refine Xqp (h:=?_)|refine Xqm (h:=?_)|refine Xqd (h:=?_)|refine Xqn (h:=?_))));exact h.1):G:=p ⟨h⟩
theorem Wr(h:K)(p:Hd K→G:=by intro h;(repeat (first|refine Xqr (h:=?_)|(refine Xqo (h:=?_);first|refine Xqp (h:=?_)|refine Xqm (h:=?_)|refine Xqd (h:=?_)|refine Xqn (h:=?_))));exact h.1):G:=p ⟨h⟩
theorem Ws(h:K)(p:Hd K→G:=by intro h;(repeat (first|refine Xsv (h:=?_)|refine Xsm (h:=?_)));exact h.1):G:=p ⟨h⟩
theorem Wt(h:K)(p:Hd K→G:=by intro h;(repeat (first|refine Xsv (h:=?_)));exact h.1):G:=p ⟨h⟩
end
section
open Go.Proofs Tryz
open Go.Proofs
theorem wR(a b:Int):Spec prog 79 [.int .i64 a,.int .i64 b] [] (fun v B=>v= .bool (decide (0≤a∧a≤b))∧B=[]):=by
 refine x_sp func79 ntmps79 fun E cs Γ=>?_;refine qf (h:=eU (h:=?_));refine wz rfl rfl rfl (fun h=>?_) (fun h=>?_)
 ·refine iu (h:=uI (h:=uI (h:=fT (h:=?_))));refine FE rfl rfl rfl (fun h'=>?_) (fun h'=>?_)
  ·refine uJ (h:=?_);exact ap rfl [] ⟨by simp[eo,h,h'],rfl⟩ (.refl _)
  ·refine uJ (h:=?_);exact ap rfl [] ⟨by simp[eo];omega,rfl⟩ (.refl _)
 ·refine Wl ?_;exact ap rfl [] ⟨by simp[eo];omega,rfl⟩ (.refl _)
theorem s_{A:HP}{a:Option Addr}{len cap:Nat}{bs:List UInt8}(R:Reads A 1 a len (bs.map bv))(hlen:len≤2^45):
 Spec prog 29 [.slice a len cap] [A] (fun v B=>∃a' bi,v= .slice a' len bi∧B=[A,Sl 1 a' len bi (bs.map bv)]):=by
 refine x_sp func29 ntmps29 fun E cs Γ=>?_;refine wS (h:=?_);have hl:bs.length=len:=by simpa using R.1
 refine bL (wD (.inl rfl) rfl rfl) rfl ?_;cases a with
 |none=>
  refine Wl ?_;refine kN (fun E w s=>?_) (fun (h0:len=0)=>?_)
  ·rcases s.reads R with h|⟨_,_,h,_⟩
   ·exact h
   ·cases h
  subst h0;obtain rfl:bs=[]:=List.length_eq_zero_iff.1 hl;exact ap rfl [A,Sl 1 none 0 0 []] ⟨none,0,rfl,rfl⟩ ((ak.cq 1 _).trans Sub.h)
 |some q=>
  refine eU (h:=?_);refine cf rfl (by rfl) (by rfl) (by rfl) (by rfl) rfl fun a2=>?_;refine fv (h:=?_);refine pZ rfl rfl R (by rfl) (by rfl) (wE bs) (by omega) rfl fun a3 c3 hc=>?_;refine bU (h:=?_);rw[zO]at hc⊢;rw[zB];exact ap rfl [A,Sl 1 a3 len c3 (bs.map bv)] ⟨a3,c3,by simp[eo],rfl⟩ Sub.h
end
section
open Go.Proofs Tryz
open Go.Proofs
abbrev BS:=Option Addr×Nat×List UInt8
abbrev sv(x:BS):Value:= .slice x.1 x.2.2.length x.2.1
abbrev sp(x:BS):HP:=Sl 1 x.1 x.2.2.length x.2.1 (x.2.2.map bv)
def cont(q:List BS):List (List UInt8):=q.map (·.2.2)
def cK(q:List BS):HP:=Sep (q.map sp)
def lE(a:Option Addr)(cap:Nat)(q:List BS):HP:=Sep [Sl 1 a q.length cap (q.map sv),cK q]
def q_(A:HP)(a:Option Addr)(q:List BS):Prop:=Reads A 1 a q.length (q.map sv)∧∀x∈q,Reads A 1 x.1 x.2.2.length (x.2.2.map bv)
theorem ak.Gj(x:BS)(q:List BS)(Γ:List HP):ak (cK (x::q)::Γ) (sp x::cK q::Γ):=by
 refine(ak.cx _ _).trans ?_;exact ak.cons _ (ak.cA _ _)
theorem ak.KU(x:BS)(q:List BS)(Γ:List HP):ak (sp x::cK q::Γ) (cK (q++[x])::Γ):=by
 refine(ak.cons _ (ak.cx _ _)).trans ?_;refine ak.trans (ak.perm ?_) (ak.cA ((q++[x]).map sp) Γ);rw[zg];simp only[zE,zal,zr,zl,zB];exact zau.symm
theorem ak.CR(Γ:List HP):ak Γ (cK []::Γ):=ak.nO Γ
theorem ak.KV(a:Option Addr)(cap:Nat)(q:List BS)(Γ:List HP):ak (lE a cap q::Γ) (Sl 1 a q.length cap (q.map sv)::cK q::Γ):=ak.cx _ _
theorem ak.SN(a:Option Addr)(cap:Nat)(q:List BS)(Γ:List HP):ak (Sl 1 a q.length cap (q.map sv)::cK q::Γ) (lE a cap q::Γ):=ak.cA [_,_] Γ
theorem Reads.uK{A B:HP}{s len:Nat}{a:Option Addr}{xs:List Value}(R:Reads B s a len xs)(Δ:List HP)(he:ak [A] (B::Δ)):Reads A s a len xs:=by
 refine⟨R.1,fun h w hA W=>?_⟩;obtain⟨g,⟨b,r,hB,hr,d,rfl⟩,hg⟩:=he h ⟨h,PH.emp,hA,rfl,PH.JQ h,(PH.QX h).symm⟩;refine R.2 b w hB fun x y e hx=>W x y e (hg x y e ?_);simp[PH.join,hx]
theorem cK.reads:∀{q:List BS} {x:BS},x∈q→Reads (cK q) 1 x.1 x.2.2.length (x.2.2.map bv):=by
 intro q;induction q with
 |nil=>intro x hx;cases hx
 |cons y q ih=>
  intro x hx;rw[zbe]at hx;rcases hx with rfl|hx
  ·exact(Sl.reads 1 _ _ _ _ (by simp)).uK [cK q] (ak.Gj x q [])
  ·exact(ih hx).uK [sp y] ((ak.Gj y q []).trans (ak.perm (.swap _ _ _)))
theorem lE.rd(a:Option Addr)(cap:Nat)(q:List BS):q_ (lE a cap q) a q:=
 ⟨(Sl.reads 1 a _ cap _ (by simp)).uK [cK q] (ak.KV a cap q []),fun x hx=>(cK.reads hx).uK [Sl 1 a q.length cap (q.map sv)] ((ak.KV a cap q []).trans (ak.perm (.swap _ _ _)))⟩
theorem q_.get{A:HP}{a:Option Addr}{q:List BS}(R:q_ A a q){i:Nat}(h:i<q.length):Reads A 1 q[i].1 q[i].2.2.length (q[i].2.2.map bv):=R.2 _ (zap h)
end
section
open Go.Proofs Tryz
open Go.Proofs
abbrev iv(n:Int):Value:= .int .i64 n
theorem KW(q:List Int):(q.map iv).all Value.oneCell'=true:=by simp[Value.oneCell']
theorem oA{α:Type}{f:α→List Value}{s:Nat}(hf:∀x,(f x).length=s):∀{l:List α} {i:Nat} (h:i<l.length) (j:Nat),j<s→(l.flatMap f)[i*s+j]? =(f l[i])[j]? :=by
 intro l;induction l with
 |nil=>intro i h;simp at h
 |cons x l ih=>
  intro i h j hj;rw[zT];cases i with
  |zero=>rw[zt (by rw[hf];omega)];simp
  |succ i=>
   rw[zz (by rw[hf,zA];omega),hf,show(i+1)*s+j-s=i*s+j by rw[zA];omega];rw[ih (by simpa using h) j hj];rfl
theorem lF{α:Type}{f:α→List Value}{s:Nat}(hf:∀x,(f x).length=s):∀(l:List α),(l.flatMap f).length=l.length*s:=by
 intro l;induction l with
 |nil=>simp
 |cons x l ih=>rw[zT,zd,hf,ih,zy,zA];omega
theorem CS{α:Type}{f:α→List Value}{s:Nat}(hf:∀x,(f x).length=s):∀(l:List α) (i:Nat),(l.flatMap f).drop (i*s)=(l.drop i).flatMap f:=by
 intro l;induction l with
 |nil=>intro i;simp
 |cons x l ih=>
  intro i;cases i with
  |zero=>simp
  |succ i=>
   rw[List.drop_succ_cons,←ih,zT,zbD,hf,zU (by rw[hf,zA];omega),zA];simp
theorem SO{A:HP}{a:Option Addr}{len cap:Nat}{bs:List Int}(R:Reads A 1 a len (bs.map iv))(hlen:len≤2^40):
 Spec prog 16 [.slice a len cap] [A] (fun v B=>∃a' bi,v= .slice a' len bi∧B=[A,Sl 1 a' len bi (bs.map iv)]):=by
 have hl:bs.length=len:=by simpa using R.1
 refine x_sp func16 ntmps16 fun E cs Γ=>?_;refine jx (h:=Wl ?_);refine aQ (α:=Nat×Option Addr×Nat) (fun p=>p.1≤len) (fun p=>[(0,.slice a len cap),(3,.slice p.2.1 p.1 p.2.2),(4,.int .i64 p.1)]) (fun p=>Sl 1 p.2.1 p.1 p.2.2 ((bs.take p.1).map iv)::A::Γ)
  (fun p=>len-p.1) (0,none,0) (zj _) x_tv (ak.cq _ _) ?_
 rintro⟨i,a',c'⟩ hi back;dsimp only at hi back⊢;refine eU (h:=?_);refine m7 rfl rfl rfl (fun h=>?_) (fun h=>?_)
 ·refine eU (h:=?_);refine bK rfl rfl R (j:=i) rfl (by omega) rfl fun b off ha=>?_;refine aw (h:=?_);refine fM rfl R ha (i:=i) (by omega) (uA iv (by omega)) rfl ?_;refine aw (h:=?_);refine cf rfl (by rfl) (by rfl) (by rfl) (by rfl) rfl fun a2=>?_;refine aw (h:=?_);refine cF rfl rfl (by rfl) (by rfl) (by rfl) (by omega) rfl fun a3 c3 hc=>?_;refine eU (h:=?_);refine sG rfl rfl (qa (by omega)) rfl ?_;refine bU (h:=?_);rw[F7 iv bs i (by omega)];exact aV (back (i+1,a3,c3) (by dsimp only;omega) (by dsimp only;omega))
 ·refine Wl ?_;have e:i=len:=by omega
  subst e;rw[CI bs _ (by omega)];exact ap rfl [A,Sl 1 a' _ c' (bs.map iv)] ⟨a',c',rfl,rfl⟩ Sub.h
end
section
open Go.Proofs Tryz
open Go.Proofs
theorem SQ(a:Option Addr)(len cap:Nat):Spec prog 28 [.slice a len cap] [] (fun v B=>v= .bool (decide (131072<len))∧B=[]):=by
 refine x_sp func28 ntmps28 fun E cs Γ=>?_;refine ko (h:=eU (h:=?_));refine FJ rfl rfl rfl (fun h=>?_) (fun h=>?_)
 all_goals
  refine bU (h:=?_);exact ap rfl [] ⟨by simp[eo];omega,rfl⟩ Sub.h
def nR(q:List BS):Bool:=q.any fun x=>decide (131072<x.2.2.length)
theorem SU{A:HP}{a:Option Addr}{cap:Nat}{q:List BS}(R:q_ A a q)(hc:q.length≤2^63-1):
 Spec prog 57 [.slice a q.length cap,.func (.func 28) #[] #[]] [A] (fun v B=>(∃n:Int,v= .int .i64 n∧(0≤n↔nR q=true))∧B=[A]):=by
 refine x_sp func57 ntmps57 fun E cs Γ=>?_;refine eg (h:=Wl ?_);refine aQ (α:=Nat) (fun i=>i≤q.length∧nR (q.take i)=false) (fun i=>[(0,.slice a q.length cap),(1,.func (.func 28) #[] #[]),(7,.int .i64 q.length),(8,.int .i64 i)]) (fun i=>A::Γ)
  (fun i=>q.length-i) 0 ⟨zj _,rfl⟩ ⟨rfl,rfl,rfl,rfl,trivial⟩ (.refl _) ?_
 rintro i ⟨hi,hp⟩ back;refine l9 (h:=?_);refine m7 rfl rfl rfl (fun h=>?_) (fun h=>?_)
 ·have dW:i<q.length:=by omega
  refine eU (h:=?_);refine bK rfl rfl R.1 (j:=i) rfl dW rfl fun b off ha=>?_;refine aw (h:=?_);refine fM rfl R.1 ha (i:=i) (by omega) (uA sv dW) rfl ?_;refine aw (h:=?_);refine o5 (fs:=[]) (caps:=[]) rfl rfl (SQ q[i].1 q[i].2.2.length q[i].2.1) rfl ?_;refine cS (h:=?_);have e:nR (q.take (i+1))=decide (131072<q[i].2.2.length):=by
   unfold nR at hp⊢;rw[za1 dW,List.any_append,hp];simp
  by_cases hx:131072<q[i].2.2.length
  ·simp only[hx,decide_true];refine Wl ?_;refine ap rfl [A] ⟨⟨i,rfl,?_⟩,rfl⟩ Sub.h;have e2:nR q=true:=by
    unfold nR;rw[List.any_eq_true];exact⟨q[i],zap dW,by simpa using hx⟩
   simp[e2]
  ·simp only[hx,decide_false];refine eU (h:=?_);refine sG rfl rfl (qa (by omega)) rfl ?_;refine Ar (h:=?_);exact aV (back (i+1) ⟨by omega,by rw[e];simpa using hx⟩ (by omega))
 ·refine Wl ?_;rw[CI _ _ (by omega)]at hp;exact ap rfl [A] ⟨⟨-1,rfl,by simp[hp]⟩,rfl⟩ Sub.h
theorem SX{A:HP}{a:Option Addr}{cap:Nat}{q:List BS}(R:q_ A a q)(hc:q.length≤2^63-1):
 Spec prog 27 [.slice a q.length cap,.func (.func 28) #[] #[]] [A] (fun v B=>v= .bool (nR q)∧B=[A]):=by
 refine x_sp func27 ntmps27 fun E cs Γ=>?_;refine eg (h:=eU (h:=?_));refine aq rfl (SU R hc) rfl ?_;rintro v B ⟨⟨n,rfl,hn⟩,rfl⟩;refine rc (h:=?_);refine wz rfl rfl rfl (fun h=>?_) (fun h=>?_)
 ·refine bU (h:=?_);exact ap rfl [A] ⟨by simp[eo,hn.1 h],rfl⟩ Sub.h
 ·refine bU (h:=?_);exact ap rfl [A] ⟨by simp[eo];cases ht:nR q with
   |false=>rfl
   |true=>exact absurd (hn.2 ht) h,rfl⟩ Sub.h
def dN{α:Type}(G:Nat→α→HP):Nat→List α→List HP
 |_,[]=>[]
 |k,x::xs=>G k x::dN G (k+1) xs
theorem dN.focus{α:Type}(G:Nat→α→HP):∀(xs:List α) (k i:Nat) (h:i<xs.length),(dN G k xs).Perm (G (k+i) xs[i]::(dN G k xs).eraseIdx i):=by
 intro xs;induction xs with
 |nil=>intro k i h;simp at h
 |cons x xs ih=>
  intro k i h;cases i with
  |zero=>exact .refl _
  |succ i=>
   have:=ih (k+1) i (by simpa using h);unfold dN;rw[zca,show k+(i+1)=k+1+i by omega];exact(this.cons _).trans (.swap _ _ _)
theorem dN.SY{α:Type}(G:Nat→α→HP)(y:α):∀(xs:List α) (k i:Nat),(dN G k (xs.set i y)).eraseIdx i=(dN G k xs).eraseIdx i:=by
 intro xs;induction xs with
 |nil=>intro k i;rfl
 |cons x xs ih=>
  intro k i;cases i with
  |zero=>rfl
  |succ i=>rw[zaJ];unfold dN;rw[zca,zca,ih]
def dT{α:Type}(G:Nat→α→HP)(xs:List α):HP:=Sep (dN G 0 xs)
def fb{α:Type}(G:Nat→α→HP)(xs:List α)(i:Nat):HP:=Sep ((dN G 0 xs).eraseIdx i)
theorem ak.focus{α:Type}(G:Nat→α→HP)(xs:List α)(i:Nat)(h:i<xs.length)(Γ:List HP):ak (dT G xs::Γ) (G i xs[i]::fb G xs i::Γ):=by
 refine(ak.cx _ _).trans ((ak.perm ((dN.focus G xs 0 i h).append_right Γ)).trans ?_);rw[zO];exact ak.cons _ (ak.cA _ _)
theorem ak.wT{α:Type}(G:Nat→α→HP)(xs:List α)(i:Nat)(y:α)(h:i<xs.length)(Γ:List HP):ak (G i y::fb G xs i::Γ) (dT G (xs.set i y)::Γ):=by
 refine(ak.cons _ (ak.cx _ _)).trans (ak.trans (ak.perm ?_) (ak.cA _ _));have:=dN.focus G (xs.set i y) 0 i (by simpa using h);rw[dN.SY,zO,List.getElem_set_self]at this;exact(this.append_right Γ).symm
theorem ak.CT{α:Type}(G:Nat→α→HP)(xs:List α)(i:Nat)(h:i<xs.length)(Γ:List HP):ak (G i xs[i]::fb G xs i::Γ) (dT G xs::Γ):=by
 have:=ak.wT G xs i xs[i] h Γ;simpa using this
theorem ak.pop{α:Type}(G:Nat→α→HP)(k:Nat)(x:α)(xs:List α)(Γ:List HP):ak (Sep (dN G k (x::xs))::Γ) (G k x::Sep (dN G (k+1) xs)::Γ):=
 (ak.cx _ _).trans (ak.cons _ (ak.cA _ _))
theorem dN.append{α:Type}(G:Nat→α→HP):∀(xs ys:List α) (k:Nat),dN G k (xs++ys)=dN G k xs++dN G (k+xs.length) ys:=by
 intro xs;induction xs with
 |nil=>intro ys k;rfl
 |cons x xs ih=>
  intro ys k;have:=ih ys (k+1);rw[show k+1+xs.length=k+(x::xs).length by simp;omega]at this;show G k x::dN G (k+1) (xs++ys)=_;rw[this];rfl
structure Ch where
 cut:Bool
 aO:Nat
 b:List UInt8
structure Fl where
 safe:List UInt8
 aR:List Ch
 now:List UInt8
structure Dk where
 fs:List Fl
 off:Bool
 uo:Nat
 ub:Nat
def Dk.asks(d:Dk)(f:Int):Int:=if d.off then 13 else if f<0∨8≤f then 3 else 0
def Dk.step(d:Dk):Dk:=if d.off then d else {d with off:=decide (d.uo=1),uo:=d.uo-1,ub:=d.ub-1}
def Dk.counts(d:Dk)(f:Int):Int:=if d.off then 13 else if d.uo=1 then 13 else if d.ub=1 then 14 else if f<0∨8≤f then 3 else 0
abbrev Flags(b:Nat)(off:Bool)(uo ub:Nat):HP:=Row b 24 [.bool off,.int .i64 uo,.int .i64 ub]
structure CX where
 cut:Bool
 aO:Nat
 s:BS
def CX.abs(x:CX):Ch:=⟨x.cut,x.aO,x.s.2.2⟩
def CX.cells(x:CX):List Value:=[.bool x.cut,.int .i64 x.aO,sv x.s]
theorem CX.cl(x:CX):x.cells.length=3:=rfl
structure FX where
 safe:BS
 ca:Option Addr
 cc:Nat
 aR:List CX
 now:BS
def FX.abs(x:FX):Fl:=⟨x.safe.2.2,x.aR.map CX.abs,x.now.2.2⟩
abbrev FX.cells(x:FX):List Value:=[sv x.safe,.slice x.ca x.aR.length x.cc,sv x.now]
def iw(b:Nat)(i:Nat)(x:FX):HP:=Sep [Row b (i*3) x.cells,sp x.safe,sp x.now,Sl 3 x.ca x.aR.length x.cc (x.aR.flatMap CX.cells),cK (x.aR.map CX.s)]
theorem ak.KX(b i:Nat)(x:FX)(Γ:List HP):ak (iw b i x::Γ) (Row b (i*3) x.cells::sp x.safe::sp x.now::Sl 3 x.ca x.aR.length x.cc (x.aR.flatMap CX.cells)::cK (x.aR.map CX.s)::Γ):=ak.cx _ _
theorem ak.KY(b i:Nat)(x:FX)(Γ:List HP):ak (Row b (i*3) x.cells::sp x.safe::sp x.now::Sl 3 x.ca x.aR.length x.cc (x.aR.flatMap CX.cells)::cK (x.aR.map CX.s)::Γ) (iw b i x::Γ):=ak.cA [_,_,_,_,_] _
abbrev nS(b:Nat)(fs:List FX):HP:=dT (iw b) fs
def mO(fs:List FX):List Fl:=fs.map FX.abs
def aF(b:Nat)(d:Dk):HP:=Any fun fs:List FX=>Fact (mO fs=d.fs∧fs.length=8∧d.uo≤9223372036854775807∧d.ub≤9223372036854775807) (Sep [Flags b d.off d.uo d.ub,nS b fs])
abbrev dp(b:Nat):Value:= .pointer (some ⟨b,0,none⟩)
theorem Gk(b:Nat)(off:Bool)(uo ub:Nat)(f:Int):Spec prog 121 [dp b,.int .i64 f] [Flags b off uo ub] (fun v B=>v= .int .i64 (Dk.asks ⟨[],off,uo,ub⟩ f)∧B=[Flags b off uo ub]):=by
 refine x_sp func121 ntmps121 fun E cs Γ=>?_;refine eg (h:=?_);cases off
 ·refine eU (h:=?_);refine m7 rfl rfl rfl (fun h=>?_) (fun h=>?_)
  ·refine Wl ?_;exact ap rfl [_] ⟨by simp[eo,Dk.asks,h],rfl⟩ Sub.h
  ·refine iu (h:=uI (h:=fT (h:=?_)));refine wz rfl rfl rfl (fun h'=>?_) (fun h'=>?_)
   ·refine Wl ?_;exact ap rfl [_] ⟨by simp[eo,Dk.asks,h'],rfl⟩ Sub.h
   ·refine Wl ?_;exact ap rfl [_] ⟨by simp[eo,Dk.asks,h,h'],rfl⟩ Sub.h
 ·refine Wl ?_;exact ap rfl [_] ⟨by simp[eo,Dk.asks],rfl⟩ Sub.h
theorem ak.wU{b o:Nat}{vs us:List Value}(h:vs=us)(Γ:List HP):ak (Row b o vs::Γ) (Row b o us::Γ):=h ▸ .refl _
theorem Gl(b:Nat)(off:Bool)(uo ub:Nat)(f:Int)(h1:uo≤9223372036854775807)(h2:ub≤9223372036854775807):Spec prog 186 [dp b,.int .i64 f] [Flags b off uo ub]
 (fun v B=>v= .int .i64 (Dk.counts ⟨[],off,uo,ub⟩ f)∧B=[Flags b (Dk.step ⟨[],off,uo,ub⟩).off (Dk.step ⟨[],off,uo,ub⟩).uo (Dk.step ⟨[],off,uo,ub⟩).ub]):=by
 refine x_sp func186 ntmps186 fun E cs Γ=>?_;refine eg (h:=?_);cases off
 ·have hu:uo=0∨uo=1∨2≤uo:=by omega
  have hb:ub=0∨ub=1∨2≤ub:=by omega
  rcases hu with hu|hu|hu<;>rcases hb with hb|hb|hb
  all_goals
   (refine Ww ?_)
   first
   |exact ap rfl [_] ⟨by simp[eo,Dk.counts];omega,rfl⟩ ((ak.wU (us:=[.bool (Dk.step ⟨[],false,uo,ub⟩).off,.int .i64 (Dk.step ⟨[],false,uo,ub⟩).uo,.int .i64 (Dk.step ⟨[],false,uo,ub⟩).ub]) (by simp[Dk.step];omega) _).trans Sub.h)
   |(refine gh (Γ':=Flags b (Dk.step ⟨[],false,uo,ub⟩).off (Dk.step ⟨[],false,uo,ub⟩).uo (Dk.step ⟨[],false,uo,ub⟩).ub::Γ) (ak.wU (by simp[Dk.step];omega) _) ?_;(refine aw (h:=?_));refine aq rfl (Gk b (Dk.step ⟨[],false,uo,ub⟩).off (Dk.step ⟨[],false,uo,ub⟩).uo (Dk.step ⟨[],false,uo,ub⟩).ub f) rfl ?_;rintro v B ⟨rfl,rfl⟩;(refine a_ (h:=?_));(refine bU (h:=?_));exact ap rfl [_] ⟨by simp[eo,Dk.counts,Dk.asks,Dk.step]<;>omega,rfl⟩ Sub.h)
 ·refine Wl ?_;exact ap rfl [_] ⟨by simp[eo,Dk.counts],rfl⟩ ((ak.wU (us:=[.bool (Dk.step ⟨[],true,uo,ub⟩).off,.int .i64 (Dk.step ⟨[],true,uo,ub⟩).uo,.int .i64 (Dk.step ⟨[],true,uo,ub⟩).ub]) (by simp[Dk.step]) _).trans Sub.h)
end
section
open Go.Proofs Tryz
open Go.Proofs
def Dk.file(d:Dk)(f:Int):Fl:=d.fs.getD f.toNat ⟨[],[],[]⟩
abbrev LX(d:Dk):Type:={fs:List FX//mO fs=d.fs∧fs.length=8∧d.uo≤9223372036854775807∧d.ub≤9223372036854775807}
theorem St.oB{E:Env}{b:Nat}{d:Dk}{Γ:List HP}{w:World}(s:St E (aF b d::Γ) w):∃fs:LX d,St E (Flags b d.off d.uo d.ub::nS b fs.1::Γ) w:=by
 obtain⟨fs,s⟩:=s.ex;obtain⟨h,s⟩:=s.fact;exact⟨⟨fs,h⟩,(ak.cx [_,_] Γ).st s⟩
theorem ak.CU{b:Nat}{d:Dk}(fs:List FX)(h:mO fs=d.fs∧fs.length=8∧d.uo≤9223372036854775807∧d.ub≤9223372036854775807)(Γ:List HP):ak (Flags b d.off d.uo d.ub::nS b fs::Γ) (aF b d::Γ):=by
 refine(ak.cA [_,_] Γ).trans ?_;exact(ak.fact h Γ).trans (ak.ex (A:=fun fs:List FX=>Fact (mO fs=d.fs∧fs.length=8∧d.uo≤9223372036854775807∧d.ub≤9223372036854775807) (Sep [Flags b d.off d.uo d.ub,nS b fs])) fs Γ)
theorem ak.oB{b:Nat}{d:Dk}(fs:LX d)(Γ:List HP):ak (Flags b d.off d.uo d.ub::nS b fs.1::Γ) (aF b d::Γ):=ak.CU fs.1 fs.2 Γ
theorem ak.wV{b:Nat}{d:Dk}(fs:LX d){o:Bool}{u v:Nat}(hu:u≤9223372036854775807)(hv:v≤9223372036854775807)(Γ:List HP):ak (Flags b o u v::nS b fs.1::Γ) (aF b ⟨d.fs,o,u,v⟩::Γ):=
 ak.CU (d:=⟨d.fs,o,u,v⟩) fs.1 ⟨fs.2.1,fs.2.2.1,hu,hv⟩ Γ
theorem KZ{d:Dk}{f:Int}(h:d.asks f=0):d.off=false∧∃i:Nat,f=i∧i<8:=by
 unfold Dk.asks at h;split at h
 ·cases h
 ·split at h
  ·cases h
  ·rename_i h1 h2;exact⟨by simpa using h1,f.toNat,by omega,by omega⟩
theorem Gm{d:Dk}{f:Int}(h:d.counts f=0):d.off=false∧∃i:Nat,f=i∧i<8:=by
 unfold Dk.counts at h;split at h
 ·cases h
 ·split at h
  ·cases h
  ·split at h
   ·cases h
   ·split at h
    ·cases h
    ·rename_i h1 _ _ h2;exact⟨by simpa using h1,f.toNat,by omega,by omega⟩
theorem K0(d:Dk)(f:Int):Dk.asks ⟨[],d.off,d.uo,d.ub⟩ f=d.asks f:=rfl
theorem Gn(d:Dk)(f:Int):Dk.counts ⟨[],d.off,d.uo,d.ub⟩ f=d.counts f:=rfl
theorem At(d:Dk):(Dk.step ⟨[],d.off,d.uo,d.ub⟩).off=d.step.off∧(Dk.step ⟨[],d.off,d.uo,d.ub⟩).uo=d.step.uo∧(Dk.step ⟨[],d.off,d.uo,d.ub⟩).ub=d.step.ub∧d.step.fs=d.fs:=by
 unfold Dk.step;cases h:d.off<;>simp[h]
theorem Gp{d:Dk}(h:d.uo≤9223372036854775807∧d.ub≤9223372036854775807):d.step.uo≤9223372036854775807∧d.step.ub≤9223372036854775807:=by
 unfold Dk.step;cases d.off<;>simp<;>omega
theorem LX.len{d:Dk}(fs:LX d){i:Nat}(h:i<8):i<fs.1.length:=by rw[fs.2.2.1];exact h
theorem LX.get{d:Dk}(fs:LX d){i:Nat}(h:i<8):d.file (i:Int)=(fs.1[i]'(fs.len h)).abs:=by
 have e:d.fs.getD ((i:Nat):Int).toNat ⟨[],[],[]⟩=(mO fs.1).getD i ⟨[],[],[]⟩:=by rw[fs.2.1];rfl
 refine e.trans ?_;simp[mO,ze,fs.len h]
theorem SZ(fs:List FX)(gs:List Fl)(i:Nat)(y:FX)(h:mO fs=gs):mO (fs.set i y)=gs.set i y.abs:=by
 subst h;simp[mO,zak]
theorem S1(fs:List FX)(gs:List Fl)(i:Nat)(hi:i<fs.length)(h:mO fs=gs):gs.set i (fs[i].abs)=gs:=by
 subst h;exact zbP fun j=>by
  by_cases hj:i=j
  ·subst hj;simp[mO,hi]
  ·rw[zaK hj]
def Hid(A:HP):HP:=A
theorem ak.open{b:Nat}{d:Dk}(fs:LX d){i:Nat}(h:i<8)(F:HP)(Γ:List HP):ak (F::nS b fs.1::Γ)
 (Row b (i*3) (fs.1[i]'(fs.len h)).cells::sp (fs.1[i]'(fs.len h)).safe::sp (fs.1[i]'(fs.len h)).now::Sl 3 (fs.1[i]'(fs.len h)).ca (fs.1[i]'(fs.len h)).aR.length (fs.1[i]'(fs.len h)).cc ((fs.1[i]'(fs.len h)).aR.flatMap CX.cells)::cK ((fs.1[i]'(fs.len h)).aR.map CX.s)::fb (iw b) fs.1 i::Hid F::Γ):=by
 refine(ak.perm (.swap _ _ _)).trans ?_;refine(ak.focus (iw b) fs.1 i (fs.len h) _).trans ?_;exact ak.KX b i _ _
theorem ak.close{b:Nat}{d:Dk}(fs:LX d){i:Nat}(h:i<8)(y:FX){o:Bool}{u v:Nat}(hu:u≤9223372036854775807)(hv:v≤9223372036854775807)(Γ:List HP):
 ak (Row b (i*3) y.cells::sp y.safe::sp y.now::Sl 3 y.ca y.aR.length y.cc (y.aR.flatMap CX.cells)::cK (y.aR.map CX.s)::fb (iw b) fs.1 i::Hid (Flags b o u v)::Γ) (aF b ⟨d.fs.set i y.abs,o,u,v⟩::Γ):=by
 refine(ak.KY b i y _).trans ((ak.wT (iw b) fs.1 i y (fs.len h) _).trans ((ak.perm (.swap _ _ _)).trans ?_));refine ak.CU (d:=⟨d.fs.set i y.abs,o,u,v⟩) (fs.1.set i y) ⟨?_,by simp[fs.2.2.1],hu,hv⟩ Γ;exact SZ _ _ _ _ fs.2.1
theorem ak.shut{b:Nat}{d:Dk}(fs:LX d){i:Nat}(h:i<8){o:Bool}{u v:Nat}(hu:u≤9223372036854775807)(hv:v≤9223372036854775807)(Γ:List HP):
 ak (Row b (i*3) (fs.1[i]'(fs.len h)).cells::sp (fs.1[i]'(fs.len h)).safe::sp (fs.1[i]'(fs.len h)).now::Sl 3 (fs.1[i]'(fs.len h)).ca (fs.1[i]'(fs.len h)).aR.length (fs.1[i]'(fs.len h)).cc ((fs.1[i]'(fs.len h)).aR.flatMap CX.cells)::cK ((fs.1[i]'(fs.len h)).aR.map CX.s)::fb (iw b) fs.1 i::Hid (Flags b o u v)::Γ) (aF b ⟨d.fs,o,u,v⟩::Γ):=by
 refine(ak.close fs h (fs.1[i]'(fs.len h)) hu hv Γ).trans ?_;have e:=S1 fs.1 d.fs i (fs.len h) fs.2.1;rw[e];exact .refl _
def Dk.size(d:Dk)(f:Int):Int×Int:=if d.asks f=0 then ((d.file f).now.length,0)else (0,d.asks f)
theorem Gq(b:Nat)(d:Dk)(f:Int):Spec prog 75 [dp b,.int .i64 f] [aF b d] (fun v B=>v= .tuple #[.int .i64 (d.size f).1,.int .i64 (d.size f).2]∧B=[aF b d]):=by
 refine x_sp func75 ntmps75 fun E cs Γ=>?_;refine eg (h:=?_);refine dz (fun E w s=>s.oB) fun fs=>?_;refine rj (h:=?_);refine aq rfl (Gk b d.off d.uo d.ub f) rfl ?_;refine de (h:=?_);rw[K0];by_cases h:d.asks f=0
 ·obtain⟨h0,i,rfl,hi⟩:=KZ h;rw[h];refine Ww ?_;refine gh (ak.open fs hi _ Γ) ?_;have hg:=fs.get hi;obtain⟨x,hx⟩:∃x,(fs.1[i]'(fs.len hi))=x:=⟨_,rfl⟩
  refine aw (h:=?_);refine dd rfl rfl (j:=i) rfl hi rfl ?_;refine oC (h:=?_);refine iF (i:=2) rfl (by omega) rfl rfl ?_;refine Ww ?_;refine ap rfl [aF b d] ⟨?_,rfl⟩ ?_
  ·simp[eo,Dk.size,h,hg,FX.abs]
  ·exact(ak.shut fs hi fs.2.2.2.1 fs.2.2.2.2 Γ).trans Sub.h
 ·refine Ww ?_;refine ap rfl [aF b d] ⟨by simp[eo,Dk.size,h],rfl⟩ ((ak.oB fs Γ).trans Sub.h)
def Dk.read(d:Dk)(f aO n:Int):List UInt8×Int:=
 if d.asks f≠0 then ([],d.asks f)else if aO<0∨((d.file f).now.length:Int)<aO∨n<0∨((d.file f).now.length:Int)-aO<n then ([],1)else (((d.file f).now.drop aO.toNat).take n.toNat,0)
theorem S3(b:Nat)(d:Dk)(f aO n:Int)(hm:∀x∈d.fs,x.now.length≤2^45):Spec prog 136 [dp b,.int .i64 f,.int .i64 aO,.int .i64 n] [aF b d]
 (fun v B=>∃a c,v= .tuple #[.slice a (d.read f aO n).1.length c,.int .i64 (d.read f aO n).2]∧B=[aF b d,Sl 1 a (d.read f aO n).1.length c ((d.read f aO n).1.map bv)]):=by
 refine x_sp func136 ntmps136 fun E cs Γ=>?_;refine eg (h:=?_);refine dz (fun E w s=>s.oB) fun fs=>?_;refine rj (h:=?_);refine aq rfl (Gk b d.off d.uo d.ub f) rfl ?_;refine de (h:=?_);rw[K0];by_cases h:d.asks f=0
 ·obtain⟨h0,i,rfl,hi⟩:=KZ h;rw[h];refine Ww ?_;refine gh (ak.open fs hi _ Γ) ?_;have hg:=fs.get hi;obtain⟨x,hx⟩:∃x,(fs.1[i]'(fs.len hi))=x:=⟨_,rfl⟩
  have qg:(d.file i).now=x.now.2.2:=by rw[hg,hx];rfl
  have hlen:x.now.2.2.length≤2^45:=by
   have h1:(fs.1[i]'(fs.len hi)).abs∈mO fs.1:=zaB (zap _);rw[fs.2.1]at h1;have:=hm _ h1;rw[hx]at this;exact this
  have pt:=ak.shut (b:=b) (o:=d.off) fs hi fs.2.2.2.1 fs.2.2.2.2 Γ;rw[hx]at pt⊢;refine aw (h:=?_);refine dd rfl rfl (j:=i) rfl hi rfl ?_;refine oC (h:=?_);refine iF (i:=2) rfl (by omega) rfl rfl ?_;refine Ww ?_;have fU:aO<0∨(x.now.2.2.length:Int)<aO∨n<0∨(x.now.2.2.length:Int)-aO<n→∃a c,eo [.slice none 0 0,.int .i64 1]= .tuple #[.slice a (d.read i aO n).1.length c,.int .i64 (d.read i aO n).2]∧[aF b d,Sl 1 none 0 0 []]=[aF b d,Sl 1 a (d.read i aO n).1.length c ((d.read i aO n).1.map bv)]:=by
   intro hb;have e:d.read i aO n=([],1):=by unfold Dk.read;rw[if_neg (by simpa using h),if_pos (by rw[qg];exact hb)]
   rw[e];exact⟨none,0,rfl,rfl⟩
  by_cases h1:aO<0
  ·refine Ww ?_;exact ap rfl _ (fU (.inl h1)) ((pt.trans (ak.cq 1 _)).trans Sub.h)
  ·by_cases h2:(x.now.2.2.length:Int)<aO
   ·refine Ww ?_;exact ap rfl _ (fU (.inr (.inl h2))) ((pt.trans (ak.cq 1 _)).trans Sub.h)
   ·by_cases h3:n<0
    ·refine Ww ?_;exact ap rfl _ (fU (.inr (.inr (.inl h3)))) ((pt.trans (ak.cq 1 _)).trans Sub.h)
    ·by_cases h4:(x.now.2.2.length:Int)-aO<n
     ·refine Ww ?_;exact ap rfl _ (fU (.inr (.inr (.inr h4)))) ((pt.trans (ak.cq 1 _)).trans Sub.h)
     ·refine Ww ?_;obtain⟨p,rfl⟩:∃p:Nat,aO=p:=⟨aO.toNat,by omega⟩
      obtain⟨m,rfl⟩:∃m:Nat,n=m:=⟨n.toNat,by omega⟩
      refine yS x.now.1 fun _ jy=>?_;refine aw (h:=?_);refine yH rfl rfl rfl (jl:=p) (jh:=p+m) rfl (by simp) (by omega) (by omega) rfl ?_;have R:=(Sl.reads 1 x.now.1 x.now.2.2.length x.now.2.1 (x.now.2.2.map bv) (by simp)).sub x.now.2.1 p (p+m) (by omega) (by omega) jy;have e1:((x.now.2.2.map bv).drop (p*1)).take ((p+m-p)*1)=((x.now.2.2.drop p).take m).map bv:=by
       rw[show p+m-p=m by omega];simp[zbM,zaM]
      rw[e1]at R;refine aw (h:=?_);refine aq rfl (s_ R (by omega)) rfl ?_;rintro v B ⟨a',bi,rfl,rfl⟩;refine a_ (h:=qh (h:=?_));have e:d.read i p m=((x.now.2.2.drop p).take m,0):=by
       unfold Dk.read;rw[if_neg (by simpa using h),if_neg (by rw[qg];omega),qg];simp
      have e2:((x.now.2.2.drop p).take m).length=p+m-p:=by simp;omega
      rw[e];refine ap rfl [aF b d,Sl 1 a' (p+m-p) bi (((x.now.2.2.drop p).take m).map bv)] ⟨a',bi,by rw[e2];rfl,by rw[e2]⟩ ?_;refine(Sub.h (Δ:=Row b (i*3) x.cells::sp x.safe::sp x.now::Sl 3 x.ca x.aR.length x.cc (List.flatMap CX.cells x.aR)::cK (List.map CX.s x.aR)::fb (iw b) fs.val i::Hid (Flags b d.off d.uo d.ub)::Sl 1 a' (p+m-p) bi (((x.now.2.2.drop p).take m).map bv)::Γ)).trans ?_;have:=ak.shut (b:=b) (o:=d.off) fs hi fs.2.2.2.1 fs.2.2.2.2 (Sl 1 a' (p+m-p) bi (((x.now.2.2.drop p).take m).map bv)::Γ);rw[hx]at this;exact this.trans Sub.h
 ·refine Ww ?_;refine ap rfl [aF b d,Sl 1 none 0 0 []] ⟨none,0,by simp[eo,Dk.read,h],by simp[Dk.read,h]⟩ (((ak.oB fs Γ).trans (ak.cq 1 _)).trans Sub.h)
def Dk.oD(d:Dk)(n:Int):Dk:={d with off:=d.off||decide (n<1),uo:=n.toNat}
theorem K4(b:Nat)(d:Dk)(n:Int)(hn:n≤9223372036854775807):Spec prog 40 [dp b,.int .i64 n] [aF b d] (fun v B=>v= .tuple #[]∧B=[aF b (d.oD n)]):=by
 refine x_sp func40 ntmps40 fun E cs Γ=>?_;refine eg (h:=?_);refine dz (fun E w s=>s.oB) fun fs=>?_;have hd:∀(v:Value) (o:Bool),v= .int .i64 (n.toNat:Int)→o=(d.off||decide (n<1))→ak (Row b 24 [.bool o,v,.int .i64 d.ub]::nS b fs.1::Γ) (aF b (d.oD n)::Γ):=by
  rintro v o rfl rfl;exact ak.wV fs (by omega) fs.2.2.2.2 Γ
 cases h0:d.off
 ·by_cases h1:n<1
  ·refine Ww ?_;rw[h0]at hd;exact cJ [aF b (d.oD n)] ⟨rfl,rfl⟩ ((hd _ _ (by congr 1;omega) (by simp[h1])).trans Sub.h)
  ·refine Ww ?_;rw[h0]at hd;exact cJ [aF b (d.oD n)] ⟨rfl,rfl⟩ ((hd _ _ (by congr 1;omega) (by simp[h1])).trans Sub.h)
 ·refine Ww ?_;rw[h0]at hd;exact cJ [aF b (d.oD n)] ⟨rfl,rfl⟩ ((hd _ _ (by congr 1;omega) (by simp)).trans Sub.h)
def Dk.qi(d:Dk)(n:Int):Dk:={d with ub:=n.toNat}
theorem K8(b:Nat)(d:Dk)(n:Int)(hn:n≤9223372036854775807):Spec prog 42 [dp b,.int .i64 n] [aF b d] (fun v B=>v= .tuple #[]∧B=[aF b (d.qi n)]):=by
 refine x_sp func42 ntmps42 fun E cs Γ=>?_;refine eg (h:=?_);refine dz (fun E w s=>s.oB) fun fs=>?_;have hd:∀(v:Value),v= .int .i64 (n.toNat:Int)→ak (Row b 24 [.bool d.off,.int .i64 d.uo,v]::nS b fs.1::Γ) (aF b (d.qi n)::Γ):=by
  rintro v rfl;exact ak.wV fs fs.2.2.2.1 (by omega) Γ
 refine Ww ?_;exact cJ [aF b (d.qi n)] ⟨rfl,rfl⟩ ((hd _ (by congr 1;omega)).trans Sub.h)
end
section
open Go.Proofs Tryz
open Go.Proofs
def cQ(b:List UInt8)(p:Nat)(x:List UInt8):List UInt8:=(b++List.replicate (p-b.length) 0).take p++x++b.drop (p+x.length)
theorem kq(b:List UInt8)(p:Nat)(x:List UInt8):(cQ b p x).length=max b.length (p+x.length):=by
 simp[cQ];omega
theorem S4(b:List UInt8)(p:Nat)(x:List UInt8)(h:b.length<p):cQ (b++List.replicate (p-b.length) 0) p x=cQ b p x:=by
 simp only[cQ,zd,List.length_replicate];rw[show p-(b.length+(p-b.length))=0 by omega];simp only[zb1,zF];congr 1;rw[zU (by simp;omega),zU (by omega)]
theorem K9(l:List UInt8)(i:Nat)(h:l.length≤i):l.drop i=[]:=zU h
theorem S5(cs xs:List UInt8)(p:Nat)(h:p≤cs.length):cs.take p++xs.take (min xs.length (cs.length-p))++cs.drop (p+min xs.length (cs.length-p))++xs.drop (min xs.length (cs.length-p))=cQ cs p xs:=by
 simp only[cQ,show p-cs.length=0 by omega,zb1,zF];by_cases hq:xs.length≤cs.length-p
 ·rw[zat hq,zb0,zF,zu]
 ·rw[Nat.min_eq_right (by omega),K9 cs (p+(cs.length-p)) (by omega),K9 cs (p+xs.length) (by omega),zF,zF,zr,zG]
theorem Gr{A:HP}{a a2:Option Addr}{cap lG gD p:Nat}{bs xs:List UInt8}(R:Reads A 1 a2 lG (xs.map bv))(hl:bs.length≤2^40)(hp:p≤2^40)(hx:lG≤2^40)(eV:lG≤gD):
 Spec prog 178 [.slice a bs.length cap,.int .i64 p,.slice a2 lG gD] [Sl 1 a bs.length cap (bs.map bv),A]
  (fun v B=>∃a' bi,v= .slice a' (cQ bs p xs).length bi∧B=[Sl 1 a' (cQ bs p xs).length bi ((cQ bs p xs).map bv),A]):=by
 have iq:xs.length=lG:=by simpa using R.1
 refine x_sp func178 ntmps178 fun E fs Γ=>?_;refine eg (h:=nT (h:=?_));refine Cm rfl rfl ?_;refine eR (h:=?_);refine uH (α:=Option Addr×Nat×List UInt8) (fun q=>p≤q.2.2.length∧q.2.2.length≤2^41∧cQ q.2.2 p xs=cQ bs p xs) (fun q=>[(0,.slice q.1 q.2.2.length q.2.1),(1,iv p),(2,.slice a2 lG gD)]) (fun q=>Sl 1 q.1 q.2.2.length q.2.1 (q.2.2.map bv)::A::Γ) ?_ ?_
 ·rintro⟨a',c',cs⟩ ⟨h1,h2,h3⟩;dsimp only at h1 h2 h3⊢;refine Sj a' fun _ jy=>?_;refine qj (h:=fv (h:=?_));refine oX rfl rfl (jl:=p) rfl (by omega) rfl ?_;refine fv (h:=?_);refine Sc rfl rfl R (by omega) (wE xs) rfl ?_;refine eU (h:=?_);refine oX rfl rfl (jl:=min lG (cs.length-p)) rfl (by omega) rfl ?_;have R2:=R.sub gD (min lG (cs.length-p)) lG (by omega) (by omega) eV;refine aw (h:=?_);refine pZ rfl rfl R2 (by rfl) (by rfl) ?_ (by omega) rfl (fun a3 c3 lH=>?_)
  ·rw[zaQ];intro v hv;exact zaQ.1 (wE xs) v (zbf (zaD hv))
  refine bU (h:=?_);have e:List.take p (List.map bv cs)++List.take (min lG (cs.length-p)) (List.map bv xs)++List.drop (p+min lG (cs.length-p)) (List.map bv cs)++List.take ((lG-min lG (cs.length-p))*1) (List.drop (min lG (cs.length-p)*1) (List.map bv xs))=(cQ bs p xs).map bv:=by
   rw[←h3,←S5 cs xs p h1,iq];simp only[zaj,zg,zaM,zbM];rw[zo (l:=List.drop (min lG (cs.length-p)) (List.map bv xs)) (by simp;omega)]
  have el:cs.length+(lG-min lG (cs.length-p))=(cQ bs p xs).length:=by rw[←h3,kq];omega
  rw[e,el];refine ap rfl [Sl 1 a3 (cQ bs p xs).length c3 ((cQ bs p xs).map bv),A] ⟨a3,c3,rfl,rfl⟩ Sub.h
 ·intro td back;by_cases h:bs.length<p
  ·refine rj (h:=?_);refine SK rfl rfl (m:=p-bs.length) (by omega) (by rfl) (by rfl) (by rfl) (by omega) rfl fun a3 c3 hc=>?_;refine bU (h:=?_);have e:List.map bv bs++zs [Value.int IntKind.u8 0] (p-bs.length)=(bs++List.replicate (p-bs.length) 0).map bv:=by
    rw[FZ];simp[bv]
   have el:bs.length+(p-bs.length)=(bs++List.replicate (p-bs.length) (0:UInt8)).length:=by simp
   rw[e,el];exact aV (back (a3,c3,bs++List.replicate (p-bs.length) 0) ⟨by simp;omega,by simp;omega,S4 bs p xs h⟩)
  ·refine Ww ?_;exact aV (back (a,cap,bs) ⟨by dsimp only;omega,by dsimp only;omega,rfl⟩)
end
section
open Go.Proofs Tryz
open Go.Proofs
instance (priority:=high) Take.app(B:HP)(As Γ:List HP)(A:HP)(Δ:List HP)[H:Take (B::(As++Γ)) A Δ]:Take ((B::As)++Γ) A Δ:=⟨H.h⟩
instance (priority:=high) Take.Q9(Γ:List HP)(A:HP)(Δ:List HP)[H:Take Γ A Δ]:Take ([]++Γ) A Δ:=⟨H.h⟩
def chunks:Nat→Nat→List UInt8→List (Nat×List UInt8)
 |0,_,_=>[]
 |n+1,p,bs=>if bs=[]then []else (p,bs.take (min (64-p%64) bs.length))::chunks n (p+min (64-p%64) bs.length) (bs.drop (min (64-p%64) bs.length))
def kr:Nat→Nat→List UInt8→Option Addr→Nat→List (List Value)
 |0,_,_,_,_=>[]
 |n+1,p,bs,a,c=>if bs=[]then []else [.int .i64 p,.slice a (min (64-p%64) bs.length) c]::kr n (p+min (64-p%64) bs.length) (bs.drop (min (64-p%64) bs.length)) (cy 1 a c (min (64-p%64) bs.length)) (c-min (64-p%64) bs.length)
theorem S6{A:HP}:∀(n p:Nat) (bs:List UInt8) (a:Option Addr) (c:Nat),Reads A 1 a bs.length (bs.map bv)→bs.length≤c→(kr n p bs a c).length=(chunks n p bs).length∧
 ∀(i:Nat) (vs:List Value),(kr n p bs a c)[i]? =some vs→∃(x:Nat×List UInt8) (a':Option Addr) (c':Nat),(chunks n p bs)[i]? =some x∧vs=[.int .i64 x.1,.slice a' x.2.length c']∧Reads A 1 a' x.2.length (x.2.map bv)∧x.2.length≤c':=by
 intro n;induction n with
 |zero=>intro p bs a c R hc;exact⟨rfl,fun i vs h=>by simp[kr]at h⟩
 |succ n ih=>
  intro p bs a c R hc;unfold kr chunks;by_cases hb:bs=[]
  ·rw[if_pos hb,if_pos hb];exact⟨rfl,fun i vs h=>by simp at h⟩
  ·rw[if_neg hb,if_neg hb];obtain⟨m,hm⟩:∃m,min (64-p%64) bs.length=m:=⟨_,rfl⟩
   rw[hm];have ja:m≤bs.length:=by omega
   have R1:=R.sub c m bs.length ja (zq _) hc;have e1:((bs.map bv).drop (m*1)).take ((bs.length-m)*1)=(bs.drop m).map bv:=by
    rw[zaj,zaj,zo (by simp),zbM]
   rw[e1]at R1;have el:(bs.drop m).length=bs.length-m:=by simp
   obtain⟨i1,i2⟩:=ih (p+m) (bs.drop m) (cy 1 a c m) (c-m) (by rw[el];exact R1) (by omega);refine⟨by simp[i1],fun i vs h=>?_⟩;cases i with
   |zero=>
    simp only[zaW,Option.some.injEq]at h;subst h;have R0:=R.oZ m ja;have e2:(bs.take m).length=m:=by simp;omega
    refine⟨_,a,c,rfl,by simp[e2],?_,by simp;omega⟩;rw[e2,zaM];simpa using R0
   |succ i=>
    simp only[zaX]at h;obtain⟨x,a',c',h1,h2,h3⟩:=i2 i vs h;exact⟨x,a',c',by simpa using h1,h2,h3⟩
theorem S7(pb pa p:Nat)(bs:List UInt8)(a:Option Addr)(c:Nat)(hc:bs.length≤c)(hp:p+bs.length≤2^40):
 Iter prog 285 [] [dp pb,dp pa] [Row pb 0 [.slice a bs.length c],Row pa 0 [.int .i64 p]] [] (kr bs.length p bs a c):=by
 intro l I J hy;refine x_sp func285 ntmps285 fun E cs Γ=>?_;refine jx (h:=eW (h:=?_));refine aQ (α:=Nat×Nat×Nat×List UInt8×Option Addr×Nat) (fun q=>(kr bs.length p bs a c).drop q.1=kr q.2.1 q.2.2.1 q.2.2.2.1 q.2.2.2.2.1 q.2.2.2.2.2∧q.2.2.2.1.length≤q.2.1∧q.2.2.2.1.length≤q.2.2.2.2.2∧q.2.2.1+q.2.2.2.1.length≤2^40∧q.1≤(kr bs.length p bs a c).length)
  (fun q=>[(0,.func (.yield l) #[] #[]),(1,dp pb),(2,dp pa)]) (fun q=>Row pb 0 [.slice q.2.2.2.2.1 q.2.2.2.1.length q.2.2.2.2.2]::Row pa 0 [.int .i64 q.2.2.1]::I q.1::Γ)
  (fun q=>q.2.2.2.1.length) (0,bs.length,p,bs,a,c) ⟨by simp,zq _,hc,hp,zj _⟩ ⟨rfl,rfl,rfl,trivial⟩ (by skip;exact Sub.h) ?_
 rintro⟨j,n,p',cY,a',c'⟩ ⟨hx,hn,jz,iy,hj⟩ back;dsimp only at hx hn jz iy hj back⊢;refine eU (h:=?_);refine FJ rfl rfl rfl (fun h=>?_) (fun h=>?_)
 ·have cE:cY≠[]:=by rintro rfl;simp at h
  obtain⟨n,rfl⟩:∃n',n=n'+1:=⟨n-1,by omega⟩
  have qk:kr (n+1) p' cY a' c'=[.int .i64 p',.slice a' (min (64-p'%64) cY.length) c']::kr n (p'+min (64-p'%64) cY.length) (cY.drop (min (64-p'%64) cY.length)) (cy 1 a' c' (min (64-p'%64) cY.length)) (c'-min (64-p'%64) cY.length):=by
   show(if cY=[]then []else _)=_;rw[if_neg cE]
  rw[qk]at hx;clear qk;obtain⟨m,hm⟩:∃m,min (64-p'%64) cY.length=m:=⟨_,rfl⟩
  rw[hm]at hx;have K_:(kr bs.length p bs a c)[j]? =some [.int .i64 p',.slice a' m c']:=by
   have:=congrArg (fun l=>l[0]?) hx;simpa using this
  have ku:(kr bs.length p bs a c).drop (j+1)=kr n (p'+m) (cY.drop m) (cy 1 a' c' m) (c'-m):=by
   have:=congrArg (List.drop 1) hx;simpa[zaS]using this
  have jM:j<(kr bs.length p bs a c).length:=(List.getElem?_eq_some_iff.1 K_).1;refine eU (h:=?_);refine J5 rfl rfl (by omega) (by omega) rfl ?_;refine Ww ?_;have em:min (64-(p':Int)%64) (cY.length:Int)=(m:Int):=by omega
  rw[em];skip;refine nc 7 [(0,false),(1,false),(2,false),(3,false),(4,false),(5,true),(6,false)] [Row pb 0 [.slice a' cY.length c'],Row pa 0 [.int .i64 p']] mixed (by kernel_rfl) bd ?_;refine dD (h:=nn (h:=nn (h:=dD (h:=?_))));refine au rfl (Cu rfl rfl (jh:=m) rfl (by omega)) ?_;refine aE rfl (qe rfl rfl (hy j _ K_) rfl ?_);rintro b B (⟨rfl,rfl⟩|⟨rfl,rfl⟩)
  ·refine dc (h:=ql (h:=wW (h:=?_)));refine bJ (Γ':=Row pa 0 [.int .i64 p']::Row pb 0 [.slice a' cY.length c']::I (j+1)::Γ) Sub.h ?_;refine Su mixed (by kernel_rfl) (fun S ρ' Γ'=>lk ρ' 0=some (.func (.yield l) #[] #[])∧lk ρ' 1=some (dp pb)∧lk ρ' 2=some (dp pa)∧lk ρ' 4=some (.int .i64 m)∧(S 0=true→lk ρ' 21=some (.int .i64 p'))∧(S 1=true→lk ρ' 22=some (.int .i64 m))∧
    (S 2=true→lk ρ' 23=some (.int .i64 (p'+m)))∧(S 3=true→lk ρ' 24=some (.slice a' cY.length c'))∧(S 4=true→lk ρ' 25=some (.int .i64 m))∧(S 5=true→lk ρ' 26=some (.slice (cy 1 a' c' m) (cY.length-m) (c'-m)))∧
    (S 6=true→S 0=true)∧(S 7=true→S 3=true)∧Γ'=Row pa 0 [if S 6=true then .int .i64 (p'+m)else .int .i64 p']::Row pb 0 [if S 7=true then .slice (cy 1 a' c' m) (cY.length-m) (c'-m)else .slice a' cY.length c']::I (j+1)::Γ) ?_ ?_ ?_
   ·exact⟨rfl,rfl,rfl,rfl,fun h=>(by cases h),fun h=>(by cases h),fun h=>(by cases h),fun h=>(by cases h),fun h=>(by cases h),fun h=>(by cases h),fun h=>(by cases h),fun h=>(by cases h),rfl⟩
   ·refine⟨?_,?_,?_,?_,?_,?_,?_,?_,trivial⟩
    ·rintro S ρ' Γ' hS hd ⟨g0,g1,g2,g4,h0,h1,h2,h3,h4,h5,s6,s7,rfl⟩;refine .plain rfl ?_;have e6:S 6=false:=by cases h:S 6 with
      |false=>rfl
      |true=>rw[s6 h]at hS;cases hS
     refine um g2 rfl rfl rfl ?_;simp only[e6];exact⟨g0,g1,g2,g4,fun _=>rfl,fun h=>h1 (by revert h;simp),fun h=>h2 (by revert h;simp),fun h=>h3 (by revert h;simp),fun h=>h4 (by revert h;simp),fun h=>h5 (by revert h;simp),fun h=>by have:=s6 (by revert h;simp);simp[this],fun h=>by have:=s7 (by revert h;simp);simp[this],by simp⟩
    ·rintro S ρ' Γ' hS hd ⟨g0,g1,g2,g4,h0,h1,h2,h3,h4,h5,s6,s7,rfl⟩;refine .plain rfl ?_;refine lr g4 rfl ?_;exact⟨g0,g1,g2,g4,fun h=>h0 (by revert h;simp),fun _=>rfl,fun h=>h2 (by revert h;simp),fun h=>h3 (by revert h;simp),fun h=>h4 (by revert h;simp),fun h=>h5 (by revert h;simp),fun h=>by have:=s6 (by revert h;simp);simp[this],fun h=>by have:=s7 (by revert h;simp);simp[this],by simp⟩
    ·rintro S ρ' Γ' hS hd ⟨g0,g1,g2,g4,h0,h1,h2,h3,h4,h5,s6,s7,rfl⟩;refine .plain rfl ?_;refine sG (h0 (hd ⟨0,.data⟩ (by simp) (by rfl))) (h1 (hd ⟨1,.data⟩ (by simp) (by rfl))) (qa (by omega)) rfl ?_;exact⟨g0,g1,g2,g4,fun h=>h0 (by revert h;simp),fun h=>h1 (by revert h;simp),fun _=>rfl,fun h=>h3 (by revert h;simp),fun h=>h4 (by revert h;simp),fun h=>h5 (by revert h;simp),fun h=>by have:=s6 (by revert h;simp);simp[this],fun h=>by have:=s7 (by revert h;simp);simp[this],by simp⟩
    ·rintro S ρ' Γ' hS hd ⟨g0,g1,g2,g4,h0,h1,h2,h3,h4,h5,s6,s7,rfl⟩;refine .plain rfl ?_;have e7:S 7=false:=by cases h:S 7 with
      |false=>rfl
      |true=>rw[s7 h]at hS;cases hS
     refine um g1 rfl rfl rfl ?_;simp only[e7];exact⟨g0,g1,g2,g4,fun h=>h0 (by revert h;simp),fun h=>h1 (by revert h;simp),fun h=>h2 (by revert h;simp),fun _=>rfl,fun h=>h4 (by revert h;simp),fun h=>h5 (by revert h;simp),fun h=>by have:=s6 (by revert h;simp);simp[this],fun h=>by have:=s7 (by revert h;simp);simp[this],by simp⟩
    ·rintro S ρ' Γ' hS hd ⟨g0,g1,g2,g4,h0,h1,h2,h3,h4,h5,s6,s7,rfl⟩;refine .plain rfl ?_;refine lr g4 rfl ?_;exact⟨g0,g1,g2,g4,fun h=>h0 (by revert h;simp),fun h=>h1 (by revert h;simp),fun h=>h2 (by revert h;simp),fun h=>h3 (by revert h;simp),fun _=>rfl,fun h=>h5 (by revert h;simp),fun h=>by have:=s6 (by revert h;simp);simp[this],fun h=>by have:=s7 (by revert h;simp);simp[this],by simp⟩
    ·rintro S ρ' Γ' hS hd ⟨g0,g1,g2,g4,h0,h1,h2,h3,h4,h5,s6,s7,rfl⟩;refine .plain rfl ?_;refine oX (h3 (hd ⟨3,.data⟩ (by simp) (by rfl))) (h4 (hd ⟨4,.data⟩ (by simp) (by rfl))) (jl:=m) rfl (by omega) rfl ?_;exact⟨g0,g1,g2,g4,fun h=>h0 (by revert h;simp),fun h=>h1 (by revert h;simp),fun h=>h2 (by revert h;simp),fun h=>h3 (by revert h;simp),fun h=>h4 (by revert h;simp),fun _=>rfl,fun h=>by have:=s6 (by revert h;simp);simp[this],fun h=>by have:=s7 (by revert h;simp);simp[this],by simp⟩
    ·rintro S ρ' Γ' hS hd ⟨g0,g1,g2,g4,h0,h1,h2,h3,h4,h5,s6,s7,rfl⟩;refine .plain rfl ?_;refine eZ g2 (h2 (hd ⟨2,.data⟩ (by simp) (by rfl))) rfl rfl (by simp) ?_;exact⟨g0,g1,g2,g4,fun h=>h0 (by revert h;simp),fun h=>h1 (by revert h;simp),fun h=>h2 (by revert h;simp),fun h=>h3 (by revert h;simp),fun h=>h4 (by revert h;simp),fun h=>h5 (by revert h;simp),fun _=>by simp[(hd ⟨0,.phase⟩ (by simp) (by rfl))],fun h=>by have:=s7 (by revert h;simp);simp[this],by simp⟩
    ·rintro S ρ' Γ' hS hd ⟨g0,g1,g2,g4,h0,h1,h2,h3,h4,h5,s6,s7,rfl⟩;refine .plain rfl ?_;refine eZ g1 (h5 (hd ⟨5,.data⟩ (by simp) (by rfl))) rfl rfl (by simp) ?_;exact⟨g0,g1,g2,g4,fun h=>h0 (by revert h;simp),fun h=>h1 (by revert h;simp),fun h=>h2 (by revert h;simp),fun h=>h3 (by revert h;simp),fun h=>h4 (by revert h;simp),fun h=>h5 (by revert h;simp),fun h=>by have:=s6 (by revert h;simp);simp[this],fun _=>by simp[hd ⟨3,.phase⟩ (by simp) (by rfl)],by simp⟩
   ·rintro S ρ' Γ' hS ⟨g0,g1,g2,g4,h0,h1,h2,h3,h4,h5,s6,s7,rfl⟩;rw[hS 6 (by simp),hS 7 (by simp)];simp only[if_true];refine iz (h:=?_);have el:(cY.drop m).length=cY.length-m:=by simp
    refine bf (back (j+1,n,p'+m,cY.drop m,cy 1 a' c' m,c'-m) ⟨ku,?_,?_,?_,by omega⟩ (by dsimp only;omega)) ⟨g0,g1,g2,trivial⟩ ?_
    ·dsimp only;omega
    ·dsimp only;omega
    ·dsimp only;omega
    ·dsimp only;rw[el,Int.natCast_add];exact Sub.h
  ·refine dc (h:=ql (h:=dU (h:=?_)));refine sF rfl ?_;exact ap rfl ([]++[J (j+1)]) (.inr ⟨_,rfl⟩) (by (refine dq (h:=?_));exact Sub.h)
 ·have h0:cY=[]:=List.length_eq_zero_iff.1 (by omega);subst h0;refine eR (h:=CV (h:=?_));have:j=(kr bs.length p bs a c).length:=by
   have:(kr bs.length p bs a c).drop j=[]:=by
    rw[hx];cases n<;>simp[kr]
   have:=congrArg List.length this;simp at this;omega
  subst this;exact cJ ([]++[I _]) (.inl rfl) (by (refine dq (h:=?_));exact Sub.h)
end
section
open Go.Proofs Tryz
open Go.Proofs
theorem S8(p:Int)(a:Option Addr)(len cap:Nat):Spec prog 257 [.int .i64 p,.slice a len cap] [] (fun v B=>∃pb pa,v= .func (.func 285) #[] #[dp pb,dp pa]∧B=[Row pb 0 [.slice a len cap],Row pa 0 [.int .i64 p]]):=by
 refine x_sp func257 ntmps257 fun E cs Γ=>?_;refine qf (h:=nT (h:=?_));refine m8 rfl rfl rfl fun pa=>?_;refine aw (h:=?_);refine m8 rfl rfl rfl fun pb=>?_;refine ta (h:=?_);refine oW rfl rfl rfl ?_;refine bU (h:=?_);exact ap rfl [Row pb 0 [.slice a len cap],Row pa 0 [.int .i64 p]] ⟨pb,pa,rfl,rfl⟩ Sub.h
def np(p:Nat)(b:List UInt8):List Ch:=(chunks b.length p b).map fun x=>⟨false,x.1,x.2⟩
def Fl.write(x:Fl)(p:Nat)(b:List UInt8):Fl:=⟨x.safe,x.aR++np p b,cQ x.now p b⟩
def Dk.write(d:Dk)(f aO:Int)(b:List UInt8):Dk×Int:=
 if d.counts f≠0 then (d.step,d.counts f)else if aO<0∨((d.file f).now.length:Int)<aO then (d.step,1)else if 131072-aO<b.length then (d.step,5)
 else ({d.step with fs:=d.fs.set f.toNat ((d.file f).write aO.toNat b)},0)
theorem La:∀(n p:Nat) (b:List UInt8),(chunks n p b).length≤n:=by
 intro n;induction n with
 |zero=>intro p b;simp[chunks]
 |succ n ih=>
  intro p b;unfold chunks;split
  ·simp
  ·have:=ih (p+min (64-p%64) b.length) (b.drop (min (64-p%64) b.length));simp;omega
def Dk.small(d:Dk):Prop:=∀x∈d.fs,x.now.length≤2^40∧x.safe.length≤2^40∧x.aR.length≤2^40
theorem LX.small{d:Dk}(fs:LX d)(h:d.small){i:Nat}(hi:i<8):(fs.1[i]'(fs.len hi)).now.2.2.length≤2^40∧(fs.1[i]'(fs.len hi)).safe.2.2.length≤2^40∧(fs.1[i]'(fs.len hi)).aR.length≤2^40:=by
 have h1:(fs.1[i]'(fs.len hi)).abs∈mO fs.1:=zaB (zap _);rw[fs.2.1]at h1;have:=h _ h1;simpa[FX.abs]using this
theorem Lb:∀(n p:Nat) (b:List UInt8),∀x∈chunks n p b,x.2.length≤b.length∧p≤x.1∧x.1+x.2.length≤p+b.length:=by
 intro n;induction n with
 |zero=>intro p b x hx;simp[chunks]at hx
 |succ n ih=>
  intro p b x hx;unfold chunks at hx;split at hx
  ·simp at hx
  ·rw[zbe]at hx;rcases hx with rfl|hx
   ·simp;omega
   ·have:=ih _ _ x hx;simp at this;omega
def Au(b i:Nat)(s n:Value)(l:List Ch):HP:=Any fun q:Option Addr×Nat×List CX=>Fact (q.2.2.map CX.abs=l) (Sep [Row b (i*3) [s,.slice q.1 q.2.2.length q.2.1,n],Sl 3 q.1 q.2.2.length q.2.1 (q.2.2.flatMap CX.cells),cK (q.2.2.map CX.s)])
theorem St.Av{E:Env}{b i:Nat}{s n:Value}{l:List Ch}{Γ:List HP}{w:World}(st:St E (Au b i s n l::Γ) w):
 ∃q:{q:Option Addr×Nat×List CX//q.2.2.map CX.abs=l},St E (Row b (i*3) [s,.slice q.1.1 q.1.2.2.length q.1.2.1,n]::Sl 3 q.1.1 q.1.2.2.length q.1.2.1 (q.1.2.2.flatMap CX.cells)::cK (q.1.2.2.map CX.s)::Γ) w:=by
 obtain⟨q,st⟩:=st.ex;obtain⟨h,st⟩:=st.fact;exact⟨⟨q,h⟩,(ak.cx [_,_,_] Γ).st st⟩
theorem ak.Av{b i:Nat}{s n:Value}{l:List Ch}{ca:Option Addr}{cc:Nat}{aR:List CX}(h:aR.map CX.abs=l)(Γ:List HP):
 ak (Row b (i*3) [s,.slice ca aR.length cc,n]::Sl 3 ca aR.length cc (aR.flatMap CX.cells)::cK (aR.map CX.s)::Γ) (Au b i s n l::Γ):=by
 refine(ak.cA [_,_,_] Γ).trans ((ak.fact h Γ).trans ?_);exact ak.ex (A:=fun q:Option Addr×Nat×List CX=>Fact (q.2.2.map CX.abs=l) (Sep [Row b (i*3) [s,.slice q.1 q.2.2.length q.2.1,n],Sl 3 q.1 q.2.2.length q.2.1 (q.2.2.flatMap CX.cells),cK (q.2.2.map CX.s)])) (ca,cc,aR) Γ
theorem ak.Lc{c:Bool}{p:Nat}{a3 a1:Option Addr}{c3 c1:Nat}{aR:List CX}{bs:List UInt8}(Γ:List HP):
 ak (Sl 3 a3 (aR.length+1) c3 (aR.flatMap CX.cells++[.bool c,.int .i64 p,.slice a1 bs.length c1])::Sl 1 a1 bs.length c1 (bs.map bv)::cK (aR.map CX.s)::Γ)
  (Sl 3 a3 (aR++[CX.mk c p (a1,c1,bs)]).length c3 ((aR++[CX.mk c p (a1,c1,bs)]).flatMap CX.cells)::cK ((aR++[CX.mk c p (a1,c1,bs)]).map CX.s)::Γ):=by
 have e1:(aR++[CX.mk c p (a1,c1,bs)]).length=aR.length+1:=by simp
 have e2:(aR++[CX.mk c p (a1,c1,bs)]).flatMap CX.cells=aR.flatMap CX.cells++[.bool c,.int .i64 p,.slice a1 bs.length c1]:=by simp[CX.cells]
 have e3:(aR++[CX.mk c p (a1,c1,bs)]).map CX.s=aR.map CX.s++[(a1,c1,bs)]:=by simp
 rw[e1,e2,e3];exact ak.cons _ (ak.KU (a1,c1,bs) (aR.map CX.s) Γ)
theorem Aw(d:Dk):(⟨d.fs,d.step.off,d.step.uo,d.step.ub⟩:Dk)=d.step:=by
 obtain⟨_,_,_,s4⟩:=At d;cases hd:d.step;rw[hd]at s4;simp at s4;rw[s4]
theorem Ld{A:HP}(b:Nat)(d:Dk)(f aO:Int){a:Option Addr}{cap:Nat}{bs:List UInt8}(R:Reads A 1 a bs.length (bs.map bv))(jy:bs.length≤cap)(hs:d.small):
 Spec prog 221 [dp b,.int .i64 f,.int .i64 aO,.slice a bs.length cap] [aF b d,A] (fun v B=>v= .int .i64 (d.write f aO bs).2∧B=[aF b (d.write f aO bs).1,A]):=by
 refine x_sp func221 ntmps221 fun E cs Γ=>?_;refine eg (h:=?_);refine dz (fun E w s=>s.oB) fun fs=>?_;obtain⟨s1,s2,s3,s4⟩:=At d;have hle:=Gp fs.2.2.2;refine rj (h:=?_);refine aq rfl (Gl b d.off d.uo d.ub f fs.2.2.2.1 fs.2.2.2.2) rfl ?_;refine de (h:=?_);rw[Gn,s1,s2,s3];have fD:∀Θ,ak (Flags b d.step.off d.step.uo d.step.ub::nS b fs.1::Θ) (aF b d.step::Θ):=fun Θ=>by
  have:=ak.wV (b:=b) (o:=d.step.off) fs hle.1 hle.2 Θ;rw[Aw]at this;exact this
 by_cases h:d.counts f=0
 ·obtain⟨h0,i,rfl,hi⟩:=Gm h;rw[h];refine Ww ?_;refine gh (ak.open fs hi _ (A::Γ)) ?_;have hg:=fs.get hi;have gW:=fs.small hs hi;have pt:=fun Θ=>ak.shut (b:=b) (o:=d.step.off) fs hi hle.1 hle.2 Θ;have uL:=fun y Θ=>ak.close (b:=b) (o:=d.step.off) fs hi y hle.1 hle.2 Θ;obtain⟨x,hx⟩:∃x,(fs.1[i]'(fs.len hi))=x:=⟨_,rfl⟩
  have qg:(d.file i).now=x.now.2.2:=by rw[hg,hx];rfl
  rw[hx]at pt gW⊢;refine aw (h:=?_);refine dd rfl rfl (j:=i) rfl hi rfl ?_;refine aw (h:=?_);refine aC rfl fun px=>?_;refine dO (h:=Gs (h:=Gt (h:=Wl ?_)));have js:∀e:Int,(d.write i aO bs)=(d.step,e)→ak (Row px 0 [.pointer (some ⟨b,0+0+i*3,none⟩)]::Row b (i*3) x.cells::sp x.safe::sp x.now::Sl 3 x.ca x.aR.length x.cc (List.flatMap CX.cells x.aR)::cK (List.map CX.s x.aR)::fb (iw b) fs.val i::Hid (Flags b d.step.off d.step.uo d.step.ub)::A::Γ) (aF b (d.write i aO bs).1::A::Γ):=by
   intro e he;rw[he];have:=pt (A::Γ);rw[Aw]at this;exact(ak.drop _ _).trans this
  by_cases h1:aO<0
  ·refine Ww ?_;have e:d.write i aO bs=(d.step,1):=by unfold Dk.write;rw[if_neg (by simpa using h),if_pos (.inl h1)]
   exact ap rfl [aF b (d.write i aO bs).1,A] ⟨by rw[e];rfl,rfl⟩ ((js _ e).trans Sub.h)
  ·by_cases h2:(x.now.2.2.length:Int)<aO
   ·refine Ww ?_;refine Ax (h:=Ww ?_);have e:d.write i aO bs=(d.step,1):=by unfold Dk.write;rw[if_neg (by simpa using h),if_pos (.inr (by rw[qg];exact h2))]
    exact ap rfl [aF b (d.write i aO bs).1,A] ⟨by rw[e];rfl,rfl⟩ ((js _ e).trans Sub.h)
   ·by_cases h3:131072-aO<(bs.length:Int)
    ·refine Ww ?_;refine Ax (h:=Ww ?_);have e:d.write i aO bs=(d.step,5):=by unfold Dk.write;rw[if_neg (by simpa using h),if_neg (by rw[qg];omega),if_pos h3]
     exact ap rfl [aF b (d.write i aO bs).1,A] ⟨by rw[e];rfl,rfl⟩ ((js _ e).trans Sub.h)
    ·obtain⟨p,rfl⟩:∃p:Nat,aO=p:=⟨aO.toNat,by omega⟩
     have e:d.write i p bs=({d.step with fs:=d.fs.set i (x.abs.write p bs)},0):=by
      unfold Dk.write;rw[if_neg (by simpa using h),if_neg (by rw[qg];omega),if_neg h3];rw[hg,hx];simp
     have jc:bs.length≤131072:=by omega
     have l_:p≤2^40:=by omega
     have hck:=La bs.length p bs;obtain⟨CW,Le⟩:=S6 bs.length p bs a cap R jy;refine Ww ?_;refine Ax (h:=rj (h:=?_));refine aq rfl (S8 p a bs.length cap) rfl ?_;rintro v B ⟨pb,pa,rfl,rfl⟩;refine nU (h:=?_);refine bJ (ak.nO _) ?_;refine uG (Ds:=[]) rfl rfl (S7 pb pa p bs a cap jy (by omega))
      (fun j=>[Au b i (sv x.safe) (sv x.now) (x.aR.map CX.abs++(np p bs).take j),A,Row px 0 [.pointer (some ⟨b,0+i*3,none⟩)]])
      (fun _ _=>[Fact False jr]) (Δ2:=sp x.safe::sp x.now::fb (iw b) fs.val i::Hid (Flags b d.step.off d.step.uo d.step.ub)::Γ) ?_ (by rfl) ?_ ?_ ?_ ?_
     ·refine(Sub.h (Δ:=Row b (i*3) [sv x.safe,.slice x.ca x.aR.length x.cc,sv x.now]::Sl 3 x.ca x.aR.length x.cc (x.aR.flatMap CX.cells)::cK (x.aR.map CX.s)::A::Row px 0 [.pointer (some ⟨b,0+i*3,none⟩)]::sp x.safe::sp x.now::fb (iw b) fs.val i::Hid (Flags b d.step.off d.step.uo d.step.ub)::Γ)).trans ?_;exact(ak.Av (l:=x.aR.map CX.abs++(np p bs).take 0) (by simp) _).trans Sub.h
     ·intro j vs hj;obtain⟨y,a',c',_,rfl,_⟩:=Le j vs hj
      rfl
     ·intro j vs hj;obtain⟨y,a',c',hy,rfl,R',jz⟩:=Le j vs hj;intro Y l r Θ fZ eT cv nV nq;refine Wl ?_;refine nP (r:=r) eT ?_;refine bJ (Γ':=Au b i (sv x.safe) (sv x.now) (x.aR.map CX.abs++(np p bs).take j)::Rec l r .busy none::A::Row px 0 [.pointer (some ⟨b,0+i*3,none⟩)]::Θ) (by (refine a_ (h:=?_));exact Sub.h) ?_;refine dz (fun E w s=>s.Av) ?_;rintro⟨⟨ca,cc,aR⟩,wX⟩;dsimp only at wX⊢;have S9:aR.length≤2^40+131072:=by
       have:=congrArg List.length wX;simp[np]at this;omega
      have lu:j<(chunks bs.length p bs).length:=(List.getElem?_eq_some_iff.1 hy).1;have gG:y.2.length≤2^45:=by
       have:=Lb bs.length p bs y (zc hy);omega
      refine eW (h:=?_);refine nc 13 [(0,false),(1,false),(2,false),(3,false),(4,false),(5,false),(6,false),(11,false),(12,false),(7,true),(8,false),(9,true),(10,true),(13,true)] [Row b (i*3) [sv x.safe,.slice ca aR.length cc,sv x.now],Row px 0 [.pointer (some ⟨b,0+i*3,none⟩)]] mixed (by kernel_rfl) bd ?_;refine nn (h:=nn (h:=pu (h:=?_)));refine au rfl (fk (i:=1) rfl (by omega) rfl) ?_;refine dK (h:=pu (h:=?_));refine aE rfl (aq rfl (s_ R' gG) rfl ?_);rintro v B ⟨a1,c1,rfl,rfl⟩;refine dc (h:=?_);refine au rfl (yL rfl (by rfl)) ?_;refine aE rfl (cf rfl (by rfl) (by rfl) (by rfl) (by rfl) rfl fun a2=>?_);refine kx (h:=?_);refine aE rfl (cF rfl rfl (by rfl) (by rfl) (by rfl) (by omega) rfl fun a3 c3 hc=>?_);refine kx (h:=?_);refine bN rfl rfl ?_;refine iS (i:=1) rfl rfl rfl (by omega) rfl ?_;dsimp only[List.set];refine wY (h:=?_);refine bJ ?_ (cv _);refine(Sub.h (Δ:=Sl 3 a3 (aR.length+1) c3 (aR.flatMap CX.cells++[.bool false,.int .i64 y.1,.slice a1 y.2.length c1])::Sl 1 a1 y.2.length c1 (y.2.map bv)::cK (aR.map CX.s)::Row b (i*3) [sv x.safe,.slice a3 (aR.length+1) c3,sv x.now]::Rec l r .busy none::A::Row px 0 [.pointer (some ⟨b,0+i*3,none⟩)]::Θ)).trans ?_;refine(ak.Lc _).trans ?_;have e1:aR.length+1=(aR++[CX.mk false y.1 (a1,c1,y.2)]).length:=by simp
      rw[e1];refine(Sub.h (Δ:=Row b (i*3) [sv x.safe,.slice a3 (aR++[CX.mk false y.1 (a1,c1,y.2)]).length c3,sv x.now]::Sl 3 a3 (aR++[CX.mk false y.1 (a1,c1,y.2)]).length c3 ((aR++[CX.mk false y.1 (a1,c1,y.2)]).flatMap CX.cells)::cK ((aR++[CX.mk false y.1 (a1,c1,y.2)]).map CX.s)::Rec l r .busy none::A::Row px 0 [.pointer (some ⟨b,0+i*3,none⟩)]::Θ)).trans ?_;refine(ak.Av (l:=x.aR.map CX.abs++(np p bs).take (j+1)) ?_ _).trans (by (refine a_ (h:=?_));exact Sub.h);have S_:(np p bs)[j]? =some ⟨false,y.1,y.2⟩:=by unfold np;rw[zf,hy];rfl
      rw[zg,wX,zp,S_];simp[CX.abs]
     ·intro D;refine iz (h:=eM (h:=?_));refine bJ (Γ':=Au b i (sv x.safe) (sv x.now) (x.aR.map CX.abs++(np p bs).take (kr bs.length p bs a cap).length)::Marks [D]::A::Row px 0 [.pointer (some ⟨b,0+i*3,none⟩)]::sp x.safe::sp x.now::fb (iw b) fs.val i::Hid (Flags b d.step.off d.step.uo d.step.ub)::Γ) (by (refine a_ (h:=?_));exact Sub.h) ?_;refine dz (fun E w s=>s.Av) ?_;rintro⟨⟨ca,cc,aR⟩,wX⟩;dsimp only at wX⊢;refine nc 10 [(0,false),(1,false),(2,false),(3,false),(4,false),(5,false),(6,false),(8,false),(9,false),(7,true),(10,true)] [Row b (i*3) [sv x.safe,.slice ca aR.length cc,sv x.now],Row px 0 [.pointer (some ⟨b,0+i*3,none⟩)]] mixed (by kernel_rfl) bd ?_;refine nn (h:=nn (h:=pu (h:=?_)));refine au rfl (fk (i:=2) rfl (by omega) rfl) ?_;refine dK (h:=pu (h:=?_));refine aE rfl (aq rfl (Gr R gW.1 l_ (by omega) jy) rfl ?_);rintro v B ⟨a1,c1,rfl,rfl⟩;refine dc (h:=?_);refine bN rfl rfl ?_;refine iS (i:=2) rfl rfl rfl (by omega) rfl ?_;dsimp only[List.set];refine dU (h:=bQ (h:=bU (h:=?_)));refine Aq rfl [aF b (d.write i p bs).1,A] ⟨by rw[e];rfl,rfl⟩ ?_;refine(Sub.h (Δ:=Row b (i*3) [sv x.safe,.slice ca aR.length cc,sv (a1,c1,cQ x.now.2.2 p bs)]::sp x.safe::sp (a1,c1,cQ x.now.2.2 p bs)::Sl 3 ca aR.length cc (aR.flatMap CX.cells)::cK (aR.map CX.s)::fb (iw b) fs.val i::Hid (Flags b d.step.off d.step.uo d.step.ub)::A::Γ)).trans ?_;have:=uL ⟨x.safe,ca,cc,aR,(a1,c1,cQ x.now.2.2 p bs)⟩ (A::Γ);refine this.trans ?_;have e2:FX.abs ⟨x.safe,ca,cc,aR,(a1,c1,cQ x.now.2.2 p bs)⟩=x.abs.write p bs:=by
       unfold FX.abs Fl.write;rw[wX,CW,zo (by simp[np])]
      rw[e2,e];exact Sub.h
     ·intro D c j;refine bJ (ak.perm (.swap _ _ _)) ?_;refine kN (p:=False) (fun E w s=>s.fact.1) fun h=>h.elim
 ·refine Ww ?_;refine ap rfl [aF b d.step,A] ⟨by simp[eo,Dk.write,h],by simp[Dk.write,h]⟩ ((fD _).trans Sub.h)
end
section
open Go.Proofs Tryz
open Go.Proofs
def Fl.cut(x:Fl)(n:Nat):Fl:=⟨x.safe,x.aR++[⟨true,n,[]⟩],x.now.take n⟩
def Dk.cut(d:Dk)(f n:Int):Dk×Int:=
 if d.counts f≠0 then (d.step,d.counts f)else if n<0∨((d.file f).now.length:Int)<n then (d.step,1)
 else ({d.step with fs:=d.fs.set f.toNat ((d.file f).cut n.toNat)},0)
theorem Ta(b:Nat)(d:Dk)(f n:Int)(hs:d.small):
 Spec prog 139 [dp b,.int .i64 f,.int .i64 n] [aF b d] (fun v B=>v= .int .i64 (d.cut f n).2∧B=[aF b (d.cut f n).1]):=by
 refine x_sp func139 ntmps139 fun E cs Γ=>?_;refine eg (h:=?_);refine dz (fun E w s=>s.oB) fun fs=>?_;obtain⟨s1,s2,s3,s4⟩:=At d;have hle:=Gp fs.2.2.2;refine rj (h:=?_);refine aq rfl (Gl b d.off d.uo d.ub f fs.2.2.2.1 fs.2.2.2.2) rfl ?_;refine de (h:=?_);rw[Gn,s1,s2,s3];have fD:∀Θ,ak (Flags b d.step.off d.step.uo d.step.ub::nS b fs.1::Θ) (aF b d.step::Θ):=fun Θ=>by
  have:=ak.wV (b:=b) (o:=d.step.off) fs hle.1 hle.2 Θ;rw[Aw]at this;exact this
 by_cases h:d.counts f=0
 ·obtain⟨h0,i,rfl,hi⟩:=Gm h;rw[h];refine Ww ?_;refine gh (ak.open fs hi _ Γ) ?_;have hg:=fs.get hi;have gW:=fs.small hs hi;have pt:=fun Θ=>ak.shut (b:=b) (o:=d.step.off) fs hi hle.1 hle.2 Θ;have uL:=fun y Θ=>ak.close (b:=b) (o:=d.step.off) fs hi y hle.1 hle.2 Θ;obtain⟨x,hx⟩:∃x,(fs.1[i]'(fs.len hi))=x:=⟨_,rfl⟩
  have qg:(d.file i).now=x.now.2.2:=by rw[hg,hx];rfl
  rw[hx]at pt gW⊢;refine aw (h:=?_);refine dd rfl rfl (j:=i) rfl hi rfl ?_;refine Wl ?_;have js:∀e:Int,(d.cut i n)=(d.step,e)→ak (Row b (i*3) x.cells::sp x.safe::sp x.now::Sl 3 x.ca x.aR.length x.cc (List.flatMap CX.cells x.aR)::cK (List.map CX.s x.aR)::fb (iw b) fs.val i::Hid (Flags b d.step.off d.step.uo d.step.ub)::Γ) (aF b (d.cut i n).1::Γ):=by
   intro e he;rw[he];have:=pt Γ;rw[Aw]at this;exact this
  by_cases h1:n<0
  ·refine Ww ?_;have e:d.cut i n=(d.step,1):=by unfold Dk.cut;rw[if_neg (by simpa using h),if_pos (.inl h1)]
   exact ap rfl [aF b (d.cut i n).1] ⟨by rw[e];rfl,rfl⟩ ((js _ e).trans Sub.h)
  ·by_cases h2:(x.now.2.2.length:Int)<n
   ·refine Ww ?_;refine Ax (h:=Ww ?_);have e:d.cut i n=(d.step,1):=by unfold Dk.cut;rw[if_neg (by simpa using h),if_pos (.inr (by rw[qg];exact h2))]
    exact ap rfl [aF b (d.cut i n).1] ⟨by rw[e];rfl,rfl⟩ ((js _ e).trans Sub.h)
   ·obtain⟨p,rfl⟩:∃p:Nat,n=p:=⟨n.toNat,by omega⟩
    have e:d.cut i p=({d.step with fs:=d.fs.set i (x.abs.cut p)},0):=by
     unfold Dk.cut;rw[if_neg (by simpa using h),if_neg (by rw[qg];omega)];rw[hg,hx];simp
    refine Ww ?_;refine Ax (h:=Ww ?_);refine ao (iF (i:=1) rfl (by omega) rfl rfl ?_);refine fv (h:=?_);refine lV rfl rfl rfl ?_;refine aw (h:=?_);refine cf rfl (by rfl) (by rfl) (by rfl) (by rfl) rfl fun a2=>?_;refine aw (h:=?_);refine cF rfl rfl (by rfl) (by rfl) (by rfl) (by omega) rfl fun a3 c3 hc=>?_;refine CY (h:=wZ (h:=Lf (h:=?_)));try dsimp only[List.set];refine Ww ?_;refine Lg (h:=iu (h:=?_))
    refine yS x.now.1 fun _ jy=>?_;refine aw (h:=?_);refine qP rfl rfl (jh:=p) rfl (by omega) rfl ?_;have R:=(Sl.reads 1 x.now.1 x.now.2.2.length x.now.2.1 (x.now.2.2.map bv) (by simp)).oZ p (by omega);have e1:((x.now.2.2.map bv).take (p*1))=(x.now.2.2.take p).map bv:=by simp[zaM]
    rw[e1]at R;refine aw (h:=?_);refine aq rfl (s_ R (by omega)) rfl ?_;rintro v B ⟨a',bi,rfl,rfl⟩;refine a_ (h:=CY (h:=wZ (h:=?_)));refine yC (iS (i:=2) rfl rfl rfl (by omega) rfl ?_);try dsimp only[List.set];refine Ww ?_
    refine ap rfl [aF b (d.cut i p).1] ⟨by rw[e];rfl,rfl⟩ ?_;have el:(x.now.2.2.take p).length=p:=by simp;omega
    refine(ak.cq 1 _).trans ?_;refine(Sub.h (Δ:=Sl 3 a3 (x.aR.length+1) c3 (x.aR.flatMap CX.cells++[.bool true,.int .i64 p,.slice none 0 0])::Sl 1 none 0 0 []::cK (x.aR.map CX.s)::Row b (i*3) [sv x.safe,.slice a3 (x.aR.length+1) c3,.slice a' p bi]::Sl 1 a' p bi ((x.now.2.2.take p).map bv)::sp x.safe::fb (iw b) fs.val i::Hid (Flags b d.step.off d.step.uo d.step.ub)::Γ)).trans ?_;refine(ak.Lc (bs:=[]) (c1:=0) (a1:=none) _).trans ?_;have e2:x.aR.length+1=(x.aR++[CX.mk true p (none,0,[])]).length:=by simp
    have e3: .slice a' p bi=sv (a',bi,x.now.2.2.take p):=by simp[sv,el]
    have e4:Sl 1 a' p bi ((x.now.2.2.take p).map bv)=sp (a',bi,x.now.2.2.take p):=by simp[sp,el]
    rw[e2,e3,e4];refine ak.trans ?_ ((uL ⟨x.safe,a3,c3,x.aR++[CX.mk true p (none,0,[])],(a',bi,x.now.2.2.take p)⟩ Γ).trans ?_)
    ·exact Sub.h
    ·rw[e];have e5:FX.abs ⟨x.safe,a3,c3,x.aR++[CX.mk true p (none,0,[])],(a',bi,x.now.2.2.take p)⟩=x.abs.cut p:=by
      simp[FX.abs,Fl.cut,CX.abs]
     rw[e5];exact Sub.h
 ·refine Ww ?_;refine ap rfl [aF b d.step] ⟨by simp[eo,Dk.cut,h],by simp[Dk.cut,h]⟩ ((fD _).trans Sub.h)
def Fl.sync(x:Fl):Fl:=⟨x.now,[],x.now⟩
def Dk.sync(d:Dk)(f:Int):Dk×Int:=
 if d.counts f≠0 then (d.step,d.counts f)else ({d.step with fs:=d.fs.set f.toNat (d.file f).sync},0)
theorem Gu(b:Nat)(d:Dk)(f:Int)(hs:d.small):
 Spec prog 140 [dp b,.int .i64 f] [aF b d] (fun v B=>v= .int .i64 (d.sync f).2∧B=[aF b (d.sync f).1]):=by
 refine x_sp func140 ntmps140 fun E cs Γ=>?_;refine eg (h:=?_);refine dz (fun E w s=>s.oB) fun fs=>?_;obtain⟨s1,s2,s3,s4⟩:=At d;have hle:=Gp fs.2.2.2;refine rj (h:=?_);refine aq rfl (Gl b d.off d.uo d.ub f fs.2.2.2.1 fs.2.2.2.2) rfl ?_;refine de (h:=?_);rw[Gn,s1,s2,s3];have fD:∀Θ,ak (Flags b d.step.off d.step.uo d.step.ub::nS b fs.1::Θ) (aF b d.step::Θ):=fun Θ=>by
  have:=ak.wV (b:=b) (o:=d.step.off) fs hle.1 hle.2 Θ;rw[Aw]at this;exact this
 by_cases h:d.counts f=0
 ·obtain⟨h0,i,rfl,hi⟩:=Gm h;rw[h];refine Ww ?_;refine gh (ak.open fs hi _ Γ) ?_;have hg:=fs.get hi;have gW:=fs.small hs hi;have uL:=fun y Θ=>ak.close (b:=b) (o:=d.step.off) fs hi y hle.1 hle.2 Θ;obtain⟨x,hx⟩:∃x,(fs.1[i]'(fs.len hi))=x:=⟨_,rfl⟩
  rw[hx]at gW⊢;refine aw (h:=?_);refine dd rfl rfl (j:=i) rfl hi rfl ?_;refine Ww ?_;refine Lg (h:=?_);have R:=(Sl.reads 1 x.now.1 x.now.2.2.length x.now.2.1 (x.now.2.2.map bv) (by simp))
  have e:d.sync i=({d.step with fs:=d.fs.set i x.abs.sync},0):=by
   unfold Dk.sync;rw[if_neg (by simpa using h)];rw[hg,hx];simp
  refine aw (h:=?_);refine aq rfl (s_ R (by omega)) rfl ?_;rintro v B ⟨a',bi,rfl,rfl⟩;refine a_ (h:=CY (h:=wZ (h:=?_)));refine yC (iS (i:=0) rfl rfl rfl (by omega) rfl ?_);try dsimp only[List.set];refine CY (h:=wZ (h:=Lf (h:=?_)));try dsimp only[List.set];refine Ww ?_
  refine ap rfl [aF b (d.sync i).1] ⟨by rw[e];rfl,rfl⟩ ?_;refine((ak.cq 3 _).trans (ak.CR _)).trans ?_;refine ak.trans ?_ ((uL ⟨(a',bi,x.now.2.2),none,0,[],x.now⟩ Γ).trans ?_)
  ·exact(Sub.h (Δ:=Row b (i*3) [.slice a' x.now.2.2.length bi,.slice none 0 0,sv x.now]::Sl 1 a' x.now.2.2.length bi (x.now.2.2.map bv)::sp x.now::Sl 3 none 0 0 []::cK []::fb (iw b) fs.val i::Hid (Flags b d.step.off d.step.uo d.step.ub)::Γ))
  ·rw[e];exact ak.refl (aF b ⟨d.fs.set i x.abs.sync,d.step.off,d.step.uo,d.step.ub⟩::Γ)
 ·refine Ww ?_;refine ap rfl [aF b d.step] ⟨by simp[eo,Dk.sync,h],by simp[Dk.sync,h]⟩ ((fD _).trans Sub.h)
end
section
open Go.Proofs Tryz
open Go.Proofs
def pk:List Int→Int×List Int
 |[]=>(1,[])
 |p::ps=>(if p<0 then 1 else p,ps)
def kR(b:List UInt8)(c:Ch)(p:Int):List UInt8:=
 if p=1 then b else if c.cut then (if p=0∧c.aO<b.length then b.take c.aO else b)
 else (let n:=if p>1 then min c.b.length (p-2).toNat else c.b.length;if n=0 then b else cQ b c.aO (c.b.take n))
def gq:List UInt8→List Ch→List Int→List UInt8×List Int
 |b,[],ps=>(b,ps)
 |b,c::cs,ps=>gq (kR b c (pk ps).1) cs (pk ps).2
theorem Tb{A:HP}{a:Option Addr}{cap:Nat}{ps:List Int}(pa pp i:Nat)(R:Reads A 1 a ps.length (ps.map iv))(hi:i≤ps.length)(hl:ps.length≤2^63-1):
 Spec prog 122 [dp pa,dp pp] [Row pa 0 [.int .i64 i],Row pp 0 [.slice a ps.length cap],A]
  (fun v B=>∃i':Nat,v= .int .i64 (pk (ps.drop i)).1∧B=[Row pa 0 [.int .i64 i'],Row pp 0 [.slice a ps.length cap],A]∧ps.drop i'=(pk (ps.drop i)).2∧i'≤ps.length∧True):=by
 refine x_sp func122 ntmps122 fun E cs Γ=>?_;refine eg (h:=?_);by_cases h:i=ps.length
 ·subst h;refine Ww ?_;refine ap rfl [Row pa 0 [.int .i64 ps.length],Row pp 0 [.slice a ps.length cap],A] ⟨ps.length,?_,rfl,?_,zq _,trivial⟩ Sub.h
  ·simp[eo,pk]
  ·simp[pk]
 ·have aN:i<ps.length:=by omega
  have hd:ps.drop i=ps[i]::ps.drop (i+1):=zW aN;rw[hd];refine rj (h:=?_);refine bK rfl rfl R (j:=i) (by omega) aN rfl fun b off ha=>?_;refine aw (h:=?_);refine fM rfl R ha (i:=i) (by omega) (uA iv aN) rfl ?_;by_cases hn:ps[i]<0
  ·refine Ww ?_;refine ap rfl [Row pa 0 [.int .i64 ((i:Int)+1)],Row pp 0 [.slice a ps.length cap],A] ⟨i+1,?_,rfl,rfl,aN,trivial⟩ Sub.h;simp[eo,pk,hn]
  ·refine rj (h:=?_);refine bK rfl rfl R (j:=i) (by omega) aN rfl fun b off ha=>?_;refine aw (h:=?_);refine fM rfl R ha (i:=i) (by omega) (uA iv aN) rfl ?_;refine bU (h:=?_);refine ap rfl [Row pa 0 [.int .i64 ((i:Int)+1)],Row pp 0 [.slice a ps.length cap],A] ⟨i+1,?_,rfl,rfl,aN,trivial⟩ Sub.h;simp[eo,pk,hn]
theorem Tc(ps:List Int):0≤(pk ps).1:=by
 unfold pk;split
 ·decide
 ·dsimp only;split<;>omega
theorem Td(ps:List Int)(i:Nat)(h:∀p∈ps,p≤9223372036854775807):(pk (ps.drop i)).1≤9223372036854775807:=by
 cases hd:ps.drop i with
 |nil=>decide
 |cons p qs=>
  have:p∈ps:=zbf (i:=i) (by rw[hd];exact zay ..);have:=h p this;show(if p<0 then (1:Int)else p)≤_;split<;>omega
theorem Te(b:List UInt8)(c:Ch)(p:Int)(n:Nat)(hb:b.length≤n)(hc:c.aO+c.b.length≤n):(kR b c p).length≤n:=by
 unfold kR;split
 ·exact hb
 ·split
  ·split
   ·simp;omega
   ·exact hb
  ·dsimp only;split<;>split
   ·exact hb
   ·rw[kq];simp;omega
   ·exact hb
   ·rw[kq];simp;omega
def gr(x:FX):HP:=Sep [sp x.safe,sp x.now,Sl 3 x.ca x.aR.length x.cc (x.aR.flatMap CX.cells),cK (x.aR.map CX.s)]
structure Lh(A:HP)(x:FX):Prop where
 safe:Reads A 1 x.safe.1 x.safe.2.2.length (x.safe.2.2.map bv)
 aR:Reads A 3 x.ca x.aR.length (x.aR.flatMap CX.cells)
 bs:∀c∈x.aR,Reads A 1 c.s.1 c.s.2.2.length (c.s.2.2.map bv)
theorem gr.rd(x:FX):Lh (gr x) x:=by
 refine⟨?_,?_,fun c hc=>?_⟩
 ·exact(Sl.reads 1 _ _ _ _ (by simp)).uK [sp x.now,Sl 3 x.ca x.aR.length x.cc (x.aR.flatMap CX.cells),cK (x.aR.map CX.s)] (ak.cx _ [])
 ·refine(Sl.reads 3 x.ca _ x.cc _ (lF CX.cl _)).uK [sp x.safe,sp x.now,cK (x.aR.map CX.s)] ((ak.cx _ []).trans (by (refine a_ (h:=?_));exact Sub.h))
 ·refine(cK.reads (zaB hc)).uK [sp x.safe,sp x.now,Sl 3 x.ca x.aR.length x.cc (x.aR.flatMap CX.cells)] ((ak.cx _ []).trans (by (refine a_ (h:=?_));exact Sub.h))
theorem Li{P:Program}{X:Cx}{n:Nat}{ds:List Deferred}{ρ:aK}{Γ:List HP}{Nx:Value→List HP→Prop}{ty:TypeId}{t s:Nat}{x y:Operand}{b:Nat}{vs us:List Value}{K:HP→List HP}[T:cI P t s](hx:ev ρ x=some (.pointer (some ⟨b,0,none⟩)))(hy:ev ρ y=some (.agg us.toArray))(ju:us.length=s)(h1:us.all Value.oneCell'=true)
 [H:km Γ b 0 vs K] (hl:us.length=vs.length) (h:Nx undef (K (Row b 0 us))):bm P X n ds none (.store t x y) ty Nx ρ Γ:=by
 refine jH (off:=0) (vs:=vs) (K:=K) hx hy ju h1 rfl (by omega) ?_;have e:vs.take (0-0)++us++vs.drop (0-0+us.length)=us:=by
  rw[zU (by omega)];simp
 rw[e];exact h
theorem Tf{A B:HP}{a:Option Addr}{cap:Nat}{ps:List Int}(x:FX)(pa pp i:Nat)(RF:Lh B x)(R:Reads A 1 a ps.length (ps.map iv))(hi:i≤ps.length)(hl:ps.length≤2^63-1)
 (hb:x.safe.2.2.length≤2^39) (hc:∀c∈x.aR,c.aO+c.s.2.2.length≤2^39∧c.s.2.2.length≤c.s.2.1) (S9:x.aR.length≤2^40) (po:∀p∈ps,p≤9223372036854775807):
 Spec prog 123 [.agg x.cells.toArray,.func (.func 122) #[] #[dp pa,dp pp]] [Row pa 0 [.int .i64 i],Row pp 0 [.slice a ps.length cap],A,B]
  (fun v C=>∃(i':Nat) (a':Option Addr) (bi:Nat) (bs:List UInt8),v= .slice a' bs.length bi∧C=[Row pa 0 [.int .i64 i'],Row pp 0 [.slice a ps.length cap],A,B,Sl 1 a' bs.length bi (bs.map bv)]∧(bs,ps.drop i')=gq x.safe.2.2 (x.aR.map CX.abs) (ps.drop i)∧i'≤ps.length):=by
 refine x_sp func123 ntmps123 fun E cs Γ=>?_;refine eg (h:=nT (h:=?_));refine aM (vs:=x.cells) rfl rfl fun px=>?_;refine eU (h:=?_);refine aq rfl (s_ RF.safe (by omega)) rfl ?_;rintro v C ⟨a1,c1,rfl,rfl⟩;refine a_ (h:=Wl ?_);refine aQ (α:=Nat×Nat×List UInt8×Option Addr×Nat) (fun q=>q.1≤x.aR.length∧q.2.1≤ps.length∧q.2.2.1.length≤2^39∧gq q.2.2.1 ((x.aR.drop q.1).map CX.abs) (ps.drop q.2.1)=gq x.safe.2.2 (x.aR.map CX.abs) (ps.drop i))
  (fun q=>[(1,.func (.func 122) #[] #[dp pa,dp pp]),(5,.slice q.2.2.2.1 q.2.2.1.length q.2.2.2.2),(14,.slice x.ca x.aR.length x.cc),(15,iv x.aR.length),(16,iv q.1)])
  (fun q=>Row pa 0 [.int .i64 q.2.1]::Row pp 0 [.slice a ps.length cap]::A::B::Sl 1 q.2.2.2.1 q.2.2.1.length q.2.2.2.2 (q.2.2.1.map bv)::Γ)
  (fun q=>x.aR.length-q.1) (0,i,x.safe.2.2,a1,c1) ⟨zj _,hi,hb,rfl⟩ x_tv Sub.h ?_
 rintro⟨j,i',bs,a2,c2⟩ ⟨hj,en,py,hk⟩ back;dsimp only at hj en py hk back⊢;refine l9 (h:=?_);refine m7 rfl rfl rfl (fun h=>?_) (fun h=>?_)
 ·have jM:j<x.aR.length:=by omega
  obtain⟨⟨cut,cat,cb⟩,Gv⟩:∃c,x.aR[j]=c:=⟨_,rfl⟩
  have qm:CX.mk cut cat cb∈x.aR:=Gv ▸ zap jM;have Ay:=hc _ qm;have Gw:=RF.bs _ qm;dsimp only at Ay Gw;rw[zW jM,Gv]at hk;rw[zE]at hk;replace hk:gq (kR bs (CX.mk cut cat cb).abs (pk (ps.drop i')).1) ((x.aR.drop (j+1)).map CX.abs) (pk (ps.drop i')).2=_:=hk;have tb:=Te bs (CX.mk cut cat cb).abs (pk (ps.drop i')).1 (2^39) py Ay.1;refine eU (h:=?_);refine bK rfl rfl RF.aR (j:=j) rfl jM rfl fun b off ha=>?_;refine aw (h:=?_);refine dA rfl RF.aR ha (i:=j*3) (us:=[.bool cut,.int .i64 cat,sv cb]) rfl rfl (fun j' v hv=>?_) rfl ?_
  ·have lX:j'<3:=(List.getElem?_eq_some_iff.1 hv).1;rw[oA CX.cl jM j' lX,Gv];exact hv
  refine aw (h:=?_);refine aC rfl fun pc=>?_;refine dO (h:=?_);refine Li (us:=[.bool cut,.int .i64 cat,sv cb]) rfl rfl rfl (by rfl) (by rfl) ?_;refine uM (h:=fv (h:=?_));refine o5 rfl rfl (Tb (cap:=cap) pa pp i' R en hl) rfl ?_;rintro v C ⟨i2,rfl,rfl,kS,fS,_⟩;refine a_ (h:=?_);obtain⟨p,hp⟩:∃p,(pk (ps.drop i')).1=p:=⟨_,rfl⟩
  have j3:=Tc (ps.drop i');have l_:=Td ps i' po;rw[hp]at j3 l_ hk tb⊢;have dL:=fun a3 c3=>back (j+1,i2,kR bs (CX.mk cut cat cb).abs p,a3,c3) ⟨by dsimp only;omega,fS,tb,by dsimp only;rw[kS];exact hk⟩ (by dsimp only;omega);dsimp only at dL;refine Wl ?_;by_cases h1:p=1
  ·have e:kR bs (CX.mk cut cat cb).abs p=bs:=by unfold kR;rw[if_pos h1]
   rw[e]at dL;refine Ww ?_;exact aV (dL a2 c2)
  ·cases cut
   ·have e:kR bs (CX.mk false cat cb).abs p=(if (if p>1 then min cb.2.2.length (p-2).toNat else cb.2.2.length)=0 then bs else cQ bs cat (cb.2.2.take (if p>1 then min cb.2.2.length (p-2).toNat else cb.2.2.length))):=by
     unfold kR;rw[if_neg h1,if_neg (by simp[CX.abs])];rfl
    by_cases h2:p>1
    ·rw[if_pos h2]at e;obtain⟨n,hn⟩:∃n,min cb.2.2.length (p-2).toNat=n:=⟨_,rfl⟩
     rw[hn]at e;refine Ww ?_;rw[show min (cb.2.2.length:Int) (p-2)=(n:Int)by omega];by_cases h3:n=0
     ·rw[if_pos h3]at e;rw[e]at dL;refine Ww ?_;exact aV (dL a2 c2)
     ·rw[if_neg h3]at e;rw[e]at dL;refine ao (FG rfl rfl (by omega) rfl ?_);refine rk (h:=?_);refine nc 8 [(0,false),(1,false),(2,false),(3,false),(4,false),(5,false),(6,false),(7,true),(8,false)] [Row pc 0 [.bool false,.int .i64 cat,sv cb]] mixed (by kernel_rfl) bd ?_;refine dD (h:=rn (h:=rn (h:=dD (h:=?_))));refine au rfl (Cu rfl rfl (jh:=n) rfl (by omega)) ?_;have R2:=Gw.oZ n (by omega);have e1:((cb.2.2.map bv).take (n*1))=(cb.2.2.take n).map bv:=by simp[zaM]
      rw[e1]at R2;refine aE rfl (aq rfl (Gr (cap:=c2) R2 (by omega) (by omega) (by omega) (by omega)) rfl ?_);rintro v C ⟨a3,c3,rfl,rfl⟩;refine dc (h:=df (h:=Ww ?_));exact aV (dL a3 c3)
    ·rw[if_neg h2]at e;obtain⟨n,hn⟩:∃n,cb.2.2.length=n:=⟨_,rfl⟩
     rw[hn]at e;by_cases h3:n=0
     ·rw[if_pos h3]at e;rw[e]at dL;refine Ww ?_;exact aV (dL a2 c2)
     ·rw[if_neg h3]at e;rw[e]at dL;refine Ww ?_;refine nc 8 [(0,false),(1,false),(2,false),(3,false),(4,false),(5,false),(6,false),(7,true),(8,false)] [Row pc 0 [.bool false,.int .i64 cat,sv cb]] mixed (by kernel_rfl) bd ?_;refine dD (h:=rn (h:=rn (h:=dD (h:=?_))));refine au rfl (Cu rfl rfl (jh:=n) (by simp[hn]) (by omega)) ?_;have R2:=Gw.oZ n (by omega);have e1:((cb.2.2.map bv).take (n*1))=(cb.2.2.take n).map bv:=by simp[zaM]
      rw[e1]at R2;refine aE rfl (aq rfl (Gr (cap:=c2) R2 (by omega) (by omega) (by omega) (by omega)) rfl ?_);rintro v C ⟨a3,c3,rfl,rfl⟩;refine dc (h:=df (h:=Ww ?_));exact aV (dL a3 c3)
   ·have e:kR bs (CX.mk true cat cb).abs p=(if p=0∧cat<bs.length then bs.take cat else bs):=by
     unfold kR;rw[if_neg h1,if_pos (by simp[CX.abs])];rfl
    by_cases h2:p=0
    ·by_cases h3:cat<bs.length
     ·rw[if_pos ⟨h2,h3⟩]at e;rw[e]at dL;refine Ww ?_;refine yS a2 fun _ jy=>?_;refine aw (h:=?_);refine qP rfl rfl (jh:=cat) rfl (by omega) rfl ?_;have R2:=(Sl.reads 1 a2 bs.length c2 (bs.map bv) (by simp)).oZ cat (by omega);have e1:((bs.map bv).take (cat*1))=(bs.take cat).map bv:=by simp[zaM]
      rw[e1]at R2;refine aw (h:=?_);refine aq rfl (s_ R2 (by omega)) rfl ?_;rintro v C ⟨a3,c3,rfl,rfl⟩;refine a_ (h:=Ww ?_);have el:(bs.take cat).length=cat:=by simp;omega
      rw[el]at dL;exact aV (dL a3 c3)
     ·rw[if_neg fun h=>h3 h.2]at e;rw[e]at dL;refine Ww ?_;exact aV (dL a2 c2)
    ·rw[if_neg fun h=>h2 h.1]at e;rw[e]at dL;refine Ww ?_;exact aV (dL a2 c2)
 ·refine Wl ?_;have e:j=x.aR.length:=by omega
  subst e;simp[gq]at hk;refine ap rfl [Row pa 0 [.int .i64 i'],Row pp 0 [.slice a ps.length cap],A,B,Sl 1 a2 bs.length c2 (bs.map bv)] ⟨i',a2,c2,bs,rfl,rfl,?_,en⟩ Sub.h;rw[←hk]
end
section
open Go.Proofs Tryz
open Go.Proofs
section
variable {P:Program} {X:Cx} {n:Nat} {ds:List Deferred} {ρ:aK} {Γ:List HP} {Nx:Value→List HP→Prop} {d:Nat} {ty:TypeId}
theorem Gx{t m e s j:Nat}{x ix:Operand}{vs us:List Value}{kk:IntKind}{i:Int}[T:iR P t m e s][A:cI P e s](hx:ev ρ x=some (.agg vs.toArray))(hi:ev ρ ix=some (.int kk i))(hj:i=(j:Int))(aN:j<m)(hu:(vs.drop (j*s)).take s=us)
 (hn:Nat.blt d n=true) (h:Nx (.agg us.toArray) Γ):bm P X n ds (some d) (.index t x ix) ty Nx ρ Γ:=
 b_ (by simp) hn fun ee o w ax aS he bg hs=>⟨_,w,Γ,by
  obtain⟨Az,inf,en,bZ⟩:=T.fL;subst hj hu;simp[execOp,ax,he x _ hx,he ix _ hi,Instr.index,asIntOf,cN Az,eB en,bZ,aN,part,cI.agg (s:=s)],hs,h⟩
end
theorem ak.Tg(b off:Nat)(Γ:List HP):ak Γ (Row b off []::Γ):=fun h s=>⟨h,⟨PH.emp,h,by
 show PH.emp=row b off [];funext k x;cases x with
 |none=>rfl
 |some i=>
  cases hr:row b off [] k (some i)with
  |none=>rfl
  |some e=>obtain⟨_,_,v,hv,_⟩:=ui hr;simp at hv,s,PH.Cc h,(PH.yA h).symm⟩,fun _ _ _ h=>h⟩
theorem ak.Th(b off:Nat)(xs ys:List Value)(Γ:List HP):ak (Row b off xs::Row b (off+xs.length) ys::Γ) (Row b off (xs++ys)::Γ):=by
 rintro h ⟨h1,_,rfl,⟨h2,r,rfl,hr,d2,rfl⟩,d1,rfl⟩;rw[PH.oj]at d1;exact⟨_,⟨_,r,rfl,hr,by rw[uj,PH.sB];exact⟨d1.2,d2⟩,rfl⟩,fun b' x e he=>by rw[uj,PH.join_assoc]at he;exact he⟩
theorem ak.wj(b off:Nat)(xs ys:List Value)(Γ:List HP):ak (Row b off (xs++ys)::Γ) (Row b off xs::Row b (off+xs.length) ys::Γ):=by
 rintro h ⟨h1,r,rfl,hr,d,rfl⟩;rw[uj,PH.sB]at d;exact⟨_,⟨_,_,rfl,⟨_,r,rfl,hr,d.2,rfl⟩,PH.oj.2 ⟨JS b off xs ys _ (zq _),d.1⟩,rfl⟩,fun b' x e he=>by rw[uj,PH.join_assoc];exact he⟩
abbrev PC(fs:List FX):HP:=dT (fun _ x=>gr x) fs
theorem FX.cl(x:FX):x.cells.length=3:=rfl
theorem ak.Ti(b:Nat):∀(fs:List FX) (k:Nat) (Γ:List HP),ak (Sep (dN (iw b) k fs)::Γ) (Row b (k*3) (fs.flatMap FX.cells)::Sep (dN (fun _ x=>gr x) k fs)::Γ):=by
 intro fs;induction fs with
 |nil=>intro k Γ;exact ak.Tg b (k*3) _
 |cons x fs ih=>
  intro k Γ;refine(ak.pop (iw b) k x fs Γ).trans ((ak.KX b k x _).trans ?_);refine(Sub.h (Δ:=Sep (dN (iw b) (k+1) fs)::Row b (k*3) x.cells::sp x.safe::sp x.now::Sl 3 x.ca x.aR.length x.cc (x.aR.flatMap CX.cells)::cK (x.aR.map CX.s)::Γ)).trans ?_;refine(ih (k+1) _).trans ?_;refine(ak.perm (Δ:=Row b (k*3) x.cells::Row b (k*3+x.cells.length) (fs.flatMap FX.cells)::Sep (dN (fun _ x=>gr x) (k+1) fs)::sp x.safe::sp x.now::Sl 3 x.ca x.aR.length x.cc (x.aR.flatMap CX.cells)::cK (x.aR.map CX.s)::Γ) ?_).trans ?_
  ·rw[FX.cl,show k*3+3=(k+1)*3 by omega];exact((List.Perm.swap _ _ _).cons _).trans (.swap _ _ _)
  ·refine(ak.Th b (k*3) x.cells _ _).trans ?_;rw[zT];refine ak.cons _ ?_;refine(Sub.h (Δ:=sp x.safe::sp x.now::Sl 3 x.ca x.aR.length x.cc (x.aR.flatMap CX.cells)::cK (x.aR.map CX.s)::Sep (dN (fun _ x=>gr x) (k+1) fs)::Γ)).trans ?_;refine(ak.cA [sp x.safe,sp x.now,Sl 3 x.ca x.aR.length x.cc (x.aR.flatMap CX.cells),cK (x.aR.map CX.s)] _).trans ?_;exact(ak.cons _ (ak.cx _ _)).trans (ak.cA (gr x::dN (fun _ x=>gr x) (k+1) fs) Γ)
theorem ak.Lj(b:Nat):∀(fs:List FX) (k:Nat) (Γ:List HP),ak (Row b (k*3) (fs.flatMap FX.cells)::Sep (dN (fun _ x=>gr x) k fs)::Γ) (Sep (dN (iw b) k fs)::Γ):=by
 intro fs;induction fs with
 |nil=>intro k Γ;exact ak.drop _ _
 |cons x fs ih=>
  intro k Γ;rw[zT];refine(ak.wj b (k*3) x.cells _ _).trans ?_;rw[FX.cl,show k*3+3=(k+1)*3 by omega];refine(Sub.h (Δ:=Sep (dN (fun _ x=>gr x) k (x::fs))::Row b ((k+1)*3) (fs.flatMap FX.cells)::Row b (k*3) x.cells::Γ)).trans ?_;refine(ak.pop (fun _ x=>gr x) k x fs _).trans ?_;refine(ak.cx [sp x.safe,sp x.now,Sl 3 x.ca x.aR.length x.cc (x.aR.flatMap CX.cells),cK (x.aR.map CX.s)] _).trans ?_;refine a_ (h:=?_);refine(Sub.h (Δ:=Row b ((k+1)*3) (fs.flatMap FX.cells)::Sep (dN (fun _ x=>gr x) (k+1) fs)::Row b (k*3) x.cells::sp x.safe::sp x.now::Sl 3 x.ca x.aR.length x.cc (x.aR.flatMap CX.cells)::cK (x.aR.map CX.s)::Γ)).trans ?_;refine(ih (k+1) _).trans ?_;refine(Sub.h (Δ:=Row b (k*3) x.cells::sp x.safe::sp x.now::Sl 3 x.ca x.aR.length x.cc (x.aR.flatMap CX.cells)::cK (x.aR.map CX.s)::Sep (dN (iw b) (k+1) fs)::Γ)).trans ?_;refine(ak.KY b k x _).trans ?_;exact(ak.cons _ (ak.cx _ _)).trans (ak.cA (iw b k x::dN (iw b) (k+1) fs) Γ)
theorem St.Tj{E:Env}{w:World}:∀{q:List BS} {Γ:List HP},St E (cK q::Γ) w→∀x∈q,x.2.2.length≤x.2.1:=by
 intro q;induction q with
 |nil=>intro Γ _ x hx;cases hx
 |cons y q ih=>
  intro Γ s x hx;have s1:=(ak.Gj y q Γ).st s;rw[zbe]at hx;rcases hx with rfl|hx
  ·exact s1.jJ.2.1
  ·exact ih (s1.perm (.swap _ _ _)) x hx
theorem ak.Lk(fs:List FX)(i:Nat)(h:i<fs.length)(Γ:List HP):ak (PC fs::Γ) (gr fs[i]::fb (fun _ x=>gr x) fs i::Γ):=ak.focus (fun _ x=>gr x) fs i h Γ
theorem ak.Tk(fs:List FX)(i:Nat)(h:i<fs.length)(Γ:List HP):ak (gr fs[i]::fb (fun _ x=>gr x) fs i::Γ) (PC fs::Γ):=ak.CT (fun _ x=>gr x) fs i h Γ
theorem St.Tl{E:Env}{w:World}{fs:List FX}{Γ:List HP}(s:St E (PC fs::Γ) w):∀x∈fs,∀c∈x.aR,c.s.2.2.length≤c.s.2.1:=by
 intro x hx c hc;obtain⟨i,hi,rfl⟩:=List.mem_iff_getElem.1 hx;have s1:=(ak.Lk fs i hi Γ).st s;have s2:=(ak.cx [sp fs[i].safe,sp fs[i].now,Sl 3 fs[i].ca fs[i].aR.length fs[i].cc (fs[i].aR.flatMap CX.cells),cK (fs[i].aR.map CX.s)] _).st s1;exact(St.Tj (s2.drop.drop.drop)) c.s (zaB hc)
def ma:List Fl→List Int→List (List UInt8)
 |[],_=>[]
 |x::fs,ps=>(gq x.safe x.aR ps).1::ma fs (gq x.safe x.aR ps).2
def Dk.Ll(d:Dk):Dk:={d with off:=true}
def Dk.fit(d:Dk):Prop:=∀x∈d.fs,x.safe.length≤2^39∧(∀c∈x.aR,c.aO+c.b.length≤2^39)∧x.aR.length≤2^40
theorem Tm{A:HP}{a:Option Addr}{cap:Nat}{ps:List Int}(b:Nat)(d:Dk)(R:Reads A 1 a ps.length (ps.map iv))(hl:ps.length≤2^63-1)(po:∀p∈ps,p≤9223372036854775807)(hd:d.fit):
 Spec prog 76 [dp b,.slice a ps.length cap] [aF b d,A] (fun v B=>∃(a':Option Addr) (bi:Nat) (q:List BS),v= .slice a' q.length bi∧cont q=ma d.fs ps∧B=[aF b d.Ll,A,lE a' bi q]):=by
 refine x_sp func76 ntmps76 fun E cs Γ=>?_;refine eg (h:=?_);refine dz (fun E w s=>s.oB) fun fs=>?_;refine bJ (Γ':=Row b 0 (fs.1.flatMap FX.cells)::PC fs.1::Hid (Flags b d.off d.uo d.ub)::A::Γ) ((ak.perm (.swap _ _ _)).trans ((ak.Ti b fs.1 0 _).trans (by rw[zbw];exact .refl _))) ?_;have h8:=fs.2.2.1;have rq:(fs.1.flatMap FX.cells).length=24:=by rw[lF FX.cl,h8]
 have fR:∀x∈fs.1,x.safe.2.2.length≤2^39∧(∀c∈x.aR,c.aO+c.s.2.2.length≤2^39)∧x.aR.length≤2^40:=by
  intro x hx;have h1:x.abs∈mO fs.1:=zaB hx;rw[fs.2.1]at h1;obtain⟨f1,f2,f3⟩:=hd _ h1;refine⟨f1,fun c hc=>f2 c.abs (zaB hc),by simpa[FX.abs]using f3⟩
 refine kN (fun E w s=>(s.perm (.swap _ _ _)).Tl) fun jy=>?_;refine nT (h:=?_);refine m8 rfl rfl rfl fun pp=>?_;refine ta (h:=?_);refine aC rfl fun pa=>?_;refine dO (h:=Gs (h:=Gt (h:=eR (h:=l9 (h:=?_)))));refine oW rfl rfl rfl ?_;refine eU (h:=?_);refine uq (us:=fs.1.flatMap FX.cells) rfl rfl (by simp[zo,rq]) rq rfl ?_;refine uN (h:=?_);have tc:=fs.2.1;refine aQ (α:=Nat×Nat×Option Addr×Nat×List BS) (fun q=>q.1≤8∧q.2.1≤ps.length∧cont q.2.2.2.2++ma ((fs.1.drop q.1).map FX.abs) (ps.drop q.2.1)=ma d.fs ps∧q.2.2.2.2.length=q.1)
  (fun q=>[(0,dp b),(6,.func (.func 122) #[] #[dp pa,dp pp]),(7,.slice q.2.2.1 q.2.2.2.2.length q.2.2.2.1),(14,.agg (fs.1.flatMap FX.cells).toArray),(15,iv q.1)])
  (fun q=>Row pa 0 [.int .i64 q.2.1]::Row pp 0 [.slice a ps.length cap]::A::Row b 0 (fs.1.flatMap FX.cells)::PC fs.1::Hid (Flags b d.off d.uo d.ub)::Sl 1 q.2.2.1 q.2.2.2.2.length q.2.2.2.1 (q.2.2.2.2.map sv)::cK q.2.2.2.2::Γ)
  (fun q=>8-q.1) (0,0,none,0,[]) ⟨zj _,zj _,by simp[cont,←tc,mO],rfl⟩ x_tv (((ak.cq 1 _).trans (ak.CR _)).trans (Sub.h (Δ:=Row pa 0 [.int .i64 0]::Row pp 0 [.slice a ps.length cap]::A::Row b 0 (fs.1.flatMap FX.cells)::PC fs.1::Hid (Flags b d.off d.uo d.ub)::Sl 1 none 0 0 []::cK []::Γ))) ?_
 rintro⟨j,i,a2,c2,q⟩ ⟨hj,hi,hk,hq⟩ back;dsimp only at hj hi hk hq back⊢;refine l9 (h:=?_);refine m7 rfl rfl rfl (fun h=>?_) (fun h=>?_)
 ·have jM:j<fs.1.length:=by omega
  obtain⟨x,hx⟩:∃x,fs.1[j]=x:=⟨_,rfl⟩
  have Gy:=fR x (hx ▸ zap jM);refine eU (h:=?_);refine Gx (us:=x.cells) rfl rfl (j:=j) rfl (by omega) ?_ rfl ?_
  ·rw[CS FX.cl,zW jM,zT,hx];rfl
  refine aw (h:=?_);refine aC rfl fun px=>?_;refine dO (h:=?_);refine Li (us:=x.cells) rfl rfl rfl (by rfl) (by rfl) ?_;refine eR (h:=nW (h:=fv (h:=?_)));refine uq (us:=x.cells) rfl rfl (by rfl) (by rfl) rfl ?_;refine iu (h:=?_);refine gh (Γ':=gr x::fb (fun _ x=>gr x) fs.1 j::Row pa 0 [.int .i64 i]::Row pp 0 [.slice a ps.length cap]::A::Row b 0 (fs.1.flatMap FX.cells)::Hid (Flags b d.off d.uo d.ub)::Sl 1 a2 q.length c2 (q.map sv)::cK q::Γ) ?_ ?_
  ·refine(Sub.h (Δ:=PC fs.1::Row pa 0 [.int .i64 i]::Row pp 0 [.slice a ps.length cap]::A::Row b 0 (fs.1.flatMap FX.cells)::Hid (Flags b d.off d.uo d.ub)::Sl 1 a2 q.length c2 (q.map sv)::cK q::Γ)).trans ?_;rw[←hx];exact ak.Lk fs.1 j jM _
  refine aw (h:=?_);refine aq rfl (Tf (cap:=cap) x pa pp i (gr.rd x) R hi hl Gy.1 (fun c hc=>⟨Gy.2.1 c hc,jy x (hx ▸ zap jM) c hc⟩) Gy.2.2 po) rfl ?_;rintro v C ⟨i',a3,c3,bs,rfl,rfl,Tn,en⟩;refine rc (h:=?_);refine cf rfl (by rfl) (by rfl) (by rfl) (by rfl) rfl fun a4=>?_;refine aw (h:=?_);refine cF rfl rfl (by rfl) (by rfl) (by rfl) (by omega) rfl fun a5 c5 hc=>?_;refine eU (h:=?_);refine sG rfl rfl (qa (by omega)) rfl ?_;refine Ar (h:=?_);have e:q.map sv++[.slice a3 bs.length c3]=(q++[(a3,c3,bs)]).map sv:=by simp[sv]
  have e2:q.length+1=(q++[(a3,c3,bs)]).length:=by simp
  rw[e,e2];refine bJ (Γ':=Row pa 0 [.int .i64 i']::Row pp 0 [.slice a ps.length cap]::A::Row b 0 (fs.1.flatMap FX.cells)::PC fs.1::Hid (Flags b d.off d.uo d.ub)::Sl 1 a5 (q++[(a3,c3,bs)]).length c5 ((q++[(a3,c3,bs)]).map sv)::cK (q++[(a3,c3,bs)])::Γ) ?_ ?_
  ·refine(Sub.h (Δ:=gr x::fb (fun _ x=>gr x) fs.1 j::Sl 1 a3 bs.length c3 (bs.map bv)::cK q::Row pa 0 [.int .i64 i']::Row pp 0 [.slice a ps.length cap]::A::Row b 0 (fs.1.flatMap FX.cells)::Hid (Flags b d.off d.uo d.ub)::Sl 1 a5 (q++[(a3,c3,bs)]).length c5 ((q++[(a3,c3,bs)]).map sv)::Γ)).trans ?_;have h1:=ak.Tk fs.1 j jM (Sl 1 a3 bs.length c3 (bs.map bv)::cK q::Row pa 0 [.int .i64 i']::Row pp 0 [.slice a ps.length cap]::A::Row b 0 (fs.1.flatMap FX.cells)::Hid (Flags b d.off d.uo d.ub)::Sl 1 a5 (q++[(a3,c3,bs)]).length c5 ((q++[(a3,c3,bs)]).map sv)::Γ);rw[hx]at h1;refine h1.trans ((ak.cons _ (ak.KU (a3,c3,bs) q _)).trans Sub.h)
  have To:(fs.1.drop j).map FX.abs=x.abs::(fs.1.drop (j+1)).map FX.abs:=by rw[zW jM,hx];rfl
  rw[To]at hk;have Tp:gq x.abs.safe x.abs.aR (ps.drop i)=(bs,ps.drop i'):=Tn.symm;exact aV (back (j+1,i',a5,c5,q++[(a3,c3,bs)]) ⟨by dsimp only;omega,en,by
   dsimp only;rw[←hk];show _=cont q++((gq x.abs.safe x.abs.aR (ps.drop i)).1::ma _ (gq x.abs.safe x.abs.aR (ps.drop i)).2);rw[Tp];simp[cont],by simp[hq]⟩ (by dsimp only;omega))
 ·have w7:j=8:=by omega
  subst w7;have qd:fs.1.drop 8=[]:=zU (by omega);rw[qd]at hk;simp only[zal,ma,zF]at hk;refine Wl ?_;refine gh (Γ':=Flags b d.off d.uo d.ub::nS b fs.1::A::Sl 1 a2 q.length c2 (q.map sv)::cK q::Γ) ?_ ?_
  ·refine(Sub.h (Δ:=Row b 0 (fs.1.flatMap FX.cells)::PC fs.1::Hid (Flags b d.off d.uo d.ub)::A::Sl 1 a2 q.length c2 (q.map sv)::cK q::Γ)).trans ?_;have:=ak.Lj b fs.1 0 (Hid (Flags b d.off d.uo d.ub)::A::Sl 1 a2 q.length c2 (q.map sv)::cK q::Γ);rw[zbw]at this;exact this.trans (ak.perm (.swap _ _ _))
  refine dO (h:=Gs (h:=Gt (h:=Wl ?_)));refine ap rfl [aF b d.Ll,A,lE a2 c2 q] ⟨a2,c2,q,rfl,hk,rfl⟩ ?_;refine(ak.wV (b:=b) (o:=true) fs fs.2.2.2.1 fs.2.2.2.2 _).trans ?_;refine(Sub.h (Δ:=Sl 1 a2 q.length c2 (q.map sv)::cK q::aF b ⟨d.fs,true,d.uo,d.ub⟩::A::Γ)).trans ?_;refine(ak.SN a2 c2 q _).trans ?_;exact(Sub.h (Δ:=aF b ⟨d.fs,true,d.uo,d.ub⟩::A::lE a2 c2 q::Γ))
end
section
open Go.Proofs Tryz
open Go.Proofs
theorem Tq{P:Program}{X:Cx}{n:Nat}{ds:List Deferred}{ρ:aK}{Γ:List HP}{Nx:Value→List HP→Prop}{ty:TypeId}{t s:Nat}{x y:Operand}{b o off:Nat}{vs us:List Value}{K:HP→List HP}[T:cI P t s](hx:ev ρ x=some (.pointer (some ⟨b,o,none⟩)))(hy:ev ρ y=some (.agg us.toArray))(ju:us.length=s)(h1:us.all Value.oneCell'=true)
 [H:km Γ b off vs K] (ho:o=off) (hl:us.length=vs.length) (h:Nx undef (K (Row b off us))):bm P X n ds none (.store t x y) ty Nx ρ Γ:=by
 subst ho;refine jH (off:=o) (vs:=vs) (K:=K) hx hy ju h1 (by simp[za9]) (by omega) ?_;have e:vs.take (o-o)++us++vs.drop (o-o+us.length)=us:=by
  rw[zU (by omega)];simp
 rw[e];exact h
def may(l:List (List UInt8)):Bool:=(l.length==0||l.length==8)&&l.all fun b=>decide (b.length≤131072)
def dE(b:List UInt8):Fl:=⟨b,[],b⟩
def lI(l:List (List UInt8))(j:Nat):Dk:=⟨(l.take j).map dE++List.replicate (8-j) (dE []),false,0,0⟩
def f_(l:List (List UInt8)):Dk:=lI l l.length
def zx:FX:=⟨(none,0,[]),none,0,[],(none,0,[])⟩
theorem ak.Ts(Γ:List HP):ak Γ (gr zx::Γ):=by
 refine((ak.CR Γ).trans ((ak.cq 3 _).trans ((ak.cq 1 _).trans (ak.cq 1 _)))).trans ?_;exact ak.cA [sp zx.safe,sp zx.now,Sl 3 zx.ca zx.aR.length zx.cc (zx.aR.flatMap CX.cells),cK (zx.aR.map CX.s)] Γ
theorem ak.Tt(Γ:List HP):∀(n k:Nat),ak Γ (Sep (dN (fun _ x=>gr x) k (List.replicate n zx))::Γ):=by
 intro n;induction n with
 |zero=>intro k;exact ak.cA [] Γ
 |succ n ih=>
  intro k;refine(ih (k+1)).trans ((ak.cons _ (ak.Ts Γ)).trans ?_);refine(ak.cx _ _).trans ?_;refine ak.trans (ak.perm ?_) (ak.cA (gr zx::dN (fun _ x=>gr x) (k+1) (List.replicate n zx)) Γ);exact zau
theorem ak.Tu(b:Nat)(Γ:List HP)(vs:List Value)(hv:vs=(List.replicate 8 zx).flatMap FX.cells++[.bool false,.int .i64 0,.int .i64 0])(l:List (List UInt8)):ak (Row b 0 vs::Γ) (aF b (lI l 0)::Γ):=by
 subst hv;refine(ak.wj b 0 _ _ Γ).trans ?_;have hl:((List.replicate 8 zx).flatMap FX.cells).length=24:=rfl;rw[hl];refine(ak.cons _ (ak.cons _ (ak.Tt Γ 8 0))).trans ?_;refine(Sub.h (Δ:=Row b (0*3) ((List.replicate 8 zx).flatMap FX.cells)::Sep (dN (fun _ x=>gr x) 0 (List.replicate 8 zx))::Row b (0+24) [.bool false,.int .i64 0,.int .i64 0]::Γ)).trans ?_;refine(ak.Lj b (List.replicate 8 zx) 0 _).trans ((ak.perm (.swap _ _ _)).trans ?_);exact ak.CU (d:=lI l 0) (List.replicate 8 zx) ⟨rfl,rfl,zj _,zj _⟩ Γ
theorem Lm{A:HP}{a:Option Addr}{cap:Nat}{q:List BS}(R:q_ A a q)(hc:q.length≤2^63-1):
 Spec prog 17 [.slice a q.length cap] [A] (fun v B=>(may (cont q)=true∧∃b,v= .tuple #[dp b,.int .i64 0]∧B=[A,aF b (f_ (cont q))])∨(may (cont q)=false∧v= .tuple #[.pointer none,.int .i64 1]∧B=[A])):=by
 refine x_sp func17 ntmps17 fun E cs Γ=>?_;refine jx (h:=?_);have ja:may (cont q)=true↔(q.length=0∨q.length=8)∧nR q=false:=by
  unfold may nR cont;simp
 refine nT (h:=?_);refine Cm rfl rfl ?_;refine aw (h:=?_);refine Cm rfl rfl ?_;refine eR (h:=?_);refine uH (α:=Unit) (fun _=>(q.length=0∨q.length=8)∧nR q=false) (fun _=>[(0,.slice a q.length cap)]) (fun _=>A::Γ) ?_ ?_
 ·rintro-⟨Tv,ga⟩;have fC:=ja.2 ⟨Tv,ga⟩;have hlen:∀x∈q,x.2.2.length≤131072:=fun x hx=>by
   unfold nR at ga;have:=List.any_eq_false.1 ga x hx;simpa using this
  have fj:(cont q).length=q.length:=by simp[cont]
  refine l9 (h:=?_);refine lV rfl rfl rfl ?_;refine aw (h:=?_);refine aM rfl rfl fun b=>?_;refine gh (ak.Tu b _ _ rfl (cont q)) ?_;refine Wl ?_;refine aQ (α:=Nat) (fun j=>j≤q.length) (fun j=>[(4,dp b),(21,.slice a q.length cap),(22,iv q.length),(23,iv j)]) (fun j=>aF b (lI (cont q) j)::A::Γ)
   (fun j=>q.length-j) 0 (zj _) ⟨rfl,rfl,rfl,rfl,trivial⟩ (.refl _) ?_
  intro j hj back;refine l9 (h:=?_);refine m7 rfl rfl rfl (fun h=>?_) (fun h=>?_)
  ·have jM:j<q.length:=by omega
   have w7:j<8:=by omega
   refine eU (h:=?_);refine bK rfl rfl R.1 (j:=j) rfl jM rfl fun b1 off ha=>?_;refine aw (h:=?_);refine fM rfl R.1 ha (i:=j) (by omega) (uA sv jM) rfl ?_;refine qh (h:=?_);refine dz (fun E w s=>s.oB) fun fs=>?_;refine bJ (ak.open fs w7 _ (A::Γ)) ?_;have uL:=fun y Θ=>ak.close (b:=b) (o:=(lI (cont q) j).off) (u:=(lI (cont q) j).uo) (v:=(lI (cont q) j).ub) fs w7 y (zj _) (zj _) Θ;refine nc 10 [(0,false),(1,false),(2,false),(4,false),(7,false),(8,false),(9,false),(3,true),(5,true),(6,false),(10,true)] [] mixed (by kernel_rfl) Gf ?_;refine dK (h:=dK (h:=pu (h:=?_)));refine au rfl (du rfl rfl (j:=j) rfl w7) ?_;have AA:q[j].2.2.length≤2^45:=by have:=hlen _ (zap jM);omega
   refine aE rfl (aq rfl (s_ (R.get jM) AA) rfl ?_);rintro v B ⟨a1,c1,rfl,rfl⟩;refine⟨Gf,?_⟩;refine a_ (h:=?_);refine aE rfl (aq rfl (s_ (R.get jM) AA) rfl ?_);rintro v B ⟨a2,c2,rfl,rfl⟩;refine⟨Gf,?_⟩;refine a_ (h:=?_);refine au rfl (yL rfl rfl) ?_;refine bN rfl rfl ?_;refine Tq rfl rfl (by rfl) (by rfl) (by omega) (by rfl) ?_;refine wY (h:=nW (h:=aw (h:=?_)));refine sG rfl rfl (qa (by omega)) rfl ?_;refine Ar (h:=?_);refine bJ (Γ':=aF b (lI (cont q) (j+1))::A::Γ) ?_ ?_
   ·refine((ak.cq 3 _).trans (ak.CR _)).trans ?_;refine ak.trans ?_ ((uL ⟨(a1,c1,q[j].2.2),none,0,[],(a2,c2,q[j].2.2)⟩ (A::Γ)).trans ?_)
    ·exact(Sub.h (Δ:=Row b (j*3) [.slice a1 q[j].2.2.length c1,.slice none 0 0,.slice a2 q[j].2.2.length c2]::Sl 1 a1 q[j].2.2.length c1 (q[j].2.2.map bv)::Sl 1 a2 q[j].2.2.length c2 (q[j].2.2.map bv)::Sl 3 none 0 0 []::cK []::fb (iw b) fs.1 j::Hid (Flags b (lI (cont q) j).off (lI (cont q) j).uo (lI (cont q) j).ub)::A::Γ))
    ·have e:(⟨(lI (cont q) j).fs.set j (dE q[j].2.2),false,0,0⟩:Dk)=lI (cont q) (j+1):=by
      unfold lI;congr 1;have te:j<(cont q).length:=by rw[fj];exact jM
      have hg:(cont q)[j]=q[j].2.2:=by simp[cont]
      have h9:((cont q).take j).length=j:=by simp;omega
      rw[za1 te,hg,show 8-j=8-(j+1)+1 by omega,zbl];rw[za6 _ _ (by simp;omega),zm,h9,zbX];simp
     rw[←e];exact .refl _
   exact aV (back (j+1) (by omega) (by omega))
  ·refine Wl ?_;have e:j=q.length:=by omega
   subst e;refine ap rfl [A,aF b (f_ (cont q))] (.inl ⟨fC,b,rfl,rfl⟩) ?_;unfold f_;rw[fj];exact Sub.h
 ·intro td back;by_cases h1:0<q.length∧q.length≠8
  ·obtain⟨h1,h2⟩:=h1;refine Ww ?_;refine ap rfl [A] (.inr ⟨?_,rfl,rfl⟩) Sub.h;cases hm:may (cont q)with
   |false=>rfl
   |true=>have:=ja.1 hm;omega
  ·have key:q.length=0∨q.length=8:=by omega
   rcases key with h0|h0
   all_goals
    (first|(refine yB (Cj ?_);refine ao (lr rfl rfl ?_);refine ao (yG rfl rfl ?_);refine ao (FG rfl rfl (by omega) rfl ?_);refine ao (lr rfl rfl ?_);refine m5 rfl (lr rfl rfl ?_);refine m5 rfl (yG rfl rfl ?_);refine m5 rfl (Cs rfl rfl (by omega) rfl ?_);refine ao (Fx rfl rfl rfl ?_);refine ao (lr rfl rfl ?_);refine m5 rfl (lr rfl rfl ?_))|(refine yB (Cj ?_);refine ao (lr rfl rfl ?_);refine ao (yG rfl rfl ?_);refine ao (FH rfl rfl (by omega) rfl ?_);refine ao (lr rfl rfl ?_);refine Fv rfl rfl rfl ?_;refine Fv rfl rfl rfl ?_;refine Fv rfl rfl rfl ?_;refine ao (Fy rfl rfl rfl ?_);refine ao (lr rfl rfl ?_);refine m5 rfl (lr rfl rfl ?_)))
    refine fT (h:=?_);refine aq rfl (SX R hc) rfl ?_;refine de (h:=?_);cases ht:nR q
    ·refine Ww ?_;exact aV (back () ⟨by omega,ht⟩)
    ·refine Ww ?_;refine ap rfl [A] (.inr ⟨?_,rfl,rfl⟩) Sub.h;cases hm:may (cont q)with
     |false=>rfl
     |true=>have:=(ja.1 hm).2;rw[ht]at this;cases this
end
section
open Go.Proofs Tryz
open Go.Proofs
section
variable {P:Program} {X:Cx} {n:Nat} {ds:List Deferred} {ρ:aK} {Γ:List HP} {Nx:Value→List HP→Prop} {d:Nat} {ty:TypeId}
end
def Fl.b9(n:Nat)(x:Fl):Prop:=x.now.length≤131072∧x.safe.length≤131072∧(∀c∈x.aR,c.aO+c.b.length≤131072)∧x.aR.length≤n*131073
def Dk.b9(n:Nat)(d:Dk):Prop:=d.fs.length=8∧∀x∈d.fs,x.b9 n
theorem Fl.b9.mono{n m:Nat}{x:Fl}(h:x.b9 n)(hm:n≤m):x.b9 m:=⟨h.1,h.2.1,h.2.2.1,z9 h.2.2.2 (zn _ hm)⟩
theorem Dk.b9.mono{n m:Nat}{d:Dk}(h:d.b9 n)(hm:n≤m):d.b9 m:=⟨h.1,fun x hx=>(h.2 x hx).mono hm⟩
theorem Dk.b9.small{n:Nat}{d:Dk}(h:d.b9 n)(hn:n≤2^20):d.small:=fun x hx=>by
 obtain⟨a,b,_,c⟩:=h.2 x hx;have:=zn 131073 hn;exact⟨by omega,by omega,by omega⟩
theorem Dk.b9.fit{n:Nat}{d:Dk}(h:d.b9 n)(hn:n≤2^20):d.fit:=fun x hx=>by
 obtain⟨a,b,c,e⟩:=h.2 x hx;have:=zn 131073 hn;exact⟨by omega,fun y hy=>by have:=c y hy;omega,by omega⟩
theorem Dk.b9.fs{n:Nat}{d:Dk}(h:d.b9 n)(d':Dk)(e:d'.fs=d.fs):d'.b9 n:=⟨by rw[e];exact h.1,by rw[e];exact h.2⟩
theorem Dk.b9.set{n:Nat}{d:Dk}(h:d.b9 n)(d':Dk)(i:Nat)(y:Fl)(hy:y.b9 n)(e:d'.fs=d.fs.set i y):d'.b9 n:=by
 refine⟨by rw[e];simpa using h.1,fun x hx=>?_⟩;rw[e]at hx;rcases zag hx with hx|rfl
 ·exact h.2 x hx
 ·exact hy
theorem Dk.b9.file{n:Nat}{d:Dk}(h:d.b9 n)(f:Int):(d.file f).b9 n:=by
 unfold Dk.file;rw[ze];cases hf:d.fs[f.toNat]? with
 |none=>exact⟨zj _,zj _,fun c hc=>(by cases hc),zj _⟩
 |some x=>exact h.2 x (zc hf)
theorem w8(d:Dk):d.step.fs=d.fs:=(At d).2.2.2
theorem Tw(l:List (List UInt8))(h:may l=true):(f_ l).b9 0:=by
 unfold may at h;simp only[zh,zM,beq_iff_eq,zaQ,decide_eq_true_eq]at h;obtain⟨h1,h2⟩:=h;refine⟨by simp[f_,lI];omega,fun x hx=>?_⟩;simp only[f_,lI,zu,zL,zbY,List.mem_replicate]at hx;rcases hx with ⟨b,hb,rfl⟩|⟨_,rfl⟩
 ·exact⟨h2 b hb,h2 b hb,fun c hc=>(by cases hc),zj _⟩
 ·exact⟨zj _,zj _,fun c hc=>(by cases hc),zj _⟩
theorem C0{n:Nat}{d:Dk}(h:d.b9 n)(f p:Int)(b:List UInt8):(d.write f p b).1.b9 (n+1):=by
 have h':=h.mono (za8 n 1);unfold Dk.write;split
 ·exact h'.fs _ (w8 d)
 ·split
  ·exact h'.fs _ (w8 d)
  ·split
   ·exact h'.fs _ (w8 d)
   ·rename_i h1 h2 h3;refine h'.set _ f.toNat ((d.file f).write p.toNat b) ?_ rfl;obtain⟨a1,a2,a3,a4⟩:=h.file f;refine⟨?_,a2,?_,?_⟩
    ·show(cQ (d.file f).now p.toNat b).length≤_;rw[kq];omega
    ·intro c hc;rcases zL.1 hc with hc|hc
     ·exact a3 c hc
     ·obtain⟨y,hy,rfl⟩:=zbY.1 hc;have:=Lb _ _ _ y hy;dsimp only;omega
    ·show((d.file f).aR++np p.toNat b).length≤_;have:=La b.length p.toNat b;rw[zd,np,zm];rw[zA];omega
theorem Ty{n:Nat}{d:Dk}(h:d.b9 n)(f p:Int):(d.cut f p).1.b9 (n+1):=by
 have h':=h.mono (za8 n 1);unfold Dk.cut;split
 ·exact h'.fs _ (w8 d)
 ·split
  ·exact h'.fs _ (w8 d)
  ·rename_i h1 h2;refine h'.set _ f.toNat ((d.file f).cut p.toNat) ?_ rfl;obtain⟨a1,a2,a3,a4⟩:=h.file f;refine⟨?_,a2,?_,?_⟩
   ·show((d.file f).now.take p.toNat).length≤_;simp;omega
   ·intro c hc;rcases zL.1 hc with hc|hc
    ·exact a3 c hc
    ·rw[zbr]at hc;subst hc;simp;omega
   ·show((d.file f).aR++[_]).length≤_;rw[zd,zC,zA];omega
theorem Ln{n:Nat}{d:Dk}(h:d.b9 n)(f:Int):(d.sync f).1.b9 (n+1):=by
 have h':=h.mono (za8 n 1);unfold Dk.sync;split
 ·exact h'.fs _ (w8 d)
 ·refine h'.set _ f.toNat (d.file f).sync ?_ rfl;obtain⟨a1,a2,a3,a4⟩:=h.file f;exact⟨a1,a1,fun c hc=>(by cases hc),zj _⟩
theorem Reads.Gz(s:Nat):Reads jr s none 0 []:=⟨by simp,fun _ _ _ _=> .inl rfl⟩
theorem q_.Gz:q_ jr none []:=⟨Reads.Gz 1,fun x hx=>by cases hx⟩
theorem Lo:Spec prog 17 [.slice none 0 0] [] (fun v B=>∃b,v= .tuple #[dp b,.int .i64 0]∧B=[jr,aF b (f_ [])]):=by
 have:=(Lm (A:=jr) (a:=none) (cap:=0) (q:=[]) q_.Gz (by decide)).pre (A':=[]) (jr.intro []);refine this.mono ?_;rintro v B (⟨_,b,rfl,rfl⟩|⟨h,_⟩)
 ·exact⟨b,rfl,rfl⟩
 ·cases h
end
section
open Go.Proofs Tryz
open Go.Proofs
abbrev Tx:=List UInt8
abbrev tv(s:List UInt8):Value:= .string (bC s)
def dY(n:Nat)(t:Tx):List UInt8:=[0,UInt8.ofNat (t.length/256),UInt8.ofNat (t.length%256)]++List.replicate 13 0++t++List.replicate (n-16-t.length) 0
theorem tf{n:Nat}{t:Tx}(h:t.length+16≤n):(dY n t).length=n:=by simp[dY];omega
def jA(d:Dk)(f p:Nat)(b:List UInt8):Dk×Int:=
 if (d.write f p b).2≠0 then d.write f p b else (d.write f p b).1.sync f
def mark(d:Dk)(f n slot:Nat)(m:UInt8):Dk×Int:=jA d f (slot*n) [m]
def eN(d:Dk)(f n slot:Nat)(t:Tx):Dk×Int:=
 if (jA d f (slot*n) (dY n t)).2≠0 then jA d f (slot*n) (dY n t)else mark (jA d f (slot*n) (dY n t)).1 f n slot 1
theorem C1{N:Nat}{d:Dk}(h:d.b9 N)(f p:Nat)(b:List UInt8):(jA d f p b).1.b9 (N+2):=by
 unfold jA;split
 ·exact(C0 h f p b).mono (by omega)
 ·exact Ln (C0 h f p b) f
theorem C2{N:Nat}{d:Dk}(h:d.b9 N)(f n slot:Nat)(m:UInt8):(mark d f n slot m).1.b9 (N+2):=C1 h _ _ _
theorem GA{N:Nat}{d:Dk}(h:d.b9 N)(f n slot:Nat)(t:Tx):(eN d f n slot t).1.b9 (N+4):=by
 unfold eN;split
 ·exact(C1 h _ _ _).mono (by omega)
 ·exact C2 (C1 h _ _ _) f n slot 1
abbrev eu(b f n:Nat)(sl:Value)(fl:Bool):List Value:=[dp b,.int .i64 f,.int .i64 n,sl,.bool fl]
theorem GC{a b A B:Nat}(h1:a≤A)(h2:b≤B):a*b≤A*B:=zaZ h1 h2
theorem GD{N:Nat}(ps b f n:Nat)(sl:Value)(fl:Bool)(d:Dk)(slot:Nat)(m:UInt8)(bn:d.b9 N)(hN:N+10≤2^20)(hn:n≤2^20)(dP:slot≤2^20):
 Spec prog 173 [dp ps,.int .i64 slot,bv m] [Row ps 0 (eu b f n sl fl),aF b d] (fun v B=>v= .int .i64 (mark d f n slot m).2∧B=[Row ps 0 (eu b f n sl fl),aF b (mark d f n slot m).1]):=by
 have hm:=GC dP hn;refine x_sp func173 ntmps173 fun E cs Γ=>?_;refine eg (h:=?_);have hw:=C0 bn f (slot*n:Nat) [m];refine Wl ?_;refine nc 18 [(0,false),(1,false),(2,false),(3,false),(4,false),(5,false),(6,false),(7,false),(8,false),(9,false),(10,false),(11,false),(12,false),(13,false),(14,false),(15,true),(16,true),(17,false)] [Row ps 0 (eu b f n sl fl)] mixed (by kernel_rfl) bd ?_;refine Wt ?_;refine au rfl (Cr rfl rfl (gE (by rw[←zav];omega))) ?_;rw[←zav];refine dD (h:=?_);refine aE rfl (cf rfl (by rfl) (by rfl) (by rfl) (by rfl) rfl fun a2=>?_);refine kx (h:=?_);have RB:Reads (Sl 1 a2 1 1 [bv m]) 1 a2 ([m]:List UInt8).length (([m]:List UInt8).map bv):=Sl.reads 1 a2 1 1 [bv m] rfl;refine aE rfl (aq rfl (Ld (bs:=[m]) (cap:=1) b d f (slot*n:Nat) RB (by simp) (bn.small (by omega))) rfl ?_);refine w9 (h:=?_);by_cases h:(d.write f (slot*n:Nat) [m]).2=0
 ·have e:mark d f n slot m=(d.write f (slot*n:Nat) [m]).1.sync f:=by unfold mark jA;rw[if_neg (by simpa using h)]
  rw[h];refine Wv ?_;refine nc 9 [(0,false),(1,false),(2,false),(3,false),(4,false),(5,false),(6,false),(7,false),(8,true),(9,false)] [Row ps 0 (eu b f n sl fl)] mixed (by kernel_rfl) bd ?_;refine Wt ?_;refine aE rfl (aq rfl (Gu b _ f (hw.small (by omega))) rfl ?_);refine w9 (h:=?_);exact ap rfl [Row ps 0 (eu b f n sl fl),aF b (mark d f n slot m).1] ⟨by rw[e];rfl,rfl⟩ (by rw[e];exact Sub.h)
 ·have e:mark d f n slot m=d.write f (slot*n:Nat) [m]:=by unfold mark jA;rw[if_pos h]
  refine Wv ?_;exact ap rfl [Row ps 0 (eu b f n sl fl),aF b (mark d f n slot m).1] ⟨by rw[e];rfl,rfl⟩ (by rw[e];exact Sub.h)
end
section
open Go.Proofs Tryz
open Go.Proofs
theorem Tz{n:Nat}{t:Tx}(h:t.length+16≤n):
 (let xs:=(((List.replicate n (0:UInt8)).map bv).set 1 (bv (UInt8.ofNat (t.length/256)))).set 2 (bv (UInt8.ofNat (t.length%256)));
  xs.take 16++(t.take (min t.length (n-16))).map bv++xs.drop (16+min t.length (n-16)))=(dY n t).map bv:=by
 obtain⟨k,rfl⟩:∃k,n=16+k:=⟨n-16,by omega⟩
 have hk:t.length≤k:=by omega
 rw[show min t.length (16+k-16)=t.length by omega,zu];simp only[←zak,←zaM,←zbM,←zg];congr 1;unfold dY;rw[show List.replicate (16+k) (0:UInt8)=[0,0,0]++List.replicate 13 0++List.replicate k 0 by
  rw[show[(0:UInt8),0,0]=List.replicate 3 0 from rfl,List.replicate_append_replicate,List.replicate_append_replicate]]
 rw[show 16+k-16-t.length=k-t.length by omega];simp only[zl,zB,zaJ,List.set_cons_zero,zr];rw[show 16+t.length=13+t.length+1+1+1 by omega];simp only[List.drop_succ_cons];rw[show(16:Nat)=13+1+1+1 from rfl];simp only[List.take_succ_cons,zl];rw[zaL (by simp),←zaS,zbK (by simp),List.drop_replicate]
theorem TB(l:Nat):IntKind.u8.wrap ((l:Int)/256)=((UInt8.ofNat (l/256)).toNat:Int):=by
 simp[IntKind.wrap,IntKind.bits,IntKind.signed]
theorem TC(l:Nat):IntKind.u8.wrap (l:Int)=((UInt8.ofNat (l%256)).toNat:Int):=by
 simp[IntKind.wrap,IntKind.bits,IntKind.signed]
theorem Lp{N:Nat}(ps b f n:Nat)(sl:Value)(fl:Bool)(d:Dk)(slot:Nat)(t:Tx)(bn:d.b9 N)(hN:N+20≤2^20)(hn:n≤2^20)(dP:slot≤2^20)(ht:t.length+16≤n):
 Spec prog 185 [dp ps,.int .i64 slot,.string (bC t)] [Row ps 0 (eu b f n sl fl),aF b d] (fun v B=>v= .int .i64 (eN d f n slot t).2∧B=[Row ps 0 (eu b f n sl fl),aF b (eN d f n slot t).1]):=by
 have hm:=GC dP hn;refine x_sp func185 ntmps185 fun E cs Γ=>?_;refine eg (h:=?_);have hw:=C0 bn f (slot*n:Nat) (dY n t);have TD:=C1 bn f (slot*n) (dY n t);refine eU (h:=?_);refine F1 rfl rfl (m:=n) rfl rfl (by rfl) (by omega) (by omega) rfl fun a7=>?_;rw[show zs [Value.int IntKind.u8 0] n=(List.replicate n (0:UInt8)).map bv by rw[FZ];simp[bv]];refine Wl ?_;rw[dV];refine aw (h:=?_);refine wu rfl rfl ⟨by omega,by simp[IntKind.bits]⟩ rfl ?_;rw[show((t.length:Nat):Int).fdiv (2^(8:Int).toNat)=(t.length:Int)/256 by rw[zbt _ (by decide)];rfl];refine aw (h:=?_);refine ft rfl rfl ?_;rw[TB,show Value.int .u8 ((UInt8.ofNat (t.length/256)).toNat:Int)=bv (UInt8.ofNat (t.length/256))from rfl];refine iu (h:=?_);refine ao (Kl rfl rfl ?_);rw[dV];refine aw (h:=?_);refine ft rfl rfl ?_;rw[TC,show Value.int .u8 ((UInt8.ofNat (t.length%256)).toNat:Int)=bv (UInt8.ofNat (t.length%256))from rfl];have RS:=Sl.reads 1 a7 n n ((List.replicate n (0:UInt8)).map bv) (by simp);have TE:=Sl.reads 1 a7 n n (((List.replicate n (0:UInt8)).map bv).set 1 (bv (UInt8.ofNat (t.length/256)))) (by simp);refine aw (h:=?_);refine bK rfl rfl RS (j:=1) rfl (by omega) rfl fun b1 off ha=>?_;refine dO (h:=?_);refine gm rfl rfl rfl ha (i:=1) (by omega) (by simp;omega) ?_;refine aw (h:=?_);refine bK rfl rfl TE (j:=2) rfl (by omega) rfl fun b1 off ha=>?_;refine dO (h:=?_);refine gm rfl rfl rfl ha (i:=2) (by omega) (by simp;omega) ?_;refine uM (h:=fv (h:=?_));refine oX rfl rfl (jl:=16) rfl (by omega) rfl ?_;refine fv (h:=?_);refine Sd (lo:=16) rfl rfl (by omega) rfl ?_;have Lq:=Tz ht;dsimp only at Lq;refine gh (Γ':=Sl 1 a7 n n ((dY n t).map bv)::Row ps 0 (eu b f n sl fl)::aF b d::Γ) (by rw[←Lq];exact .refl _) ?_;have mb:=tf ht;have RB:Reads (Sl 1 a7 n n ((dY n t).map bv)) 1 a7 (dY n t).length ((dY n t).map bv):=by rw[mb];exact Sl.reads 1 a7 n n _ (by simp[mb])
 have SW:=Ld (cap:=n) b d f (slot*n:Nat) RB (by rw[mb];exact zq _) (bn.small (by omega));rw[mb]at SW;refine eR (h:=lJ (h:=?_));refine nc 17 [(0,false),(1,false),(2,false),(3,false),(4,false),(5,false),(6,false),(7,false),(8,false),(9,false),(10,false),(11,false),(12,false),(13,false),(14,false),(15,true),(16,false)] [Row ps 0 (eu b f n sl fl)] mixed (by kernel_rfl) bd ?_;refine Wt ?_;refine au rfl (Cr rfl rfl (gE (by rw[←zav];omega))) ?_;rw[←zav];refine dD (h:=?_);refine aE rfl (aq rfl SW rfl ?_);refine w9 (h:=?_);by_cases h:(d.write f (slot*n:Nat) (dY n t)).2=0
 ·have e1:jA d f (slot*n) (dY n t)=(d.write f (slot*n:Nat) (dY n t)).1.sync f:=by unfold jA;rw[if_neg (by simpa using h)]
  rw[h];refine Wv ?_;refine nc 10 [(0,false),(1,false),(2,false),(3,false),(4,false),(5,false),(6,false),(7,false),(8,true),(9,false)] [Row ps 0 (eu b f n sl fl)] mixed (by kernel_rfl) bd ?_;refine Wt ?_;refine aE rfl (aq rfl (Gu b _ f (hw.small (by omega))) rfl ?_);refine mc (h:=?_);rw[←e1];refine df (h:=?_);by_cases h2:(jA d f (slot*n) (dY n t)).2=0
  ·have e:eN d f n slot t=mark (jA d f (slot*n) (dY n t)).1 f n slot 1:=by unfold eN;rw[if_neg (by simpa using h2)]
   rw[h2];refine ew (h:=?_);refine aq rfl (GD ps b f n sl fl _ slot 1 TD (by omega) hn dP) rfl ?_;refine de (h:=bU (h:=?_));exact ap rfl [Row ps 0 (eu b f n sl fl),aF b (eN d f n slot t).1] ⟨by rw[e];rfl,rfl⟩ (by rw[e];exact Sub.h)
  ·have e:eN d f n slot t=jA d f (slot*n) (dY n t):=by unfold eN;rw[if_pos h2]
   refine Wv ?_;exact ap rfl [Row ps 0 (eu b f n sl fl),aF b (eN d f n slot t).1] ⟨by rw[e];rfl,rfl⟩ (by rw[e];exact Sub.h)
 ·have e1:jA d f (slot*n) (dY n t)=d.write f (slot*n:Nat) (dY n t):=by unfold jA;rw[if_pos h]
  have e:eN d f n slot t=d.write f (slot*n:Nat) (dY n t):=by unfold eN;rw[e1,if_pos h]
  refine Wv ?_;exact ap rfl [Row ps 0 (eu b f n sl fl),aF b (eN d f n slot t).1] ⟨by rw[e];rfl,rfl⟩ (by rw[e];exact Sub.h)
end
section
open Go.Proofs Tryz
open Go.Proofs
abbrev En:=Option Tx
def bY:En→List Value
 |none=>[.bool false,.string (bC [])]
 |some t=>[.bool true,.string (bC t)]
theorem lK(e:En):(bY e).length=2:=by cases e<;>rfl
theorem Lr(e:En):(bY e)[0]? =some (.bool e.isSome):=by cases e<;>rfl
def Tx.of(e:En):Tx:=e.getD []
theorem Ls(e:En):bY e=[.bool e.isSome,.string (bC (Tx.of e))]:=by cases e<;>rfl
structure Sh where
 f:Nat
 n:Nat
 es:List En
 failed:Bool
def cO(ps b:Nat)(s:Sh):HP:=Any fun q:Option Addr×Nat=>Sep [Row ps 0 (eu b s.f s.n (.slice q.1 s.es.length q.2) s.failed),Sl 2 q.1 s.es.length q.2 (s.es.flatMap bY)]
theorem St.jd{E:Env}{ps b:Nat}{s:Sh}{Γ:List HP}{w:World}(st:St E (cO ps b s::Γ) w):∃q:Option Addr×Nat,St E (Row ps 0 (eu b s.f s.n (.slice q.1 s.es.length q.2) s.failed)::Sl 2 q.1 s.es.length q.2 (s.es.flatMap bY)::Γ) w:=by
 obtain⟨q,st⟩:=st.ex;exact⟨q,(ak.cx [_,_] Γ).st st⟩
theorem ak.jd{ps b:Nat}(s:Sh){a:Option Addr}{c:Nat}(Γ:List HP):ak (Row ps 0 (eu b s.f s.n (.slice a s.es.length c) s.failed)::Sl 2 a s.es.length c (s.es.flatMap bY)::Γ) (cO ps b s::Γ):=
 (ak.cA [_,_] Γ).trans (ak.ex (A:=fun q:Option Addr×Nat=>Sep [Row ps 0 (eu b s.f s.n (.slice q.1 s.es.length q.2) s.failed),Sl 2 q.1 s.es.length q.2 (s.es.flatMap bY)]) (a,c) Γ)
theorem C3(a:Option Addr)(c:Nat)(es:List En):Reads (Sl 2 a es.length c (es.flatMap bY)) 2 a es.length (es.flatMap bY):=Sl.reads 2 a es.length c _ (lF lK es)
theorem C4{es:List En}{i:Nat}(h:i<es.length)(j:Nat)(hj:j<2):(es.flatMap bY)[i*2+j]? =(bY es[i])[j]? :=oA lK h j hj
def Sh.aP(s:Sh)(slot:Int):Option Tx:=if slot<0 then none else (s.es[slot.toNat]?).join
theorem Sh.TF{s:Sh}{i:Nat}(h:i<s.es.length):s.aP i=s.es[i]:=by
 unfold Sh.aP;rw[if_neg (by omega)];simp[h]
theorem Sh.GF{s:Sh}{i:Int}(h:i<0∨(s.es.length:Int)≤i):s.aP i=none:=by
 unfold Sh.aP;split
 ·rfl
 ·rw[zam (by omega)];rfl
theorem TG(ps b:Nat)(s:Sh)(slot:Int)(_hl:s.es.length≤2^40):Spec prog 172 [dp ps,.int .i64 slot] [cO ps b s] (fun v B=>v= .bool (s.aP slot).isSome∧B=[cO ps b s]):=by
 refine x_sp func172 ntmps172 fun E cs Γ=>?_;refine eg (h:=?_);refine dz (fun E w st=>st.jd) fun ⟨a,c⟩=>?_;dsimp only;have dL:=ak.jd (ps:=ps) (b:=b) s (a:=a) (c:=c) Γ;by_cases h0:0≤slot
 ·by_cases h1:slot<s.es.length
  ·obtain⟨i,rfl⟩:∃i:Nat,slot=i:=⟨slot.toNat,by omega⟩
   have hi:i<s.es.length:=by omega
   have R:=C3 a c s.es;refine Wv ?_;refine fT (h:=?_);refine bK rfl rfl R (j:=i) rfl hi rfl fun b1 off ha=>?_;refine w_ (h:=fT (h:=?_));refine fM rfl R ha (i:=i*2+0) (by omega) ((C4 hi 0 (by decide)).trans (Lr _)) rfl ?_;refine uJ (h:=?_);exact ap rfl [cO ps b s] ⟨by rw[Sh.TF hi];rfl,rfl⟩ (dL.trans Sub.h)
  ·refine Wv ?_;exact ap rfl [cO ps b s] ⟨by rw[Sh.GF (.inr (by omega))];rfl,rfl⟩ (dL.trans Sub.h)
 ·refine Wv ?_;exact ap rfl [cO ps b s] ⟨by rw[Sh.GF (.inl (by omega))];rfl,rfl⟩ (dL.trans Sub.h)
theorem TH(ps b:Nat)(s:Sh):Spec prog 171 [dp ps] [cO ps b s] (fun v B=>v= .bool s.failed∧B=[cO ps b s]):=by
 refine x_sp func171 ntmps171 fun E cs Γ=>?_;refine jx (h:=?_);refine dz (fun E w st=>st.jd) fun ⟨a,c⟩=>?_;dsimp only;refine Wv ?_;exact ap rfl [cO ps b s] ⟨rfl,rfl⟩ ((ak.jd s Γ).trans Sub.h)
theorem TI(ps:Nat):Spec prog 96 [dp ps] [] (fun v B=>∃pc,v= .func (.func 141) #[] #[dp pc]∧B=[Row pc 0 [dp ps]]):=by
 refine x_sp func96 ntmps96 fun E cs Γ=>?_;refine ko (h:=nT (h:=?_));refine m8 rfl rfl rfl fun pc=>?_;refine ta (h:=?_);refine oW rfl rfl rfl ?_;refine bU (h:=?_);exact ap rfl [Row pc 0 [dp ps]] ⟨pc,rfl,rfl⟩ Sub.h
def live:Nat→List En→List (Nat×Tx)
 |_,[]=>[]
 |k,none::es=>live (k+1) es
 |k,some t::es=>(k,t)::live (k+1) es
def yv(p:Nat×Tx):List Value:=[.int .i64 p.1,.string (bC p.2)]
theorem TJ(pc ps b:Nat)(s:Sh)(hl:s.es.length≤2^40):
 Iter prog 141 [] [dp pc] [Row pc 0 [dp ps],cO ps b s] [cO ps b s] ((live 0 s.es).map yv):=by
 intro l I J hy;refine x_sp func141 ntmps141 fun E cs Γ=>?_;refine jx (h:=?_);refine bJ (Γ':=cO ps b s::Row pc 0 [dp ps]::I 0::Γ) Sub.h ?_;refine dz (fun E w st=>st.jd) fun ⟨a,c⟩=>?_;dsimp only;have R:=C3 a c s.es;refine Wl ?_;refine aQ (α:=Nat×Nat) (fun q=>q.1≤s.es.length∧(live 0 s.es).drop q.2=live q.1 (s.es.drop q.1)∧q.2≤(live 0 s.es).length) (fun q=>[(0,.func (.yield l) #[] #[]),(1,dp pc),(3,iv q.1)])
  (fun q=>Row ps 0 (eu b s.f s.n (.slice a s.es.length c) s.failed)::Sl 2 a s.es.length c (s.es.flatMap bY)::Row pc 0 [dp ps]::I q.2::Γ)
  (fun q=>s.es.length-q.1) (0,0) ⟨zj _,rfl,zj _⟩ x_tv Sub.h ?_
 rintro⟨i,j⟩ ⟨hi,hj,lu⟩ back;dsimp only at hi hj lu back⊢;have dL:=ak.jd (ps:=ps) (b:=b) s (a:=a) (c:=c);refine eU (h:=?_);refine m7 rfl rfl rfl (fun h=>?_) (fun h=>?_)
 ·have dW:i<s.es.length:=by omega
  rw[zW dW]at hj;refine eU (h:=?_);refine bK rfl rfl R (j:=i) rfl dW rfl fun b1 off ha=>?_;refine aw (h:=?_);refine dA rfl R ha (i:=i*2) (us:=bY s.es[i]) (by omega) (lK _) (fun jj v hv=>?_) rfl ?_
  ·have GG:jj<2:=by have:=(List.getElem?_eq_some_iff.1 hv).1;rwa[lK]at this
   rw[C4 dW jj GG,hv]
  rw[Ls];refine aw (h:=?_);refine aC rfl fun px=>?_;refine dO (h:=?_);refine jH rfl rfl rfl rfl rfl (zq 2) ?_;refine gh (Γ':=Row px 0 [.bool s.es[i].isSome,.string (bC (Tx.of s.es[i]))]::Row ps 0 (eu b s.f s.n (.slice a s.es.length c) s.failed)::Sl 2 a s.es.length c (s.es.flatMap bY)::Row pc 0 [dp ps]::I j::Γ) (ak.wU rfl _) ?_;cases he:s.es[i]with
  |none=>
   rw[he]at hj;rw[show(none:En).isSome=false from rfl];refine Wv ?_;exact aV (back (i+1,j) ⟨by dsimp only;omega,hj,lu⟩ (by dsimp only;omega))
  |some t=>
   rw[he]at hj;rw[show(some t:En).isSome=true from rfl,show Tx.of (some t)=t from rfl];have Lt:(live 0 s.es)[j]? =some (i,t):=by
    have:=congrArg (fun l=>l[0]?) hj;simpa[live]using this
   have jM:(live 0 s.es).drop (j+1)=live (i+1) (s.es.drop (i+1)):=by
    have:=congrArg (List.drop 1) hj;simpa[zaS,live]using this
   have ru:=hy j (yv (i,t)) (by rw[zf,Lt];rfl);refine ew (h:=?_);refine qe rfl rfl ru rfl ?_;rintro y B (⟨rfl,rfl⟩|⟨rfl,rfl⟩)
   ·refine a_ (h:=Wv ?_);exact aV (back (i+1,j+1) ⟨by dsimp only;omega,jM,(List.getElem?_eq_some_iff.1 Lt).1⟩ (by dsimp only;omega))
   ·refine a_ (h:=Wv ?_);exact cJ ([cO ps b s]++[J (j+1)]) (.inr ⟨_,rfl⟩) ((Sub.h (Δ:=Row ps 0 (eu b s.f s.n (.slice a s.es.length c) s.failed)::Sl 2 a s.es.length c (s.es.flatMap bY)::J (j+1)::Γ)).trans ((dL _).trans (by (refine a_ (h:=?_));exact Sub.h)))
 ·obtain rfl:i=s.es.length:=by omega
  have AB:j=(live 0 s.es).length:=by
   rw[zb0]at hj;have:=congrArg List.length hj;simp[live]at this;omega
  subst AB;refine Wv ?_;exact cJ ([cO ps b s]++[I ((live 0 s.es).map yv).length]) (.inl rfl) (by
   rw[zm];exact(dL _).trans (by (refine a_ (h:=?_));exact Sub.h))
theorem TK:∀(es:List En) (k:Nat),(live k es).length≤es.length:=by
 intro es;induction es with
 |nil=>intro k;exact zq _
 |cons e es ih=>
  intro k;cases e with
  |none=>exact z9 (ih (k+1)) (by simp)
  |some t=>simpa[live]using ih (k+1)
end
section
open Go.Proofs Tryz
open Go.Proofs
section
variable {P:Program} {X:Cx} {n:Nat} {ds:List Deferred} {ρ:aK} {Γ:List HP} {Nx:Value→List HP→Prop} {ty:TypeId}
theorem j4{t s:Nat}{x y:Operand}{a:Option Addr}{b off o i s' len cap:Nat}{xs us:List Value}{K:HP→List HP}[T:cI P t s](hx:ev ρ x=some (.pointer (some ⟨b,o,none⟩)))(hy:ev ρ y=some (.agg us.toArray))(ju:us.length=s)(h1:us.all Value.oneCell'=true)
 (ha:a=some ⟨b,off,none⟩) [H:ur Γ a s' len cap xs K] (ho:o=off+i) (hi:i+us.length≤xs.length) (h:Nx undef (K (Sl s' a len cap (xs.take i++us++xs.drop (i+us.length))))):
 bm P X n ds none (.store t x y) ty Nx ρ Γ:=
 yD (by simp) fun e oo w ax aS he hs=>by
  obtain⟨inf,fA,bZ⟩:=cI.size (P:=P) (t:=t);obtain⟨Δ,p,q⟩:=H.h;have st:=hs.perm p;obtain⟨g1,g2,gC⟩:=st.jJ;subst ho;rcases gC with ⟨h0,_⟩|⟨b',qO,junk,jI,q2,iG⟩
  ·rw[ha]at h0;cases h0
  ·rw[ha]at jI;cases jI;obtain⟨w',hr,s1⟩:=wA (P:=P) (off:=off) us i w (fun B=>B::Δ) (xs++junk) X.E _ (km.here Δ b off _) iG (by simp;omega) (fun v hv=>zaQ.1 h1 v hv) (off+i) 0 (by omega);have e1:(xs++junk).take i++us++(xs++junk).drop (i+us.length)=(xs.take i++us++xs.drop (i+us.length))++junk:=by
    rw[zZ (by omega),zaE (by omega)];simp
   rw[e1]at s1;have s2:=St.ou (s:=s') (len:=len) (cap:=cap) (by simp;omega) (by simp at q2⊢;omega) g2 s1;refine⟨w',_,?_,?_,h⟩
   ·simp[execOp,ax,he x _ hx,he y _ hy,Instr.storeAt,Instr.sureAddr,storeVar,Value.cells,eB fA,bZ,ju,hr]
   ·rw[ha];exact s2.perm (by rw[←ha];exact q _)
end
def ff:List En→Nat
 |[]=>0
 |none::_=>0
 |some _::es=>ff es+1
theorem C5:∀es:List En,ff es≤es.length:=by
 intro es;induction es with
 |nil=>exact zq _
 |cons e es ih=>cases e with
  |none=>exact zj _
  |some t=>simpa[ff]using ih
theorem TL:∀{es:List En} {i:Nat} (h:i<es.length),i<ff es→(es[i]).isSome=true:=by
 intro es;induction es with
 |nil=>intro i h;simp at h
 |cons e es ih=>
  intro i h hi;cases e with
  |none=>simp[ff]at hi
  |some t=>cases i with
   |zero=>rfl
   |succ i=>exact ih (by simpa using h) (by simpa[ff]using hi)
theorem Lu:∀{es:List En} (h:ff es<es.length),es[ff es]=none:=by
 intro es;induction es with
 |nil=>intro h;simp at h
 |cons e es ih=>
  intro h;cases e with
  |none=>rfl
  |some t=>exact ih (by simpa[ff]using h)
def putAt(es:List En)(i:Nat)(t:Tx):List En:=if i=es.length then es++[some t]else es.set i (some t)
def Sh.put(s:Sh)(d:Dk)(t:Tx):Sh×Dk×Int×Int:=
 if s.failed then (s,d,0,14)else if s.n<t.length+16 then (s,d,0,2)else if 128≤ff s.es then (s,d,0,5)
 else if (eN d s.f s.n (ff s.es) t).2≠0 then ({s with failed:=true},(eN d s.f s.n (ff s.es) t).1,0,(eN d s.f s.n (ff s.es) t).2)
 else ({s with es:=putAt s.es (ff s.es) t},(eN d s.f s.n (ff s.es) t).1,(ff s.es:Nat),0)
theorem Lv(es:List En)(i:Nat)(h:i<es.length)(e:En):(es.flatMap bY).take (i*2)++bY e++(es.flatMap bY).drop (i*2+2)=(es.set i e).flatMap bY:=by
 induction es generalizing i with
 |nil=>simp at h
 |cons x es ih=>
  cases i with
  |zero=>
   simp only[zT,List.set_cons_zero,zbw,zbq,zB,zO];rw[zbK (lK x)]
  |succ i=>
   have:=ih i (by simpa using h);simp only[zT,zaJ];rw[←this,List.take_append,zbD,lK,zo (by rw[lK];omega),zU (by rw[lK];omega)];rw[show(i+1)*2-2=i*2 by omega,show(i+1)*2+2-2=i*2+2 by omega];simp
theorem TN{N:Nat}(ps b:Nat)(s:Sh)(d:Dk)(t:Tx)(bn:d.b9 N)(hN:N+20≤2^20)(hn:16≤s.n∧s.n≤2^20)(hl:s.es.length≤2^20)(_ht:t.length≤2^62):
 Spec prog 266 [dp ps,.string (bC t)] [cO ps b s,aF b d] (fun v B=>v= .tuple #[.int .i64 (s.put d t).2.2.1,.int .i64 (s.put d t).2.2.2]∧B=[cO ps b (s.put d t).1,aF b (s.put d t).2.1]):=by
 have hff:=C5 s.es;refine x_sp func266 ntmps266 fun E cs Γ=>?_;refine eg (h:=?_);refine dz (fun E w st=>st.jd) fun ⟨a,c⟩=>?_;dsimp only;have R:=C3 a c s.es;have dL:=ak.jd (ps:=ps) (b:=b) s (a:=a) (c:=c) (aF b d::Γ);refine bQ (h:=qh (h:=bQ (h:=nr (h:=?_))));refine eL (α:=Unit) (fun _=>True) (fun _=>[(6,iv (ff s.es:Nat)),(0,dp ps),(1,.string (bC t))]) (fun _=>Row ps 0 (eu b s.f s.n (.slice a s.es.length c) s.failed)::Sl 2 a s.es.length c (s.es.flatMap bY)::aF b d::Γ) ?_ ?_
 ·rintro- -;cases dM:s.failed
  ·by_cases h1:s.n<t.length+16
   ·have e:s.put d t=(s,d,0,2):=by unfold Sh.put;rw[dM,if_neg (by simp),if_pos h1]
    rw[dM]at dL;refine Wv ?_;rw[dV];refine Wv ?_;exact ap rfl [cO ps b (s.put d t).1,aF b (s.put d t).2.1] ⟨by rw[e];rfl,rfl⟩ (by rw[e];exact dL.trans Sub.h)
   ·refine Wv ?_;rw[dV];refine Wv ?_;by_cases h2:128≤ff s.es
    ·have e:s.put d t=(s,d,0,5):=by unfold Sh.put;rw[dM,if_neg (by simp),if_neg h1,if_pos h2]
     rw[dM]at dL;refine Wv ?_;exact ap rfl [cO ps b (s.put d t).1,aF b (s.put d t).2.1] ⟨by rw[e];rfl,rfl⟩ (by rw[e];exact dL.trans Sub.h)
    ·refine ew (h:=?_);refine aq rfl (Lp ps b s.f s.n (.slice a s.es.length c) false d (ff s.es) t bn hN hn.2 (by omega) (by omega)) rfl ?_;refine de (h:=?_);obtain⟨d',e',uO⟩:∃d' e',eN d s.f s.n (ff s.es) t=(d',e'):=⟨_,_,rfl⟩
     rw[uO];dsimp only;by_cases h3:e'=0
     ·have e:s.put d t=({s with es:=putAt s.es (ff s.es) t},d',((ff s.es:Nat):Int),0):=by
       unfold Sh.put;rw[dM,if_neg (by simp),if_neg h1,if_neg h2,uO,if_neg (by simpa using h3)]
      rw[h3,e];dsimp only;by_cases h4:ff s.es=s.es.length
      ·have hp:putAt s.es (ff s.es) t=s.es++[some t]:=by unfold putAt;rw[if_pos h4]
       refine ew (h:=?_);refine lV rfl (by rfl) rfl ?_;refine aw (h:=?_);refine cf rfl (by rfl) (by rfl) (by rfl) (by rfl) rfl fun a2=>?_;refine aw (h:=?_);refine cF rfl rfl (by rfl) (by rfl) (by rfl) (by omega) rfl fun a3 c3 hc=>?_;have R3:Reads (Sl 2 a3 (s.es.length+1) c3 (s.es.flatMap bY++[.bool false,.string ⟨#[]⟩])) 2 a3 (s.es.length+1) (s.es.flatMap bY++[.bool false,.string ⟨#[]⟩]):=Sl.reads 2 a3 _ c3 _ (by rw[zd,lF lK];simp;omega);refine ew (h:=?_);refine lV rfl (by rfl) rfl ?_;refine aw (h:=?_);refine bK rfl rfl R3 (j:=ff s.es) rfl (by omega) rfl fun b1 off ha=>?_;refine dO (h:=?_);refine j4 rfl rfl rfl rfl ha (i:=ff s.es*2) (by omega) (by rw[zd,lF lK];simp;omega) ?_;have AD:(s.es.flatMap bY++([.bool false,.string ⟨#[]⟩]:List Value)).take (ff s.es*2)++[.bool true,.string (bC t)]++(s.es.flatMap bY++([.bool false,.string ⟨#[]⟩]:List Value)).drop (ff s.es*2+([.bool true,.string (bC t)]:List Value).length)=(s.es++[some t]).flatMap bY:=by
        rw[h4,zaL (lF lK s.es),zU (by rw[zd,lF lK];simp)];simp[bY,bC]
       rw[hp];refine gh (Γ':=Row ps 0 (eu b s.f s.n (.slice a3 (s.es.length+1) c3) false)::Sl 2 a3 (s.es.length+1) c3 ((s.es++[some t]).flatMap bY)::aF b d'::Γ) (by rw[←AD];exact Sub.h) ?_;have gX:=ak.jd (ps:=ps) (b:=b) {s with es:=s.es++[some t]} (a:=a3) (c:=c3) (aF b d'::Γ);rw[show({s with es:=s.es++[some t]}:Sh).failed=false from dM]at gX;simp only[zd,zy,zaT,zO]at gX;refine Wv ?_;refine ap rfl [cO ps b {s with es:=s.es++[some t]},aF b d'] ⟨rfl,rfl⟩ ?_;rw[show({s with es:=s.es++[some t]}:Sh)={f:=s.f,n:=s.n,es:=s.es++[some t],failed:=false}by rw[←dM]];exact gX.trans Sub.h
      ·have aN:ff s.es<s.es.length:=by omega
       have hp:putAt s.es (ff s.es) t=s.es.set (ff s.es) (some t):=by unfold putAt;rw[if_neg h4]
       refine ew (h:=?_);refine lV rfl (by rfl) rfl ?_;refine aw (h:=?_);refine bK rfl rfl R (j:=ff s.es) rfl aN rfl fun b1 off ha=>?_;refine dO (h:=?_);refine j4 rfl rfl rfl rfl ha (i:=ff s.es*2) (by omega) (by rw[lF lK];simp;omega) ?_;have AD:(s.es.flatMap bY).take (ff s.es*2)++[.bool true,.string (bC t)]++(s.es.flatMap bY).drop (ff s.es*2+([.bool true,.string (bC t)]:List Value).length)=(s.es.set (ff s.es) (some t)).flatMap bY:=Lv s.es (ff s.es) aN (some t);rw[hp];refine gh (Γ':=Row ps 0 (eu b s.f s.n (.slice a s.es.length c) false)::Sl 2 a s.es.length c ((s.es.set (ff s.es) (some t)).flatMap bY)::aF b d'::Γ) (by rw[←AD];exact Sub.h) ?_;have gX:=ak.jd (ps:=ps) (b:=b) {s with es:=s.es.set (ff s.es) (some t)} (a:=a) (c:=c) (aF b d'::Γ);rw[show({s with es:=s.es.set (ff s.es) (some t)}:Sh).failed=false from dM]at gX;simp only[zH]at gX;refine Wv ?_;refine ap rfl [cO ps b {s with es:=s.es.set (ff s.es) (some t)},aF b d'] ⟨rfl,rfl⟩ ?_;rw[show({s with es:=s.es.set (ff s.es) (some t)}:Sh)={f:=s.f,n:=s.n,es:=s.es.set (ff s.es) (some t),failed:=false}by rw[←dM]];exact gX.trans Sub.h
     ·have e:s.put d t=({s with failed:=true},d',0,e'):=by
       unfold Sh.put;rw[dM,if_neg (by simp),if_neg h1,if_neg h2,uO,if_pos (by simpa using h3)]
      have gX:=ak.jd (ps:=ps) (b:=b) {s with failed:=true} (a:=a) (c:=c) (aF b d'::Γ);rw[e];dsimp only;refine Wv ?_;exact ap rfl [cO ps b {s with failed:=true},aF b d'] ⟨rfl,rfl⟩ ((Sub.h (Δ:=Row ps 0 (eu b s.f s.n (.slice a s.es.length c) true)::Sl 2 a s.es.length c (s.es.flatMap bY)::aF b d'::Γ)).trans (gX.trans Sub.h))
  ·have e:s.put d t=(s,d,0,14):=by unfold Sh.put;rw[dM,if_pos rfl]
   rw[dM]at dL;refine Wv ?_;exact ap rfl [cO ps b (s.put d t).1,aF b (s.put d t).2.1] ⟨by rw[e];rfl,rfl⟩ (by rw[e];exact dL.trans Sub.h)
 ·intro td Lw;refine eW (h:=?_);refine aQ (α:=Nat) (fun i=>i≤ff s.es) (fun i=>[(6,iv i),(0,dp ps),(1,.string (bC t))]) (fun _=>Row ps 0 (eu b s.f s.n (.slice a s.es.length c) s.failed)::Sl 2 a s.es.length c (s.es.flatMap bY)::aF b d::Γ)
   (fun i=>ff s.es-i) 0 (zj _) x_tv Sub.h ?_
  intro i hi back;by_cases h1:i<s.es.length
  ·refine Wv ?_;refine fT (h:=?_);refine bK rfl rfl R (j:=i) rfl h1 rfl fun b1 off ha=>?_;refine w_ (h:=fT (h:=?_));refine fM rfl R ha (i:=i*2+0) (by omega) ((C4 h1 0 (by decide)).trans (Lr _)) rfl ?_;by_cases h2:i<ff s.es
   ·rw[TL h1 h2];refine Wv ?_;exact aV (back (i+1) (by omega) (by omega))
   ·obtain rfl:i=ff s.es:=by omega
    rw[Lu h1];refine Wv ?_;exact aV (Lw () trivial)
  ·obtain rfl:i=ff s.es:=by omega
   refine Wv ?_;exact aV (Lw () trivial)
end
section
open Go.Proofs Tryz
open Go.Proofs
def Sh.del(s:Sh)(d:Dk)(slot:Int):Sh×Dk×Int:=
 if s.failed then (s,d,14)else if s.aP slot=none then (s,d,3)
 else if (mark d s.f s.n slot.toNat 0).2≠0 then ({s with failed:=true},(mark d s.f s.n slot.toNat 0).1,(mark d s.f s.n slot.toNat 0).2)
 else ({s with es:=s.es.set slot.toNat none},(mark d s.f s.n slot.toNat 0).1,0)
theorem TO{N:Nat}(ps b:Nat)(s:Sh)(d:Dk)(slot:Int)(bn:d.b9 N)(hN:N+20≤2^20)(hn:s.n≤2^20)(hl:s.es.length≤2^20):
 Spec prog 118 [dp ps,.int .i64 slot] [cO ps b s,aF b d] (fun v B=>v= .int .i64 (s.del d slot).2.2∧B=[cO ps b (s.del d slot).1,aF b (s.del d slot).2.1]):=by
 refine x_sp func118 ntmps118 fun E cs Γ=>?_;refine eg (h:=?_);refine dz (fun E w st=>st.jd) fun ⟨a,c⟩=>?_;dsimp only;have dL:=ak.jd (ps:=ps) (b:=b) s (a:=a) (c:=c) (aF b d::Γ);cases dM:s.failed
 ·rw[dM]at dL;refine Wv ?_;refine gh (Γ':=cO ps b s::aF b d::Γ) ?_ ?_
  ·exact dL
  refine aw (h:=?_);refine aq rfl (TG ps b s slot (by omega)) rfl ?_;refine de (h:=?_);cases ht:s.aP slot with
  |none=>
   have e:s.del d slot=(s,d,3):=by unfold Sh.del;rw[dM,if_neg (by simp),if_pos ht]
   rw[e,show(none:Option Tx).isSome=false from rfl];refine Wv ?_;exact ap rfl [cO ps b s,aF b d] ⟨rfl,rfl⟩ Sub.h
  |some t=>
   rw[show(some t:Option Tx).isSome=true from rfl];have hi:0≤slot∧slot<s.es.length:=by
    apply zI;intro hn;rw[Sh.GF (by omega)]at ht;cases ht
   obtain⟨i,rfl⟩:∃i:Nat,slot=i:=⟨slot.toNat,by omega⟩
   have dW:i<s.es.length:=by omega
   obtain⟨d',e',uO⟩:∃d' e',mark d s.f s.n i 0=(d',e'):=⟨_,_,rfl⟩
   refine ao (Co rfl rfl ?_);refine bU (h:=?_);refine dz (fun E w st=>st.jd) fun ⟨a,c⟩=>?_;dsimp only;rw[dM];have R:=C3 a c s.es;refine ew (h:=?_);refine aq rfl (GD ps b s.f s.n (.slice a s.es.length c) false d i 0 bn (by omega) hn (by omega)) rfl ?_;refine de (h:=?_);rw[uO];dsimp only;by_cases h3:e'=0
   ·have e:s.del d i=({s with es:=s.es.set i none},d',0):=by
     unfold Sh.del;rw[dM,if_neg (by simp),if_neg (by rw[ht];simp),zV,uO,if_neg (by simpa using h3)]
    rw[h3,e];dsimp only;refine ew (h:=?_);refine lV rfl (by rfl) rfl ?_;refine aw (h:=?_);refine bK rfl rfl R (j:=i) rfl dW rfl fun b1 off ha=>?_;refine dO (h:=?_);refine j4 rfl rfl rfl rfl ha (i:=i*2) (by omega) (by rw[lF lK];simp;omega) ?_;have AD:(s.es.flatMap bY).take (i*2)++[.bool false,.string ⟨#[]⟩]++(s.es.flatMap bY).drop (i*2+([.bool false,.string ⟨#[]⟩]:List Value).length)=(s.es.set i none).flatMap bY:=Lv s.es i dW none;refine gh (Γ':=Row ps 0 (eu b s.f s.n (.slice a s.es.length c) false)::Sl 2 a s.es.length c ((s.es.set i none).flatMap bY)::aF b d'::Γ) (by rw[←AD];exact Sub.h) ?_;have gX:=ak.jd (ps:=ps) (b:=b) {s with es:=s.es.set i none} (a:=a) (c:=c) (aF b d'::Γ);rw[show({s with es:=s.es.set i none}:Sh).failed=false from dM]at gX;simp only[zH]at gX;refine Wv ?_;refine ap rfl [cO ps b {s with es:=s.es.set i none},aF b d'] ⟨rfl,rfl⟩ ?_;rw[show({s with es:=s.es.set i none}:Sh)={f:=s.f,n:=s.n,es:=s.es.set i none,failed:=false}by rw[←dM]];exact gX.trans Sub.h
   ·have e:s.del d i=({s with failed:=true},d',e'):=by
     unfold Sh.del;rw[dM,if_neg (by simp),if_neg (by rw[ht];simp),zV,uO,if_pos (by simpa using h3)]
    have gX:=ak.jd (ps:=ps) (b:=b) {s with failed:=true} (a:=a) (c:=c) (aF b d'::Γ);rw[e];dsimp only;refine Wv ?_;exact ap rfl [cO ps b {s with failed:=true},aF b d'] ⟨rfl,rfl⟩ ((Sub.h (Δ:=Row ps 0 (eu b s.f s.n (.slice a s.es.length c) true)::Sl 2 a s.es.length c (s.es.flatMap bY)::aF b d'::Γ)).trans (gX.trans Sub.h))
 ·have e:s.del d slot=(s,d,14):=by unfold Sh.del;rw[dM,if_pos rfl]
  rw[dM]at dL;rw[e];refine Wv ?_;exact ap rfl [cO ps b s,aF b d] ⟨rfl,rfl⟩ (dL.trans Sub.h)
end
section
open Go.Proofs Tryz
open Go.Proofs Go.RowKit
def C6(t:Array Value):ResultVar→Sem Value
 | .tmp i=>pure (t.getD i undef)
 | .cell a ty=>do loadVar ty (←asAddr (t.getD a undef))
def RV(P:Program)(Δ:List HP)(ρ:aK)(r:ResultVar)(v:Value):Prop:=∀(E:Env) (t:Array Value) (w:World),gQ ρ t→St E Δ w→(C6 t r).run P w= .ok v w
def AE(P:Program)(Δ:List HP)(ρ:aK):List ResultVar→List Value→Prop
 |[],[]=>True
 |r::rs,v::vs=>RV P Δ ρ r v∧AE P Δ ρ rs vs
 |_,_=>False
class cM(P:Program)(f:FuncId)(rs:outParam (List ResultVar)):Prop where h:∃fn,P.funcs[f]? =some fn∧fn.results=rs.toArray
theorem Lx{P:Program}{fn:Func}{rs:List ResultVar}{ρ:aK}{Δ:List HP}{E:Env}{t:Array Value}{vs:List Value}{w:World}(hr:fn.results=rs.toArray)(hm:gQ ρ t)(hv:AE P Δ ρ rs vs)(hs:St E Δ w):(results fn t).run P w= .ok (eo vs) w:=by
 have key:∀(rs:List ResultVar) (vs:List Value),AE P Δ ρ rs vs→(rs.mapM (fun
  | .tmp i=>pure (t.getD i undef)
  | .cell a ty=>do loadVar ty (←asAddr (t.getD a undef)):ResultVar→Sem Value)).run P w= .ok vs w:=by
  intro rs;induction rs with
  |nil=>intro vs h;cases vs with
   |nil=>simp
   |cons v vs=>exact h.elim
  |cons r rs ih=>
   intro vs h;cases vs with
   |nil=>exact h.elim
   |cons v vs=>
    have h1:=h.1 E t w hm hs;have h2:=ih vs h.2;rw[zbU];cases r with
    |tmp i=>
     unfold C6 at h1;simp only[Sem.run_bind,h1,Sem.run_pure,Result.andThen_ok,h2]
    |cell a ty=>
     unfold C6 at h1;simp only[Sem.run_bind,Sem.run_pure]at h1 h2⊢;rw[h1];simp only[Result.andThen_ok,h2]
 have h2:=key rs vs hv;unfold results;rw[hr,zbu];simp only[Sem.run_bind,Sem.run_map,Sem.run_pure];refine(congrArg (fun (r:Result (List Value))=>((r.andThen fun a w'=>Result.ok a.toArray w').andThen fun a w'=>Result.ok (if h:a.size=1 then a[0]else Value.tuple a) w')) h2).trans ?_
 match vs with
 |[]=>rfl
 |[v]=>rfl
 |v::u::us=>rfl
theorem bO{P:Program}{Δ:List HP}{ρ:aK}{i:Nat}{v:Value}(h:ev ρ (.tmp i)=some v):RV P Δ ρ (.tmp i) v:=fun E t w hm _=>by
 have:=hm.ev [] h;unfold C6;simp only[Sem.run_pure];rw[show t.getD i undef=v from this]
theorem ns{P:Program}{Δ:List HP}{ρ:aK}{i ty b o:Nat}{v:Value}[T:cU P ty](h:ev ρ (.tmp i)=some (.pointer (some ⟨b,o,none⟩)))(hc:Cell Δ b o v):RV P Δ ρ (.cell i ty) v:=fun E t w hm hs=>by
 have:=hm.ev [] h;have e:t.getD i undef= .pointer (some ⟨b,o,none⟩):=this;show((asAddr (t.getD i undef)>>=fun x=>loadVar ty x):Sem Value).run P w=_;rw[e];simp[asAddr,loadVar,cU.agg,hc _ _ hs]
theorem Ly{P:Program}{Δ:List HP}{ρ:aK}{i ty b o s:Nat}{us:List Value}[T:cI P ty s](h:ev ρ (.tmp i)=some (.pointer (some ⟨b,o,none⟩)))(hl:us.length=s)(hc:∀j v,us[j]? =some v→Cell Δ b (o+j) v):RV P Δ ρ (.cell i ty) (.agg us.toArray):=fun E t w hm hs=>by
 have:=hm.ev [] h;obtain⟨inf,hi,bZ⟩:=cI.size (P:=P) (t:=ty);have e:t.getD i undef= .pointer (some ⟨b,o,none⟩):=this;show((asAddr (t.getD i undef)>>=fun x=>loadVar ty x):Sem Value).run P w=_;rw[e];simp[asAddr,loadVar,cI.agg,eB hi,bZ,Cl (P:=P) (w:=w) hl fun j v hj=>hc j v hj _ _ hs]
theorem bP{P:Program}{f:FuncId}{E:Env}{cs:List Frame}{R:Value→List HP→Prop}{Γ Δ:List HP}{n:Nat}{k:List Item}{ρ:aK}{rs:List ResultVar}{vs:List Value}[F:cM P f rs](hv:AE P Δ ρ rs vs)(B:List HP)(hR:R (eo vs) B)(hE:ak Δ (B++Γ)):
 Ex P (jX P f E cs R Γ) n [] (.code .ret::k) ρ Δ:=by
 intro t w cP hm hs;obtain⟨fn,fZ,lx⟩:=F.h;refine .step (stepR_ret rfl) (.now ⟨_,w,eo vs,B,rfl,rfl,⟨rfl,rfl,rfl,fn,fZ,?_⟩,hR,hE.st hs⟩);exact Lx lx hm hv hs
theorem ry{P:Program}{f:FuncId}{E:Env}{cs:List Frame}{R:Value→List HP→Prop}{Γ Δ Δ':List HP}{n:Nat}{k:List Item}{ρ:aK}{rs:List ResultVar}{Ds:List Nat}{vs:List Value}[F:cM P f rs][T:Take Δ (Marks Ds) Δ'](hv:AE P Δ' ρ rs vs)(B:List HP)(hR:R (eo vs) B)(hE:ak Δ' (B++Γ)):
 Ex P (jX P f E cs R Γ) n (dX Ds) (.code .ret::k) ρ Δ:=by
 intro t w cP hm hs;obtain⟨fn,fZ,lx⟩:=F.h;obtain⟨w',h1,h2⟩:=Gh (P:=P) (fr:={(jX P f E cs R Γ).base.atR ⟨t,dX Ds⟩ (.code .ret::k)with mode:= .returning}) (cs:=cs) Ds Δ' w rfl rfl (hs.perm T.h);refine .step (stepR_ret rfl) (.steps h1 (.now ⟨_,w',eo vs,B,rfl,rfl,⟨rfl,rfl,rfl,fn,fZ,?_⟩,hR,hE.st h2⟩));exact Lx lx hm hv h2
end
section
open Go.Proofs Tryz
instance:cM prog 5 [.cell 2 31]:=⟨_,func5,results5⟩
instance:cM prog 7 [.cell 8 48,.tmp 9]:=⟨_,func7,results7⟩
instance:cM prog 30 [.cell 6 31,.tmp 7]:=⟨_,func30,results30⟩
instance:cM prog 31 [.cell 2 102,.tmp 3]:=⟨_,func31,results31⟩
instance:cM prog 33 [.cell 10 31,.tmp 11]:=⟨_,func33,results33⟩
instance:cM prog 34 [.cell 2 116]:=⟨_,func34,results34⟩
instance:cM prog 43 [.cell 2 31]:=⟨_,func43,results43⟩
instance:cM prog 63 [.cell 2 88,.tmp 3]:=⟨_,func63,results63⟩
instance:cM prog 68 [.cell 4 31]:=⟨_,func68,results68⟩
instance:cM prog 81 [.cell 2 88]:=⟨_,func81,results81⟩
instance:cM prog 82 [.cell 2 24,.tmp 3]:=⟨_,func82,results82⟩
instance:cM prog 84 [.cell 2 179]:=⟨_,func84,results84⟩
instance:cM prog 87 [.cell 2 179]:=⟨_,func87,results87⟩
instance:cM prog 97 [.cell 2 179,.tmp 3]:=⟨_,func97,results97⟩
instance:cM prog 98 [.cell 2 88,.tmp 3]:=⟨_,func98,results98⟩
instance:cM prog 111 [.cell 2 31,.tmp 3,.tmp 4]:=⟨_,func111,results111⟩
instance:cM prog 113 [.cell 2 179]:=⟨_,func113,results113⟩
instance:cM prog 114 [.cell 2 179]:=⟨_,func114,results114⟩
instance:cM prog 119 [.cell 4 31,.cell 5 55,.tmp 6]:=⟨_,func119,results119⟩
instance:cM prog 124 [.cell 2 88]:=⟨_,func124,results124⟩
instance:cM prog 126 [.cell 2 24,.tmp 3]:=⟨_,func126,results126⟩
instance:cM prog 129 [.cell 4 24,.tmp 5]:=⟨_,func129,results129⟩
instance:cM prog 132 [.cell 2 24]:=⟨_,func132,results132⟩
instance:cM prog 142 [.cell 2 179,.tmp 3,.tmp 4]:=⟨_,func142,results142⟩
instance:cM prog 143 [.cell 2 24,.tmp 3]:=⟨_,func143,results143⟩
instance:cM prog 148 [.cell 2 24,.tmp 3]:=⟨_,func148,results148⟩
instance:cM prog 159 [.cell 2 4]:=⟨_,func159,results159⟩
instance:cM prog 163 [.cell 6 31,.tmp 7]:=⟨_,func163,results163⟩
instance:cM prog 166 [.cell 4 267,.tmp 5]:=⟨_,func166,results166⟩
instance:cM prog 175 [.cell 4 31,.cell 5 55,.tmp 6]:=⟨_,func175,results175⟩
instance:cM prog 182 [.cell 4 24,.tmp 5]:=⟨_,func182,results182⟩
instance:cM prog 187 [.cell 4 179,.tmp 5,.tmp 6]:=⟨_,func187,results187⟩
instance:cM prog 189 [.cell 2 179]:=⟨_,func189,results189⟩
instance:cM prog 192 [.cell 4 24,.tmp 5]:=⟨_,func192,results192⟩
instance:cM prog 193 [.cell 4 24,.tmp 5]:=⟨_,func193,results193⟩
instance:cM prog 202 [.cell 2 24,.tmp 3]:=⟨_,func202,results202⟩
instance:cM prog 204 [.cell 2 24,.tmp 3]:=⟨_,func204,results204⟩
instance:cM prog 215 [.cell 4 267,.tmp 5]:=⟨_,func215,results215⟩
instance:cM prog 222 [.cell 4 31,.tmp 5,.cell 6 28,.tmp 7]:=⟨_,func222,results222⟩
instance:cM prog 223 [.cell 4 88,.tmp 5]:=⟨_,func223,results223⟩
instance:cM prog 231 [.cell 2 344,.tmp 3]:=⟨_,func231,results231⟩
instance:cM prog 239 [.cell 2 354]:=⟨_,func239,results239⟩
instance:cM prog 242 [.cell 2 24,.tmp 3]:=⟨_,func242,results242⟩
instance:cM prog 250 [.cell 2 24,.tmp 3]:=⟨_,func250,results250⟩
instance:cM prog 260 [.cell 4 31,.tmp 5]:=⟨_,func260,results260⟩
instance:cM prog 265 [.cell 4 24,.tmp 5]:=⟨_,func265,results265⟩
instance:cM prog 282 [.cell 6 24,.tmp 7]:=⟨_,func282,results282⟩
instance:cM prog 284 [.cell 2 24,.tmp 3]:=⟨_,func284,results284⟩
instance:cM prog 299 [.cell 4 24,.tmp 5]:=⟨_,func299,results299⟩
instance:cM prog 307 [.cell 10 24,.cell 11 24,.tmp 12]:=⟨_,func307,results307⟩
instance:cM prog 308 [.cell 4 24,.cell 5 24,.tmp 6]:=⟨_,func308,results308⟩
instance:cM prog 313 [.cell 2 24,.tmp 3]:=⟨_,func313,results313⟩
end
section
open Go.Proofs Tryz
open Go.RowKit
inductive Tr
 |nil
 |look (i:Nat) (t:Tr)
 |act (i:Nat) (t:Tr)
 |alt (a b:Tr)
def tg(i:Nat)(xs:List Nat):List Nat:=xs.filter fun x=> !Nat.beq x i
theorem th{i j:Nat}{xs:List Nat}:j∈tg i xs↔j∈xs∧j≠i:=by
 unfold tg;rw[List.mem_filter];constructor
 ·rintro⟨h1,h2⟩;exact⟨h1,fun e=>by subst e;simp at h2⟩
 ·rintro⟨h1,h2⟩;refine⟨h1,?_⟩;cases hb:Nat.beq j i with
  |true=>exact absurd (zJ hb) h2
  |false=>rfl
def mP:Tr→List Nat
 | .act i _=>[i]
 | .alt a b=>mP a++mP b
 |_=>[]
def GI(ms:List Nat)(H bw:List Nat):Bool:=bw.all fun p=>lZ p H||H.any fun h=>(ms.getD p 0).testBit h
def eX(ms:List Nat)(len m:Nat)(A:List Nat):Bool→Tr→List Nat→Bool
 |mQ,.nil,bw=>mQ&&bw.isEmpty
 |mQ,.look i t,bw=>mQ&&lZ i bw&& !lZ i A&&eX ms len m A true t (tg i bw)
 |mQ,.act i t,bw=>(!mQ||GI ms [i] bw)&&lZ i bw&&lZ i A&&(Nat.blt i m||(List.range len).all fun p=>lZ p A||(ms.getD i 0).testBit p)&&eX ms len m A true t (tg i bw)
 |mQ,.alt a b,bw=>(!mQ||GI ms (mP a++mP b) bw)&&eX ms len m A false a bw&&eX ms len m A false b bw
section draw
variable {P:Program} {X:Cx} {n:Nat} {ds:List Deferred} {k:List Item} {ρ:aK} {Γ:List HP}
def kz(P:Program)(X:Cx)(n:Nat)(ds:List Deferred)(l:List Oper)(m:Nat)(base:aK)(F:List HP)(k:List Item):Tr→aK→List HP→Prop
 | .nil,acc,Γ=>Ex P X n ds k (kO l acc++base) Γ
 | .look i t,acc,Γ=>∃o v,l[i]? =some o∧GV P acc o (gn l m base acc i o.after.toList) F v∧kz P X n ds l m base F k t ((i,v)::acc) Γ
 | .act i t,acc,Γ=>∃o,l[i]? =some o∧(o.guard=none∨∃j b,o.guard=some (j,b)∧lk acc j=some (.bool b))∧
  bm P X n ds o.dst o.op o.type (fun v Γ'=>(Nat.ble m i=true∨∃Δ,Γ'.Perm (F++Δ))∧kz P X n ds l m base F k t ((i,v)::acc) Γ') (gn l m base acc i o.after.toList) Γ
 | .alt a b,acc,Γ=>kz P X n ds l m base F k a acc Γ∧kz P X n ds l m base F k b acc Γ
theorem xb{l:List Oper}{m:Nat}{base:aK}{F:List HP}{ms A:List Nat}{len:Nat}{acc:aK}{i:Nat}:∀(T:Tr) (mQ:Bool) (bw:List Nat),eX ms len m A mQ T bw=true→kz P X n ds l m base F k T acc Γ→i∈mP T→
 ∃t,kz P X n ds l m base F k (.act i t) acc Γ∧eX ms len m A false (.act i t) bw=true
 | .nil,_,_,_,_,h=>by cases h
 | .look _ _,_,_,_,_,h=>by cases h
 | .act j t,mQ,bw,ho,hs,h=>by
  have e:i=j:=by simpa[mP]using h
  subst e;refine⟨t,hs,?_⟩;unfold eX at ho⊢;simp only[zh]at ho⊢;exact⟨⟨⟨⟨rfl,ho.1.1.1.2⟩,ho.1.1.2⟩,ho.1.2⟩,ho.2⟩
 | .alt a b,mQ,bw,ho,hs,h=>by
  unfold eX at ho;simp only[zh]at ho;rcases zL.1 h with h|h
  ·exact xb a false bw ho.1.2 hs.1 h
  ·exact xb b false bw ho.2 hs.2 h
theorem GJ{ms A:List Nat}{len m:Nat}:∀(T:Tr) (bw:List Nat),eX ms len m A false T bw=true→∃i,i∈mP T
 | .nil,_,h=>by simp[eX]at h
 | .look i t,_,h=>by simp[eX]at h
 | .act i t,_,_=>⟨i,by simp[mP]⟩
 | .alt a b,bw,h=>by
  unfold eX at h;simp only[zh]at h;obtain⟨i,hi⟩:=GJ a bw h.1.2;exact⟨i,zK _ hi⟩
theorem Lz{ms A:List Nat}{len m:Nat}:∀(T:Tr) (bw:List Nat),eX ms len m A true T bw=true→(∃i t,T= .look i t)∨T= .nil∨GI ms (mP T) bw=true
 | .nil,_,_=> .inr (.inl rfl)
 | .look i t,_,_=> .inl ⟨i,t,rfl⟩
 | .act i t,bw,h=>by
  unfold eX at h;simp only[zh,Bool.not_true,Bool.false_or]at h;exact .inr (.inr h.1.1.1.1)
 | .alt a b,bw,h=>by
  unfold eX at h;simp only[zh,Bool.not_true,Bool.false_or]at h;exact .inr (.inr h.1.1)
structure nX(P:Program)(X:Cx)(n:Nat)(ds:List Deferred)(l:List Oper)(m:Nat)(base:aK)(F:List HP)(k:List Item)(A:List Nat)(S:Nat→Bool)(ρ:aK)(Γ:List HP)(π1:List (Nat×Bool))(bw:List Nat)(T:Tr)(acc:aK):Prop where
 nd:(π1.map (·.1)).Nodup
 part:∀i,i<l.length→i∈π1.map (·.1)∨i∈bw
 fh:∀i,i∈bw→i∉π1.map (·.1)
 ok:eX (eS l []) l.length m A true T bw=true
 flag:∀i b,(i,b)∈π1→b=lZ i A
 jL:kz P X n ds l m base F k T acc Γ
 facts:∀i b,(i,b)∈π1→∃v o,lk acc i=some v∧l[i]? =some o∧(b=true→S i=true)∧(b=false→∃ep,gR ep acc∧GV P ep o (gn l m base ep i o.after.toList) F v)
 gS:acc.map (·.1)=(π1.map (·.1)).reverse
 done:∀i,S i=true→i∈π1.map (·.1)
 iX:∀i v d,S i=true→lk acc i=some v→(l[i]?).bind (·.dst)=some d→lk ρ d=some v
 jZ:∀s v,lk base s=some v→(∀j,(l[j]?).bind (·.dst)=some s→S j=false)→lk ρ s=some v
 m_:uD l S
 fr:(∃t,m≤t∧S t=true∧(List.range l.length).all (fun p=>lZ p A||((eS l []).getD t 0).testBit p)=true)∨∃Δ,Γ.Perm (F++Δ)
theorem nX.pure{l:List Oper}{m:Nat}{base:aK}{F:List HP}{A:List Nat}{S:Nat→Bool}:∀(T:Tr) (π1:List (Nat×Bool)) (bw:List Nat) (acc:aK),nX P X n ds l m base F k A S ρ Γ π1 bw T acc→
 ∃π1' GK T' qc,nX P X n ds l m base F k A S ρ Γ π1' GK T' qc∧∀i t,T'≠.look i t
 | .nil,π1,bw,acc,I=>⟨π1,bw,.nil,acc,I,fun _ _ h=>by cases h⟩
 | .act i t,π1,bw,acc,I=>⟨π1,bw,.act i t,acc,I,fun _ _ h=>by cases h⟩
 | .alt a b,π1,bw,acc,I=>⟨π1,bw,.alt a b,acc,I,fun _ _ h=>by cases h⟩
 | .look i T,π1,bw,acc,I=>by
  obtain⟨o,v,ho,hg,hs⟩:=I.jL;have bn:=I.ok;unfold eX at bn;simp only[zh,Bool.true_and,zbz]at bn;obtain⟨⟨hp,hA⟩,bn⟩:=bn;have kP:i∉π1.map (·.1):=I.fh i (ox.1 hp);have o8:lk acc i=none:=by
   cases h:lk acc i with
   |none=>rfl
   |some u=>have:=qW h;rw[I.gS]at this;exact absurd (by simpa using this) kP
  have hle:gR acc ((i,v)::acc):=fun j u hj=>by
   rw[ir]
   ·exact hj
   ·rintro rfl;rw[o8]at hj;cases hj
  refine nX.pure T (π1++[(i,false)]) (tg i bw) ((i,v)::acc) ⟨?_,?_,?_,bn,?_,hs,?_,by simp[I.gS],?_,?_,I.jZ,I.m_,I.fr⟩
  ·rw[zg,zab];exact⟨I.nd,by simp,fun a ha b hb=>by
    have:b=i:=by simpa using hb
    subst this;rintro rfl;exact kP ha⟩
  ·intro j hj;rw[zg,zL];rcases I.part j hj with h|h
   ·exact .inl (.inl h)
   ·by_cases e:j=i
    ·exact .inl (.inr (by simp[e]))
    ·exact .inr (th.2 ⟨h,e⟩)
  ·intro j hj hm;obtain⟨h1,h2⟩:=th.1 hj;rw[zg,zL]at hm;rcases hm with hm|hm
   ·exact I.fh j h1 hm
   ·exact h2 (by simpa using hm)
  ·intro j b hj;rcases zL.1 hj with hj|hj
   ·exact I.flag j b hj
   ·have e:(j,b)=(i,false):=by simpa using hj
    cases e;exact hA.symm
  ·intro j b hj;rw[zL]at hj;rcases hj with hj|hj
   ·obtain⟨u,o',h1,h2,h3,h4⟩:=I.facts j b hj;refine⟨u,o',hle j u h1,h2,h3,fun hb=>?_⟩;obtain⟨ep,h5,h6⟩:=h4 hb;exact⟨ep,fun a c hc=>hle a c (h5 a c hc),h6⟩
   ·have e:(j,b)=(i,false):=by simpa using hj
    cases e;exact⟨v,o,jY,ho,(fun h=>by cases h),fun _=>⟨acc,hle,hg⟩⟩
  ·intro j hj;rw[zg];exact zK _ (I.done j hj)
  ·intro j u d hS hj hd;have eC:i≠j:=by rintro rfl;exact kP (I.done _ hS)
   rw[ir eC]at hj;exact I.iX j u d hS hj hd
theorem kz.sN{l:List Oper}{m:Nat}{base:aK}{F:List HP}{A bw:List Nat}{π1:List (Nat×Bool)}{T:Tr}{S:Nat→Bool}{acc ep:aK}{i:Nat}{o:Oper}(I:nX P X n ds l m base F k A S ρ Γ π1 bw T acc)(hle:gR ep acc)
 (hd:∀e∈o.after,Region.binds .any e=true→S e.on=true) (hb:∀s v,lk base s=some v→∀j,(l[j]?).bind (·.dst)=some s→∀i,i<m→((eS l []).getD j 0).testBit i=true)
 (fj:∀j,((eS l []).getD j 0).testBit i=true→S j=false):gR (gn l m base ep i o.after.toList) ρ:=by
 intro s u h;unfold gn at h;rcases wL h with h|⟨_,h⟩
 ·obtain⟨e,he,hb,h1,h2⟩:=Gc h;exact I.iX e.on u s (hd e (by simpa using he) hb) (hle _ _ h2) h1
 ·cases hm:Nat.blt i m with
  |true=>
   rw[hm]at h;have qb:i<m:=by simpa[zN]using hm
   exact I.jZ s u h fun j hj=>fj j (hb s u h j hj i qb)
  |false=>
   rw[hm]at h;obtain⟨h1,h2⟩:=F_ h;exact I.jZ s u h1 fun j hj=>fj j (by have:=F9 h2 j hj;simpa using this)
theorem TP{l:List Oper}{m:Nat}{base:aK}{F:List HP}{A bw:List Nat}{π1:List (Nat×Bool)}{T:Tr}{S:Nat→Bool}{acc:aK}(I:nX P X n ds l m base F k A S ρ Γ π1 bw T acc)(dH:(π1.map (·.1)).Nodup)(gF:∀i,i∈π1.map (·.1)→S i=true)(yX:∀i,i<l.length→i∈π1.map (·.1)):gR (kO l acc++base) ρ:=by
 intro s v h;have hn:(acc.map (·.1)).Nodup:=by rw[I.gS];exact(List.reverse_perm _).nodup_iff.2 dH
 rcases wL h with h|⟨h0,h⟩
 ·obtain⟨i,h1,h2⟩:=Gd hn h;have hm:=qW h2;rw[I.gS]at hm;exact I.iX i v s (gF i (by simpa using hm)) h2 h1
 ·by_cases hs:s∈dstsOf l
  ·exfalso;obtain⟨o,ho,hd⟩:=List.mem_filterMap.1 hs;obtain⟨i,hi⟩:=zk ho;refine Ge (l:=l) (i:=i) (d:=s) (by simp[hi,hd]) ?_ h0;rw[I.gS];simpa using yX i (List.getElem?_eq_some_iff.1 hi).1
  ·exact I.jZ s v h fun j hj=>absurd (sO hj) hs
theorem rz{id:Nat}{l:List Oper}(m:Nat)(A:List Nat)(T:Tr)(F:List HP)(yY:P.follows .mixedOrders=true)(sQ:(eX (eS l []) l.length m A true T (List.range l.length)&&o6 l 0&&sM (dstsOf l)&&Gb l&&wK l m ρ&&(dstsOf l).all fun d=>Nat.blt d n)=true)(hF:∃Δ,Γ.Perm (F++Δ))
 (h:kz P X n ds l m ρ F k T [] Γ):Ex P X n ds (.code (.region id l.toArray true)::k) ρ Γ:=by
 simp only[zh]at sQ;obtain⟨⟨⟨⟨⟨bn,h1⟩,h5⟩,h8⟩,hb⟩,sP⟩:=sQ;have hn:∀d∈dstsOf l,d<n:=fun d hd=>by have:=zaQ.1 sP d hd;simpa[zN]using this
 have qd:=CM.1 h5;refine CL yY h1 (fun S ρ' Γ'=>∃π1 bw T acc,nX P X n ds l m ρ F k A S ρ' Γ' π1 bw T acc∧∀i t,T≠.look i t) ?_ ?_ ?_
 ·exact nX.pure T [] (List.range l.length) [] ⟨by simp,fun i hi=> .inr (List.mem_range.2 hi),fun i _ h=>by simp at h,bn,fun i b hi=>(by cases hi),h,fun i b hi=>(by cases hi),rfl,fun i hi=>(by cases hi),fun i v d hi=>(by cases hi),fun s v hs _=>hs,fun j o _ hj=>(by cases hj),.inr hF⟩
 ·rintro i o ho S ρ' Γ' nf hd ⟨π1,bw,T,acc,I,iY⟩;have ec:i<l.length:=(List.getElem?_eq_some_iff.1 ho).1;have o9:uD l (fun j=>S j||j==i):=by
   intro j o' hj eE e he sR;simp only[zM,beq_iff_eq]at eE⊢;rcases eE with eE|rfl
   ·exact .inl (I.m_ j o' hj eE e he sR)
   ·rw[ho]at hj;cases hj;exact .inl (hd e he sR)
  have sS:∀j,((eS l []).getD j 0).testBit i=true→S j=false:=by
   intro t yZ;cases lA:S t with
   |false=>rfl
   |true=>
    exfalso;have pd:t<l.length:=by
     have hm:=I.done t lA;obtain⟨⟨a,b⟩,dS,rfl⟩:=zbY.1 hm;obtain⟨_,o',_,eF,_⟩:=I.facts a b dS;exact(List.getElem?_eq_some_iff.1 eF).1
    have:=qV h1 I.m_ t pd lA i yZ;rw[nf]at this;cases this
  have next:∀v,lk acc i=some v→i∈π1.map (·.1)→nX P X n ds l m ρ F k A (fun j=>S j||j==i) (put o.dst v ρ') Γ' π1 bw T acc:=by
   intro v hv dW;refine⟨I.nd,I.part,I.fh,I.ok,I.flag,I.jL,fun j b hj=>?_,I.gS,?_,?_,?_,o9,I.fr.imp_left fun ⟨t,a,b,c⟩=>⟨t,a,by simp[b],c⟩⟩
   ·obtain⟨u,o',g1,g2,g3,g4⟩:=I.facts j b hj;exact⟨u,o',g1,g2,fun hb=>by simp[g3 hb],g4⟩
   ·intro j hj;simp only[zM,beq_iff_eq]at hj;rcases hj with hj|rfl
    ·exact I.done j hj
    ·exact dW
   ·intro j u d hj gT iZ;simp only[zM,beq_iff_eq]at hj;by_cases eC:j=i
    ·subst eC;rw[hv]at gT;cases gT;have:o.dst=some d:=by simpa[ho]using iZ
     rw[this];exact jY
    ·have eE:S j=true:=hj.resolve_right eC;have:=I.iX j u d eE gT iZ;cases dJ:o.dst with
     |none=>exact this
     |some d'=>
      have cE:d'≠d:=by
       rintro rfl;exact eC (wM qd iZ (by simp[ho,dJ]))
      show lk ((d',v)::ρ') d=some u;rw[ir cE];exact this
   ·intro s u hs gU;have hold:lk ρ' s=some u:=I.jZ s u hs fun j hj=>by
     have:=gU j hj;simp only[zaY]at this;exact this.1
    cases dJ:o.dst with
    |none=>exact hold
    |some d'=>
     have cE:d'≠s:=by
      rintro rfl;have:=gU i (by simp[ho,dJ]);simp at this
     show lk ((d',v)::ρ') s=some u;rw[ir cE];exact hold
  have gB:∀d,o.dst=some d→Nat.blt d n=true:=fun d dJ=>by
   have:=hn d (sO (i:=i) (by simp[ho,dJ]));simpa[zN]using this
  rcases I.part i ec with dW|fS
  ·
   obtain⟨⟨a,b⟩,dS,rfl⟩:=zbY.1 dW;obtain⟨v,o',g1,g2,g3,g4⟩:=I.facts a b dS;rw[ho]at g2;cases g2;cases b with
   |true=>have:=g3 rfl;rw[nf]at this;cases this
   |false=>
    obtain⟨ep,hle,j1⟩:=g4 rfl;have gl:=kz.sN I hle hd (wN hb) sS;have y9:∃Δ,Γ'.Perm (F++Δ):=by
     rcases I.fr with ⟨t,wO,lA,htπ⟩|h
     ·exfalso;have pf:=zaQ.1 htπ a (List.mem_range.2 ec);have tc:=I.flag a false dS;have oy:((eS l []).getD t 0).testBit a=true:=by
       rw[←tc]at pf;simpa using pf
      have pd:t<l.length:=by
       have sU:=I.done t lA;obtain⟨⟨a',b'⟩,y_,rfl⟩:=zbY.1 sU;obtain⟨_,o',_,eF,_⟩:=I.facts a' b' y_;exact(List.getElem?_eq_some_iff.1 eF).1
      have:=qV h1 I.m_ t pd lA a oy;rw[nf]at this;cases this
     ·exact h
    obtain⟨Δ,z_⟩:=y9;have sV:∀(F Δ:List HP),ak (F++Δ) F:=fun F Δ=>by
     refine(ak.perm zac).trans ?_;induction Δ with
     |nil=>exact .refl _
     |cons A Δ ih=>exact(ak.drop A _).trans ih
    have sW:∀E w,St E Γ' w→St E (fo o.op F) w:=fun E w s=>by
     rcases Ga o.op F with h|h
     ·rw[h];exact(sV F Δ).st (s.perm z_)
     ·rw[h];exact(sV [] Γ').st s
    have go:bI P o.op o.type (gn l m ρ ep a o.after.toList) (fo o.op F) v→bm P X n ds o.dst o.op o.type (fun v' Γ''=>∃π1 bw T acc,nX P X n ds l m ρ F k A (fun j=>S j||j==a) (put o.dst v' ρ') Γ'' π1 bw T acc∧∀i t,T≠.look i t) ρ' Γ':=by
     intro hv;cases dJ:o.dst with
     |none=>
      intro pg i' o' rest k' ρF sX sY Aa ax aS hw hK t w cP fC eD;have hr:=hv.2 (Act.mk t ds).eval o' X.E w ax aS (fun x u hx=>(fC.le fun s z hz=>sX s z (gl s z hz)).ev ds hx) (fun xs vs hx=>(fC.le fun s z hz=>sX s z (gl s z hz)).gk ds hx) (sW _ _ eD);refine .step (m':=lone (X.base.atR ⟨t,ds⟩ (.inRegion pg rest::k')) X.cs w) (step_lone_go ?_)
       (hK v Γ' ⟨π1,bw,T,acc,(by have:=next v g1 dW;rwa[dJ]at this),iY⟩ t w cP fC eD)
      rw[stepGR_op sY (hw t fC),Oper.semAt_eq _ _ _ (by rw[ax];exact hv.1)];have fX:=Frame.finish_atR X.base ⟨t,ds⟩ pg i' rest k' v;have hp:((pg[i']?).bind (·.dst))=none:=by simp[sY,Aa]
      rw[hp]at fX;simp only[stepG.apply,Sem.runT_eq,hr,if_true,GStep.bare_after,fX]
      rfl
     |some d=>
      have:=bL (X:=X) (n:=n) (ds:=ds) (d:=d) (Nx:=fun v' Γ''=>∃π1 bw T acc,nX P X n ds l m ρ F k A (fun j=>S j||j==a) (put (some d) v' ρ') Γ'' π1 bw T acc∧∀i t,T≠.look i t)
       (hv.Fw sW) (gB d dJ) ⟨π1,bw,T,acc,(by have:=next v g1 dW;rwa[dJ]at this),iY⟩
      exact this.le gl
    unfold GV at j1;cases dv:o.guard with
    |none=>rw[dv]at j1;exact .plain dv (go j1)
    |some jb=>
     obtain⟨j,b⟩:=jb;rw[dv]at j1;simp only at j1;have lB:=zaQ.1 h8 o (zc ho);simp only[dv,zh]at lB;obtain⟨ph,pi⟩:=lB;obtain⟨e,he,i_⟩:=Array.any_eq_true'.1 ph;simp only[zh]at i_;have pj:=zJ i_.1;obtain⟨d,lC⟩:=Option.isSome_iff_exists.1 pi;have eE:S j=true:=pj ▸ hd e he i_.2;have gV:∀u,lk ep j=some u→gd ρ' l.toArray j=some u:=by
      intro u hu;unfold gd;have:(l.toArray[j]?).bind (·.dst)=some d:=by simpa using lC
      rw[this];exact I.iX j u d eE (hle j u hu) lC
     rcases j1 with ⟨ed,hv⟩|⟨ed,rfl⟩
     ·exact .guarded dv (gV _ ed) (go hv)
     ·rcases ed with ed|ed
      ·exact .uC dv (gV _ ed) (.inl rfl) gB ⟨π1,bw,T,acc,next undef g1 dW,iY⟩
      ·exact .uC dv (gV _ ed) (.inr rfl) gB ⟨π1,bw,T,acc,next undef g1 dW,iY⟩
  ·
   have GL:i∈mP T:=by
    rcases Lz T bw I.ok with ⟨j,t,e⟩|e|hc
    ·exact absurd e (iY j t)
    ·subst e;have:=I.ok;unfold eX at this;cases bw with
     |nil=>cases fS
     |cons p q=>simp at this
    ·have h7:=zaQ.1 hc i fS;rw[zM]at h7;rcases h7 with h7|h7
     ·exact ox.1 h7
     ·obtain⟨c,AF,Ab⟩:=List.any_eq_true.1 h7;have l8:(fun j=>S j||j==i) c=true:=qV h1 o9 i ec (by simp) c Ab;simp only[zM,beq_iff_eq]at l8;rcases l8 with l8|rfl
      ·obtain⟨t,_,uP⟩:=xb T true bw I.ok I.jL AF;unfold eX at uP;simp only[zh]at uP;exact absurd (I.done c l8) (I.fh c (ox.1 uP.1.1.1.2))
      ·exact AF
   obtain⟨r,qX,gH⟩:=xb T true bw I.ok I.jL GL;unfold eX at gH;simp only[zh,zM]at gH;obtain⟨⟨⟨⟨-,hp⟩,hA⟩,uQ⟩,gH⟩:=gH
   ·obtain⟨o',eF,Ac,hex⟩:=qX;rw[ho]at eF;cases eF;have kP:i∉π1.map (·.1):=I.fh i fS;have o8:lk acc i=none:=by
     cases h:lk acc i with
     |none=>rfl
     |some u=>have:=qW h;rw[I.gS]at this;exact absurd (by simpa using this) kP
    have gl:=kz.sN I (gR.refl acc) hd (wN hb) sS;have sZ:=(hex.mono (Nx':=fun v Γ''=>∃π1 bw T acc,nX P X n ds l m ρ F k A (fun j=>S j||j==i) (put o.dst v ρ') Γ'' π1 bw T acc∧∀i t,T≠.look i t) fun v Γ'' ⟨Ad,uB⟩=>by
     have hle:gR acc ((i,v)::acc):=fun j u hj=>by
      rw[ir]
      ·exact hj
      ·rintro rfl;rw[o8]at hj;cases hj
     have s9:∀s u,(∀d,o.dst=some d→d≠s)→lk ρ' s=some u→lk (put o.dst v ρ') s=some u:=by
      intro s u cE hs;cases dJ:o.dst with
      |none=>exact hs
      |some d'=>show lk ((d',v)::ρ') s=some u;rw[ir (cE d' dJ)];exact hs
     refine nX.pure r (π1++[(i,true)]) (tg i bw) ((i,v)::acc) ⟨?_,?_,?_,gH,?_,uB,?_,by simp[I.gS],?_,?_,?_,o9,Ad.imp_left fun hm=>⟨i,zX hm,by simp,uQ.resolve_left fun hh=>?_⟩⟩
     ·rw[zg,zab];exact⟨I.nd,by simp,fun a ha b hb=>by
       have:b=i:=by simpa using hb
       subst this;rintro rfl;exact kP ha⟩
     ·intro j hj;rw[zg,zL];rcases I.part j hj with h|h
      ·exact .inl (.inl h)
      ·by_cases e:j=i
       ·exact .inl (.inr (by simp[e]))
       ·exact .inr (th.2 ⟨h,e⟩)
     ·intro j hj hm;obtain⟨h1,h2⟩:=th.1 hj;rw[zg,zL]at hm;rcases hm with hm|hm
      ·exact I.fh j h1 hm
      ·exact h2 (by simpa using hm)
     ·intro j b hj;rcases zL.1 hj with hj|hj
      ·exact I.flag j b hj
      ·have e:(j,b)=(i,true):=by simpa using hj
       cases e;exact hA.symm
     ·intro j b hj;rw[zL]at hj;rcases hj with hj|hj
      ·obtain⟨u,Ae,g1,g2,g3,g4⟩:=I.facts j b hj;refine⟨u,Ae,hle j u g1,g2,fun hb=>by simp[g3 hb],fun hb=>?_⟩;obtain⟨ep,g5,g6⟩:=g4 hb;exact⟨ep,fun a c hc=>hle a c (g5 a c hc),g6⟩
      ·have e:(j,b)=(i,true):=by simpa using hj
       cases e;exact⟨v,o,jY,ho,(fun _=>by simp),fun h=>by cases h⟩
     ·intro j hj;simp only[zM,beq_iff_eq]at hj;rw[zg,zL];rcases hj with hj|rfl
      ·exact .inl (I.done j hj)
      ·exact .inr (by simp)
     ·intro j u d hj gT iZ;simp only[zM,beq_iff_eq]at hj;by_cases eC:j=i
      ·subst eC;rw[jY]at gT;cases gT;have:o.dst=some d:=by simpa[ho]using iZ
       rw[this];exact jY
      ·have eE:S j=true:=hj.resolve_right eC;rw[ir (zb4 eC)]at gT;exact s9 d u (fun d' dJ lz=>by
        subst lz;exact eC (wM qd iZ (by simp[ho,dJ]))) (I.iX j u d eE gT iZ)
     ·intro s u hs gU;refine s9 s u (fun d' dJ lz=>?_) (I.jZ s u hs fun j hj=>by
       have:=gU j hj;simp only[zaY]at this;exact this.1)
      subst lz;have:=gU i (by simp[ho,dJ]);simp at this
     ·have xc:=zX hm;have GM:i<m:=by simpa[zN]using hh
      omega).le gl
    rcases Ac with dv|⟨j,b,dv,Af⟩
    ·exact .plain dv sZ
    ·have lB:=zaQ.1 h8 o (zc ho);simp only[dv,zh]at lB;obtain⟨ph,pi⟩:=lB;obtain⟨e,he,i_⟩:=Array.any_eq_true'.1 ph;simp only[zh]at i_;have pj:=zJ i_.1;obtain⟨d,lC⟩:=Option.isSome_iff_exists.1 pi;have eE:S j=true:=pj ▸ hd e he i_.2;refine .guarded dv ?_ sZ;unfold gd;have:(l.toArray[j]?).bind (·.dst)=some d:=by simpa using lC
     rw[this];exact I.iX j _ d eE Af lC
 ·rintro S ρ' Γ' hS ⟨π1,bw,T,acc,I,iY⟩;have bM:∀i∈bw,¬i<l.length:=fun i hi ec=>I.fh i hi (I.done i (hS i ec));have hT:T= .nil:=by
   cases T with
   |nil=>rfl
   |look i t=>exact absurd rfl (iY i t)
   |act i t=>
    exfalso;obtain⟨r,⟨o,ho,_⟩,gH⟩:=xb (Tr.act i t) true bw I.ok I.jL (i:=i) (by simp[mP]);unfold eX at gH;simp only[zh]at gH;exact bM i (ox.1 gH.1.1.1.2) (List.getElem?_eq_some_iff.1 ho).1
   |alt a b=>
    exfalso;have hk:=I.ok;unfold eX at hk;simp only[zh]at hk;obtain⟨i,hi⟩:=GJ a bw hk.1.2;obtain⟨r,⟨o,ho,_⟩,gH⟩:=xb (Tr.alt a b) true bw I.ok I.jL (i:=i) (zK _ hi);unfold eX at gH;simp only[zh]at gH;exact bM i (ox.1 gH.1.1.1.2) (List.getElem?_eq_some_iff.1 ho).1
  subst hT;have qX:Ex P X n ds k (kO l acc++ρ) Γ':=I.jL;have hl:=TP I I.nd (fun i hi=>by
   obtain⟨⟨a,b⟩,dS,rfl⟩:=zbY.1 hi;obtain⟨_,o',_,eF,_⟩:=I.facts a b dS;exact hS a (List.getElem?_eq_some_iff.1 eF).1) (fun i hi=>(I.part i hi).resolve_right fun h=>bM i h hi)
  exact fun t w cP fC eD=>qX t w cP (fC.le hl) eD
variable {l:List Oper} {m:Nat} {base:aK} {F:List HP} {T:Tr} {acc:aK}
theorem dg{i:Nat}{dst:Option Tmp}{op:Op}{ty:TypeId}{pos:String}{af:Array Edge}{v:Value}(ho:l[i]? =some ⟨dst,op,ty,pos,af,none⟩)(hv:bI P op ty (gn l m base acc i af.toList) (fo op F) v)(h:kz P X n ds l m base F k T ((i,v)::acc) Γ):
 kz P X n ds l m base F k (.look i T) acc Γ:=⟨_,v,ho,hv,h⟩
theorem xd{i:Nat}{dst:Option Tmp}{op:Op}{ty:TypeId}{pos:String}{af:Array Edge}(ho:l[i]? =some ⟨dst,op,ty,pos,af,none⟩)
 (h:bm P X n ds dst op ty (fun v Γ'=>(∃Δ,Γ'.Perm (F++Δ))∧kz P X n ds l m base F k T ((i,v)::acc) Γ') (gn l m base acc i af.toList) Γ):
 kz P X n ds l m base F k (.act i T) acc Γ:=⟨_,ho,.inl rfl,h.mono fun _ _ ⟨a,b⟩=>⟨.inr a,b⟩⟩
theorem mf{T T':Tr}(h:kz P X n ds l m base F k T acc Γ)(h':kz P X n ds l m base F k T' acc Γ):kz P X n ds l m base F k (.alt T T') acc Γ:=⟨h,h'⟩
end draw
end
section
open Go.Proofs Tryz
open Go.RowKit
theorem TQ{P:Program}{X:Cx}{n:Nat}{k:List Item}{ρ:aK}{Γ:List HP}{c:Code}{α:Type}(I:α→Prop)(dI:α→List Deferred)(ρI:α→aK)(ΓI:α→List HP)(μ:α→Nat)(a0:α)(h0:I a0)(hρ:wk (ρI a0) ρ)(hΓ:ak Γ (ΓI a0))
 (round:∀a,I a→(∀a',I a'→μ a'<μ a→Ex P X n (dI a') (.inLoop c::k) (ρI a') (ΓI a'))→Ex P X n (dI a) (.code c:: .inLoop c::k) (ρI a) (ΓI a)):
 Ex P X n (dI a0) (.code (.loop c)::k) ρ Γ:=by
 have key:∀m a,μ a=m→I a→Ex P X n (dI a) (.code c:: .inLoop c::k) (ρI a) (ΓI a):=by
  intro m;induction m using Nat.strongRecOn with
  |_ m ih=>exact fun a ha hI=>round a hI fun a' eA aN=>oV (ih (μ a') (ha ▸ aN) a' rfl eA)
 exact fun t w hn hm hs=> .step stepR_loop (key _ a0 rfl h0 t w hn (hm.sub hρ) (hΓ.st hs))
section
variable {P:Program} {X:Cx} {n:Nat} {ds:List Deferred} {ρ:aK} {Γ:List HP} {Nx:Value→List HP→Prop} {d:Nat} {ty:TypeId}
theorem TR{t m e:Nat}{vs:List Value}{v:Value}{j:Nat}{kk:IntKind}[T:iR P t m e 1][C:cU P e](aN:j<m)(hv:vs[j]? =some v)(w:World):(Instr.index t (.agg vs.toArray) (.int kk (j:Int))).run P w= .ok v w:=by
 obtain⟨inf,hu,hi,bZ⟩:=T.h;simp[Instr.index,asIntOf,cN hu,eB hi,bZ,aN,part,cU.agg,hv]
theorem xe{t m e:Nat}{x ix:Operand}{vs:List Value}{v:Value}{j:Nat}{kk:IntKind}{i:Int}[T:iR P t m e 1][C:cU P e](hx:ev ρ x=some (.agg vs.toArray))(hi:ev ρ ix=some (.int kk i))(hj:i=(j:Int))(aN:j<m)(hv:vs[j]? =some v)
 (hn:Nat.blt d n=true) (h:Nx v Γ):bm P X n ds (some d) (.index t x ix) ty Nx ρ Γ:=
 b_ (by simp) hn fun ee o w ax aS he bg hs=>⟨_,w,Γ,by
  subst hj;simp[execOp,ax,he x _ hx,he ix _ hi,TR aN hv],hs,h⟩
end
end
section
open Go.Proofs Tryz
def ay(a i:Nat):Nat:=a/18446744073709551616^i%18446744073709551616
theorem fE(a i:Nat):ay a i<18446744073709551616:=za0 _ (by decide)
def kT(a b c d:Nat):Nat:=a+18446744073709551616*(b+18446744073709551616*(c+18446744073709551616*d))
theorem C7{a b c d:Nat}(ha:a<18446744073709551616)(hb:b<18446744073709551616)(hc:c<18446744073709551616)(hd:d<18446744073709551616):ay (kT a b c d) 0=a∧ay (kT a b c d) 1=b∧ay (kT a b c d) 2=c∧ay (kT a b c d) 3=d:=by
 unfold ay kT;simp only[Nat.reducePow];refine⟨?_,?_,?_,?_⟩<;>omega
theorem ti{a:Nat}(h:a<115792089237316195423570985008687907853269984665640564039457584007913129639936):kT (ay a 0) (ay a 1) (ay a 2) (ay a 3)=a:=by
 unfold ay kT;simp only[Nat.reducePow];omega
theorem C8{a b c d:Nat}(ha:a<18446744073709551616)(hb:b<18446744073709551616)(hc:c<18446744073709551616)(hd:d<18446744073709551616):kT a b c d<115792089237316195423570985008687907853269984665640564039457584007913129639936:=by
 unfold kT;omega
def bT(a:Nat):Nat:=if a=0 then 0 else Nat.log2 a+1
def cu(s:List UInt8):Nat:=s.foldl (fun m b=>((m^^^b.toNat)*1099511628211)%18446744073709551616) 14695981039346656037
def aU(a:Nat):List UInt8:=(List.range ((bT a+7)/8)).map fun j=>UInt8.ofNat (a/256^((bT a+7)/8-1-j)%256)
def dw(m:Nat):List UInt8:=(List.range 8).map fun j=>UInt8.ofNat (m/256^(7-j)%256)
def cZ(base n:Nat):List UInt8:=if n≤55 then [UInt8.ofNat (base+n)]else UInt8.ofNat (base+55+(aU n).length)::aU n
def cT(s:List UInt8):List UInt8:=if s.length=1∧s.headD 0<128 then s else cZ 128 s.length++s
def mg(l:List (List UInt8)):List UInt8:=cZ 192 l.flatten.length++l.flatten
structure TX where
 bx:Int
 ck:Int
 bV:Nat
 cap:Nat
 bX:Nat
 val:Nat
 dr:Int
 hs:List Nat
 bl:List (List UInt8)
def tj:List UInt8:=[98,108,111,98]
def qn(hs:List Nat)(bl:List (List UInt8)):Bool:=decide (1≤bl.length)&&decide (bl.length≤4)&&decide (hs=bl.map fun b=>cu (tj++b))&&bl.all fun b=>decide (b.length≤64)
def TX.fits(t:TX):Bool:=qn t.hs t.bl
def TX.fF(t:TX):Nat:=t.cap*t.dr.toNat+t.bX*(131072*t.bl.length)+t.val
def TX.ok(t:TX):Bool:=decide (0≤t.bx)&&decide (t.bx<8)&&decide (0≤t.ck)&&decide (t.ck≤1099511627776)&&decide (0≤t.dr)&&decide (t.dr≤1073741824)&&decide (t.bV≤t.cap)&&t.fits&&
 decide (t.fF<115792089237316195423570985008687907853269984665640564039457584007913129639936)
def TX.bytes(t:TX):List UInt8:=mg [cT (aU t.bx.toNat),cT (aU t.ck.toNat),cT (aU t.bV),cT (aU t.cap),cT (aU t.bX),cT (aU t.val),cT (aU t.dr.toNat),mg (t.hs.map fun h=>cT (dw h)),mg (t.bl.map cT)]
def TX.id(t:TX):Nat:=cu t.bytes
theorem uR{a k:Nat}(h:a<2^k):bT a≤k:=by
 unfold bT;split
 ·omega
 ·rename_i h0;have:=(Nat.log2_lt h0).2 h;omega
theorem LA(a:Nat):(aU a).length=(bT a+7)/8:=by simp[aU]
theorem mh{a k:Nat}(h:a<2^(8*k)):(aU a).length≤k:=by
 rw[LA];have:=uR h;omega
theorem xf(m:Nat):(dw m).length=8:=by simp[dw]
theorem C9{b n:Nat}(h:n<65536):(cZ b n).length≤3:=by
 unfold cZ;split
 ·simp
 ·have:=mh (a:=n) (k:=2) (by simpa using h);simp;omega
theorem rA{s:List UInt8}(h:s.length<65536):(cT s).length≤s.length+3:=by
 unfold cT;split
 ·omega
 ·have:=C9 (b:=128) h;rw[zd];omega
theorem LB(l:List (List UInt8))(m:Nat)(h:∀x∈l,x.length≤m):l.flatten.length≤l.length*m:=by
 induction l with
 |nil=>simp
 |cons x l ih=>
  have h1:=ih fun y hy=>h y (by simp[hy]);have h2:=h x (by simp);rw[zce,zd,zy,zA];omega
theorem GN{l:List (List UInt8)}(h:l.flatten.length<65536):(mg l).length≤l.flatten.length+3:=by
 unfold mg;have:=C9 (b:=192) h;rw[zd];omega
structure TX.Wf(t:TX):Prop where
 bV:t.bV<115792089237316195423570985008687907853269984665640564039457584007913129639936
 cap:t.cap<115792089237316195423570985008687907853269984665640564039457584007913129639936
 bX:t.bX<115792089237316195423570985008687907853269984665640564039457584007913129639936
 val:t.val<115792089237316195423570985008687907853269984665640564039457584007913129639936
 hs:∀h∈t.hs,h<18446744073709551616
theorem TX.rB{t:TX}(w:t.Wf)(h:t.ok=true):t.bytes.length≤484:=by
 unfold TX.ok TX.fits qn at h;simp only[zh,decide_eq_true_eq,zaQ]at h;obtain⟨⟨⟨⟨⟨⟨⟨⟨h1,h2⟩,h3⟩,h4⟩,h5⟩,h6⟩,h7⟩,⟨⟨⟨h8,h9⟩,mM⟩,pf⟩⟩,-⟩:=h;have e1:=mh (a:=t.bx.toNat) (k:=1) (by simp only[Nat.reduceMul,Nat.reducePow];omega);have e2:=mh (a:=t.ck.toNat) (k:=6) (by simp only[Nat.reduceMul,Nat.reducePow];omega);have e3:=mh (a:=t.bV) (k:=32) (by have:=w.bV;simp only[Nat.reduceMul,Nat.reducePow];omega);have e4:=mh (a:=t.cap) (k:=32) (by have:=w.cap;simp only[Nat.reduceMul,Nat.reducePow];omega);have e5:=mh (a:=t.bX) (k:=32) (by have:=w.bX;simp only[Nat.reduceMul,Nat.reducePow];omega);have e6:=mh (a:=t.val) (k:=32) (by have:=w.val;simp only[Nat.reduceMul,Nat.reducePow];omega);have e7:=mh (a:=t.dr.toNat) (k:=4) (by simp only[Nat.reduceMul,Nat.reducePow];omega);have f1:=rA (s:=aU t.bx.toNat) (by omega);have f2:=rA (s:=aU t.ck.toNat) (by omega);have f3:=rA (s:=aU t.bV) (by omega);have f4:=rA (s:=aU t.cap) (by omega);have f5:=rA (s:=aU t.bX) (by omega);have f6:=rA (s:=aU t.val) (by omega);have f7:=rA (s:=aU t.dr.toNat) (by omega);have g1:=LB (t.hs.map fun h=>cT (dw h)) 11 (fun x hx=>by
  obtain⟨y,_,rfl⟩:=zbY.1 hx;have:=rA (s:=dw y) (by rw[xf];omega);rw[xf]at this;exact this)
 have g2:=LB (t.bl.map cT) 67 (fun x hx=>by
  obtain⟨y,hy,rfl⟩:=zbY.1 hx;have hl:=pf y hy;have:=rA (s:=y) (by omega);omega)
 have GO:t.hs.length=t.bl.length:=by rw[mM];simp
 rw[zm]at g1 g2;have g3:=GN (l:=t.hs.map fun h=>cT (dw h)) (by omega);have g4:=GN (l:=t.bl.map cT) (by omega);have k1:([cT (aU t.bx.toNat),cT (aU t.ck.toNat),cT (aU t.bV),cT (aU t.cap),cT (aU t.bX),cT (aU t.val),cT (aU t.dr.toNat),mg (t.hs.map fun h=>cT (dw h)),mg (t.bl.map cT)]).flatten.length≤481:=by
  simp only[zce,List.flatten_nil,zd,zaT];omega
 have:=GN (l:=[cT (aU t.bx.toNat),cT (aU t.ck.toNat),cT (aU t.bV),cT (aU t.cap),cT (aU t.bX),cT (aU t.val),cT (aU t.dr.toNat),mg (t.hs.map fun h=>cT (dw h)),mg (t.bl.map cT)]) (by omega);unfold TX.bytes;omega
end
section
open Go.Proofs Tryz
structure jN(a:Nat)(c:List TX):Prop where
 len:c.length≤6
 aO:∀(i:Nat) (t:TX),c[i]? =some t→t.bx=a∧t.ck=i∧t.ok=true∧t.Wf
 sum:(c.map TX.fF).sum≤18446744073709551616
def mi(n:Nat):Nat:=if n≤112 then 0 else if n≤240 then 1 else if n≤496 then 2 else 3
def TX.slot(t:TX):Nat:=128*2^mi t.bytes.length
def C_(l:List TX):Nat:=(l.map TX.slot).sum
structure kA(cs:List (List TX)):Prop where
 len:cs.length=8
 ch:∀(a:Nat) (c:List TX),cs[a]? =some c→jN a c
structure iH(l:List TX):Prop where
 cs:∃cs,kA cs∧l=cs.flatten
 ids:(l.map TX.id).Nodup
theorem TT{cs:List (List TX)}(h:kA cs){t:TX}(ht:t∈cs.flatten):∃(a:Nat) (c:List TX) (i:Nat),a<8∧cs[a]? =some c∧c[i]? =some t:=by
 obtain⟨c,hc,AG⟩:=List.mem_flatten.1 ht;obtain⟨a,ha⟩:=zk hc;obtain⟨i,hi⟩:=zk AG;refine⟨a,c,i,?_,ha,hi⟩;have:=(List.getElem?_eq_some_iff.1 ha).1;have:=h.len;omega
theorem iH.ok{l:List TX}(h:iH l){t:TX}(ht:t∈l):t.ok=true∧t.Wf∧0≤t.bx∧t.bx<8:=by
 obtain⟨cs,hc,rfl⟩:=h.cs;obtain⟨a,c,i,ha,h1,h2⟩:=TT hc ht;obtain⟨g1,-,g3,g4⟩:=(hc.ch a c h1).aO i t h2;exact⟨g3,g4,by omega,by omega⟩
theorem qo{cs:List (List TX)}{a:Nat}{c:List TX}(h:cs[a]? =some c):cs.flatten=(cs.take a).flatten++(c++(cs.drop (a+1)).flatten):=by
 obtain⟨ha,hc⟩:=List.getElem?_eq_some_iff.1 h
 conv=>lhs;rw[←zG a cs,zW ha,hc]
 rw[List.flatten_append,zce]
theorem tm{cs:List (List TX)}{a:Nat}{c:List TX}(h:cs[a]? =some c)(c':List TX):(cs.set a c').flatten=(cs.take a).flatten++(c'++(cs.drop (a+1)).flatten):=by
 obtain⟨ha,hc⟩:=List.getElem?_eq_some_iff.1 h;have h2:(cs.set a c')[a]? =some c':=by rw[zae];simp[ha]
 rw[qo h2,List.take_set_of_le (zq _),List.drop_set_of_lt (by omega)]
theorem Da{cs:List (List TX)}(h:kA cs){a:Nat}{t:TX}(ht:t∈(cs.take a).flatten):t.bx<a:=by
 obtain⟨c,hc,AG⟩:=List.mem_flatten.1 ht;obtain⟨k,hk⟩:=zk hc;obtain⟨i,hi⟩:=zk AG;have GP:k<a:=by have:=(List.getElem?_eq_some_iff.1 hk).1;simp at this;omega
 rw[zao GP]at hk;have:=((h.ch k c hk).aO i t hi).1;omega
theorem Db{cs:List (List TX)}(h:kA cs){a:Nat}{t:TX}(ht:t∈(cs.drop (a+1)).flatten):(a:Int)<t.bx:=by
 obtain⟨c,hc,AG⟩:=List.mem_flatten.1 ht;obtain⟨k,hk⟩:=zk hc;obtain⟨i,hi⟩:=zk AG;rw[zar]at hk;have:=((h.ch _ c hk).aO i t hi).1;omega
theorem LC{cs:List (List TX)}(h:kA cs){a:Nat}{c:List TX}(hc:cs[a]? =some c):cs.flatten.filter (fun t=>decide (t.bx=(a:Int)))=c:=by
 rw[qo hc,zbc,zbc];have h1:(cs.take a).flatten.filter (fun t=>decide (t.bx=(a:Int)))=[]:=by
  rw[zbH];intro t ht;have:=Da h ht;simp;omega
 have h2:(cs.drop (a+1)).flatten.filter (fun t=>decide (t.bx=(a:Int)))=[]:=by
  rw[zbH];intro t ht;have:=Db h ht;simp;omega
 have h3:c.filter (fun t=>decide (t.bx=(a:Int)))=c:=by
  rw[List.filter_eq_self];intro t ht;obtain⟨i,hi⟩:=zk ht;simpa using ((h.ch a c hc).aO i t hi).1
 rw[h1,h2,h3];simp
theorem kA.set{cs:List (List TX)}(h:kA cs){a:Nat}{c':List TX}(hc:jN a c'):kA (cs.set a c'):=⟨by rw[zH];exact h.len,fun k c hk=>by
 rw[zae]at hk;split at hk
 ·rename_i e;subst e;split at hk
  ·obtain rfl:=zD hk;exact hc
  ·cases hk
 ·exact h.ch k c hk⟩
theorem jN.pop{a:Nat}{c:List TX}{t:TX}(h:jN a (c++[t])):jN a c:=⟨by have:=h.len;simp at this;omega,fun i x hx=>h.aO i x (by rw[zt (List.getElem?_eq_some_iff.1 hx).1];exact hx),by
 have:=h.sum;rw[zg,zbI]at this;omega⟩
theorem iH.TU:iH []:=⟨⟨List.replicate 8 [],⟨rfl,fun a c h=>by
 have:c=[]:=by
  have:=zc h;exact List.eq_of_mem_replicate this
 subst this;exact⟨by simp,fun i t h=>by simp at h,by simp⟩⟩,by simp⟩,by simp⟩
end
end Go.Proofs.YtacfncmndodlpaaGreat
