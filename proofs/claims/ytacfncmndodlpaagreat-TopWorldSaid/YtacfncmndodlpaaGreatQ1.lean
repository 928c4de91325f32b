/- Part of a proof over the seat YtacfncmndodlpaaGreat. Its claim's last module says what is proved. -/
import Derived.Test.YtacfncmndodlpaaGreatQ0
import Derived.RangeFuncIn
import Derived.RangeFuncOwn
import Derived.Test.YtacfncmndodlpaaGreatRows
set_option linter.all false
set_option maxHeartbeats 12800000
namespace Go.Proofs.YtacfncmndodlpaaGreat
section
open Go.RowKit
theorem St.lD{E:Env}{Γ:List HP}{w:World}{b:Nat}{o:Obj}(o':Obj)(s:St E (Whole b o::Γ) w):St E (Whole b o'::Γ) (w.putObj b o'):=s.Cf o' _ rfl
def ng(D:Nat):Deferred:={target:= .collected D,args:= #[]}
def dX(Ds:List Nat):List Deferred:=Ds.map ng
def Marks(Ds:List Nat):HP:=Sep (Ds.map fun D=>Whole D (.deferred (some [])))
theorem ak.nO(Γ:List HP):ak Γ (Marks []::Γ):=jr.intro Γ|>.trans (ak.one (fun _ h=>h) Γ)
theorem ak.wP(D:Nat)(Ds:List Nat)(Γ:List HP):ak (Whole D (.deferred (some []))::Marks Ds::Γ) (Marks (D::Ds)::Γ):=by
 refine(ak.cons _ (ak.cx _ _)).trans ?_;exact ak.cA (Whole D (.deferred (some []))::Ds.map fun D=>Whole D (.deferred (some []))) Γ
def Rec(l:Nat)(r:Loop)(st:LoopState)(pe:Option Code):HP:=Whole l (.loop {r with state:=st,pending:=pe})
def uF(P:Program)(l:Nat)(vs:List Value)(A:List HP)(R:Bool→List HP→Prop):Prop:=
 ∀E Γ w,St E (A++Γ) w→∃fn tmps assign body,(Instr.yield l vs.toArray).run P w= .ok (.round l fn tmps assign body) w∧
  ∀c cs,Reach P (lone (Frame.round l fn tmps assign body .normal) (c::cs) w) fun m=>∃b B w',m=lone (c.finish (.bool b)) cs w'∧R b B∧St E (B++Γ) w'
section
variable {P:Program} {X:Cx} {n:Nat} {ds:List Deferred} {ρ:aK} {Γ:List HP} {k:List Item} {Nx:Value→List HP→Prop}
theorem qe{fo:Operand}{args:List Operand}{ts:Array TypeId}{l d:Nat}{ty:TypeId}{vs:List Value}{A Δ:List HP}{R:Bool→List HP→Prop}(hf:ev ρ fo=some (.func (.yield l) #[] #[]))(ha:gk ρ args=some vs)
 (S:uF P l vs A R) [T:nN Γ A Δ] (hn:Nat.blt d n=true) (h:∀b B,R b B→Nx (.bool b) (B++Δ)):
 bm P X n ds (some d) (.call ⟨.value fo,args.toArray,ts⟩) ty Nx ρ Γ:=by
 intro ops i o rest k ρF hle ho gB ax aS hw hK t w cP hm hs;obtain⟨fn,tmps,assign,body,hy,hr⟩:=S X.E Δ w hs.take;have aN:d<t.size:=by rw[cP];exact of_decide_eq_true (by simpa[zN]using hn)
 obtain⟨o4,uz⟩:∃o4,X.base.atR ⟨t,ds⟩ (.inRegion ops (i::rest)::k)=o4:=⟨_,rfl⟩
 have qZ:=(hm.le hle).ev ds hf;have SH:=(hm.le hle).gk ds ha;have SI:(execOp (Act.mk t ds).eval o).run P w= .ok (.round l fn tmps assign body) w:=by
  simp[execOp,ax,resolve,qZ,Deferred.ofValue,invoke,SH,hy]
 have yR:step P (lone o4 X.cs w)= .next (lone (Frame.round l fn tmps assign body .normal) (o4::X.cs) w):=by
  rw[←uz];refine step_lone_go ?_;rw[stepGR_op ho (hw t hm),Oper.semAt_eq _ _ _ (by rw[ax];simp)];simp[stepG.apply,SI,Frame.atR]
 rw[uz];refine .step yR ((hr o4 X.cs).trans ?_);rintro m ⟨b,B,w',rfl,hR,ju⟩;have fX:=Frame.finish_atR X.base ⟨t,ds⟩ ops i rest k (.bool b);have hp:((ops[i]?).bind (·.dst))=some d:=by simp[ho,gB]
 rw[hp,uz]at fX;rw[fX];exact hK _ _ (h b B hR) _ w' (by simpa using cP) (hm.put _ aN) ju
theorem nP{l:Nat}{r:Loop}{Δ:List HP}(eT:X.ro=some l)[T:Take Γ (Rec l r .ready none) Δ](h:Ex P X n ds k ρ (Rec l r .busy none::Δ)):Ex P X n ds (.beginRound::k) ρ Γ:=by
 intro t w cP hm hs;have s1:=hs.perm T.h;have hb:=run_beginRound (P:=P) s1.fz rfl;refine .step (stepR_beginRound eT hb) (h t _ cP hm ?_);exact s1.lD _
end
def SJ(c:Frame)(cs:List Frame)(E:Env)(R:Bool→List HP→Prop)(Γ:List HP):Machine→Prop:=fun m=>∃b B w',m=lone (c.finish (.bool b)) cs w'∧R b B∧St E (B++Γ) w'
def wQ(fn:FuncId)(l:Nat)(c:Frame)(cs:List Frame)(E:Env)(R:Bool→List HP→Prop)(Γ:List HP):Cx:=⟨fn,some l,c::cs,E,SJ c cs E R Γ⟩
def Ah:List Nat→List Value→aK→aK
 |p::ps,v::vs,ρ=>Ah ps vs ((p,v)::ρ)
 |_,_,ρ=>ρ
theorem Gg:∀(ps:List Nat) (vs:List Value) (ρ:aK) (t:Array Value),gQ ρ t→ps.all (fun p=>Nat.blt p t.size)=true→gQ (Ah ps vs ρ) ((ps.zip vs).foldl (fun tmps (x:Nat×Value)=>tmps.setIfInBounds x.1 x.2) t)∧((ps.zip vs).foldl (fun tmps (x:Nat×Value)=>tmps.setIfInBounds x.1 x.2) t).size=t.size:=by
 intro ps;induction ps with
 |nil=>intro vs ρ t h _;exact⟨h,rfl⟩
 |cons p ps ih=>
  intro vs ρ t h hp;cases vs with
  |nil=>exact⟨h,rfl⟩
  |cons v vs=>
   simp only[List.all_cons,zh]at hp;have aN:p<t.size:=by simpa[zN]using hp.1
   obtain⟨h1,h2⟩:=ih vs ((p,v)::ρ) (t.setIfInBounds p v) (h.put v aN) (by simpa using hp.2);exact⟨h1,by rw[List.zip_cons_cons,zaN,h2];simp⟩
section
variable {P:Program} {X:Cx} {n:Nat} {ρ:aK} {Γ:List HP} {k:List Item}
def Iter(P:Program)(gf:FuncId)(fs caps:List Value)(A A':List HP)(xs:List (List Value)):Prop:=
 ∀(l:Nat) (I J:Nat→HP),(∀i vs,xs[i]? =some vs→uF P l vs [I i] fun b B=>(b=true∧B=[I (i+1)])∨(b=false∧B=[J (i+1)]))→
  Spec P gf (fs++[.func (.yield l) #[] #[]]++caps) (A++[I 0]) fun _ B=>B=A'++[I xs.length]∨∃i,B=A'++[J i]
def Body(P:Program)(fn:FuncId)(n:Nat)(todo:List Item)(ρ:aK)(I:Nat→List HP)(J:Code→Nat→List HP)(i:Nat):Prop:=
 ∀(Y:Cx) (l:Nat) (r:Loop) (Θ:List HP),Y.fn=fn→Y.ro=some l→
  (∀ρ',Ex P Y n [] [] ρ' (Rec l r .busy none::(I (i+1)++Θ)))→
  (∀id k ρ',exitTo id k=none→Ex P Y n [] (.code (.exit id)::k) ρ' (Rec l r .busy none::(J (.exit id) (i+1)++Θ)))→
  (∀k ρ',Ex P Y n [] (.code .ret::k) ρ' (Rec l r .busy none::(J .ret (i+1)++Θ)))→
  Ex P Y n [] todo ρ (Rec l r .ready none::(I i++Θ))
theorem uG{f:Operand}{ps:List Nat}{assign body:Code}{gf:FuncId}{fs caps:List Value}{A A' Δ Δ1 Δ2:List HP}{Ds:List Nat}{xs:List (List Value)}(eT:X.ro=none)(hf:ev ρ f=some (.func (.func gf) fs.toArray caps.toArray))[C:aB P gf]
 [TM:Take Γ (Marks Ds) Δ] [TA:nN Δ A Δ1] (it:Iter P gf fs caps A A' xs) (I:Nat→List HP) (J:Code→Nat→List HP) (hI:ak Δ1 (I 0++Δ2)) (po:ps.all (fun p=>Nat.blt p n)=true) (ni:∀(i:Nat) (vs:List Value),xs[i]? =some vs→vs.length=ps.length)
 (Ai:∀i vs,xs[i]? =some vs→Body P X.fn n [.code assign,.beginRound,.code body] (Ah ps vs ρ) I J i)
 (Aj:∀D,Ex P X n (dX (D::Ds)) k ρ (Marks (D::Ds)::(I xs.length++(A'++Δ2))))
 (Ak:∀D c i,Ex P X n (dX (D::Ds)) (.code c::k) ρ (Marks (D::Ds)::(J c i++(A'++Δ2)))):
 Ex P X n (dX Ds) (.code (.rangeFunc f ps.toArray assign body)::k) ρ Γ:=by
 intro t w cP hm hs;obtain⟨E,hE⟩:∃E,X.E=E:=⟨_,rfl⟩
 rw[hE]at hs;obtain⟨r,hr⟩:∃r:Loop,r={state:= .ready,pending:=none,fn:=X.fn,tmps:=t,params:=ps.toArray,assign,body,defers:=w.heap.size}:=⟨_,rfl⟩
 have s0:=hs.perm TM.h;have s1:=((s0.sE (.deferred (some []))).sE (.loop r))
 simp only[World.size_alloc]at s1;obtain⟨w1,q9⟩:∃w1,(w.alloc (.deferred (some []))).alloc (.loop r)=w1:=⟨_,rfl⟩
 rw[q9]at s1;obtain⟨D,hD⟩:∃D,D=w.heap.size:=⟨_,rfl⟩
 rw[←hD]at s1;have Al:Rec (D+1) r .ready none=Whole (D+1) (.loop r):=by rw[hr];rfl
 rw[←Al]at s1;obtain⟨II,mN⟩:∃II:Nat→HP,II=fun i=>Sep (Rec (D+1) r .ready none::Whole D (.deferred (some []))::I i):=⟨_,rfl⟩
 obtain⟨JJ,pq⟩:∃JJ:Nat→HP,JJ=fun i=>Any fun c=>Sep (Rec (D+1) r .done (some c)::Whole D (.deferred (some []))::J c i):=⟨_,rfl⟩
 have sA:St E ((A++[II 0])++(Marks Ds::Δ2)) w1:=by
  have p1:(Rec (D+1) r .ready none::Whole D (.deferred (some []))::Marks Ds::Δ).Perm (A++(Rec (D+1) r .ready none::Whole D (.deferred (some []))::Marks Ds::Δ1)):=by
   refine((((TA.h).cons (Marks Ds)).cons _).cons _).trans ?_;refine List.Perm.trans ?_ (zac (l₁:=_::_::_::Δ1));simp only[zl];exact(((zac (l₁:=A) (l₂:=Δ1)).cons _).cons _).cons _
  have s2:=s1.perm p1;have e1:ak (Rec (D+1) r .ready none::Whole D (.deferred (some []))::Marks Ds::Δ1) (II 0::Marks Ds::Δ2):=by
   refine(((hI.cons (Marks Ds)).cons _).cons _).trans ?_;refine(ak.perm (?_:List.Perm _ ((Rec (D+1) r .ready none::Whole D (.deferred (some []))::I 0)++(Marks Ds::Δ2)))).trans ?_
   ·simp only[zl];exact(zau.symm.cons _).cons _
   ·rw[mN];exact ak.cA _ _
  have s3:=(e1.append A).st s2;simpa using s3
 have Am:∀i vs,xs[i]? =some vs→uF P (D+1) vs [II i] fun b B=>(b=true∧B=[II (i+1)])∨(b=false∧B=[JJ (i+1)]):=by
  intro i vs hi E' Θ w' s';rw[mN]at s';have s2:=(ak.cx _ _).st s';simp only[zl]at s2;have hl:=s2.fz;have hlen:=ni i vs hi;have hy:=run_yield (P:=P) (args:=vs.toArray) hl (by rw[hr];simpa using hlen);rw[hr]at hy;refine⟨X.fn,_,assign,body,hy,fun c cs=>?_⟩;obtain⟨Rr,nj⟩:∃Rr:Bool→List HP→Prop,Rr=fun b B=>(b=true∧B=[II (i+1)])∨(b=false∧B=[JJ (i+1)]):=⟨_,rfl⟩
  have hB:=Ai i vs hi (wQ X.fn (D+1) c cs E' Rr Θ) (D+1) r (Whole D (.deferred (some []))::Θ) rfl rfl ?_ ?_ ?_
  ·have hz:=Gg ps vs ρ t hm (by rw[cP];exact po);have e2:((ps.toArray.zip vs.toArray).foldl (fun tmps x=>tmps.setIfInBounds x.1 x.2) t)=(ps.zip vs).foldl (fun tmps (x:Nat×Value)=>tmps.setIfInBounds x.1 x.2) t:=by simp
   have:=hB _ w' (by rw[hz.2];exact cP) hz.1 (s2.perm (by
    refine List.Perm.cons _ ?_;exact zau.symm))
   rw[←nj];have e3:(wQ X.fn (D+1) c cs E' Rr Θ).base.atR ⟨(ps.zip vs).foldl (fun tmps (x:Nat×Value)=>tmps.setIfInBounds x.1 x.2) t,[]⟩ [.code assign,.beginRound,.code body]=Frame.round (D+1) X.fn ((ps.toArray.zip vs.toArray).foldl (fun tmps x=>tmps.setIfInBounds x.1 x.2) t) assign body .normal:=by
    rw[e2];rfl
   rw[e3]at this;exact this
  ·
   intro ρ' t' v' _ _ st;have cv:=run_endRound (P:=P) none st.fz;refine .step (stepR_round_end rfl rfl cv) (.now ⟨true,[II (i+1)],_,rfl,by rw[nj];exact .inl ⟨rfl,rfl⟩,?_⟩);have iU:=st.lD (.loop {r with state:= .ready,pending:=none});rw[mN];refine(ak.cA (Rec (D+1) r .ready none::Whole D (.deferred (some []))::I (i+1)) Θ).st (iU.perm ?_);simp only[zl];exact List.Perm.cons _ zau
  ·intro id k' ρ' hk t' v' _ _ st;have cv:=run_endRound (P:=P) (some (.exit id)) st.fz;refine .step (stepR_round_exit rfl rfl hk cv) (.now ⟨false,[JJ (i+1)],_,rfl,by rw[nj];exact .inr ⟨rfl,rfl⟩,?_⟩);have iU:=st.lD (.loop {r with state:= .done,pending:=some (.exit id)});rw[pq];refine(ak.ex (A:=fun c=>Sep (Rec (D+1) r .done (some c)::Whole D (.deferred (some []))::J c (i+1))) (.exit id) Θ).st ?_;refine(ak.cA (Rec (D+1) r .done (some (.exit id))::Whole D (.deferred (some []))::J (.exit id) (i+1)) Θ).st (iU.perm ?_);simp only[zl];exact List.Perm.cons _ zau
  ·intro k' ρ' t' v' _ _ st;have cv:=run_endRound (P:=P) (some .ret) st.fz;refine .step (stepR_round_ret rfl rfl cv) (.now ⟨false,[JJ (i+1)],_,rfl,by rw[nj];exact .inr ⟨rfl,rfl⟩,?_⟩);have iU:=st.lD (.loop {r with state:= .done,pending:=some .ret});rw[pq];refine(ak.ex (A:=fun c=>Sep (Rec (D+1) r .done (some c)::Whole D (.deferred (some []))::J c (i+1))) .ret Θ).st ?_;refine(ak.cA (Rec (D+1) r .done (some .ret)::Whole D (.deferred (some []))::J .ret (i+1)) Θ).st (iU.perm ?_);simp only[zl];exact List.Perm.cons _ zau
 have An:=it (D+1) II JJ Am E (Marks Ds::Δ2) w1 sA;have Ao:(Instr.enterLoop X.base.fn t ps.toArray assign body X.base.roundOf).run P w= .ok (D+1,[ng D]) w1:=by
  have hb:X.base.roundOf=none:=eT;rw[hb,run_enterLoop_outer,←q9,hr,hD];rfl
 have qZ:=hm.ev (dX Ds) hf;have lx:(resolve (Act.mk t (dX Ds)).eval (rangeCall f (D+1)) 0).run P w1= .ok {target:= .fn (.func gf) caps.toArray,args:=fs.toArray++ #[.func (.yield (D+1)) #[] #[]]} w1:=by
  show((Deferred.ofValue ((Act.mk t (dX Ds)).eval f) (#[Operand.const (.func (.yield (D+1)) #[] #[])].map (Act.mk t (dX Ds)).eval)):Sem Deferred).run P w1=_;rw[qZ];simp[Deferred.ofValue,Act.eval]
 have lY:=stepR_rangeFunc (P:=P) (b:=X.base) (a:=⟨t,dX Ds⟩) (k:=k) (cs:=X.cs) (w:=w) (g:=f) (ps:=ps.toArray) (assign:=assign) (body:=body) Ao lx
  (show(invoke (.fn (.func gf) caps.toArray) (fs.toArray++ #[.func (.yield (D+1)) #[] #[]])).run P w1= .ok (.enter gf _) w1 from C.run _ _)
 refine .step lY ?_;obtain⟨e,w2,fr,⟨v,B,rfl,hB,s2⟩,p_,fZ,qT⟩:=An (X.base.atR ⟨t,[ng D]++dX Ds⟩ (.inRangeFunc (D+1)::k)::X.cs);have Ap:(fs++[Value.func (.yield (D+1)) #[] #[]]++caps).toArray=(fs.toArray++ #[.func (.yield (D+1)) #[] #[]])++caps.toArray:=by simp
 rw[Ap]at p_;refine .steps p_ (.step (step_leave_returned qT) ?_);rw[finish_atR_inRangeFunc];rcases hB with rfl|⟨i,rfl⟩
 ·have s3:St E (Rec (D+1) r .ready none::(Whole D (.deferred (some []))::Marks Ds::(I xs.length++(A'++Δ2)))) w2:=by
   have p1:((A'++[II xs.length])++(Marks Ds::Δ2)).Perm (II xs.length::(Marks Ds::(A'++Δ2))):=by
    simp only[zr,zl,zB];exact zau.trans (zau.cons _)
   have s4:=s2.perm p1;rw[mN]at s4;have s5:=(ak.cx _ _).st s4;refine s5.perm ?_;simp only[zl];exact(zau.cons _).cons _
  have pr:=run_endLoop (P:=P) s3.fz (by simp);refine .step (stepR_endRangeFunc (b:=X.base) (a:=⟨t,[ng D]++dX Ds⟩) pr) ?_;have s4:=s3.lD (.loop {r with state:= .exhausted,pending:=none});have s6:=(ak.wP D Ds _).st (s4.drop);exact Aj D t _ cP hm (by rw[hE];exact s6)
 ·have s3:∃c,St E (Rec (D+1) r .done (some c)::(Whole D (.deferred (some []))::Marks Ds::(J c i++(A'++Δ2)))) w2:=by
   have p1:((A'++[JJ i])++(Marks Ds::Δ2)).Perm (JJ i::(Marks Ds::(A'++Δ2))):=by
    simp only[zr,zl,zB];exact zau.trans (zau.cons _)
   have s4:=s2.perm p1;rw[pq]at s4;obtain⟨c,s4⟩:=s4.ex;refine⟨c,?_⟩;have s5:=(ak.cx _ _).st s4;refine s5.perm ?_;simp only[zl];exact(zau.cons _).cons _
  obtain⟨c,s3⟩:=s3;have pr:=run_endLoop (P:=P) s3.fz (by simp);refine .step (stepR_endRangeFunc (b:=X.base) (a:=⟨t,[ng D]++dX Ds⟩) pr) ?_;have s4:=s3.lD (.loop {r with state:= .exhausted,pending:=some c});have s6:=(ak.wP D Ds _).st (s4.drop);exact Ak D c i t _ cP hm (by rw[hE];exact s6)
theorem Gh{P:Program}{fr:Frame}{cs:List Frame}{E:Env}:∀(Ds:List Nat) (Δ:List HP) (w:World),fr.mode= .returning→fr.defers=dX Ds→St E (Marks Ds::Δ) w→
 ∃w',Steps P (lone fr cs w) (lone {fr with defers:=[]} cs w')∧St E Δ w':=by
 intro Ds;induction Ds generalizing fr with
 |nil=>
  intro Δ w hm hd s;have:{fr with defers:=[]}=fr:=by cases fr;simp[dX]at hd;simp[hd]
  rw[this];exact⟨w,.refl _ _,s.drop⟩
 |cons D Ds ih=>
  intro Δ w hm hd s;have s1:=(ak.cx _ _).st s;simp only[zE,zl]at s1;have ht:=run_takeDeferred (P:=P) s1.fz;have s2:=(s1.lD (.deferred none)).drop;have s3:St E (Marks Ds::Δ) (w.putObj D (.deferred none)):=(ak.cA _ _).st s2;obtain⟨w',h1,h2⟩:=ih (fr:={fr with defers:=dX Ds}) Δ _ hm rfl s3;refine⟨w',.head (step_lone_go ?_) h1,h2⟩;simp[stepG,unwind,hm,hd,dX,ng,Sem.runT_eq,ht]
theorem Aq{P:Program}{f:FuncId}{E:Env}{cs:List Frame}{R:Value→List HP→Prop}{Γ Δ Δ':List HP}{n:Nat}{k:List Item}{ρ:aK}{ts Ds:List Nat}{vs:List Value}[F:aG P f ts][T:Take Δ (Marks Ds) Δ'](hv:gk ρ (ts.map .tmp)=some vs)(B:List HP)(hR:R (eo vs) B)(hE:ak Δ' (B++Γ)):
 Ex P (jX P f E cs R Γ) n (dX Ds) (.code .ret::k) ρ Δ:=by
 intro t w cP hm hs;obtain⟨fn,fZ,lx⟩:=F.h;obtain⟨w',h1,h2⟩:=Gh (P:=P) (fr:={(jX P f E cs R Γ).base.atR ⟨t,dX Ds⟩ (.code .ret::k)with mode:= .returning}) (cs:=cs) Ds Δ' w rfl rfl (hs.perm T.h);refine .step (stepR_ret rfl) (.steps h1 (.now ⟨_,w',eo vs,B,rfl,rfl,⟨rfl,rfl,rfl,fn,fZ,?_⟩,hR,hE.st h2⟩));exact CG lx hm hv w'
theorem Gi{P:Program}{f:FuncId}{E:Env}{cs:List Frame}{R:Value→List HP→Prop}{Γ Δ Δ':List HP}{n:Nat}{ρ:aK}{Ds:List Nat}[F:aG P f []][T:Take Δ (Marks Ds) Δ'](B:List HP)(hR:R (.tuple #[]) B)(hE:ak Δ' (B++Γ)):
 Ex P (jX P f E cs R Γ) n (dX Ds) [] ρ Δ:=by
 intro t w cP hm hs;obtain⟨fn,fZ,lx⟩:=F.h;obtain⟨w',h1,h2⟩:=Gh (P:=P) (fr:={(jX P f E cs R Γ).base.atR ⟨t,dX Ds⟩ []with mode:= .returning}) (cs:=cs) Ds Δ' w rfl rfl (hs.perm T.h);refine .step (stepR_end rfl) (.steps h1 (.now ⟨_,w',.tuple #[],B,rfl,rfl,⟨rfl,rfl,rfl,fn,fZ,?_⟩,hR,hE.st h2⟩));exact CG (ts:=[]) (vs:=[]) lx hm rfl w'
end
end
section
open Go.RowKit
section ops
variable {P:Program} {X:Cx} {n:Nat} {ds:List Deferred} {ρ:aK} {Γ:List HP} {Nx:Value→List HP→Prop} {d:Nat} {ty:TypeId}
theorem KR{w:World}{t t2 e s y:Nat}{base:Option Addr}{len cap m:Nat}{kk:IntKind}{zv:Value}[T:cX P t e s y][NI:lW P t2 kk]
 (iT:0<y) (hb:(2*(len+m)+192)*y≤2^48) (ty:TypeId) (j2:zv.cells.size=s)
 (yI:Array Value) (hold:∀(w':World),w'.heap=w.heap→(Builtin.firstCells s len (.slice base len cap)).run P w'= .ok yI w') (hz:∃i,P.info? e=some i∧i.zero=some zv):
 (len+m≤cap∧(Builtin.append_ #[t,t2] ty #[.slice base len cap,.int .i64 m]).run P w=((match base with|some a=>storeCells (a.add (len*s)) (zs zv.cells.toList m)|none=>pure ())>>=fun _=>pure (Value.slice base (len+m) cap)).run P w)∨
 (cap<len+m∧∃c,len+m≤c∧(Builtin.append_ #[t,t2] ty #[.slice base len cap,.int .i64 m]).run P w= .ok (.slice (some ⟨w.heap.size,0,none⟩) (len+m) c) (w.drew.alloc (.cells (yI++(zs zv.cells.toList m).toArray++Builtin.zeroCells zv.cells (c-(len+m))) e))):=by
 obtain⟨hu,inf,fA,bZ,mK⟩:=T.fL;obtain⟨Ko,yJ,hzero⟩:=hz;rw[fA]at yJ;cases yJ;have mL:=NI.h;have hmy:m*y≤2^48:=by
  have:m*y≤(2*(len+m)+192)*y:=zn y (by omega);omega
 have KT:m≤2^48:=by
  have:m*1≤m*y:=zaA m iT;omega
 have hw:IntKind.i64.wrap (m:Int)=m:=by rw[IntKind.wrap_i64];omega
 have h1:¬((281474976710656:Int)<m*y):=by rw[←zav];omega
 have h2:¬((m:Int)<0):=by omega
 have qR:(Builtin.zeroCells zv.cells m)=(zs zv.cells.toList m).toArray:=by
  have:=CD zv.cells m;rw[←this]
 have e0:m*s=0→zs zv.cells.toList m=[]:=fun h0=>by apply List.length_eq_zero_iff.1;rw[lv];simpa[j2]using h0
 by_cases fR:len+m≤cap
 ·refine .inl ⟨fR,?_⟩;by_cases h0:m*s=0
  ·simp[Builtin.append_,cN hu,cN mL,eB fA,bZ,fR,asInt,asIntOf,hw,h2,m6 fA,mK,h1,h0,e0 h0];cases base<;>simp
  ·simp[Builtin.append_,cN hu,cN mL,eB fA,bZ,fR,asInt,asIntOf,hw,h2,m6 fA,mK,h1,h0,zeroValue,hzero,qR];cases base<;>simp
 ·refine .inr ⟨by omega,len+m+(w.tape w.drawn (.appendCap (len+m) cap e))%(2^63-(len+m)),by omega,?_⟩;have sI:=Km (len+m) cap (by omega);have hle:¬(2^48<Builtin.nextslicecap (len+m) cap*y):=by
   have:=zn y sI;omega
  have gl:¬(281474976710656<Builtin.nextslicecap (len+m) cap*y):=hle;have h4:=hold w.drew rfl;have Cy:¬y=0:=by omega
  have h6:¬((len+m:Nat):Int)>IntKind.i64.max:=by
   have:IntKind.i64.max=9223372036854775807:=by decide
   have h7:(len+m)*1≤(len+m)*y:=zaA _ iT;have h8:(len+m)*y≤(2*(len+m)+192)*y:=zn y (by omega);rw[this];omega
  simp at h6;by_cases h0:m*s=0
  ·simp[Builtin.append_,cN hu,cN mL,eB fA,m6 fA,bZ,mK,fR,Cy,gl,asInt,asIntOf,hw,h2,h1,Question.forced,Question.cut,h4,h0,e0 h0,zeroValue,hzero,newRow];intro h;omega
  ·simp[Builtin.append_,cN hu,cN mL,eB fA,m6 fA,bZ,mK,fR,Cy,gl,asInt,asIntOf,hw,h2,h1,Question.forced,Question.cut,h4,h0,qR,zeroValue,hzero,newRow];intro h;omega
theorem SK{t t2 e s y:Nat}{x z:Operand}{a:Option Addr}{len cap m:Nat}{i:Int}{kk:IntKind}{xs zv:List Value}{Δ:List HP}[T:cX P t e s y][NI:lW P t2 kk][Z:cp P e zv](hx:ev ρ x=some (.slice a len cap))(hz:ev ρ z=some (.int .i64 i))(hi:i=(m:Int))
 [TS:ig Γ a s len cap xs Δ] (fB:zv.length=s) (iT:Nat.blt 0 y=true) (h1:zv.all Value.oneCell'=true) (hb:(2*(len+m)+192)*y≤2^48) (hn:Nat.blt d n=true)
 (h:∀a' bi,len+m≤bi→Nx (.slice a' (len+m) bi) (Sl s a' (len+m) bi (xs++zs zv m)::Δ)):
 bm P X n ds (some d) (.call ⟨.builtin .append,#[x,z],#[t,t2]⟩) ty Nx ρ Γ:=
 b_ (by simp) hn fun ee o w ax aS he bg hs=>by
  subst hi;obtain⟨z0,fY,oY⟩:=cp.get (P:=P) (t:=e);have st:=hs.perm TS.h;have jK:z0.cells.size=s:=by rw[←fB,←fY];simp
  have nQ:(zs zv m).all Value.oneCell'=true:=by
   rw[zaQ];intro v hv;obtain⟨j,hj⟩:=List.mem_iff_getElem?.1 hv;have aN:=(List.getElem?_eq_some_iff.1 hj).1;rw[lv]at aN;rw[F0 zv m j aN]at hj;exact zaQ.1 h1 v (zc hj)
  have key:∃a' bi w',(Builtin.append_ #[t,t2] o.type #[.slice a len cap,.int .i64 m]).run P w= .ok (.slice a' (len+m) bi) w'∧len+m≤bi∧St X.E (Sl s a' (len+m) bi (xs++zs zv m)::Δ) w':=by
   obtain⟨g1,g2,gC⟩:=st.jJ;have hold:∀(w':World),w'.heap=w.heap→(Builtin.firstCells s len (.slice a len cap)).run P w'= .ok xs.toArray w':=fun w' jW=>
    oq (P:=P) (cap:=cap) (st.env jW) (Sl.reads s a len cap xs g1)
   rcases KR (P:=P) (t:=t) (t2:=t2) (e:=e) (s:=s) (y:=y) (w:=w) (base:=a) (cap:=cap) (m:=m) (by simpa[zN]using iT) hb o.type jK xs.toArray hold oY with ⟨fR,hr⟩|⟨bM,c,hc,hr⟩
   ·rw[fY]at hr;rcases gC with ⟨rfl,rfl,rfl,rfl,iG⟩|⟨b,off,junk,rfl,q2,iG⟩
    ·obtain rfl:m=0:=by omega
     have e0:zs zv 0=[]:=by apply List.length_eq_zero_iff.1;rw[lv];omega
     exact⟨none,0,w,by rw[hr];simp,by omega,by simpa[e0]using st⟩
    ·have lu:(zs zv m).length≤junk.length:=by
      have:(len+m)*s≤cap*s:=zn s fR;rw[zA]at this;rw[lv,fB];simp at q2;omega
     obtain⟨w',ie,s1⟩:=wA (P:=P) (off:=off) (zs zv m) xs.length w (fun B=>B::Δ) (xs++junk) X.E _ (km.here Δ b off _) iG (by simp;omega) (fun v hv=>zaQ.1 nQ v hv) (off+len*s) 0 (by omega);refine⟨some ⟨b,off,none⟩,cap,w',?_,fR,?_⟩
     ·rw[hr];simp[Addr.kL,ie]
     ·have e1:(xs++junk).take xs.length++zs zv m++(xs++junk).drop (xs.length+(zs zv m).length)=(xs++zs zv m)++junk.drop (zs zv m).length:=by
       rw[zbT,←zaS,zbC]
      rw[e1]at s1;exact St.ou (by simp[g1,lv,fB,zA]) (by simp at q2⊢;omega) fR s1
   ·rw[fY]at hr;have iG:St X.E Δ w:=st.drop;refine⟨_,c,_,hr,hc,?_⟩;have s1:=iG.drew.sD (xs++zs zv m++(Builtin.zeroCells z0.cells (c-(len+m))).toList) e;have e1:(xs++zs zv m++(Builtin.zeroCells z0.cells (c-(len+m))).toList).toArray=xs.toArray++(zs zv m).toArray++Builtin.zeroCells z0.cells (c-(len+m)):=by
     apply zbW;simp
    rw[e1]at s1;refine St.ou (by simp[g1,lv,fB,zA]) ?_ hc s1;have h3:=FV (c-(len+m)) z0.cells;rw[jK]at h3;rw[zd,h3,zd,g1,lv,fB,←zA,←zA];congr 1;omega
  obtain⟨a',bi,w',hr,hc,s1⟩:=key;refine⟨_,w',_,?_,s1,h a' bi hc⟩;simp[execOp,ax,resolve,he x _ hx,he z _ hz,invoke,builtin,hr]
end ops
theorem uH{P:Program}{X:Cx}{n:Nat}{ds:List Deferred}{k:List Item}{ρ:aK}{Γ:List HP}{a b:Code}{α:Type}(I:α→Prop)(ρI:α→aK)(ΓI:α→List HP)
 (tail:∀x,I x→Ex P X n ds (.code b::k) (ρI x) (ΓI x)) (head:∀td,(∀x,I x→Ex P X n ds td (ρI x) (ΓI x))→Ex P X n ds (.code a::td) ρ Γ):Ex P X n ds (.code (.seq a b)::k) ρ Γ:=
 yB (head _ tail)
theorem eL{P:Program}{X:Cx}{n:Nat}{ds:List Deferred}{k:List Item}{ρ:aK}{Γ:List HP}{a:Item}{α:Type}(I:α→Prop)(ρI:α→aK)(ΓI:α→List HP)
 (tail:∀x,I x→Ex P X n ds k (ρI x) (ΓI x)) (head:∀td,(∀x,I x→Ex P X n ds td (ρI x) (ΓI x))→Ex P X n ds (a::td) ρ Γ):Ex P X n ds (a::k) ρ Γ:=
 head _ tail
end
section
open Go.Proofs Tryz
theorem aH{P:Program}{t:TypeId}{i:TypeInfo}(h:∀w,(typeInfo t).run P w= .ok i w):P.info? t=some i:=by
 have h1:=h default;cases hh:P.info? t with
 |none=>simp[typeInfo,hh]at h1
 |some j=>simp[typeInfo,hh]at h1;rw[h1]
instance:cU prog 3:=⟨_,_,underlying3,aH typeInfo3,rfl⟩
instance:lW prog 3 .i64:=⟨underlying3⟩
instance:cp prog 3 [.int .i64 0]:=⟨_,_,aH typeInfo3,rfl,rfl⟩
instance:cU prog 4:=⟨_,_,underlying4,aH typeInfo4,rfl⟩
instance:cp prog 4 [.bool false]:=⟨_,_,aH typeInfo4,rfl,rfl⟩
instance:cU prog 5:=⟨_,_,underlying5,aH typeInfo5,rfl⟩
instance:lW prog 5 .u8:=⟨underlying5⟩
instance:F3 prog 5:=⟨underlying5⟩
instance:cp prog 5 [.int .u8 0]:=⟨_,_,aH typeInfo5,rfl,rfl⟩
instance:cU prog 9:=⟨_,_,underlying9,aH typeInfo9,rfl⟩
instance:pY prog 9:=⟨underlying9⟩
instance:cp prog 9 [.string ⟨#[]⟩]:=⟨_,_,aH typeInfo9,rfl,rfl⟩
instance:cU prog 22:=⟨_,_,underlying22,aH typeInfo22,rfl⟩
instance:lW prog 22 .u64:=⟨underlying22⟩
instance:cp prog 22 [.int .u64 0]:=⟨_,_,aH typeInfo22,rfl,rfl⟩
instance:cI prog 24 4:=⟨_,_,underlying24,aH typeInfo24,rfl⟩
instance:iR prog 24 4 22 1:=⟨_,underlying24,aH typeInfo22,rfl⟩
instance:cp prog 24 [.int .u64 0,.int .u64 0,.int .u64 0,.int .u64 0]:=⟨_,_,aH typeInfo24,rfl,rfl⟩
instance:cI prog 26 6:=⟨_,_,underlying26,aH typeInfo26,rfl⟩
instance:bF prog 26 0 0:=⟨_,_,_,underlying26,rfl,rfl,aH typeInfo3,by decide⟩
instance:bF prog 26 1 1:=⟨_,_,_,underlying26,rfl,rfl,aH typeInfo24,by decide⟩
instance:bF prog 26 2 5:=⟨_,_,_,underlying26,rfl,rfl,aH typeInfo3,by decide⟩
instance:cU prog 27:=⟨_,_,underlying27,aH typeInfo27,rfl⟩
instance:cX prog 27 68 5 40:=⟨_,underlying27,aH typeInfo68,rfl,rfl⟩
instance:cU prog 28:=⟨_,_,underlying28,aH typeInfo28,rfl⟩
instance:cX prog 28 88 21 200:=⟨_,underlying28,aH typeInfo88,rfl,rfl⟩
instance:cp prog 28 [.slice none 0 0]:=⟨_,_,aH typeInfo28,rfl,rfl⟩
instance:cU prog 29:=⟨_,_,underlying29,aH typeInfo29,rfl⟩
instance:cX prog 29 132 22 208:=⟨_,underlying29,aH typeInfo132,rfl,rfl⟩
instance:cp prog 29 [.slice none 0 0]:=⟨_,_,aH typeInfo29,rfl,rfl⟩
instance:cI prog 31 10:=⟨_,_,underlying31,aH typeInfo31,rfl⟩
instance:ij prog 31 [(0,1),(1,6),(7,1),(8,1),(9,1)]:=⟨_,underlying31,by kernel_rfl⟩
instance:bF prog 31 0 0:=⟨_,_,_,underlying31,rfl,rfl,aH typeInfo3,by decide⟩
instance:bF prog 31 1 1:=⟨_,_,_,underlying31,rfl,rfl,aH typeInfo26,by decide⟩
instance:bF prog 31 2 7:=⟨_,_,_,underlying31,rfl,rfl,aH typeInfo27,by decide⟩
instance:bF prog 31 3 8:=⟨_,_,_,underlying31,rfl,rfl,aH typeInfo28,by decide⟩
instance:bF prog 31 4 9:=⟨_,_,_,underlying31,rfl,rfl,aH typeInfo29,by decide⟩
instance:cp prog 31 [.int .i64 0,.int .i64 0,.int .u64 0,.int .u64 0,.int .u64 0,.int .u64 0,.int .i64 0,.slice none 0 0,.slice none 0 0,.slice none 0 0]:=⟨_,_,aH typeInfo31,rfl,rfl⟩
instance:cU prog 32:=⟨_,_,underlying32,aH typeInfo32,rfl⟩
instance:cX prog 32 45 24 264:=⟨_,underlying32,aH typeInfo45,rfl,rfl⟩
instance:cI prog 34 11:=⟨_,_,underlying34,aH typeInfo34,rfl⟩
instance:bF prog 34 0 0:=⟨_,_,_,underlying34,rfl,rfl,aH typeInfo31,by decide⟩
instance:bF prog 34 1 10:=⟨_,_,_,underlying34,rfl,rfl,aH typeInfo32,by decide⟩
instance:cU prog 38:=⟨_,_,underlying38,aH typeInfo38,rfl⟩
instance:cX prog 38 22 1 8:=⟨_,underlying38,aH typeInfo22,rfl,rfl⟩
instance:cI prog 40 9:=⟨_,_,underlying40,aH typeInfo40,rfl⟩
instance:bF prog 40 1 6:=⟨_,_,_,underlying40,rfl,rfl,aH typeInfo27,by decide⟩
instance:bF prog 40 2 7:=⟨_,_,_,underlying40,rfl,rfl,aH typeInfo38,by decide⟩
instance:bF prog 40 3 8:=⟨_,_,_,underlying40,rfl,rfl,aH typeInfo38,by decide⟩
instance:cp prog 40 [.int .i64 0,.int .u64 0,.int .u64 0,.int .u64 0,.int .u64 0,.int .i64 0,.slice none 0 0,.slice none 0 0,.slice none 0 0]:=⟨_,_,aH typeInfo40,rfl,rfl⟩
instance:cI prog 42 21:=⟨_,_,underlying42,aH typeInfo42,rfl⟩
instance:ij prog 42 [(0,1),(1,1),(2,1),(3,9),(12,1),(13,4),(17,4)]:=⟨_,underlying42,by kernel_rfl⟩
instance:bF prog 42 0 0:=⟨_,_,_,underlying42,rfl,rfl,aH typeInfo3,by decide⟩
instance:bF prog 42 1 1:=⟨_,_,_,underlying42,rfl,rfl,aH typeInfo9,by decide⟩
instance:bF prog 42 2 2:=⟨_,_,_,underlying42,rfl,rfl,aH typeInfo22,by decide⟩
instance:bF prog 42 3 3:=⟨_,_,_,underlying42,rfl,rfl,aH typeInfo40,by decide⟩
instance:bF prog 42 4 12:=⟨_,_,_,underlying42,rfl,rfl,aH typeInfo3,by decide⟩
instance:bF prog 42 5 13:=⟨_,_,_,underlying42,rfl,rfl,aH typeInfo24,by decide⟩
instance:bF prog 42 6 17:=⟨_,_,_,underlying42,rfl,rfl,aH typeInfo24,by decide⟩
instance:cp prog 42 [.int .i64 0,.string ⟨#[]⟩,.int .u64 0,.int .i64 0,.int .u64 0,.int .u64 0,.int .u64 0,.int .u64 0,.int .i64 0,.slice none 0 0,.slice none 0 0,.slice none 0 0,.int .i64 0,.int .u64 0,.int .u64 0,.int .u64 0,.int .u64 0,.int .u64 0,.int .u64 0,.int .u64 0,.int .u64 0]:=⟨_,_,aH typeInfo42,rfl,rfl⟩
instance:cU prog 43:=⟨_,_,underlying43,aH typeInfo43,rfl⟩
instance:cX prog 43 3 1 8:=⟨_,underlying43,aH typeInfo3,rfl,rfl⟩
instance:cI prog 45 24:=⟨_,_,underlying45,aH typeInfo45,rfl⟩
instance:ij prog 45 [(0,1),(1,21),(22,1),(23,1)]:=⟨_,underlying45,by kernel_rfl⟩
instance:bF prog 45 0 0:=⟨_,_,_,underlying45,rfl,rfl,aH typeInfo3,by decide⟩
instance:bF prog 45 1 1:=⟨_,_,_,underlying45,rfl,rfl,aH typeInfo42,by decide⟩
instance:bF prog 45 2 22:=⟨_,_,_,underlying45,rfl,rfl,aH typeInfo3,by decide⟩
instance:bF prog 45 3 23:=⟨_,_,_,underlying45,rfl,rfl,aH typeInfo43,by decide⟩
instance:cp prog 45 [.int .i64 0,.int .i64 0,.string ⟨#[]⟩,.int .u64 0,.int .i64 0,.int .u64 0,.int .u64 0,.int .u64 0,.int .u64 0,.int .i64 0,.slice none 0 0,.slice none 0 0,.slice none 0 0,.int .i64 0,.int .u64 0,.int .u64 0,.int .u64 0,.int .u64 0,.int .u64 0,.int .u64 0,.int .u64 0,.int .u64 0,.int .i64 0,.slice none 0 0]:=⟨_,_,aH typeInfo45,rfl,rfl⟩
instance:cU prog 46:=⟨_,_,underlying46,aH typeInfo46,rfl⟩
instance:cX prog 46 55 4 56:=⟨_,underlying46,aH typeInfo55,rfl,rfl⟩
instance:cI prog 48 12:=⟨_,_,underlying48,aH typeInfo48,rfl⟩
instance:ij prog 48 [(0,1),(1,10),(11,1)]:=⟨_,underlying48,by kernel_rfl⟩
instance:bF prog 48 0 0:=⟨_,_,_,underlying48,rfl,rfl,aH typeInfo46,by decide⟩
instance:bF prog 48 1 1:=⟨_,_,_,underlying48,rfl,rfl,aH typeInfo31,by decide⟩
instance:bF prog 48 2 11:=⟨_,_,_,underlying48,rfl,rfl,aH typeInfo4,by decide⟩
instance:cp prog 48 [.slice none 0 0,.int .i64 0,.int .i64 0,.int .u64 0,.int .u64 0,.int .u64 0,.int .u64 0,.int .i64 0,.slice none 0 0,.slice none 0 0,.slice none 0 0,.bool false]:=⟨_,_,aH typeInfo48,rfl,rfl⟩
instance:cU prog 49:=⟨_,_,underlying49,aH typeInfo49,rfl⟩
instance:cI prog 55 4:=⟨_,_,underlying55,aH typeInfo55,rfl⟩
instance:ij prog 55 [(0,1),(1,1),(2,1),(3,1)]:=⟨_,underlying55,by kernel_rfl⟩
instance:bF prog 55 0 0:=⟨_,_,_,underlying55,rfl,rfl,aH typeInfo3,by decide⟩
instance:bF prog 55 1 1:=⟨_,_,_,underlying55,rfl,rfl,aH typeInfo22,by decide⟩
instance:bF prog 55 2 2:=⟨_,_,_,underlying55,rfl,rfl,aH typeInfo9,by decide⟩
instance:bF prog 55 3 3:=⟨_,_,_,underlying55,rfl,rfl,aH typeInfo38,by decide⟩
instance:cp prog 55 [.int .i64 0,.int .u64 0,.string ⟨#[]⟩,.slice none 0 0]:=⟨_,_,aH typeInfo55,rfl,rfl⟩
instance:cU prog 60:=⟨_,_,underlying60,aH typeInfo60,rfl⟩
instance:cX prog 60 42 21 224:=⟨_,underlying60,aH typeInfo42,rfl,rfl⟩
instance:ij prog 62 [(0,10),(10,1)]:=⟨_,underlying62,by kernel_rfl⟩
instance:bF prog 62 0 0:=⟨_,_,_,underlying62,rfl,rfl,aH typeInfo31,by decide⟩
instance:bF prog 62 1 10:=⟨_,_,_,underlying62,rfl,rfl,aH typeInfo60,by decide⟩
instance:cp prog 62 [.int .i64 0,.int .i64 0,.int .u64 0,.int .u64 0,.int .u64 0,.int .u64 0,.int .i64 0,.slice none 0 0,.slice none 0 0,.slice none 0 0,.slice none 0 0]:=⟨_,_,aH typeInfo62,rfl,rfl⟩
instance:ij prog 65 [(0,10),(10,1),(11,1),(12,1)]:=⟨_,underlying65,by kernel_rfl⟩
instance:bF prog 65 0 0:=⟨_,_,_,underlying65,rfl,rfl,aH typeInfo31,by decide⟩
instance:bF prog 65 1 10:=⟨_,_,_,underlying65,rfl,rfl,aH typeInfo60,by decide⟩
instance:bF prog 65 3 12:=⟨_,_,_,underlying65,rfl,rfl,aH typeInfo43,by decide⟩
instance:cp prog 65 [.int .i64 0,.int .i64 0,.int .u64 0,.int .u64 0,.int .u64 0,.int .u64 0,.int .i64 0,.slice none 0 0,.slice none 0 0,.slice none 0 0,.slice none 0 0,.int .i64 0,.slice none 0 0]:=⟨_,_,aH typeInfo65,rfl,rfl⟩
instance:cI prog 68 5:=⟨_,_,underlying68,aH typeInfo68,rfl⟩
instance:ij prog 68 [(0,1),(1,4)]:=⟨_,underlying68,by kernel_rfl⟩
instance:bF prog 68 0 0:=⟨_,_,_,underlying68,rfl,rfl,aH typeInfo3,by decide⟩
instance:bF prog 68 1 1:=⟨_,_,_,underlying68,rfl,rfl,aH typeInfo24,by decide⟩
instance:cp prog 68 [.int .i64 0,.int .u64 0,.int .u64 0,.int .u64 0,.int .u64 0]:=⟨_,_,aH typeInfo68,rfl,rfl⟩
instance:cU prog 70:=⟨_,_,underlying70,aH typeInfo70,rfl⟩
instance:CE prog 70:=⟨_,underlying70⟩
instance:cU prog 73:=⟨_,_,underlying73,aH typeInfo73,rfl⟩
instance:CE prog 73:=⟨_,underlying73⟩
instance:cU prog 78:=⟨_,_,underlying78,aH typeInfo78,rfl⟩
instance:cX prog 78 90 1 24:=⟨_,underlying78,aH typeInfo90,rfl,rfl⟩
instance:ij prog 80 [(0,1),(1,6),(7,1),(8,1),(9,1),(10,10),(20,1),(21,1),(22,1)]:=⟨_,underlying80,by kernel_rfl⟩
instance:bF prog 80 0 0:=⟨_,_,_,underlying80,rfl,rfl,aH typeInfo3,by decide⟩
instance:bF prog 80 1 1:=⟨_,_,_,underlying80,rfl,rfl,aH typeInfo26,by decide⟩
instance:bF prog 80 2 7:=⟨_,_,_,underlying80,rfl,rfl,aH typeInfo27,by decide⟩
instance:bF prog 80 3 8:=⟨_,_,_,underlying80,rfl,rfl,aH typeInfo70,by decide⟩
instance:bF prog 80 4 9:=⟨_,_,_,underlying80,rfl,rfl,aH typeInfo73,by decide⟩
instance:bF prog 80 5 10:=⟨_,_,_,underlying80,rfl,rfl,aH typeInfo31,by decide⟩
instance:bF prog 80 6 20:=⟨_,_,_,underlying80,rfl,rfl,aH typeInfo78,by decide⟩
instance:bF prog 80 7 21:=⟨_,_,_,underlying80,rfl,rfl,aH typeInfo43,by decide⟩
instance:bF prog 80 8 22:=⟨_,_,_,underlying80,rfl,rfl,aH typeInfo46,by decide⟩
instance:cp prog 80 [.int .i64 0,.int .i64 0,.int .u64 0,.int .u64 0,.int .u64 0,.int .u64 0,.int .i64 0,.slice none 0 0,.pointer none,.pointer none,.int .i64 0,.int .i64 0,.int .u64 0,.int .u64 0,.int .u64 0,.int .u64 0,.int .i64 0,.slice none 0 0,.slice none 0 0,.slice none 0 0,.slice none 0 0,.slice none 0 0,.slice none 0 0]:=⟨_,_,aH typeInfo80,rfl,rfl⟩
instance:cU prog 86:=⟨_,_,underlying86,aH typeInfo86,rfl⟩
instance:cX prog 86 9 1 16:=⟨_,underlying86,aH typeInfo9,rfl,rfl⟩
instance:cI prog 88 21:=⟨_,_,underlying88,aH typeInfo88,rfl⟩
instance:ij prog 88 [(0,1),(1,1),(2,4),(6,4),(10,4),(14,4),(18,1),(19,1),(20,1)]:=⟨_,underlying88,by kernel_rfl⟩
instance:bF prog 88 0 0:=⟨_,_,_,underlying88,rfl,rfl,aH typeInfo3,by decide⟩
instance:bF prog 88 1 1:=⟨_,_,_,underlying88,rfl,rfl,aH typeInfo3,by decide⟩
instance:bF prog 88 2 2:=⟨_,_,_,underlying88,rfl,rfl,aH typeInfo24,by decide⟩
instance:bF prog 88 3 6:=⟨_,_,_,underlying88,rfl,rfl,aH typeInfo24,by decide⟩
instance:bF prog 88 4 10:=⟨_,_,_,underlying88,rfl,rfl,aH typeInfo24,by decide⟩
instance:bF prog 88 5 14:=⟨_,_,_,underlying88,rfl,rfl,aH typeInfo24,by decide⟩
instance:bF prog 88 6 18:=⟨_,_,_,underlying88,rfl,rfl,aH typeInfo3,by decide⟩
instance:bF prog 88 7 19:=⟨_,_,_,underlying88,rfl,rfl,aH typeInfo38,by decide⟩
instance:bF prog 88 8 20:=⟨_,_,_,underlying88,rfl,rfl,aH typeInfo86,by decide⟩
instance:cp prog 88 [.int .i64 0,.int .i64 0,.int .u64 0,.int .u64 0,.int .u64 0,.int .u64 0,.int .u64 0,.int .u64 0,.int .u64 0,.int .u64 0,.int .u64 0,.int .u64 0,.int .u64 0,.int .u64 0,.int .u64 0,.int .u64 0,.int .u64 0,.int .u64 0,.int .i64 0,.slice none 0 0,.slice none 0 0]:=⟨_,_,aH typeInfo88,rfl,rfl⟩
instance:cU prog 90:=⟨_,_,underlying90,aH typeInfo90,rfl⟩
instance:cX prog 90 5 1 1:=⟨_,underlying90,aH typeInfo5,rfl,rfl⟩
instance:cp prog 90 [.slice none 0 0]:=⟨_,_,aH typeInfo90,rfl,rfl⟩
instance:cU prog 92:=⟨_,_,underlying92,aH typeInfo92,rfl⟩
instance:cX prog 92 286 3 40:=⟨_,underlying92,aH typeInfo286,rfl,rfl⟩
instance:cI prog 94 3:=⟨_,_,underlying94,aH typeInfo94,rfl⟩
instance:ij prog 94 [(0,1),(1,1),(2,1)]:=⟨_,underlying94,by kernel_rfl⟩
instance:bF prog 94 0 0:=⟨_,_,_,underlying94,rfl,rfl,aH typeInfo90,by decide⟩
instance:bF prog 94 1 1:=⟨_,_,_,underlying94,rfl,rfl,aH typeInfo92,by decide⟩
instance:bF prog 94 2 2:=⟨_,_,_,underlying94,rfl,rfl,aH typeInfo90,by decide⟩
instance:cp prog 94 [.slice none 0 0,.slice none 0 0,.slice none 0 0]:=⟨_,_,aH typeInfo94,rfl,rfl⟩
instance:cI prog 95 24:=⟨_,_,underlying95,aH typeInfo95,rfl⟩
instance:iR prog 95 8 94 3:=⟨_,underlying95,aH typeInfo94,rfl⟩
instance:ij prog 97 [(0,24),(24,1),(25,1),(26,1)]:=⟨_,underlying97,by kernel_rfl⟩
instance:bF prog 97 0 0:=⟨_,_,_,underlying97,rfl,rfl,aH typeInfo95,by decide⟩
instance:bF prog 97 1 24:=⟨_,_,_,underlying97,rfl,rfl,aH typeInfo4,by decide⟩
instance:bF prog 97 2 25:=⟨_,_,_,underlying97,rfl,rfl,aH typeInfo3,by decide⟩
instance:bF prog 97 3 26:=⟨_,_,_,underlying97,rfl,rfl,aH typeInfo3,by decide⟩
instance:cp prog 97 [.slice none 0 0,.slice none 0 0,.slice none 0 0,.slice none 0 0,.slice none 0 0,.slice none 0 0,.slice none 0 0,.slice none 0 0,.slice none 0 0,.slice none 0 0,.slice none 0 0,.slice none 0 0,.slice none 0 0,.slice none 0 0,.slice none 0 0,.slice none 0 0,.slice none 0 0,.slice none 0 0,.slice none 0 0,.slice none 0 0,.slice none 0 0,.slice none 0 0,.slice none 0 0,.slice none 0 0,.bool false,.int .i64 0,.int .i64 0]:=⟨_,_,aH typeInfo97,rfl,rfl⟩
instance:cU prog 101:=⟨_,_,underlying101,aH typeInfo101,rfl⟩
instance:cI prog 102 2:=⟨_,_,underlying102,aH typeInfo102,rfl⟩
instance:iR prog 102 2 101 1:=⟨_,underlying102,aH typeInfo101,rfl⟩
instance:cp prog 102 [.pointer none,.pointer none]:=⟨_,_,aH typeInfo102,rfl,rfl⟩
instance:cU prog 108:=⟨_,_,underlying108,aH typeInfo108,rfl⟩
instance:cp prog 108 [.map none]:=⟨_,_,aH typeInfo108,rfl,rfl⟩
instance:cI prog 110 2:=⟨_,_,underlying110,aH typeInfo110,rfl⟩
instance:ij prog 110 [(0,1),(1,1)]:=⟨_,underlying110,by kernel_rfl⟩
instance:bF prog 110 0 0:=⟨_,_,_,underlying110,rfl,rfl,aH typeInfo101,by decide⟩
instance:bF prog 110 1 1:=⟨_,_,_,underlying110,rfl,rfl,aH typeInfo108,by decide⟩
instance:cp prog 110 [.pointer none,.map none]:=⟨_,_,aH typeInfo110,rfl,rfl⟩
instance:cI prog 111 4:=⟨_,_,underlying111,aH typeInfo111,rfl⟩
instance:iR prog 111 2 110 2:=⟨_,underlying111,aH typeInfo110,rfl⟩
instance:ij prog 113 [(0,10),(10,4),(14,1)]:=⟨_,underlying113,by kernel_rfl⟩
instance:bF prog 113 0 0:=⟨_,_,_,underlying113,rfl,rfl,aH typeInfo31,by decide⟩
instance:bF prog 113 1 10:=⟨_,_,_,underlying113,rfl,rfl,aH typeInfo111,by decide⟩
instance:bF prog 113 2 14:=⟨_,_,_,underlying113,rfl,rfl,aH typeInfo4,by decide⟩
instance:cp prog 113 [.int .i64 0,.int .i64 0,.int .u64 0,.int .u64 0,.int .u64 0,.int .u64 0,.int .i64 0,.slice none 0 0,.slice none 0 0,.slice none 0 0,.pointer none,.map none,.pointer none,.map none,.bool false]:=⟨_,_,aH typeInfo113,rfl,rfl⟩
instance:cI prog 115 2:=⟨_,_,underlying115,aH typeInfo115,rfl⟩
instance:bF prog 115 0 0:=⟨_,_,_,underlying115,rfl,rfl,aH typeInfo38,by decide⟩
instance:bF prog 115 1 1:=⟨_,_,_,underlying115,rfl,rfl,aH typeInfo86,by decide⟩
instance:cp prog 115 [.slice none 0 0,.slice none 0 0]:=⟨_,_,aH typeInfo115,rfl,rfl⟩
instance:cI prog 116 4:=⟨_,_,underlying116,aH typeInfo116,rfl⟩
instance:iR prog 116 2 115 2:=⟨_,underlying116,aH typeInfo115,rfl⟩
instance:cp prog 116 [.slice none 0 0,.slice none 0 0,.slice none 0 0,.slice none 0 0]:=⟨_,_,aH typeInfo116,rfl,rfl⟩
instance:bF prog 132 0 0:=⟨_,_,_,underlying132,rfl,rfl,aH typeInfo88,by decide⟩
instance:cI prog 145 2:=⟨_,_,underlying145,aH typeInfo145,rfl⟩
instance:ij prog 145 [(0,1),(1,1)]:=⟨_,underlying145,by kernel_rfl⟩
instance:bF prog 145 0 0:=⟨_,_,_,underlying145,rfl,rfl,aH typeInfo3,by decide⟩
instance:bF prog 145 1 1:=⟨_,_,_,underlying145,rfl,rfl,aH typeInfo3,by decide⟩
instance:cp prog 145 [.int .i64 0,.int .i64 0]:=⟨_,_,aH typeInfo145,rfl,rfl⟩
instance:cU prog 159:=⟨_,_,underlying159,aH typeInfo159,rfl⟩
instance:cX prog 159 145 2 16:=⟨_,underlying159,aH typeInfo145,rfl,rfl⟩
instance:cp prog 159 [.slice none 0 0]:=⟨_,_,aH typeInfo159,rfl,rfl⟩
instance:cU prog 171:=⟨_,_,underlying171,aH typeInfo171,rfl⟩
instance:cU prog 177:=⟨_,_,underlying177,aH typeInfo177,rfl⟩
instance:cX prog 177 179 3 48:=⟨_,underlying177,aH typeInfo179,rfl,rfl⟩
instance:cI prog 179 3:=⟨_,_,underlying179,aH typeInfo179,rfl⟩
instance:ij prog 179 [(0,1),(1,1),(2,1)]:=⟨_,underlying179,by kernel_rfl⟩
instance:bF prog 179 0 0:=⟨_,_,_,underlying179,rfl,rfl,aH typeInfo4,by decide⟩
instance:bF prog 179 1 1:=⟨_,_,_,underlying179,rfl,rfl,aH typeInfo9,by decide⟩
instance:bF prog 179 2 2:=⟨_,_,_,underlying179,rfl,rfl,aH typeInfo177,by decide⟩
instance:cp prog 179 [.bool false,.string ⟨#[]⟩,.slice none 0 0]:=⟨_,_,aH typeInfo179,rfl,rfl⟩
instance:cU prog 189:=⟨_,_,underlying189,aH typeInfo189,rfl⟩
instance:cI prog 190 4:=⟨_,_,underlying190,aH typeInfo190,rfl⟩
instance:iR prog 190 4 189 1:=⟨_,underlying190,aH typeInfo189,rfl⟩
instance:ij prog 192 [(0,4)]:=⟨_,underlying192,by kernel_rfl⟩
instance:bF prog 192 0 0:=⟨_,_,_,underlying192,rfl,rfl,aH typeInfo190,by decide⟩
instance:cp prog 192 [.pointer none,.pointer none,.pointer none,.pointer none]:=⟨_,_,aH typeInfo192,rfl,rfl⟩
instance:cU prog 195:=⟨_,_,underlying195,aH typeInfo195,rfl⟩
instance:cX prog 213 28 1 24:=⟨_,underlying213,aH typeInfo28,rfl,rfl⟩
instance:cU prog 237:=⟨_,_,underlying237,aH typeInfo237,rfl⟩
instance:cX prog 237 246 2 24:=⟨_,underlying237,aH typeInfo246,rfl,rfl⟩
instance:cp prog 237 [.slice none 0 0]:=⟨_,_,aH typeInfo237,rfl,rfl⟩
instance:ij prog 241 [(0,1),(1,1),(2,1),(3,1),(4,1)]:=⟨_,underlying241,by kernel_rfl⟩
instance:bF prog 241 0 0:=⟨_,_,_,underlying241,rfl,rfl,aH typeInfo70,by decide⟩
instance:bF prog 241 1 1:=⟨_,_,_,underlying241,rfl,rfl,aH typeInfo3,by decide⟩
instance:bF prog 241 2 2:=⟨_,_,_,underlying241,rfl,rfl,aH typeInfo3,by decide⟩
instance:bF prog 241 3 3:=⟨_,_,_,underlying241,rfl,rfl,aH typeInfo237,by decide⟩
instance:bF prog 241 4 4:=⟨_,_,_,underlying241,rfl,rfl,aH typeInfo4,by decide⟩
instance:cp prog 241 [.pointer none,.int .i64 0,.int .i64 0,.slice none 0 0,.bool false]:=⟨_,_,aH typeInfo241,rfl,rfl⟩
instance:cI prog 246 2:=⟨_,_,underlying246,aH typeInfo246,rfl⟩
instance:ij prog 246 [(0,1),(1,1)]:=⟨_,underlying246,by kernel_rfl⟩
instance:bF prog 246 0 0:=⟨_,_,_,underlying246,rfl,rfl,aH typeInfo4,by decide⟩
instance:bF prog 246 1 1:=⟨_,_,_,underlying246,rfl,rfl,aH typeInfo9,by decide⟩
instance:cp prog 246 [.bool false,.string ⟨#[]⟩]:=⟨_,_,aH typeInfo246,rfl,rfl⟩
instance:iR prog 249 7 24 4:=⟨_,underlying249,aH typeInfo24,rfl⟩
instance:cp prog 249 [.int .u64 0,.int .u64 0,.int .u64 0,.int .u64 0,.int .u64 0,.int .u64 0,.int .u64 0,.int .u64 0,.int .u64 0,.int .u64 0,.int .u64 0,.int .u64 0,.int .u64 0,.int .u64 0,.int .u64 0,.int .u64 0,.int .u64 0,.int .u64 0,.int .u64 0,.int .u64 0,.int .u64 0,.int .u64 0,.int .u64 0,.int .u64 0,.int .u64 0,.int .u64 0,.int .u64 0,.int .u64 0]:=⟨_,_,aH typeInfo249,rfl,rfl⟩
instance:lW prog 256 .u64:=⟨underlying256⟩
instance:cX prog 264 269 6 48:=⟨_,underlying264,aH typeInfo269,rfl,rfl⟩
instance:cI prog 267 5:=⟨_,_,underlying267,aH typeInfo267,rfl⟩
instance:ij prog 267 [(0,1),(1,4)]:=⟨_,underlying267,by kernel_rfl⟩
instance:bF prog 267 0 0:=⟨_,_,_,underlying267,rfl,rfl,aH typeInfo3,by decide⟩
instance:bF prog 267 1 1:=⟨_,_,_,underlying267,rfl,rfl,aH typeInfo24,by decide⟩
instance:cp prog 267 [.int .i64 0,.int .u64 0,.int .u64 0,.int .u64 0,.int .u64 0]:=⟨_,_,aH typeInfo267,rfl,rfl⟩
instance:cI prog 269 6:=⟨_,_,underlying269,aH typeInfo269,rfl⟩
instance:ij prog 269 [(0,1),(1,5)]:=⟨_,underlying269,by kernel_rfl⟩
instance:bF prog 269 0 0:=⟨_,_,_,underlying269,rfl,rfl,aH typeInfo3,by decide⟩
instance:bF prog 269 1 1:=⟨_,_,_,underlying269,rfl,rfl,aH typeInfo267,by decide⟩
instance:cp prog 269 [.int .i64 0,.int .i64 0,.int .u64 0,.int .u64 0,.int .u64 0,.int .u64 0]:=⟨_,_,aH typeInfo269,rfl,rfl⟩
instance:iR prog 280 8 5 1:=⟨_,underlying280,aH typeInfo5,rfl⟩
instance:cp prog 280 [.int .u8 0,.int .u8 0,.int .u8 0,.int .u8 0,.int .u8 0,.int .u8 0,.int .u8 0,.int .u8 0]:=⟨_,_,aH typeInfo280,rfl,rfl⟩
instance:cI prog 286 3:=⟨_,_,underlying286,aH typeInfo286,rfl⟩
instance:ij prog 286 [(0,1),(1,1),(2,1)]:=⟨_,underlying286,by kernel_rfl⟩
instance:bF prog 286 0 0:=⟨_,_,_,underlying286,rfl,rfl,aH typeInfo4,by decide⟩
instance:bF prog 286 1 1:=⟨_,_,_,underlying286,rfl,rfl,aH typeInfo3,by decide⟩
instance:bF prog 286 2 2:=⟨_,_,_,underlying286,rfl,rfl,aH typeInfo90,by decide⟩
instance:cp prog 286 [.bool false,.int .i64 0,.slice none 0 0]:=⟨_,_,aH typeInfo286,rfl,rfl⟩
instance:cU prog 293:=⟨_,_,underlying293,aH typeInfo293,rfl⟩
instance:cp prog 293 [.pointer none]:=⟨_,_,aH typeInfo293,rfl,rfl⟩
instance:iR prog 299 4 49 1:=⟨_,underlying299,aH typeInfo49,rfl⟩
instance:cp prog 299 [.int .i64 0,.int .i64 0,.int .i64 0,.int .i64 0]:=⟨_,_,aH typeInfo299,rfl,rfl⟩
instance:iR prog 340 16 22 1:=⟨_,underlying340,aH typeInfo22,rfl⟩
instance:cp prog 340 [.int .u64 0,.int .u64 0,.int .u64 0,.int .u64 0,.int .u64 0,.int .u64 0,.int .u64 0,.int .u64 0,.int .u64 0,.int .u64 0,.int .u64 0,.int .u64 0,.int .u64 0,.int .u64 0,.int .u64 0,.int .u64 0]:=⟨_,_,aH typeInfo340,rfl,rfl⟩
instance:cI prog 344 3:=⟨_,_,underlying344,aH typeInfo344,rfl⟩
instance:ij prog 344 [(0,1),(1,1),(2,1)]:=⟨_,underlying344,by kernel_rfl⟩
instance:bF prog 344 0 0:=⟨_,_,_,underlying344,rfl,rfl,aH typeInfo4,by decide⟩
instance:bF prog 344 1 1:=⟨_,_,_,underlying344,rfl,rfl,aH typeInfo3,by decide⟩
instance:bF prog 344 2 2:=⟨_,_,_,underlying344,rfl,rfl,aH typeInfo3,by decide⟩
instance:cp prog 344 [.bool false,.int .i64 0,.int .i64 0]:=⟨_,_,aH typeInfo344,rfl,rfl⟩
instance:iR prog 347 8 22 1:=⟨_,underlying347,aH typeInfo22,rfl⟩
instance:cp prog 347 [.int .u64 0,.int .u64 0,.int .u64 0,.int .u64 0,.int .u64 0,.int .u64 0,.int .u64 0,.int .u64 0]:=⟨_,_,aH typeInfo347,rfl,rfl⟩
instance:cI prog 354 12:=⟨_,_,underlying354,aH typeInfo354,rfl⟩
instance:iR prog 354 3 24 4:=⟨_,underlying354,aH typeInfo24,rfl⟩
instance:cp prog 354 [.int .u64 0,.int .u64 0,.int .u64 0,.int .u64 0,.int .u64 0,.int .u64 0,.int .u64 0,.int .u64 0,.int .u64 0,.int .u64 0,.int .u64 0,.int .u64 0]:=⟨_,_,aH typeInfo354,rfl,rfl⟩
instance:cU prog 369:=⟨_,_,underlying369,aH typeInfo369,rfl⟩
instance:cp prog 369 [.nilFunc]:=⟨_,_,aH typeInfo369,rfl,rfl⟩
instance:cI prog 376 8:=⟨_,_,underlying376,aH typeInfo376,rfl⟩
instance:iR prog 376 8 28 1:=⟨_,underlying376,aH typeInfo28,rfl⟩
instance:cp prog 376 [.slice none 0 0,.slice none 0 0,.slice none 0 0,.slice none 0 0,.slice none 0 0,.slice none 0 0,.slice none 0 0,.slice none 0 0]:=⟨_,_,aH typeInfo376,rfl,rfl⟩
instance:cU prog 403:=⟨_,_,underlying403,aH typeInfo403,rfl⟩
instance:lW prog 403 .u64:=⟨underlying403⟩
instance:cp prog 403 [.int .u64 0]:=⟨_,_,aH typeInfo403,rfl,rfl⟩
instance:aG prog 3 [2]:=⟨_,func3,results3⟩
instance:aB prog 4:=⟨call4⟩
instance:aG prog 4 [2]:=⟨_,func4,results4⟩
instance:aB prog 5:=⟨call5⟩
instance:aB prog 6:=⟨call6⟩
instance:aG prog 6 [2]:=⟨_,func6,results6⟩
instance:aB prog 7:=⟨call7⟩
instance:aB prog 8:=⟨call8⟩
instance:aG prog 8 [2]:=⟨_,func8,results8⟩
instance:aB prog 9:=⟨call9⟩
instance:aG prog 9 [2]:=⟨_,func9,results9⟩
instance:aB prog 10:=⟨call10⟩
instance:aG prog 10 [4]:=⟨_,func10,results10⟩
instance:aB prog 11:=⟨call11⟩
instance:aG prog 11 [2]:=⟨_,func11,results11⟩
instance:aB prog 12:=⟨call12⟩
instance:aG prog 12 [4]:=⟨_,func12,results12⟩
instance:aB prog 13:=⟨call13⟩
instance:aG prog 13 [2]:=⟨_,func13,results13⟩
instance:aB prog 14:=⟨call14⟩
instance:aG prog 14 [2]:=⟨_,func14,results14⟩
instance:aB prog 15:=⟨call15⟩
instance:aG prog 15 [0]:=⟨_,func15,results15⟩
instance:aB prog 16:=⟨call16⟩
instance:aG prog 16 [2]:=⟨_,func16,results16⟩
instance:aB prog 17:=⟨call17⟩
instance:aG prog 17 [2,3]:=⟨_,func17,results17⟩
instance:aB prog 18:=⟨call18⟩
instance:aG prog 18 [8,9]:=⟨_,func18,results18⟩
instance:aB prog 19:=⟨call19⟩
instance:aG prog 19 [2]:=⟨_,func19,results19⟩
instance:aB prog 20:=⟨call20⟩
instance:aG prog 20 []:=⟨_,func20,results20⟩
instance:aB prog 21:=⟨call21⟩
instance:aB prog 22:=⟨call22⟩
instance:aG prog 22 [2]:=⟨_,func22,results22⟩
instance:aB prog 23:=⟨call23⟩
instance:aG prog 23 [2]:=⟨_,func23,results23⟩
instance:aB prog 24:=⟨call24⟩
instance:aG prog 24 [2]:=⟨_,func24,results24⟩
instance:aB prog 25:=⟨call25⟩
instance:aG prog 25 [2]:=⟨_,func25,results25⟩
instance:aB prog 26:=⟨call26⟩
instance:aG prog 26 [2]:=⟨_,func26,results26⟩
instance:aB prog 27:=⟨call27⟩
instance:aG prog 27 [4]:=⟨_,func27,results27⟩
instance:aB prog 28:=⟨call28⟩
instance:aG prog 28 [2]:=⟨_,func28,results28⟩
instance:aB prog 29:=⟨call29⟩
instance:aG prog 29 [2]:=⟨_,func29,results29⟩
instance:aB prog 30:=⟨call30⟩
instance:aB prog 31:=⟨call31⟩
instance:aB prog 32:=⟨call32⟩
instance:aB prog 33:=⟨call33⟩
instance:aB prog 34:=⟨call34⟩
instance:aB prog 35:=⟨call35⟩
instance:aB prog 36:=⟨call36⟩
instance:aG prog 36 []:=⟨_,func36,results36⟩
instance:aB prog 37:=⟨call37⟩
instance:aG prog 37 []:=⟨_,func37,results37⟩
instance:aB prog 38:=⟨call38⟩
instance:aG prog 38 []:=⟨_,func38,results38⟩
instance:aB prog 39:=⟨call39⟩
instance:aG prog 39 [2]:=⟨_,func39,results39⟩
instance:aB prog 40:=⟨call40⟩
instance:aG prog 40 []:=⟨_,func40,results40⟩
instance:aB prog 41:=⟨call41⟩
instance:aG prog 41 [2]:=⟨_,func41,results41⟩
instance:aB prog 42:=⟨call42⟩
instance:aG prog 42 []:=⟨_,func42,results42⟩
instance:aB prog 43:=⟨call43⟩
instance:aB prog 44:=⟨call44⟩
instance:aG prog 44 [2]:=⟨_,func44,results44⟩
instance:aB prog 45:=⟨call45⟩
instance:aG prog 45 [2]:=⟨_,func45,results45⟩
instance:aB prog 46:=⟨call46⟩
instance:aG prog 46 [2]:=⟨_,func46,results46⟩
instance:aB prog 47:=⟨call47⟩
instance:aG prog 47 [2]:=⟨_,func47,results47⟩
instance:aB prog 48:=⟨call48⟩
instance:aG prog 48 [4]:=⟨_,func48,results48⟩
instance:aB prog 49:=⟨call49⟩
instance:aG prog 49 [2]:=⟨_,func49,results49⟩
instance:aB prog 50:=⟨call50⟩
instance:aG prog 50 [4]:=⟨_,func50,results50⟩
instance:aB prog 51:=⟨call51⟩
instance:aG prog 51 [4]:=⟨_,func51,results51⟩
instance:aB prog 52:=⟨call52⟩
instance:aG prog 52 [2]:=⟨_,func52,results52⟩
instance:aB prog 53:=⟨call53⟩
instance:aG prog 53 [2]:=⟨_,func53,results53⟩
instance:aB prog 54:=⟨call54⟩
instance:aG prog 54 [2]:=⟨_,func54,results54⟩
instance:aB prog 55:=⟨call55⟩
instance:aG prog 55 [2]:=⟨_,func55,results55⟩
instance:aB prog 56:=⟨call56⟩
instance:aG prog 56 [2]:=⟨_,func56,results56⟩
instance:aB prog 57:=⟨call57⟩
instance:aG prog 57 [4]:=⟨_,func57,results57⟩
instance:aB prog 58:=⟨call58⟩
instance:aG prog 58 [2]:=⟨_,func58,results58⟩
instance:aB prog 59:=⟨call59⟩
instance:aG prog 59 [2]:=⟨_,func59,results59⟩
instance:aB prog 60:=⟨call60⟩
instance:aG prog 60 [2]:=⟨_,func60,results60⟩
instance:aB prog 61:=⟨call61⟩
instance:aG prog 61 [4,5]:=⟨_,func61,results61⟩
instance:aB prog 62:=⟨call62⟩
instance:aG prog 62 [2]:=⟨_,func62,results62⟩
instance:aB prog 63:=⟨call63⟩
instance:aB prog 65:=⟨call65⟩
instance:aG prog 65 [2,3]:=⟨_,func65,results65⟩
instance:aB prog 66:=⟨call66⟩
instance:aG prog 66 [2,3]:=⟨_,func66,results66⟩
instance:aB prog 67:=⟨call67⟩
instance:aG prog 67 [4]:=⟨_,func67,results67⟩
instance:aB prog 68:=⟨call68⟩
instance:aB prog 69:=⟨call69⟩
instance:aG prog 69 [2]:=⟨_,func69,results69⟩
instance:aB prog 70:=⟨call70⟩
instance:aG prog 70 [2,3]:=⟨_,func70,results70⟩
instance:aB prog 72:=⟨call72⟩
instance:aG prog 72 [4]:=⟨_,func72,results72⟩
instance:aB prog 73:=⟨call73⟩
instance:aG prog 73 [4]:=⟨_,func73,results73⟩
instance:aB prog 74:=⟨call74⟩
instance:aB prog 75:=⟨call75⟩
instance:aG prog 75 [4,5]:=⟨_,func75,results75⟩
instance:aB prog 76:=⟨call76⟩
instance:aG prog 76 [4]:=⟨_,func76,results76⟩
instance:aB prog 77:=⟨call77⟩
instance:aG prog 77 [2]:=⟨_,func77,results77⟩
instance:aB prog 78:=⟨call78⟩
instance:aG prog 78 [2]:=⟨_,func78,results78⟩
instance:aB prog 79:=⟨call79⟩
instance:aG prog 79 [4]:=⟨_,func79,results79⟩
instance:aB prog 80:=⟨call80⟩
instance:aG prog 80 [2]:=⟨_,func80,results80⟩
instance:aB prog 81:=⟨call81⟩
instance:aB prog 82:=⟨call82⟩
instance:aB prog 83:=⟨call83⟩
instance:aG prog 83 [2,3]:=⟨_,func83,results83⟩
instance:aB prog 84:=⟨call84⟩
instance:aB prog 85:=⟨call85⟩
instance:aG prog 85 [2]:=⟨_,func85,results85⟩
instance:aB prog 86:=⟨call86⟩
instance:aG prog 86 [2,3]:=⟨_,func86,results86⟩
instance:aB prog 87:=⟨call87⟩
instance:aB prog 88:=⟨call88⟩
instance:aG prog 88 [2]:=⟨_,func88,results88⟩
instance:aB prog 89:=⟨call89⟩
instance:aG prog 89 [2]:=⟨_,func89,results89⟩
instance:aB prog 90:=⟨call90⟩
instance:aG prog 90 [2]:=⟨_,func90,results90⟩
instance:aB prog 91:=⟨call91⟩
instance:aG prog 91 [2,3]:=⟨_,func91,results91⟩
instance:aB prog 92:=⟨call92⟩
instance:aG prog 92 [4]:=⟨_,func92,results92⟩
instance:aB prog 93:=⟨call93⟩
instance:aG prog 93 [2]:=⟨_,func93,results93⟩
instance:aB prog 94:=⟨call94⟩
instance:aG prog 94 [6,7]:=⟨_,func94,results94⟩
instance:aB prog 95:=⟨call95⟩
instance:aG prog 95 []:=⟨_,func95,results95⟩
instance:aB prog 96:=⟨call96⟩
instance:aG prog 96 [2]:=⟨_,func96,results96⟩
instance:aB prog 97:=⟨call97⟩
instance:aB prog 98:=⟨call98⟩
instance:aB prog 99:=⟨call99⟩
instance:aG prog 99 [2,3]:=⟨_,func99,results99⟩
instance:aB prog 100:=⟨call100⟩
instance:aG prog 100 [2]:=⟨_,func100,results100⟩
instance:aB prog 101:=⟨call101⟩
instance:aG prog 101 []:=⟨_,func101,results101⟩
instance:aB prog 103:=⟨call103⟩
instance:aG prog 103 [2]:=⟨_,func103,results103⟩
instance:aB prog 104:=⟨call104⟩
instance:aG prog 104 [4]:=⟨_,func104,results104⟩
instance:aB prog 105:=⟨call105⟩
instance:aG prog 105 [4]:=⟨_,func105,results105⟩
instance:aB prog 107:=⟨call107⟩
instance:aG prog 107 [2]:=⟨_,func107,results107⟩
instance:aB prog 108:=⟨call108⟩
instance:aG prog 108 [4]:=⟨_,func108,results108⟩
instance:aB prog 109:=⟨call109⟩
instance:aG prog 109 [2]:=⟨_,func109,results109⟩
instance:aB prog 110:=⟨call110⟩
instance:aG prog 110 [4]:=⟨_,func110,results110⟩
instance:aB prog 111:=⟨call111⟩
instance:aB prog 112:=⟨call112⟩
instance:aG prog 112 [2]:=⟨_,func112,results112⟩
instance:aB prog 113:=⟨call113⟩
instance:aB prog 114:=⟨call114⟩
instance:aB prog 115:=⟨call115⟩
instance:aG prog 115 [2,3]:=⟨_,func115,results115⟩
instance:aB prog 116:=⟨call116⟩
instance:aG prog 116 [2]:=⟨_,func116,results116⟩
instance:aB prog 117:=⟨call117⟩
instance:aG prog 117 [4]:=⟨_,func117,results117⟩
instance:aB prog 118:=⟨call118⟩
instance:aG prog 118 [4]:=⟨_,func118,results118⟩
instance:aB prog 119:=⟨call119⟩
instance:aB prog 120:=⟨call120⟩
instance:aG prog 120 [4]:=⟨_,func120,results120⟩
instance:aB prog 121:=⟨call121⟩
instance:aG prog 121 [4]:=⟨_,func121,results121⟩
instance:aB prog 122:=⟨call122⟩
instance:aG prog 122 [2]:=⟨_,func122,results122⟩
instance:aB prog 123:=⟨call123⟩
instance:aG prog 123 [4]:=⟨_,func123,results123⟩
instance:aB prog 124:=⟨call124⟩
instance:aB prog 125:=⟨call125⟩
instance:aG prog 125 [4]:=⟨_,func125,results125⟩
instance:aB prog 126:=⟨call126⟩
instance:aB prog 127:=⟨call127⟩
instance:aG prog 127 [2]:=⟨_,func127,results127⟩
instance:aB prog 128:=⟨call128⟩
instance:aG prog 128 [2]:=⟨_,func128,results128⟩
instance:aB prog 129:=⟨call129⟩
instance:aB prog 130:=⟨call130⟩
instance:aG prog 130 [2]:=⟨_,func130,results130⟩
instance:aB prog 131:=⟨call131⟩
instance:aG prog 131 [2]:=⟨_,func131,results131⟩
instance:aB prog 132:=⟨call132⟩
instance:aB prog 133:=⟨call133⟩
instance:aG prog 133 [2]:=⟨_,func133,results133⟩
instance:aB prog 134:=⟨call134⟩
instance:aG prog 134 [4]:=⟨_,func134,results134⟩
instance:aB prog 135:=⟨call135⟩
instance:aG prog 135 [2]:=⟨_,func135,results135⟩
instance:aB prog 136:=⟨call136⟩
instance:aG prog 136 [8,9]:=⟨_,func136,results136⟩
instance:aB prog 137:=⟨call137⟩
instance:aB prog 138:=⟨call138⟩
instance:aG prog 138 [4]:=⟨_,func138,results138⟩
instance:aB prog 139:=⟨call139⟩
instance:aG prog 139 [6]:=⟨_,func139,results139⟩
instance:aB prog 140:=⟨call140⟩
instance:aG prog 140 [4]:=⟨_,func140,results140⟩
instance:aB prog 141:=⟨call141⟩
instance:aG prog 141 []:=⟨_,func141,results141⟩
instance:aB prog 142:=⟨call142⟩
instance:aB prog 143:=⟨call143⟩
instance:aB prog 144:=⟨call144⟩
instance:aG prog 144 [2,3]:=⟨_,func144,results144⟩
instance:aB prog 145:=⟨call145⟩
instance:aG prog 145 [2]:=⟨_,func145,results145⟩
instance:aB prog 146:=⟨call146⟩
instance:aG prog 146 [4]:=⟨_,func146,results146⟩
instance:aB prog 147:=⟨call147⟩
instance:aG prog 147 [4]:=⟨_,func147,results147⟩
instance:aB prog 148:=⟨call148⟩
instance:aB prog 149:=⟨call149⟩
instance:aG prog 149 []:=⟨_,func149,results149⟩
instance:aB prog 150:=⟨call150⟩
instance:aG prog 150 [2]:=⟨_,func150,results150⟩
instance:aB prog 151:=⟨call151⟩
instance:aG prog 151 [2]:=⟨_,func151,results151⟩
instance:aB prog 152:=⟨call152⟩
instance:aG prog 152 [2]:=⟨_,func152,results152⟩
instance:aB prog 155:=⟨call155⟩
instance:aG prog 155 []:=⟨_,func155,results155⟩
instance:aB prog 156:=⟨call156⟩
instance:aG prog 156 [4]:=⟨_,func156,results156⟩
instance:aB prog 157:=⟨call157⟩
instance:aG prog 157 [2]:=⟨_,func157,results157⟩
instance:aB prog 158:=⟨call158⟩
instance:aG prog 158 [4]:=⟨_,func158,results158⟩
instance:aB prog 159:=⟨call159⟩
instance:aB prog 160:=⟨call160⟩
instance:aG prog 160 [2]:=⟨_,func160,results160⟩
instance:aB prog 161:=⟨call161⟩
instance:aG prog 161 [2]:=⟨_,func161,results161⟩
instance:aB prog 162:=⟨call162⟩
instance:aG prog 162 [4]:=⟨_,func162,results162⟩
instance:aB prog 163:=⟨call163⟩
instance:aB prog 164:=⟨call164⟩
instance:aG prog 164 [2,3,4,5]:=⟨_,func164,results164⟩
instance:aB prog 165:=⟨call165⟩
instance:aG prog 165 [4,5]:=⟨_,func165,results165⟩
instance:aB prog 166:=⟨call166⟩
instance:aB prog 167:=⟨call167⟩
instance:aG prog 167 [4,5]:=⟨_,func167,results167⟩
instance:aB prog 168:=⟨call168⟩
instance:aG prog 168 [2]:=⟨_,func168,results168⟩
instance:aB prog 169:=⟨call169⟩
instance:aG prog 169 [2]:=⟨_,func169,results169⟩
instance:aB prog 170:=⟨call170⟩
instance:aG prog 170 [4]:=⟨_,func170,results170⟩
instance:aB prog 171:=⟨call171⟩
instance:aG prog 171 [2]:=⟨_,func171,results171⟩
instance:aB prog 172:=⟨call172⟩
instance:aG prog 172 [4]:=⟨_,func172,results172⟩
instance:aB prog 173:=⟨call173⟩
instance:aG prog 173 [6]:=⟨_,func173,results173⟩
instance:aB prog 174:=⟨call174⟩
instance:aG prog 174 [2]:=⟨_,func174,results174⟩
instance:aB prog 175:=⟨call175⟩
instance:aB prog 176:=⟨call176⟩
instance:aG prog 176 [4]:=⟨_,func176,results176⟩
instance:aB prog 177:=⟨call177⟩
instance:aG prog 177 [4]:=⟨_,func177,results177⟩
instance:aB prog 178:=⟨call178⟩
instance:aG prog 178 [6]:=⟨_,func178,results178⟩
instance:aB prog 179:=⟨call179⟩
instance:aG prog 179 [2]:=⟨_,func179,results179⟩
instance:aB prog 180:=⟨call180⟩
instance:aG prog 180 [2]:=⟨_,func180,results180⟩
instance:aB prog 181:=⟨call181⟩
instance:aG prog 181 [2]:=⟨_,func181,results181⟩
instance:aB prog 182:=⟨call182⟩
instance:aB prog 183:=⟨call183⟩
instance:aG prog 183 [4]:=⟨_,func183,results183⟩
instance:aB prog 184:=⟨call184⟩
instance:aG prog 184 [4]:=⟨_,func184,results184⟩
instance:aB prog 185:=⟨call185⟩
instance:aG prog 185 [6]:=⟨_,func185,results185⟩
instance:aB prog 186:=⟨call186⟩
instance:aG prog 186 [4]:=⟨_,func186,results186⟩
instance:aB prog 187:=⟨call187⟩
instance:aB prog 188:=⟨call188⟩
instance:aG prog 188 []:=⟨_,func188,results188⟩
instance:aB prog 189:=⟨call189⟩
instance:aB prog 190:=⟨call190⟩
instance:aG prog 190 [2,3]:=⟨_,func190,results190⟩
instance:aB prog 191:=⟨call191⟩
instance:aG prog 191 [2,3]:=⟨_,func191,results191⟩
instance:aB prog 192:=⟨call192⟩
instance:aB prog 193:=⟨call193⟩
instance:aB prog 194:=⟨call194⟩
instance:aG prog 194 []:=⟨_,func194,results194⟩
instance:aB prog 200:=⟨call200⟩
instance:aG prog 200 []:=⟨_,func200,results200⟩
instance:aB prog 201:=⟨call201⟩
instance:aG prog 201 [4,5]:=⟨_,func201,results201⟩
instance:aB prog 202:=⟨call202⟩
instance:aB prog 203:=⟨call203⟩
instance:aG prog 203 [2]:=⟨_,func203,results203⟩
instance:aB prog 204:=⟨call204⟩
instance:aB prog 205:=⟨call205⟩
instance:aG prog 205 []:=⟨_,func205,results205⟩
instance:aB prog 206:=⟨call206⟩
instance:aG prog 206 [2]:=⟨_,func206,results206⟩
instance:aB prog 207:=⟨call207⟩
instance:aG prog 207 [4,5]:=⟨_,func207,results207⟩
instance:aB prog 208:=⟨call208⟩
instance:aG prog 208 [6,7]:=⟨_,func208,results208⟩
instance:aB prog 209:=⟨call209⟩
instance:aG prog 209 [6]:=⟨_,func209,results209⟩
instance:aB prog 210:=⟨call210⟩
instance:aG prog 210 [2,3]:=⟨_,func210,results210⟩
instance:aB prog 211:=⟨call211⟩
instance:aG prog 211 [2]:=⟨_,func211,results211⟩
instance:aB prog 212:=⟨call212⟩
instance:aG prog 212 [4]:=⟨_,func212,results212⟩
instance:aB prog 213:=⟨call213⟩
instance:aG prog 213 [2]:=⟨_,func213,results213⟩
instance:aB prog 214:=⟨call214⟩
instance:aG prog 214 []:=⟨_,func214,results214⟩
instance:aB prog 215:=⟨call215⟩
instance:aB prog 216:=⟨call216⟩
instance:aG prog 216 [2]:=⟨_,func216,results216⟩
instance:aB prog 217:=⟨call217⟩
instance:aG prog 217 [2]:=⟨_,func217,results217⟩
instance:aB prog 218:=⟨call218⟩
instance:aG prog 218 [4,5]:=⟨_,func218,results218⟩
instance:aB prog 219:=⟨call219⟩
instance:aG prog 219 [6]:=⟨_,func219,results219⟩
instance:aB prog 220:=⟨call220⟩
instance:aG prog 220 [2]:=⟨_,func220,results220⟩
instance:aB prog 221:=⟨call221⟩
instance:aG prog 221 [8]:=⟨_,func221,results221⟩
instance:aB prog 222:=⟨call222⟩
instance:aB prog 223:=⟨call223⟩
instance:aB prog 225:=⟨call225⟩
instance:aG prog 225 [4,5,6]:=⟨_,func225,results225⟩
instance:aB prog 226:=⟨call226⟩
instance:aG prog 226 [6,7]:=⟨_,func226,results226⟩
instance:aB prog 227:=⟨call227⟩
instance:aG prog 227 [8,9]:=⟨_,func227,results227⟩
instance:aB prog 228:=⟨call228⟩
instance:aB prog 229:=⟨call229⟩
instance:aG prog 229 [4]:=⟨_,func229,results229⟩
instance:aB prog 230:=⟨call230⟩
instance:aG prog 230 []:=⟨_,func230,results230⟩
instance:aB prog 231:=⟨call231⟩
instance:aB prog 232:=⟨call232⟩
instance:aG prog 232 [4,5]:=⟨_,func232,results232⟩
instance:aB prog 236:=⟨call236⟩
instance:aG prog 236 []:=⟨_,func236,results236⟩
instance:aB prog 237:=⟨call237⟩
instance:aG prog 237 []:=⟨_,func237,results237⟩
instance:aB prog 238:=⟨call238⟩
instance:aG prog 238 [4]:=⟨_,func238,results238⟩
instance:aB prog 239:=⟨call239⟩
instance:aB prog 240:=⟨call240⟩
instance:aG prog 240 [4]:=⟨_,func240,results240⟩
instance:aB prog 241:=⟨call241⟩
instance:aG prog 241 []:=⟨_,func241,results241⟩
instance:aB prog 242:=⟨call242⟩
instance:aB prog 243:=⟨call243⟩
instance:aG prog 243 []:=⟨_,func243,results243⟩
instance:aB prog 244:=⟨call244⟩
instance:aG prog 244 [2]:=⟨_,func244,results244⟩
instance:aB prog 245:=⟨call245⟩
instance:aG prog 245 [4]:=⟨_,func245,results245⟩
instance:aB prog 246:=⟨call246⟩
instance:aG prog 246 [4]:=⟨_,func246,results246⟩
instance:aB prog 247:=⟨call247⟩
instance:aG prog 247 [4]:=⟨_,func247,results247⟩
instance:aB prog 248:=⟨call248⟩
instance:aG prog 248 [3]:=⟨_,func248,results248⟩
instance:aB prog 249:=⟨call249⟩
instance:aG prog 249 []:=⟨_,func249,results249⟩
instance:aB prog 250:=⟨call250⟩
instance:aB prog 251:=⟨call251⟩
instance:aG prog 251 [4]:=⟨_,func251,results251⟩
instance:aB prog 252:=⟨call252⟩
instance:aG prog 252 [2]:=⟨_,func252,results252⟩
instance:aB prog 253:=⟨call253⟩
instance:aG prog 253 [2]:=⟨_,func253,results253⟩
instance:aB prog 254:=⟨call254⟩
instance:aG prog 254 [2]:=⟨_,func254,results254⟩
instance:aB prog 255:=⟨call255⟩
instance:aG prog 255 [2]:=⟨_,func255,results255⟩
instance:aB prog 256:=⟨call256⟩
instance:aG prog 256 [2]:=⟨_,func256,results256⟩
instance:aB prog 257:=⟨call257⟩
instance:aG prog 257 [4]:=⟨_,func257,results257⟩
instance:aB prog 258:=⟨call258⟩
instance:aG prog 258 [4]:=⟨_,func258,results258⟩
instance:aB prog 259:=⟨call259⟩
instance:aG prog 259 [2]:=⟨_,func259,results259⟩
instance:aB prog 260:=⟨call260⟩
instance:aB prog 263:=⟨call263⟩
instance:aG prog 263 [2]:=⟨_,func263,results263⟩
instance:aB prog 264:=⟨call264⟩
instance:aG prog 264 [6]:=⟨_,func264,results264⟩
instance:aB prog 265:=⟨call265⟩
instance:aB prog 266:=⟨call266⟩
instance:aG prog 266 [4,5]:=⟨_,func266,results266⟩
instance:aB prog 269:=⟨call269⟩
instance:aG prog 269 []:=⟨_,func269,results269⟩
instance:aB prog 270:=⟨call270⟩
instance:aG prog 270 [4]:=⟨_,func270,results270⟩
instance:aB prog 271:=⟨call271⟩
instance:aG prog 271 []:=⟨_,func271,results271⟩
instance:aB prog 272:=⟨call272⟩
instance:aG prog 272 []:=⟨_,func272,results272⟩
instance:aB prog 273:=⟨call273⟩
instance:aG prog 273 []:=⟨_,func273,results273⟩
instance:aB prog 274:=⟨call274⟩
instance:aG prog 274 [6,7]:=⟨_,func274,results274⟩
instance:aB prog 275:=⟨call275⟩
instance:aG prog 275 []:=⟨_,func275,results275⟩
instance:aB prog 276:=⟨call276⟩
instance:aG prog 276 [6]:=⟨_,func276,results276⟩
instance:aB prog 277:=⟨call277⟩
instance:aG prog 277 [4]:=⟨_,func277,results277⟩
instance:aB prog 278:=⟨call278⟩
instance:aG prog 278 [8]:=⟨_,func278,results278⟩
instance:aB prog 279:=⟨call279⟩
instance:aG prog 279 [8,9]:=⟨_,func279,results279⟩
instance:aB prog 281:=⟨call281⟩
instance:aG prog 281 [4]:=⟨_,func281,results281⟩
instance:aB prog 282:=⟨call282⟩
instance:aB prog 283:=⟨call283⟩
instance:aG prog 283 [2]:=⟨_,func283,results283⟩
instance:aB prog 284:=⟨call284⟩
instance:aB prog 285:=⟨call285⟩
instance:aG prog 285 []:=⟨_,func285,results285⟩
instance:aB prog 286:=⟨call286⟩
instance:aG prog 286 [4,5]:=⟨_,func286,results286⟩
instance:aB prog 287:=⟨call287⟩
instance:aG prog 287 [4,5]:=⟨_,func287,results287⟩
instance:aB prog 288:=⟨call288⟩
instance:aG prog 288 [4]:=⟨_,func288,results288⟩
instance:aB prog 289:=⟨call289⟩
instance:aG prog 289 [4]:=⟨_,func289,results289⟩
instance:aB prog 290:=⟨call290⟩
instance:aG prog 290 [4]:=⟨_,func290,results290⟩
instance:aB prog 291:=⟨call291⟩
instance:aG prog 291 []:=⟨_,func291,results291⟩
instance:aB prog 292:=⟨call292⟩
instance:aG prog 292 [6,7]:=⟨_,func292,results292⟩
instance:aB prog 293:=⟨call293⟩
instance:aG prog 293 [4]:=⟨_,func293,results293⟩
instance:aB prog 294:=⟨call294⟩
instance:aG prog 294 [6]:=⟨_,func294,results294⟩
instance:aB prog 297:=⟨call297⟩
instance:aG prog 297 [4]:=⟨_,func297,results297⟩
instance:aB prog 298:=⟨call298⟩
instance:aG prog 298 []:=⟨_,func298,results298⟩
instance:aB prog 299:=⟨call299⟩
instance:aB prog 300:=⟨call300⟩
instance:aG prog 300 []:=⟨_,func300,results300⟩
instance:aB prog 302:=⟨call302⟩
instance:aG prog 302 []:=⟨_,func302,results302⟩
instance:aB prog 303:=⟨call303⟩
instance:aG prog 303 [2]:=⟨_,func303,results303⟩
instance:aB prog 304:=⟨call304⟩
instance:aG prog 304 [2]:=⟨_,func304,results304⟩
instance:aB prog 306:=⟨call306⟩
instance:aG prog 306 [10]:=⟨_,func306,results306⟩
instance:aB prog 307:=⟨call307⟩
instance:aB prog 308:=⟨call308⟩
instance:aB prog 309:=⟨call309⟩
instance:aG prog 309 [2]:=⟨_,func309,results309⟩
instance:aB prog 310:=⟨call310⟩
instance:aG prog 310 [2]:=⟨_,func310,results310⟩
instance:aB prog 311:=⟨call311⟩
instance:aG prog 311 [4]:=⟨_,func311,results311⟩
instance:aB prog 313:=⟨call313⟩
instance:aB prog 315:=⟨call315⟩
instance:aG prog 315 []:=⟨_,func315,results315⟩
instance:aB prog 319:=⟨call319⟩
instance:aG prog 319 [8,9]:=⟨_,func319,results319⟩
instance:aB prog 320:=⟨call320⟩
instance:aG prog 320 [6,7]:=⟨_,func320,results320⟩
instance:aB prog 325:=⟨call325⟩
instance:aG prog 325 []:=⟨_,func325,results325⟩
instance:aB prog 326:=⟨call326⟩
instance:aG prog 326 [4]:=⟨_,func326,results326⟩
instance:aB prog 327:=⟨call327⟩
instance:aG prog 327 []:=⟨_,func327,results327⟩
instance:aB prog 328:=⟨call328⟩
instance:aG prog 328 []:=⟨_,func328,results328⟩
theorem mixed:prog.follows .mixedOrders=true:=by kernel_rfl
end
end Go.Proofs.YtacfncmndodlpaaGreat
