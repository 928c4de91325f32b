/- Part of a proof over the seat YtacfncmndodlpaaGreat. Its claim's last module says what is proved. -/
import Derived.Test.YtacfncmndodlpaaGreatQ13
import Derived.Lib.SmallJoins
import Derived.SizedLaws
import Derived.OpenShut
import Derived.WalkKit
import Derived.ProofKit
import Derived.ShutString
import Derived.ChangeOld
import Derived.Below
set_option linter.all false
set_option maxHeartbeats 12800000
namespace Go.Proofs.YtacfncmndodlpaaGreat
section
open Go.Proofs Tryz
open Go.Proofs Go.RowKit
theorem ab6{W:World}{b off s len:Nat}{xs:List Value}(hl:xs.length=len*s)(hc:∀(i:Nat) (v:Value),xs[i]? =some v→W.cell? ⟨b,off+i,none⟩=some v):Reads (Old W W.heap.size) s (some ⟨b,off,none⟩) len xs:=by
 refine⟨hl,fun h w hA hW=> .inr ⟨b,off,rfl,fun i v hv=>?_⟩⟩;have h0:=hc i v hv;have aN:=World.block_lt_of_cell? W ⟨b,off+i,none⟩ h0;have hb:W.heap[b]? =some W.heap[b]:=zan aN;have he:h b none=some (.obj W.heap[b]):=by
  rw[hA];simp[hb];exact aN
 have h1:=hW b none _ he;have h2:w.heap[b]? =W.heap[b]? :=by rw[hb];exact h1
 exact(World.cell?_of_block h2).trans h0
section
variable {H:Type} {enc:TypeId×Value→H} {P:Program} {W:World} {sp:Nat→Bool} {held:Bool}
theorem ab7{a:Addr}:∀{n:Nat} {cs:List Value},W.cells? 0 a n=some cs→cs=(List.range n).map (fun j=>(W.cell? (a.add j)).getD undef)∧∀j,j<n→∃v,W.cell? (a.add j)=some v:=by
 intro n cs h;unfold World.cells? at h;rw[if_pos (zj _)]at h;have hl:=mapM_some_length h;rw[za2]at hl;have hg:=mapM_some_get h;have key:∀j,j<n→W.cell? (a.add j)=cs[j]? :=fun j hj=>hg j j (by simp[hj]);refine⟨?_,fun j hj=>⟨cs[j]'(by omega),by rw[key j hj];simp[hl,hj]⟩⟩;apply zbP;intro j;by_cases hj:j<n
 ·rw[zf,za3 hj,←key j hj];obtain⟨v,hv⟩:∃v,cs[j]? =some v:=⟨cs[j]'(by omega),by simp[hl,hj]⟩
  simp[key j hj,hv]
 ·rw[zam (by omega),zam (by simp;omega)]
end
end
section
open Go.Proofs Tryz
open Go.Proofs Go.RowKit
theorem QF{α:Type}{f:Nat→List Value}{g:Nat→α}(k:α→Value):∀(len:Nat),(∀i,i<len→f i=[k (g i)])→(List.range len).flatMap f=((List.range len).map g).map k:=by
 intro len;induction len with
 |zero=>intro _;rfl
 |succ n ih=>
  intro h;rw[zbJ,zaC,ih (fun i hi=>h i (by omega)),zg,zg];simp[h n (by omega)]
theorem JA{α:Type}{f:Nat→List Value}{g:Nat→α}(k:α→List Value):∀(len:Nat),(∀i,i<len→f i=k (g i))→(List.range len).flatMap f=((List.range len).map g).flatMap k:=by
 intro len;induction len with
 |zero=>intro _;rfl
 |succ n ih=>
  intro h;rw[zbJ,zaC,ih (fun i hi=>h i (by omega)),zg,zaC];simp[h n (by omega)]
abbrev kj(W:World):HP:=Old W W.heap.size
theorem ab8{z:Int}(hw:(Lit.int .i64 z).wf=true): -9223372036854775808≤z∧z≤9223372036854775807:=by
 simp only[Lit.wf,IntKind.min,IntKind.max,IntKind.signed,IntKind.bits,zh,decide_eq_true_eq]at hw;simpa using hw
def jo{H:Type}(P:Program)(t:TypeId)(y:DataW H×List MemPlace):Prop:=∀n∈y.1.weights P t,n≤reachBytes
theorem ab9{H:Type}{P:Program}{e:TypeId}{d:DataW H}{n:Nat}:∀{ds:List (DataW H)},d∈ds→n∈d.weights P e→n∈DataW.weightsAll P e ds:=by
 intro ds;induction ds with
 |nil=>intro h;cases h
 |cons x ds ih=>
  intro h hn;unfold DataW.weightsAll;rcases zbe.1 h with rfl|h
  ·exact zK _ hn
  ·exact zaG _ (ih h hn)
section
variable {H:Type} {enc:TypeId×Value→H} {P:Program} {W:World} {sp:Nat→Bool} {held:Bool}
theorem Ca{t e s dn:Nat}{cs:List Value}{x:DataW H×List MemPlace}(ht:P.underlying t=some (.slice e))(hc:P.cellsOf e=s)(hs:0<s)(h:DataW.trod enc P W 0 sp held dn t cs=some x)(hz:jo P t x):
 ∃(a:Option Addr) (len cap:Nat) (f:Nat→List Value),cs=[.slice a len cap]∧len≤cap∧cap≤maxLen∧len*P.bytesOf e≤reachBytes∧(∀i,(f i).length=s)∧(∀i,i<len→∃n y,DataW.trod enc P W 0 sp held n e (f i)=some y∧jo P e y)∧Reads (Old W W.heap.size) s a len ((List.range len).flatMap f):=by
 rcases DataW.trod_slice ht h with ⟨rfl,_⟩|⟨a,len,cap,su,rest,n,_,rfl,hx,_,hl,hm,hlen,lO,_⟩
 ·refine⟨none,0,0,fun _=>List.replicate s undef,rfl,zq _,zj _,by simp,fun i=>by simp,fun i hi=>by omega,by simp,fun _ _ _ _=> .inl rfl⟩
 ·rw[hc]at lO;rw[hx]at hz;have D6:len*P.bytesOf e≤reachBytes:=by
   have:=hz ((su.length+rest.length)*P.bytesOf e) (by simp[DataW.weights,ht]);exact z9 (zn _ (by omega)) this
  have pD:∀y∈su,jo P e y:=fun y hy m hm=>hz m (by
   simp only[DataW.weights,ht];exact zP _ (zK _ (ab9 (zaB hy) hm)))
  obtain⟨f,hf⟩:∃f:Nat→List Value,f=fun i=>(List.range s).map (fun j=>(W.cell? ((a.add (i*s)).add j)).getD undef):=⟨_,rfl⟩
  have dM:∀i,(f i).length=s:=fun i=>by rw[hf];simp
  have JB:∀i,i<len→(∃n y,DataW.trod enc P W 0 sp held n e (f i)=some y∧jo P e y)∧∀j,j<s→∃v,W.cell? ((a.add (i*s)).add j)=some v:=by
   intro i hi;have h1:=lO i hi;have h2:su[i]? =some (su[i]'(by omega)):=za (by omega);rw[h2,Option.bind_eq_some_iff]at h1;obtain⟨c1,jg,hy⟩:=h1;obtain⟨e1,e2⟩:=ab7 jg;refine⟨⟨n,su[i]'(by omega),?_,pD _ (zap _)⟩,e2⟩;rw[hf];dsimp only;rw[←e1];exact hy
  refine⟨some a,len,cap,f,rfl,hl,hm,D6,dM,fun i hi=>(JB i hi).1,?_⟩;by_cases h0:len=0
  ·subst h0;exact⟨by simp,fun _ _ _ _=> .inl rfl⟩
  ·obtain⟨b,off,spot⟩:=a;obtain⟨v,hv⟩:=(JB 0 (by omega)).2 0 hs;have iL:spot=none:=by
    cases ab_:spot with
    |none=>rfl
    |some z=>
     exfalso;subst ab_;unfold World.cell? at hv;cases hb:W.heap[b]? with
     |none=>simp[Addr.add,hb]at hv
     |some o=>cases o<;>simp[Addr.add,hb]at hv
   subst iL;refine ab6 ?_ ?_
   ·rw[lF dM];simp
   ·intro i v hv;have hi:=(List.getElem?_eq_some_iff.1 hv).1;rw[lF dM,za2]at hi;have hq:i/s<len:=zaU (by rw[zY];exact hi);have hr:i%s<s:=za0 _ hs;have hd:i/s*s+i%s=i:=by rw[zY];exact Nat.div_add_mod i s
    have hg:=oA dM (l:=List.range len) (i:=i/s) (by simpa using hq) (i%s) hr;rw[hd,hv]at hg;simp only[zb8]at hg;obtain⟨u,hu⟩:=(JB (i/s) hq).2 (i%s) hr;rw[hf]at hg;simp only[zf,za3 hr,zb3,hu,Option.getD_some,Option.some.injEq]at hg;subst hg;simp only[Addr.kL]at hu;rw[zax,hd]at hu;exact hu
end
section
variable {H:Type} {enc:TypeId×Value→H} {P:Program} {W:World} {sp:Nat→Bool} {held:Bool}
theorem uf{fs:Array Field}{t dn:Nat}{cs:List Value}{y:DataW H×List MemPlace}(ht:P.underlying t=some (.struct fs))(h:DataW.trod enc P W 0 sp held dn t cs=some y)(hz:jo P t y):
 cs.length=P.cellsOf t∧∃n,∀(i:Nat) (f:Field),fs[i]? =some f→∃x,DataW.trod enc P W 0 sp held n f.type ((cs.drop f.offset).take (P.cellsOf f.type))=some x∧jo P f.type x:=by
 obtain⟨xs,n,_,rfl,hc,hl,hf⟩:=DataW.trod_struct ht h;refine⟨hc,n,fun i f hi=>?_⟩;have aN:i<fs.size:=(Array.getElem?_eq_some_iff.1 hi).1;have hx:xs[i]? =some (xs[i]'(by omega)):=za (by omega);refine⟨xs[i]'(by omega),(hf i f hi).trans hx,fun m hm=>hz m ?_⟩;simp only[DataW.weights,ht];exact DataW.weights_mem_each (j:=i) (by rw[zf,Array.getElem?_toList,hi];rfl) (by rw[zf,hx];rfl) m hm
theorem aca{k e:Nat}{t dn:Nat}{cs:List Value}{y:DataW H×List MemPlace}(ht:P.underlying t=some (.array k e))(h:DataW.trod enc P W 0 sp held dn t cs=some y):
 cs.length=P.cellsOf t∧∃n,∀(i:Nat),i<k→∃x,DataW.trod enc P W 0 sp held n e ((cs.drop (i*P.cellsOf e)).take (P.cellsOf e))=some x:=by
 obtain⟨xs,n,_,rfl,hc,hl,hf⟩:=DataW.trod_array ht h;refine⟨hc,n,fun i hi=>?_⟩;have hx:xs[i]? =some (xs[i]'(by omega)):=za (by omega);exact⟨_,(hf i hi).trans hx⟩
theorem QG{t e dn:Nat}{cs:List Value}{x:DataW H×List MemPlace}(ht:P.underlying t=some (.slice e))(hb:1≤P.bytesOf e)(h:DataW.trod enc P W 0 sp held dn t cs=some x)(hz:jo P t x):
 ∃(a:Option Addr) (len cap:Nat),cs=[.slice a len cap]∧len≤2^47:=by
 rcases DataW.trod_slice ht h with ⟨rfl,_⟩|⟨a,len,cap,su,rest,n,_,rfl,rfl,_,hl,hm,hlen,lO,_⟩
 ·exact⟨none,0,0,rfl,zj _⟩
 ·refine⟨some a,len,cap,rfl,?_⟩;have:=hz ((su.length+rest.length)*P.bytesOf e) (by simp[DataW.weights,ht]);unfold reachBytes at this;have h2:(su.length+rest.length)*1≤(su.length+rest.length)*P.bytesOf e:=zaA _ hb;omega
end
section
variable {H:Type} {enc:TypeId×Value→H} {W:World} {sp:Nat→Bool} {held:Bool}
theorem bp{n:Nat}{l:List Value}(h:l.length=n+1):∃(a:Value) (r:List Value),l=a::r∧r.length=n:=by
 cases l with
 |nil=>cases h
 |cons a r=>exact⟨a,r,rfl,by simpa using h⟩
theorem sw{l:List Value}(h:l.length=0):l=[]:=List.length_eq_zero_iff.1 h
theorem four{l:List Value}(h:l.length=4):∃a b c d,l=[a,b,c,d]:=by
 obtain⟨x0,r0,rfl,g0⟩:=bp h;obtain⟨x1,r1,rfl,g1⟩:=bp g0;obtain⟨x2,r2,rfl,g2⟩:=bp g1;obtain⟨x3,r3,rfl,g3⟩:=bp g2;obtain rfl:=sw g3;exact⟨_,_,_,_,rfl⟩
theorem six{l:List Value}(h:l.length=6):∃a b c d e f,l=[a,b,c,d,e,f]:=by
 obtain⟨x0,r0,rfl,g0⟩:=bp h;obtain⟨x1,r1,rfl,g1⟩:=bp g0;obtain⟨x2,r2,rfl,g2⟩:=bp g1;obtain⟨x3,r3,rfl,g3⟩:=bp g2;obtain⟨x4,r4,rfl,g4⟩:=bp g3;obtain⟨x5,r5,rfl,g5⟩:=bp g4;obtain rfl:=sw g5;exact⟨_,_,_,_,_,_,rfl⟩
theorem acb(s:ByteArray):bC s.data.toList=s:=by cases s;simp[bC]
theorem QH{z:Int}(hw:(Lit.int .u64 z).wf=true):∃n:Nat,z=n∧n<aI:=by
 simp only[Lit.wf,IntKind.min,IntKind.max,IntKind.signed,IntKind.bits,zh,decide_eq_true_eq]at hw;simp at hw;exact⟨z.toNat,by omega,by unfold aI;omega⟩
theorem c3':prog.cellsOf 3=1:=by kernel_rfl
theorem acd:prog.cellsOf 22=1:=by kernel_rfl
theorem QI:prog.cellsOf 24=4:=by kernel_rfl
theorem vU{dn:Nat}{cs:List Value}{y:DataW H×List MemPlace}(h:DataW.trod enc prog W 0 sp held dn 24 cs=some y):∃a,a<aT∧cs=uc a:=by
 obtain⟨hc,n,hf⟩:=aca underlying24 h;rw[QI]at hc;obtain⟨x0,x1,x2,x3,rfl⟩:=four hc;have rd:∀i v,i<4→[x0,x1,x2,x3][i]? =some v→∃m,v=nv m∧m<aI:=fun i v hi hv=>by
  obtain⟨x,hx⟩:=hf i hi;rw[acd,zaj]at hx;have e:(List.drop i [x0,x1,x2,x3]).take 1=[v]:=by
   have en:i=0∨i=1∨i=2∨i=3:=by omega
   rcases en with rfl|rfl|rfl|rfl<;>(obtain rfl:=zD hv;rfl)
  rw[e]at hx;obtain⟨z,hz,_,hw⟩:=DataW.trod_int underlying22 hx;obtain⟨m,rfl,hm⟩:=QH hw;exact⟨m,by simpa using hz,hm⟩
 obtain⟨m0,rfl,h0⟩:=rd 0 _ (by decide) rfl;obtain⟨m1,rfl,h1⟩:=rd 1 _ (by decide) rfl;obtain⟨m2,rfl,h2⟩:=rd 2 _ (by decide) rfl;obtain⟨m3,rfl,h3⟩:=rd 3 _ (by decide) rfl;obtain⟨g0,g1,g2,g3⟩:=C7 h0 h1 h2 h3;exact⟨kT m0 m1 m2 m3,C8 h0 h1 h2 h3,by simp only[uc,g0,g1,g2,g3]⟩
theorem oU{dn:Nat}{cs:List Value}{y:DataW H×List MemPlace}(h:DataW.trod enc prog W 0 sp held dn 3 cs=some y):∃z,cs=[.int .i64 z]∧-9223372036854775808≤z∧z≤9223372036854775807:=by
 obtain⟨z,hz,_,hw⟩:=DataW.trod_int underlying3 h;exact⟨z,hz,ab8 hw⟩
theorem ace{dn:Nat}{cs:List Value}{y:DataW H×List MemPlace}(h:DataW.trod enc prog W 0 sp held dn 22 cs=some y):∃n,cs=[nv n]∧n<aI:=by
 obtain⟨z,hz,_,hw⟩:=DataW.trod_int underlying22 h;obtain⟨m,rfl,hm⟩:=QH hw;exact⟨m,hz,hm⟩
theorem QJ{dn:Nat}{cs:List Value}{y:DataW H×List MemPlace}(h:DataW.trod enc prog W 0 sp held dn 9 cs=some y)(hz:jo prog 9 y):∃s:List UInt8,cs=[tv s]∧s.length≤2^47:=by
 obtain⟨s,p2,hs,gW⟩:=DataW.trod_string underlying9 h;refine⟨s.data.toList,by rw[p2,tv,acb],?_⟩;have:=hz s.data.toList.length (by rw[hs];simp[DataW.weights]);unfold reachBytes at this;omega
theorem QK{dn:Nat}{cs:List Value}{y:DataW H×List MemPlace}(h:DataW.trod enc prog W 0 sp held dn 26 cs=some y)(hz:jo prog 26 y):∃(n e:Int) (b:Nat),cs=[.int .i64 n,nv (ay b 0),nv (ay b 1),nv (ay b 2),nv (ay b 3),.int .i64 e]:=by
 obtain⟨hc,n,hf⟩:=uf underlying26 h hz;rw[(by kernel_rfl:prog.cellsOf 26=6)]at hc;obtain⟨x0,x1,x2,x3,x4,x5,rfl⟩:=six hc;obtain⟨y0,h0,-⟩:=hf 0 _ rfl;obtain⟨y1,h1,-⟩:=hf 1 _ rfl;obtain⟨y2,h2,-⟩:=hf 2 _ rfl;replace h0:DataW.trod enc prog W 0 sp held n 3 (List.take (prog.cellsOf 3) [x0,x1,x2,x3,x4,x5])=some y0:=h0;replace h1:DataW.trod enc prog W 0 sp held n 24 (List.take (prog.cellsOf 24) [x1,x2,x3,x4,x5])=some y1:=h1;replace h2:DataW.trod enc prog W 0 sp held n 3 (List.take (prog.cellsOf 3) [x5])=some y2:=h2;rw[c3']at h0 h2;rw[QI]at h1;obtain⟨z0,e0,-⟩:=oU h0;obtain⟨b,-,e1⟩:=vU h1;obtain⟨z2,e2,-⟩:=oU h2;simp only[List.take,zbi,and_true,uc]at e0 e1 e2;obtain⟨rfl,rfl,rfl,rfl⟩:=e1;subst e0 e2;exact⟨z0,z2,b,rfl⟩
end
end
section
open Go.Proofs Tryz
open Go.Proofs Go.RowKit
theorem k3:prog.cellsOf 3=1:=by kernel_rfl
theorem k9:prog.cellsOf 9=1:=by kernel_rfl
theorem k22:prog.cellsOf 22=1:=by kernel_rfl
theorem yz:prog.cellsOf 24=4:=by kernel_rfl
theorem QL:prog.cellsOf 26=6:=by kernel_rfl
theorem QM:prog.cellsOf 27=1:=by kernel_rfl
theorem k28:prog.cellsOf 28=1:=by kernel_rfl
theorem k29:prog.cellsOf 29=1:=by kernel_rfl
theorem JC:prog.cellsOf 38=1:=by kernel_rfl
theorem k43:prog.cellsOf 43=1:=by kernel_rfl
theorem k86:prog.cellsOf 86=1:=by kernel_rfl
theorem QN:prog.cellsOf 88=21:=by kernel_rfl
theorem QO:prog.cellsOf 40=9:=by kernel_rfl
theorem QP:prog.cellsOf 42=21:=by kernel_rfl
theorem k45:prog.cellsOf 45=24:=by kernel_rfl
theorem acf:prog.cellsOf 132=22:=by kernel_rfl
theorem QQ:prog.cellsOf 31=10:=by kernel_rfl
theorem k32:prog.cellsOf 32=1:=by kernel_rfl
theorem k34:prog.cellsOf 34=11:=by kernel_rfl
section
variable {H:Type} {enc:TypeId×Value→H} {W:World} {sp:Nat→Bool} {held:Bool}
theorem QR{dn:Nat}{cs:List Value}{y:DataW H×List MemPlace}(h:DataW.trod enc prog W 0 sp held dn 27 cs=some y)(hz:jo prog 27 y):∃(a:Option Addr) (n c:Nat),cs=[.slice a n c]∧n≤2^47:=QG underlying27 (by rw[(by kernel_rfl:prog.bytesOf 68=40)];decide) h hz
theorem JD{dn:Nat}{cs:List Value}{y:DataW H×List MemPlace}(h:DataW.trod enc prog W 0 sp held dn 38 cs=some y)(hz:jo prog 38 y):∃(a:Option Addr) (n c:Nat),cs=[.slice a n c]∧n≤2^47:=QG underlying38 (by rw[(by kernel_rfl:prog.bytesOf 22=8)];decide) h hz
theorem acg{dn:Nat}{cs:List Value}{y:DataW H×List MemPlace}(h:DataW.trod enc prog W 0 sp held dn 86 cs=some y)(hz:jo prog 86 y):
 ∃(a:Option Addr) (c:Nat) (l:List (List UInt8)),cs=[.slice a l.length c]∧l.length≤2^47∧l.length*16≤reachBytes∧(∀x∈l,x.length≤2^47)∧Reads (kj W) 1 a l.length (l.map tv):=by
 obtain⟨a,len,cap,f,rfl,hl,hm,ik,dM,lO,R⟩:=Ca underlying86 (by kernel_rfl:prog.cellsOf 9=1) (by decide) h hz;rw[(by kernel_rfl:prog.bytesOf 9=16)]at ik;have key:∀i,∃x:(List UInt8),i<len→f i=[tv x]∧(x.length≤2^47):=by
  intro i;by_cases hi:i<len
  ·obtain⟨n,y',hy,ug⟩:=lO i hi;obtain⟨s,e,hs⟩:=QJ hy ug;exact⟨s,fun _=>⟨e,hs⟩⟩
  ·exact⟨[],fun h=>absurd h hi⟩
 obtain⟨g,hg⟩:=Classical.skolem.1 key;refine⟨a,cap,(List.range len).map g,by simp,by simp[reachBytes]at ik⊢;omega,by simpa using ik,fun x hx=>?_,?_⟩
 ·obtain⟨i,hi,rfl⟩:=zbY.1 hx;exact(hg i (List.mem_range.1 hi)).2
 ·rw[QF tv len fun i hi=>(hg i hi).1]at R;simpa using R
theorem ach{dn:Nat}{cs:List Value}{y:DataW H×List MemPlace}(h:DataW.trod enc prog W 0 sp held dn 43 cs=some y)(hz:jo prog 43 y):
 ∃(a:Option Addr) (c:Nat) (l:List Int),cs=[.slice a l.length c]∧l.length≤2^47∧l.length*8≤reachBytes∧(∀x∈l,-9223372036854775808≤x∧x≤9223372036854775807)∧Reads (kj W) 1 a l.length (l.map iv):=by
 obtain⟨a,len,cap,f,rfl,hl,hm,ik,dM,lO,R⟩:=Ca underlying43 (by kernel_rfl:prog.cellsOf 3=1) (by decide) h hz;rw[(by kernel_rfl:prog.bytesOf 3=8)]at ik;have key:∀i,∃x:Int,i<len→f i=[iv x]∧(-9223372036854775808≤x∧x≤9223372036854775807):=by
  intro i;by_cases hi:i<len
  ·obtain⟨n,y',hy,ug⟩:=lO i hi;obtain⟨s,e,hs⟩:=oU hy;exact⟨s,fun _=>⟨e,hs⟩⟩
  ·exact⟨0,fun h=>absurd h hi⟩
 obtain⟨g,hg⟩:=Classical.skolem.1 key;refine⟨a,cap,(List.range len).map g,by simp,by simp[reachBytes]at ik⊢;omega,by simpa using ik,fun x hx=>?_,?_⟩
 ·obtain⟨i,hi,rfl⟩:=zbY.1 hx;exact(hg i (List.mem_range.1 hi)).2
 ·rw[QF iv len fun i hi=>(hg i hi).1]at R;simpa using R
theorem QS{dn:Nat}{cs:List Value}{y:DataW H×List MemPlace}(h:DataW.trod enc prog W 0 sp held dn 88 cs=some y)(hz:jo prog 88 y):∃g:GZ,cs=g.cells∧g.In (kj W):=by
 obtain⟨hc,n,hf⟩:=uf underlying88 h hz;rw[QN]at hc;obtain⟨x0,r0,rfl,g0⟩:=bp hc;obtain⟨x1,r1,rfl,g1⟩:=bp g0;obtain⟨x2,r2,rfl,g2⟩:=bp g1;obtain⟨x3,r3,rfl,g3⟩:=bp g2;obtain⟨x4,r4,rfl,g4⟩:=bp g3;obtain⟨x5,r5,rfl,g5⟩:=bp g4;obtain⟨x6,r6,rfl,g6⟩:=bp g5;obtain⟨x7,r7,rfl,g7⟩:=bp g6;obtain⟨x8,r8,rfl,g8⟩:=bp g7;obtain⟨x9,r9,rfl,g9⟩:=bp g8;obtain⟨iD,Fp,rfl,sz⟩:=bp g9;obtain⟨jV,JE,rfl,vV⟩:=bp sz;obtain⟨jG,JF,rfl,vW⟩:=bp vV;obtain⟨jq,JG,rfl,vX⟩:=bp vW;obtain⟨iO,JH,rfl,vY⟩:=bp vX;obtain⟨iP,JI,rfl,vZ⟩:=bp vY;obtain⟨iQ,JK,rfl,v_⟩:=bp vZ;obtain⟨iE,JL,rfl,wa⟩:=bp v_;obtain⟨ic,JM,rfl,we⟩:=bp wa;obtain⟨gP,JN,rfl,wg⟩:=bp we;obtain⟨gA,JO,rfl,wh⟩:=bp wg;obtain rfl:=sw wh;obtain⟨y0,h0,z0⟩:=hf 0 _ rfl;replace h0:DataW.trod enc prog W 0 sp held n 3 (List.take (prog.cellsOf 3) [x0,x1,x2,x3,x4,x5,x6,x7,x8,x9,iD,jV,jG,jq,iO,iP,iQ,iE,ic,gP,gA])=some y0:=h0;rw[k3]at h0;replace h0:DataW.trod enc prog W 0 sp held n 3 [x0]=some y0:=h0;obtain⟨y1,h1,z1⟩:=hf 1 _ rfl;replace h1:DataW.trod enc prog W 0 sp held n 3 (List.take (prog.cellsOf 3) [x1,x2,x3,x4,x5,x6,x7,x8,x9,iD,jV,jG,jq,iO,iP,iQ,iE,ic,gP,gA])=some y1:=h1;rw[k3]at h1;replace h1:DataW.trod enc prog W 0 sp held n 3 [x1]=some y1:=h1;obtain⟨y2,h2,z2⟩:=hf 2 _ rfl;replace h2:DataW.trod enc prog W 0 sp held n 24 (List.take (prog.cellsOf 24) [x2,x3,x4,x5,x6,x7,x8,x9,iD,jV,jG,jq,iO,iP,iQ,iE,ic,gP,gA])=some y2:=h2;rw[yz]at h2;replace h2:DataW.trod enc prog W 0 sp held n 24 [x2,x3,x4,x5]=some y2:=h2;obtain⟨y3,h3,z3⟩:=hf 3 _ rfl;replace h3:DataW.trod enc prog W 0 sp held n 24 (List.take (prog.cellsOf 24) [x6,x7,x8,x9,iD,jV,jG,jq,iO,iP,iQ,iE,ic,gP,gA])=some y3:=h3;rw[yz]at h3;replace h3:DataW.trod enc prog W 0 sp held n 24 [x6,x7,x8,x9]=some y3:=h3;obtain⟨y4,h4,z4⟩:=hf 4 _ rfl;replace h4:DataW.trod enc prog W 0 sp held n 24 (List.take (prog.cellsOf 24) [iD,jV,jG,jq,iO,iP,iQ,iE,ic,gP,gA])=some y4:=h4;rw[yz]at h4;replace h4:DataW.trod enc prog W 0 sp held n 24 [iD,jV,jG,jq]=some y4:=h4;obtain⟨y5,h5,z5⟩:=hf 5 _ rfl;replace h5:DataW.trod enc prog W 0 sp held n 24 (List.take (prog.cellsOf 24) [iO,iP,iQ,iE,ic,gP,gA])=some y5:=h5;rw[yz]at h5;replace h5:DataW.trod enc prog W 0 sp held n 24 [iO,iP,iQ,iE]=some y5:=h5;obtain⟨y6,h6,z6⟩:=hf 6 _ rfl;replace h6:DataW.trod enc prog W 0 sp held n 3 (List.take (prog.cellsOf 3) [ic,gP,gA])=some y6:=h6;rw[k3]at h6;replace h6:DataW.trod enc prog W 0 sp held n 3 [ic]=some y6:=h6;obtain⟨y7,h7,z7⟩:=hf 7 _ rfl;replace h7:DataW.trod enc prog W 0 sp held n 38 (List.take (prog.cellsOf 38) [gP,gA])=some y7:=h7;rw[JC]at h7;replace h7:DataW.trod enc prog W 0 sp held n 38 [gP]=some y7:=h7;obtain⟨y8,h8,z8⟩:=hf 8 _ rfl;replace h8:DataW.trod enc prog W 0 sp held n 86 (List.take (prog.cellsOf 86) [gA])=some y8:=h8;rw[k86]at h8;replace h8:DataW.trod enc prog W 0 sp held n 86 [gA]=some y8:=h8;obtain⟨i0,e0,-⟩:=oU h0;obtain⟨i1,e1,-⟩:=oU h1;obtain⟨b2,-,e2⟩:=vU h2;obtain⟨b3,-,e3⟩:=vU h3;obtain⟨b4,-,e4⟩:=vU h4;obtain⟨b5,-,e5⟩:=vU h5;obtain⟨i6,e6,-⟩:=oU h6;obtain⟨ah,nh,ch,e7,hn⟩:=JD h7 z7;obtain⟨ab,cb,bl,e8,hb,-,ye,R⟩:=acg h8 z8;simp only[zbi,and_true,uc]at e0 e1 e2 e3 e4 e5 e6 e7 e8;obtain⟨rfl,rfl,rfl,rfl⟩:=e2;obtain⟨rfl,rfl,rfl,rfl⟩:=e3;obtain⟨rfl,rfl,rfl,rfl⟩:=e4;obtain⟨rfl,rfl,rfl,rfl⟩:=e5;subst e0 e1 e6 e7 e8;exact⟨⟨.int .i64 i0,.int .i64 i1,nv (ay b2 0),nv (ay b2 1),nv (ay b2 2),nv (ay b2 3),nv (ay b3 0),nv (ay b3 1),nv (ay b3 2),nv (ay b3 3),nv (ay b4 0),nv (ay b4 1),nv (ay b4 2),nv (ay b4 3),nv (ay b5 0),nv (ay b5 1),nv (ay b5 2),nv (ay b5 3),.int .i64 i6,ah,nh,ch,ab,cb,bl⟩,rfl,⟨rfl,hn,hb,R,ye⟩⟩
theorem aci{dn:Nat}{cs:List Value}{y:DataW H×List MemPlace}(h:DataW.trod enc prog W 0 sp held dn 28 cs=some y)(hz:jo prog 28 y):
 ∃(a:Option Addr) (c:Nat) (l:List GZ),cs=[.slice a l.length c]∧l.length≤2^47∧l.length*200≤reachBytes∧(∀x∈l,GZ.In (kj W) x)∧Reads (kj W) 21 a l.length (yb l):=by
 obtain⟨a,len,cap,f,rfl,hl,hm,ik,dM,lO,R⟩:=Ca underlying28 (by kernel_rfl:prog.cellsOf 88=21) (by decide) h hz;rw[(by kernel_rfl:prog.bytesOf 88=200)]at ik;have key:∀i,∃x:GZ,i<len→f i=x.cells∧(GZ.In (kj W) x):=by
  intro i;by_cases hi:i<len
  ·obtain⟨n,y',hy,ug⟩:=lO i hi;obtain⟨x,hx⟩:=QS hy ug;exact⟨x,fun _=>hx⟩
  ·exact⟨⟨.int .i64 0,.int .i64 0,.int .i64 0,.int .i64 0,.int .i64 0,.int .i64 0,.int .i64 0,.int .i64 0,.int .i64 0,.int .i64 0,.int .i64 0,.int .i64 0,.int .i64 0,.int .i64 0,.int .i64 0,.int .i64 0,.int .i64 0,.int .i64 0,.int .i64 0,none,0,0,none,0,[]⟩,fun h=>absurd h hi⟩
 obtain⟨g,hg⟩:=Classical.skolem.1 key;refine⟨a,cap,(List.range len).map g,by simp,by simp[reachBytes]at ik⊢;omega,by simpa using ik,fun x hx=>?_,?_⟩
 ·obtain⟨i,hi,rfl⟩:=zbY.1 hx;exact(hg i (List.mem_range.1 hi)).2
 ·rw[JA GZ.cells len fun i hi=>(hg i hi).1]at R;simpa using R
theorem acj{dn:Nat}{cs:List Value}{y:DataW H×List MemPlace}(h:DataW.trod enc prog W 0 sp held dn 132 cs=some y)(hz:jo prog 132 y):∃g:GH,cs=g.cells∧g.g.In (kj W):=by
 obtain⟨hc,n,hf⟩:=uf underlying132 h hz;rw[acf]at hc;obtain⟨x0,r0,rfl,g0⟩:=bp hc;obtain⟨x1,r1,rfl,g1⟩:=bp g0;obtain⟨x2,r2,rfl,g2⟩:=bp g1;obtain⟨x3,r3,rfl,g3⟩:=bp g2;obtain⟨x4,r4,rfl,g4⟩:=bp g3;obtain⟨x5,r5,rfl,g5⟩:=bp g4;obtain⟨x6,r6,rfl,g6⟩:=bp g5;obtain⟨x7,r7,rfl,g7⟩:=bp g6;obtain⟨x8,r8,rfl,g8⟩:=bp g7;obtain⟨x9,r9,rfl,g9⟩:=bp g8;obtain⟨iD,Fp,rfl,sz⟩:=bp g9;obtain⟨jV,JE,rfl,vV⟩:=bp sz;obtain⟨jG,JF,rfl,vW⟩:=bp vV;obtain⟨jq,JG,rfl,vX⟩:=bp vW;obtain⟨iO,JH,rfl,vY⟩:=bp vX;obtain⟨iP,JI,rfl,vZ⟩:=bp vY;obtain⟨iQ,JK,rfl,v_⟩:=bp vZ;obtain⟨iE,JL,rfl,wa⟩:=bp v_;obtain⟨ic,JM,rfl,we⟩:=bp wa;obtain⟨gP,JN,rfl,wg⟩:=bp we;obtain⟨gA,JO,rfl,wh⟩:=bp wg;obtain⟨uh,r21,rfl,JP⟩:=bp wh;obtain rfl:=sw JP;obtain⟨y0,h0,z0⟩:=hf 0 _ rfl;replace h0:DataW.trod enc prog W 0 sp held n 88 (List.take (prog.cellsOf 88) [x0,x1,x2,x3,x4,x5,x6,x7,x8,x9,iD,jV,jG,jq,iO,iP,iQ,iE,ic,gP,gA,uh])=some y0:=h0;rw[QN]at h0;replace h0:DataW.trod enc prog W 0 sp held n 88 [x0,x1,x2,x3,x4,x5,x6,x7,x8,x9,iD,jV,jG,jq,iO,iP,iQ,iE,ic,gP,gA]=some y0:=h0;obtain⟨y1,h1,z1⟩:=hf 1 _ rfl;replace h1:DataW.trod enc prog W 0 sp held n 3 (List.take (prog.cellsOf 3) [uh])=some y1:=h1;rw[k3]at h1;replace h1:DataW.trod enc prog W 0 sp held n 3 [uh]=some y1:=h1;obtain⟨g,e0,hg⟩:=QS h0 z0;obtain⟨i1,e1,-⟩:=oU h1;simp only[zbi,and_true]at e1;subst e1;refine⟨⟨g,.int .i64 i1⟩,?_,hg⟩;show[x0,x1,x2,x3,x4,x5,x6,x7,x8,x9,iD,jV,jG,jq,iO,iP,iQ,iE,ic,gP,gA]++[Value.int .i64 i1]=_;rw[e0]
theorem ack{dn:Nat}{cs:List Value}{y:DataW H×List MemPlace}(h:DataW.trod enc prog W 0 sp held dn 29 cs=some y)(hz:jo prog 29 y):
 ∃(a:Option Addr) (c:Nat) (l:List GH),cs=[.slice a l.length c]∧l.length≤2^47∧l.length*208≤reachBytes∧(∀x∈l,GZ.In (kj W) x.g)∧Reads (kj W) 22 a l.length (EM l):=by
 obtain⟨a,len,cap,f,rfl,hl,hm,ik,dM,lO,R⟩:=Ca underlying29 (by kernel_rfl:prog.cellsOf 132=22) (by decide) h hz;rw[(by kernel_rfl:prog.bytesOf 132=208)]at ik;have key:∀i,∃x:GH,i<len→f i=x.cells∧(GZ.In (kj W) x.g):=by
  intro i;by_cases hi:i<len
  ·obtain⟨n,y',hy,ug⟩:=lO i hi;obtain⟨x,hx⟩:=acj hy ug;exact⟨x,fun _=>hx⟩
  ·exact⟨⟨⟨.int .i64 0,.int .i64 0,.int .i64 0,.int .i64 0,.int .i64 0,.int .i64 0,.int .i64 0,.int .i64 0,.int .i64 0,.int .i64 0,.int .i64 0,.int .i64 0,.int .i64 0,.int .i64 0,.int .i64 0,.int .i64 0,.int .i64 0,.int .i64 0,.int .i64 0,none,0,0,none,0,[]⟩,.int .i64 0⟩,fun h=>absurd h hi⟩
 obtain⟨g,hg⟩:=Classical.skolem.1 key;refine⟨a,cap,(List.range len).map g,by simp,by simp[reachBytes]at ik⊢;omega,by simpa using ik,fun x hx=>?_,?_⟩
 ·obtain⟨i,hi,rfl⟩:=zbY.1 hx;exact(hg i (List.mem_range.1 hi)).2
 ·rw[JA GH.cells len fun i hi=>(hg i hi).1]at R;simpa using R
theorem acm{dn:Nat}{cs:List Value}{y:DataW H×List MemPlace}(h:DataW.trod enc prog W 0 sp held dn 40 cs=some y)(hz:jo prog 40 y):∃(n e:Int) (b:Nat) (a1 a2 a3:Option Addr) (n1 n2 n3 c1 c2 c3:Nat),cs=[.int .i64 n,nv (ay b 0),nv (ay b 1),nv (ay b 2),nv (ay b 3),.int .i64 e,.slice a1 n1 c1,.slice a2 n2 c2,.slice a3 n3 c3]∧n1≤2^47∧n2≤2^47∧n3≤2^47:=by
 obtain⟨hc,n,hf⟩:=uf underlying40 h hz;rw[QO]at hc;obtain⟨x0,r0,rfl,g0⟩:=bp hc;obtain⟨x1,r1,rfl,g1⟩:=bp g0;obtain⟨x2,r2,rfl,g2⟩:=bp g1;obtain⟨x3,r3,rfl,g3⟩:=bp g2;obtain⟨x4,r4,rfl,g4⟩:=bp g3;obtain⟨x5,r5,rfl,g5⟩:=bp g4;obtain⟨x6,r6,rfl,g6⟩:=bp g5;obtain⟨x7,r7,rfl,g7⟩:=bp g6;obtain⟨x8,r8,rfl,g8⟩:=bp g7;obtain rfl:=sw g8;obtain⟨y0,h0,z0⟩:=hf 0 _ rfl;replace h0:DataW.trod enc prog W 0 sp held n 26 (List.take (prog.cellsOf 26) [x0,x1,x2,x3,x4,x5,x6,x7,x8])=some y0:=h0;rw[QL]at h0;replace h0:DataW.trod enc prog W 0 sp held n 26 [x0,x1,x2,x3,x4,x5]=some y0:=h0;obtain⟨y1,h1,z1⟩:=hf 1 _ rfl;replace h1:DataW.trod enc prog W 0 sp held n 27 (List.take (prog.cellsOf 27) [x6,x7,x8])=some y1:=h1;rw[QM]at h1;replace h1:DataW.trod enc prog W 0 sp held n 27 [x6]=some y1:=h1;obtain⟨y2,h2,z2⟩:=hf 2 _ rfl;replace h2:DataW.trod enc prog W 0 sp held n 38 (List.take (prog.cellsOf 38) [x7,x8])=some y2:=h2;rw[JC]at h2;replace h2:DataW.trod enc prog W 0 sp held n 38 [x7]=some y2:=h2;obtain⟨y3,h3,z3⟩:=hf 3 _ rfl;replace h3:DataW.trod enc prog W 0 sp held n 38 (List.take (prog.cellsOf 38) [x8])=some y3:=h3;rw[JC]at h3;replace h3:DataW.trod enc prog W 0 sp held n 38 [x8]=some y3:=h3;obtain⟨i0,i1,b,e0⟩:=QK h0 z0;obtain⟨a1,n1,c1,e1,q1⟩:=QR h1 z1;obtain⟨a2,n2,c2,e2,q2⟩:=JD h2 z2;obtain⟨a3,n3,c3,e3,q3⟩:=JD h3 z3;simp only[zbi,and_true]at e0 e1 e2 e3;obtain⟨rfl,rfl,rfl,rfl,rfl,rfl⟩:=e0;subst e1 e2 e3;exact⟨i0,i1,b,a1,a2,a3,n1,n2,n3,c1,c2,c3,rfl,q1,q2,q3⟩
theorem acn{dn:Nat}{cs:List Value}{y:DataW H×List MemPlace}(h:DataW.trod enc prog W 0 sp held dn 42 cs=some y)(hz:jo prog 42 y):∃c:CZ,cs=c.cells∧c.kh∧c.id<aI∧c.base<aT∧c.fI<aT:=by
 obtain⟨hc,n,hf⟩:=uf underlying42 h hz;rw[QP]at hc;obtain⟨x0,r0,rfl,g0⟩:=bp hc;obtain⟨x1,r1,rfl,g1⟩:=bp g0;obtain⟨x2,r2,rfl,g2⟩:=bp g1;obtain⟨x3,r3,rfl,g3⟩:=bp g2;obtain⟨x4,r4,rfl,g4⟩:=bp g3;obtain⟨x5,r5,rfl,g5⟩:=bp g4;obtain⟨x6,r6,rfl,g6⟩:=bp g5;obtain⟨x7,r7,rfl,g7⟩:=bp g6;obtain⟨x8,r8,rfl,g8⟩:=bp g7;obtain⟨x9,r9,rfl,g9⟩:=bp g8;obtain⟨iD,Fp,rfl,sz⟩:=bp g9;obtain⟨jV,JE,rfl,vV⟩:=bp sz;obtain⟨jG,JF,rfl,vW⟩:=bp vV;obtain⟨jq,JG,rfl,vX⟩:=bp vW;obtain⟨iO,JH,rfl,vY⟩:=bp vX;obtain⟨iP,JI,rfl,vZ⟩:=bp vY;obtain⟨iQ,JK,rfl,v_⟩:=bp vZ;obtain⟨iE,JL,rfl,wa⟩:=bp v_;obtain⟨ic,JM,rfl,we⟩:=bp wa;obtain⟨gP,JN,rfl,wg⟩:=bp we;obtain⟨gA,JO,rfl,wh⟩:=bp wg;obtain rfl:=sw wh;obtain⟨y0,h0,z0⟩:=hf 0 _ rfl;replace h0:DataW.trod enc prog W 0 sp held n 3 (List.take (prog.cellsOf 3) [x0,x1,x2,x3,x4,x5,x6,x7,x8,x9,iD,jV,jG,jq,iO,iP,iQ,iE,ic,gP,gA])=some y0:=h0;rw[k3]at h0;replace h0:DataW.trod enc prog W 0 sp held n 3 [x0]=some y0:=h0;obtain⟨y1,h1,z1⟩:=hf 1 _ rfl;replace h1:DataW.trod enc prog W 0 sp held n 9 (List.take (prog.cellsOf 9) [x1,x2,x3,x4,x5,x6,x7,x8,x9,iD,jV,jG,jq,iO,iP,iQ,iE,ic,gP,gA])=some y1:=h1;rw[k9]at h1;replace h1:DataW.trod enc prog W 0 sp held n 9 [x1]=some y1:=h1;obtain⟨y2,h2,z2⟩:=hf 2 _ rfl;replace h2:DataW.trod enc prog W 0 sp held n 22 (List.take (prog.cellsOf 22) [x2,x3,x4,x5,x6,x7,x8,x9,iD,jV,jG,jq,iO,iP,iQ,iE,ic,gP,gA])=some y2:=h2;rw[k22]at h2;replace h2:DataW.trod enc prog W 0 sp held n 22 [x2]=some y2:=h2;obtain⟨y3,h3,z3⟩:=hf 3 _ rfl;replace h3:DataW.trod enc prog W 0 sp held n 40 (List.take (prog.cellsOf 40) [x3,x4,x5,x6,x7,x8,x9,iD,jV,jG,jq,iO,iP,iQ,iE,ic,gP,gA])=some y3:=h3;rw[QO]at h3;replace h3:DataW.trod enc prog W 0 sp held n 40 [x3,x4,x5,x6,x7,x8,x9,iD,jV]=some y3:=h3;obtain⟨y4,h4,z4⟩:=hf 4 _ rfl;replace h4:DataW.trod enc prog W 0 sp held n 3 (List.take (prog.cellsOf 3) [jG,jq,iO,iP,iQ,iE,ic,gP,gA])=some y4:=h4;rw[k3]at h4;replace h4:DataW.trod enc prog W 0 sp held n 3 [jG]=some y4:=h4;obtain⟨y5,h5,z5⟩:=hf 5 _ rfl;replace h5:DataW.trod enc prog W 0 sp held n 24 (List.take (prog.cellsOf 24) [jq,iO,iP,iQ,iE,ic,gP,gA])=some y5:=h5;rw[yz]at h5;replace h5:DataW.trod enc prog W 0 sp held n 24 [jq,iO,iP,iQ]=some y5:=h5;obtain⟨y6,h6,z6⟩:=hf 6 _ rfl;replace h6:DataW.trod enc prog W 0 sp held n 24 (List.take (prog.cellsOf 24) [iE,ic,gP,gA])=some y6:=h6;rw[yz]at h6;replace h6:DataW.trod enc prog W 0 sp held n 24 [iE,ic,gP,gA]=some y6:=h6;obtain⟨i0,e0,-⟩:=oU h0;obtain⟨s,e1,hs⟩:=QJ h1 z1;obtain⟨d,e2,hd⟩:=ace h2;obtain⟨m,e,b,a1,a2,a3,n1,n2,n3,c1,c2,c3,e3,q1,q2,q3⟩:=acm h3 z3;obtain⟨i4,e4,-⟩:=oU h4;obtain⟨b5,qF,e5⟩:=vU h5;obtain⟨b6,hb6,e6⟩:=vU h6;simp only[zbi,and_true,uc]at e0 e1 e2 e3 e4 e5 e6;obtain⟨rfl,rfl,rfl,rfl,rfl,rfl,rfl,rfl,rfl⟩:=e3;obtain⟨rfl,rfl,rfl,rfl⟩:=e5;obtain⟨rfl,rfl,rfl,rfl⟩:=e6;subst e0 e1 e2 e4;exact⟨⟨i0,s,d,.int .i64 m,nv (ay b 0),nv (ay b 1),nv (ay b 2),nv (ay b 3),.int .i64 e,.slice a1 n1 c1,.slice a2 n2 c2,.slice a3 n3 c3,i4,b5,b6⟩,rfl,⟨⟨a1,a2,a3,n1,n2,n3,c1,c2,c3,rfl,rfl,rfl,q1,q2,q3⟩,rfl,hs⟩,hd,qF,hb6⟩
theorem aco{dn:Nat}{cs:List Value}{y:DataW H×List MemPlace}(h:DataW.trod enc prog W 0 sp held dn 45 cs=some y)(hz:jo prog 45 y):∃a:AZ,cs=a.cells∧a.kh (kj W):=by
 obtain⟨hc,n,hf⟩:=uf underlying45 h hz;rw[k45]at hc;obtain⟨x0,r0,rfl,g0⟩:=bp hc;obtain⟨x1,r1,rfl,g1⟩:=bp g0;obtain⟨x2,r2,rfl,g2⟩:=bp g1;obtain⟨x3,r3,rfl,g3⟩:=bp g2;obtain⟨x4,r4,rfl,g4⟩:=bp g3;obtain⟨x5,r5,rfl,g5⟩:=bp g4;obtain⟨x6,r6,rfl,g6⟩:=bp g5;obtain⟨x7,r7,rfl,g7⟩:=bp g6;obtain⟨x8,r8,rfl,g8⟩:=bp g7;obtain⟨x9,r9,rfl,g9⟩:=bp g8;obtain⟨iD,Fp,rfl,sz⟩:=bp g9;obtain⟨jV,JE,rfl,vV⟩:=bp sz;obtain⟨jG,JF,rfl,vW⟩:=bp vV;obtain⟨jq,JG,rfl,vX⟩:=bp vW;obtain⟨iO,JH,rfl,vY⟩:=bp vX;obtain⟨iP,JI,rfl,vZ⟩:=bp vY;obtain⟨iQ,JK,rfl,v_⟩:=bp vZ;obtain⟨iE,JL,rfl,wa⟩:=bp v_;obtain⟨ic,JM,rfl,we⟩:=bp wa;obtain⟨gP,JN,rfl,wg⟩:=bp we;obtain⟨gA,JO,rfl,wh⟩:=bp wg;obtain⟨uh,r21,rfl,JP⟩:=bp wh;obtain⟨Fq,r22,rfl,g22⟩:=bp JP;obtain⟨Cb,r23,rfl,g23⟩:=bp g22;obtain rfl:=sw g23;obtain⟨y0,h0,z0⟩:=hf 0 _ rfl;replace h0:DataW.trod enc prog W 0 sp held n 3 (List.take (prog.cellsOf 3) [x0,x1,x2,x3,x4,x5,x6,x7,x8,x9,iD,jV,jG,jq,iO,iP,iQ,iE,ic,gP,gA,uh,Fq,Cb])=some y0:=h0;rw[k3]at h0;replace h0:DataW.trod enc prog W 0 sp held n 3 [x0]=some y0:=h0;obtain⟨y1,h1,z1⟩:=hf 1 _ rfl;replace h1:DataW.trod enc prog W 0 sp held n 42 (List.take (prog.cellsOf 42) [x1,x2,x3,x4,x5,x6,x7,x8,x9,iD,jV,jG,jq,iO,iP,iQ,iE,ic,gP,gA,uh,Fq,Cb])=some y1:=h1;rw[QP]at h1;replace h1:DataW.trod enc prog W 0 sp held n 42 [x1,x2,x3,x4,x5,x6,x7,x8,x9,iD,jV,jG,jq,iO,iP,iQ,iE,ic,gP,gA,uh]=some y1:=h1;obtain⟨y2,h2,z2⟩:=hf 2 _ rfl;replace h2:DataW.trod enc prog W 0 sp held n 3 (List.take (prog.cellsOf 3) [Fq,Cb])=some y2:=h2;rw[k3]at h2;replace h2:DataW.trod enc prog W 0 sp held n 3 [Fq]=some y2:=h2;obtain⟨y3,h3,z3⟩:=hf 3 _ rfl;replace h3:DataW.trod enc prog W 0 sp held n 43 (List.take (prog.cellsOf 43) [Cb])=some y3:=h3;rw[k43]at h3;replace h3:DataW.trod enc prog W 0 sp held n 43 [Cb]=some y3:=h3;obtain⟨i0,e0,-⟩:=oU h0;obtain⟨c,e1,tN,q1,q2,q3⟩:=acn h1 z1;obtain⟨i2,e2,-⟩:=oU h2;obtain⟨pa,pc,ps,e3,hp,-,vg,R⟩:=ach h3 z3;simp only[zbi,and_true]at e0 e2 e3;subst e0 e2 e3;have e:[.int .i64 i0]++[x1,x2,x3,x4,x5,x6,x7,x8,x9,iD,jV,jG,jq,iO,iP,iQ,iE,ic,gP,gA,uh]++[.int .i64 i2,.slice pa ps.length pc]=AZ.cells ⟨i0,c,i2,pa,pc,ps⟩:=by rw[e1];rfl
 refine⟨⟨i0,c,i2,pa,pc,ps⟩,e,⟨tN,R,hp,fun p hp=>(vg p hp).2,?_,q1,q2,q3⟩⟩;have e9:AZ.cells ⟨i0,c,i2,pa,pc,ps⟩=[.int .i64 i0]++c.cells++[.int .i64 i2,.slice pa ps.length pc]:=rfl;rw[e9,zbj,zbj,tN.one];rfl
theorem acp{dn:Nat}{cs:List Value}{y:DataW H×List MemPlace}(h:DataW.trod enc prog W 0 sp held dn 32 cs=some y)(hz:jo prog 32 y):
 ∃(a:Option Addr) (c:Nat) (l:List AZ),cs=[.slice a l.length c]∧l.length≤2^47∧l.length*264≤reachBytes∧(∀x∈l,AZ.kh (kj W) x)∧Reads (kj W) 24 a l.length (iN l):=by
 obtain⟨a,len,cap,f,rfl,hl,hm,ik,dM,lO,R⟩:=Ca underlying32 (by kernel_rfl:prog.cellsOf 45=24) (by decide) h hz;rw[(by kernel_rfl:prog.bytesOf 45=264)]at ik;have key:∀i,∃x:AZ,i<len→f i=x.cells∧(AZ.kh (kj W) x):=by
  intro i;by_cases hi:i<len
  ·obtain⟨n,y',hy,ug⟩:=lO i hi;obtain⟨x,hx⟩:=aco hy ug;exact⟨x,fun _=>hx⟩
  ·exact⟨⟨0,⟨0,[],0,.int .i64 0,.int .i64 0,.int .i64 0,.int .i64 0,.int .i64 0,.int .i64 0,.int .i64 0,.int .i64 0,.int .i64 0,0,0,0⟩,0,none,0,[]⟩,fun h=>absurd h hi⟩
 obtain⟨g,hg⟩:=Classical.skolem.1 key;refine⟨a,cap,(List.range len).map g,by simp,by simp[reachBytes]at ik⊢;omega,by simpa using ik,fun x hx=>?_,?_⟩
 ·obtain⟨i,hi,rfl⟩:=zbY.1 hx;exact(hg i (List.mem_range.1 hi)).2
 ·rw[JA AZ.cells len fun i hi=>(hg i hi).1]at R;simpa using R
theorem acq{dn:Nat}{cs:List Value}{y:DataW H×List MemPlace}(h:DataW.trod enc prog W 0 sp held dn 31 cs=some y)(hz:jo prog 31 y):∃b:GB,cs=b.cells∧b.In (kj W):=by
 obtain⟨hc,n,hf⟩:=uf underlying31 h hz;rw[QQ]at hc;obtain⟨x0,r0,rfl,g0⟩:=bp hc;obtain⟨x1,r1,rfl,g1⟩:=bp g0;obtain⟨x2,r2,rfl,g2⟩:=bp g1;obtain⟨x3,r3,rfl,g3⟩:=bp g2;obtain⟨x4,r4,rfl,g4⟩:=bp g3;obtain⟨x5,r5,rfl,g5⟩:=bp g4;obtain⟨x6,r6,rfl,g6⟩:=bp g5;obtain⟨x7,r7,rfl,g7⟩:=bp g6;obtain⟨x8,r8,rfl,g8⟩:=bp g7;obtain⟨x9,r9,rfl,g9⟩:=bp g8;obtain rfl:=sw g9;obtain⟨y0,h0,z0⟩:=hf 0 _ rfl;replace h0:DataW.trod enc prog W 0 sp held n 3 (List.take (prog.cellsOf 3) [x0,x1,x2,x3,x4,x5,x6,x7,x8,x9])=some y0:=h0;rw[k3]at h0;replace h0:DataW.trod enc prog W 0 sp held n 3 [x0]=some y0:=h0;obtain⟨y1,h1,z1⟩:=hf 1 _ rfl;replace h1:DataW.trod enc prog W 0 sp held n 26 (List.take (prog.cellsOf 26) [x1,x2,x3,x4,x5,x6,x7,x8,x9])=some y1:=h1;rw[QL]at h1;replace h1:DataW.trod enc prog W 0 sp held n 26 [x1,x2,x3,x4,x5,x6]=some y1:=h1;obtain⟨y2,h2,z2⟩:=hf 2 _ rfl;replace h2:DataW.trod enc prog W 0 sp held n 27 (List.take (prog.cellsOf 27) [x7,x8,x9])=some y2:=h2;rw[QM]at h2;replace h2:DataW.trod enc prog W 0 sp held n 27 [x7]=some y2:=h2;obtain⟨y3,h3,z3⟩:=hf 3 _ rfl;replace h3:DataW.trod enc prog W 0 sp held n 28 (List.take (prog.cellsOf 28) [x8,x9])=some y3:=h3;rw[k28]at h3;replace h3:DataW.trod enc prog W 0 sp held n 28 [x8]=some y3:=h3;obtain⟨y4,h4,z4⟩:=hf 4 _ rfl;replace h4:DataW.trod enc prog W 0 sp held n 29 (List.take (prog.cellsOf 29) [x9])=some y4:=h4;rw[k29]at h4;replace h4:DataW.trod enc prog W 0 sp held n 29 [x9]=some y4:=h4;obtain⟨i0,e0,-⟩:=oU h0;obtain⟨m,e,b,e1⟩:=QK h1 z1;obtain⟨aa,na,ca,e2,q2⟩:=QR h2 z2;obtain⟨ad,ct,l,e3,q3,-,hl,R3⟩:=aci h3 z3;obtain⟨al,cl,k,e4,q4,-,hk,R4⟩:=ack h4 z4;simp only[zbi,and_true]at e0 e1 e2 e3 e4;obtain⟨rfl,rfl,rfl,rfl,rfl,rfl⟩:=e1;subst e0 e2 e3 e4;exact⟨⟨.int .i64 i0,.int .i64 m,nv (ay b 0),nv (ay b 1),nv (ay b 2),nv (ay b 3),.int .i64 e,aa,na,ca,ad,ct,l,al,cl,k⟩,rfl,⟨rfl,q2,q3,q4,R3,R4,hl,hk⟩⟩
theorem acr{dn:Nat}{cs:List Value}{y:DataW H×List MemPlace}(h:DataW.trod enc prog W 0 sp held dn 34 cs=some y)(hz:jo prog 34 y):∃(b:GB) (al:Option Addr) (cl:Nat) (L:List AZ),cs=ib b al L.length cl∧b.In (kj W)∧(∀a∈L,a.kh (kj W))∧Reads (kj W) 24 al L.length (iN L)∧L.length≤2^40:=by
 obtain⟨hc,n,hf⟩:=uf underlying34 h hz;rw[k34]at hc;obtain⟨x0,r0,rfl,g0⟩:=bp hc;obtain⟨x1,r1,rfl,g1⟩:=bp g0;obtain⟨x2,r2,rfl,g2⟩:=bp g1;obtain⟨x3,r3,rfl,g3⟩:=bp g2;obtain⟨x4,r4,rfl,g4⟩:=bp g3;obtain⟨x5,r5,rfl,g5⟩:=bp g4;obtain⟨x6,r6,rfl,g6⟩:=bp g5;obtain⟨x7,r7,rfl,g7⟩:=bp g6;obtain⟨x8,r8,rfl,g8⟩:=bp g7;obtain⟨x9,r9,rfl,g9⟩:=bp g8;obtain⟨iD,Fp,rfl,sz⟩:=bp g9;obtain rfl:=sw sz;obtain⟨y0,h0,z0⟩:=hf 0 _ rfl;replace h0:DataW.trod enc prog W 0 sp held n 31 (List.take (prog.cellsOf 31) [x0,x1,x2,x3,x4,x5,x6,x7,x8,x9,iD])=some y0:=h0;rw[QQ]at h0;replace h0:DataW.trod enc prog W 0 sp held n 31 [x0,x1,x2,x3,x4,x5,x6,x7,x8,x9]=some y0:=h0;obtain⟨y1,h1,z1⟩:=hf 1 _ rfl;replace h1:DataW.trod enc prog W 0 sp held n 32 (List.take (prog.cellsOf 32) [iD])=some y1:=h1;rw[k32]at h1;replace h1:DataW.trod enc prog W 0 sp held n 32 [iD]=some y1:=h1;obtain⟨b,e0,hb⟩:=acq h0 z0;obtain⟨al,cl,L,e1,-,q1,hL,R⟩:=acp h1 z1;simp only[zbi,and_true]at e1;subst e1;refine⟨b,al,cl,L,?_,hb,hL,R,by unfold reachBytes at q1;omega⟩;show[x0,x1,x2,x3,x4,x5,x6,x7,x8,x9]++[Value.slice al L.length cl]=b.cells++[Value.slice al L.length cl];rw[e0]
end
end
section
open Go.Proofs Tryz
open Go.Proofs Go.ChangeShapes Go.WideShapes Go.ChangeAt Go.RowKit
theorem own:ownKnob prog.godebug=none:=by kernel_rfl
theorem laidOut:laidOutB prog=true:=by kernel_rfl
theorem Spec.walk{f:FuncId}{v:Value}{W:World}(S:Spec prog f [v] [kj W] fun v B=>v= .bool true∧B=[kj W]):Calls prog f #[v] W fun e w'=>e= .returned (.bool true)∧Below W.heap.size W w':=by
 refine(S (Env.of W) [] W (St.start W)).mono ?_;rintro e w' ⟨v,B,rfl,⟨rfl,rfl⟩,st⟩;exact⟨rfl,st.below⟩
end
end Go.Proofs.YtacfncmndodlpaaGreat
