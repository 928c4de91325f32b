/- TopWorld: for every input the call of tarntop.TopWorld returns true, and its argument reads behind the call as it read before. No condition beyond the given row's own. -/
import Derived.Test.YtacfncmndodlpaaGreatQ14
import Derived.Test.YtacfncmndodlpaaGreatQ15
set_option linter.all false
set_option maxHeartbeats 12800000
namespace Go.Proofs.YtacfncmndodlpaaGreat
section
open Go.Proofs Tryz
open Go.Proofs Go.ChangeShapes Go.WideShapes Go.ChangeAt Go.RowKit
namespace QT
set_option maxRecDepth 100000 in
theorem lifted(os:Os)(started:os.Started)(H:Type)(enc:TypeId×Value→H):
 ReturnsInHanded {} checked os 3 .any (Rows.topWorldSpec.pre6 enc prog f3 Rows.topWorldRow.domain false) (Rows.topWorldSpec.post enc prog f3 false true false false):=by
 refine returnsInHanded_of_change_sized (C:=checked) own started (by kernel_rfl) func3
  (ChangeSpec.witness6 (enc:=enc) (C:=checked) false ⟨#[],#[.agg #[.int .i64 0,.int .i64 0,.int .u64 0,.int .u64 0,.int .u64 0,.int .u64 0,.int .i64 0,.slice none 0 0,.slice none 0 0,.slice none 0 0,.slice none 0 0]],[]⟩ 8 (by kernel_rfl) (by kernel_rfl) (by kernel_rfl) (by kernel_rfl)) ?_
 intro W base args ds gs before QU hW ac5 bZ _;have nt:∀(j:Nat) t v,f3.params[j]? =some t→args[j]? =some v→Value.okWide prog W .any base t v:=QU;have AM:=hW;obtain⟨p,q,QV,hV,rfl,hfz,dH⟩:=hW;have hA:DataW.TrodAll enc prog W 0 (fun _=>true) true f3.params.toList args.toList ds p:=QV;rw[params3]at hA nt;obtain⟨v0,vs0,d0,ds0,p0,q0,ac6,rfl,rfl,h0,r0⟩:=trodAll_cons hA;obtain⟨rfl,rfl,rfl⟩:=trodAll_nil r0;obtain rfl:args= #[v0]:=by cases args;simp_all
 obtain⟨rfl,rfl⟩:=trodVars_none hV;have k0:=h0;have lt0:∀x∈p0,x.block<W.heap.size:=by obtain⟨m,hm⟩:=k0;exact DataW.trod_lt m _ _ _ hm
 have fY:∀n∈d0.weights prog 34,n≤reachBytes:=fun n hn=>by
  have:=zaQ.1 bZ n (DataW.weights_mem_each (j:=0) (t:=34) (d:=d0) (by rw[params3];rfl) rfl n hn);simpa using this
 obtain⟨cs,rfl,ac7⟩:=okWide_struct underlying34 (nt 0 34 v0 rfl rfl);obtain⟨m,hm⟩:=h0;have Is:DataW.trod enc prog W 0 (fun _=>true) true m 34 cs.toList=some (d0,p0):=hm;obtain⟨b,al,cl,L,eI,hb,hL,R,hl⟩:=acr Is fY;have hv0:(Value.agg cs)= .agg (ib b al L.length cl).toArray:=by rw[←eI]
 clear QV QU;refine(Spec.walk (by rw[hv0];exact abR b hb R hL hl)).mono fun e W' ⟨he,QW⟩=>?_;subst he;exact⟨_,rfl,_,_,_,[],_,[],AM,trodAll_mk1 (shut_bool underlying4 _),(trodAll_cons_mk (Below.trod laidOut (by kernel_rfl) (of_decide_eq_true (by kernel_rfl)) k0 QW lt0) trodAll_mk0),rfl,QW.frame _,fun h=>by cases h⟩
theorem held:Rows.topWorldRow.holds pinned (OpenSpec.ofChange Rows.topWorldSpec):=
 OpenClaim.holds_of_wide 3 f3 rfl rfl rfl rfl rfl rfl rfl ⟨rfl,rfl,rfl,rfl,rfl⟩ rfl rfl rfl rfl rfl (by kernel_rfl) func3 facts
  (of_decide_eq_true (by kernel_rfl)) (by unfold Func.isWrapper;first|(rw[if_pos (by decide+kernel)];kernel_rfl)|(rw[if_neg (by decide+kernel)];exact⟨rfl,rfl⟩))
  (fun os started H enc _=>lifted os started H enc)
end QT
theorem topWorld:Rows.TopWorldSaid:=QT.held
#print axioms topWorld
end
end Go.Proofs.YtacfncmndodlpaaGreat
