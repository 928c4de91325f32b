/- Part of a proof over the seat YtacfncmndodlpaaGreat. Its claim's last module says what is proved. -/
import Derived.Test.YtacfncmndodlpaaGreatQ2
import Derived.JoinedOf
import Derived.ProofKit
set_option linter.all false
set_option maxHeartbeats 12800000
namespace Go.Proofs.YtacfncmndodlpaaGreat
section
open Go.Proofs Tryz
open Go.Proofs
abbrev B9:List Char:=[zb 99,zb 117,zb 116]
set_option maxRecDepth 100000 in
theorem abS:prog.initOrder.toList=[zb 104,zb 97,zb 114,zb 110,zb 101,zb 115,zb 115,zb 32,zb 55,zb 99,zb 102,zb 50,zb 57,zb 57,zb 101,zb 50,zb 55,zb 51,zb 57,zb 57,zb 48,zb 100,zb 51,zb 101,zb 54,zb 102,zb 49,zb 57,zb 48,zb 100,zb 101,zb 97,zb 102,zb 49,zb 98,zb 99,zb 101,zb 99,zb 97,zb 50,zb 48,zb 52,zb 97,zb 52,zb 55,zb 53,zb 55,zb 100,zb 52,zb 55,zb 52,zb 57,zb 54,zb 50,zb 55,zb 56,zb 100,zb 53,zb 52,zb 100,zb 98,zb 54,zb 57,zb 57,zb 52,zb 49,zb 56,zb 49,zb 55,zb 101,zb 97,zb 48,zb 32,zb 99,zb 117,zb 116,zb 32,zb 97,zb 116,zb 32,zb 116,zb 97,zb 114,zb 110,zb 47,zb 116,zb 97,zb 114,zb 110,zb 116,zb 111,zb 112,zb 46,zb 84,zb 111,zb 112,zb 87,zb 111,zb 114,zb 108,zb 100]:=String.toList_ofList (l:=[zb 104,zb 97,zb 114,zb 110,zb 101,zb 115,zb 115,zb 32,zb 55,zb 99,zb 102,zb 50,zb 57,zb 57,zb 101,zb 50,zb 55,zb 51,zb 57,zb 57,zb 48,zb 100,zb 51,zb 101,zb 54,zb 102,zb 49,zb 57,zb 48,zb 100,zb 101,zb 97,zb 102,zb 49,zb 98,zb 99,zb 101,zb 99,zb 97,zb 50,zb 48,zb 52,zb 97,zb 52,zb 55,zb 53,zb 55,zb 100,zb 52,zb 55,zb 52,zb 57,zb 54,zb 50,zb 55,zb 56,zb 100,zb 53,zb 52,zb 100,zb 98,zb 54,zb 57,zb 57,zb 52,zb 49,zb 56,zb 49,zb 55,zb 101,zb 97,zb 48,zb 32,zb 99,zb 117,zb 116,zb 32,zb 97,zb 116,zb 32,zb 116,zb 97,zb 114,zb 110,zb 47,zb 116,zb 97,zb 114,zb 110,zb 116,zb 111,zb 112,zb 46,zb 84,zb 111,zb 112,zb 87,zb 111,zb 114,zb 108,zb 100])
set_option maxRecDepth 100000 in
theorem Jz:∃r,behindMainWord (wordsSigns prog.initOrder.toList)=B9::r:=by
 refine⟨[[zb 97,zb 116],[zb 116,zb 97,zb 114,zb 110,zb 47,zb 116,zb 97,zb 114,zb 110,zb 116,zb 111,zb 112,zb 46,zb 84,zb 111,zb 112,zb 87,zb 111,zb 114,zb 108,zb 100]],?_⟩;rw[abS];kernel_rfl
theorem abT:prog.laysLater=false:=by kernel_rfl
theorem abU:prog.bearsReflect=false:=by kernel_rfl
theorem abV:prog.doorRows=[]:=by kernel_rfl
theorem B_(l:List Char)(s:String)(h:s=String.ofList l):s.toList=l:=by rw[h];exact String.toList_ofList
theorem abW(w:List Char)(us:List (List Char)):∀os:List String,(∀o∈os,(w==o.toList)=false)→stripLifts os (w::us)=([],w::us):=by
 intro os;induction os with
 |nil=>intro _;rfl
 |cons o os ih=>
  intro h;unfold stripLifts;rw[if_neg (by rw[h o (zay ..)];simp)];exact ih fun x hx=>h x (zP _ hx)
theorem abX:liftWords=([[zb 102,zb 105,zb 110,zb 97,zb 108,zb 115],[zb 114,zb 101,zb 102,zb 108,zb 101,zb 99,zb 116,zb 114,zb 111,zb 119,zb 115],[zb 108,zb 101,zb 97,zb 110,zb 114,zb 111,zb 119,zb 115],[zb 111,zb 110,zb 101,zb 98,zb 117,zb 105,zb 108,zb 100],[zb 112,zb 117,zb 98,zb 108,zb 105,zb 99,zb 115,zb 117,zb 109,zb 115],[zb 101,zb 113,zb 103,zb 117,zb 97,zb 114,zb 100],[zb 111,zb 119,zb 110,zb 117,zb 110,zb 115,zb 97,zb 102,zb 101],[zb 108,zb 105,zb 98,zb 98,zb 101,zb 115,zb 105,zb 100,zb 101],[zb 111,zb 119,zb 110,zb 98,zb 101,zb 115,zb 105,zb 100,zb 101],[zb 114,zb 101,zb 102,zb 108,zb 98,zb 101,zb 115,zb 105,zb 100,zb 101],[zb 97,zb 108,zb 105,zb 97,zb 115,zb 101,zb 115],[zb 97,zb 102,zb 116,zb 101,zb 114,zb 105,zb 110,zb 105,zb 116],[zb 99,zb 114,zb 99,zb 112,zb 108,zb 97,zb 105,zb 110],[zb 114,zb 111,zb 97,zb 100,zb 117,zb 110,zb 115,zb 97,zb 102,zb 101],[zb 102,zb 109,zb 116,zb 104,zb 97,zb 110,zb 100,zb 111,zb 110]]:List (List Char)).map String.ofList:=rfl
theorem QC(r:List (List Char)):stripLifts liftWords (B9::r)=([],B9::r):=by
 refine abW _ _ _ fun o ho=>?_;rw[abX,zbY]at ho;obtain⟨l,hl,rfl⟩:=ho;rw[String.toList_ofList]
 revert l
 decide
theorem abY: "gc".toList=[zb 103,zb 99]:=B_ _ _ rfl
theorem abZ: "spec".toList=[zb 115,zb 112,zb 101,zb 99]:=B_ _ _ rfl
theorem QE: "cut".toList=B9:=B_ _ _ rfl
theorem ab0: "carried".toList=[zb 99,zb 97,zb 114,zb 114,zb 105,zb 101,zb 100]:=B_ _ _ rfl
theorem ab1: "finals".toList=[zb 102,zb 105,zb 110,zb 97,zb 108,zb 115]:=B_ _ _ rfl
section
variable {P:Program} {r:List (List Char)} (hr:behindMainWord (wordsSigns P.initOrder.toList)=B9::r)
include hr
theorem ab2(h1:P.laysLater=false)(h2:P.bearsReflect=false)(h3:P.doorRows=[]):P.mayEnter=true:=by
 unfold Program.mayEnter;rw[hr];simp only[h1,h2,QC,QE];unfold Program.doorFits;rw[h3];simp
theorem ab3:P.headLifts=[]:=by
 unfold Program.headLifts;rw[hr,QC];simp
theorem ab4:P.liftsFinal=false:=by
 unfold Program.liftsFinal;rw[hr,ab3 hr,ab0]
 rfl
theorem ab5:P.make=some .cut:=by
 unfold Program.make;rw[hr];simp only[abY,abZ,QE,ab1]
 rfl
end
theorem mayEnter:prog.mayEnter=true:=Jz.elim fun _ h=>ab2 h abT abU abV
theorem liftsFinal:prog.liftsFinal=false:=Jz.elim fun _ h=>ab4 h
theorem make:prog.make=some .cut:=Jz.elim fun _ h=>ab5 h
end
section
open Go.Proofs Tryz
open Go.Proofs
namespace QT
theorem jfp0:Rows.topWorldRow.wf (OpenSpec.ofChange Rows.topWorldSpec)=true:=by kernel_rfl
theorem jfp1:laidOutB prog=true:=by kernel_rfl
theorem jfp2:mapsRowed prog=true:=by kernel_rfl
theorem jfp3:f3.params.all (prog.readableRec ·)=true:=by kernel_rfl
theorem jfp4:namedTie prog Rows.topWorldRow.named Rows.topWorldSpec.vars=true:=by kernel_rfl
theorem jfp5:(Rows.topWorldRow.stops==[])=true:=by kernel_rfl
theorem jfp6:(prog.stops==[])=true:=by kernel_rfl
theorem jfp7:(Rows.topWorldRow.knobs==[])=true:=by kernel_rfl
theorem jfp8:(prog.stopKnobs==[])=true:=by kernel_rfl
theorem jfp9:(Rows.topWorldRow.inPlace==prog.inPlace 3)=true:=by kernel_rfl
theorem jfp10:(Rows.topWorldRow.unfollowed==prog.unfollowed 3)=true:=by kernel_rfl
theorem jfp11:(Rows.topWorldRow.recurses==prog.recurses 3)=true:=by kernel_rfl
theorem jfp12:(Rows.topWorldRow.named==prog.varsNamed 3)=true:=by kernel_rfl
theorem jfp13:(Rows.topWorldRow.maps==(f3.params.toList++Rows.topWorldSpec.plain.varTypes prog).any (prog.mapsRec ·))=true:=by kernel_rfl
theorem jfp14:(Rows.topWorldRow.ifaces==(f3.params.toList++Rows.topWorldSpec.plain.varTypes prog).any (prog.ifacesRec ·))=true:=by kernel_rfl
theorem jfp15:(Rows.topWorldRow.mapsOut==prog.mapsAmong f3.resultTypes.toList)=true:=by kernel_rfl
theorem jfp16:(Rows.topWorldRow.loops==(f3.params.toList++Rows.topWorldSpec.plain.varTypes prog).any (prog.loopsFrom ·))=true:=by kernel_rfl
theorem jfp17:(Rows.topWorldRow.wideKeys==(f3.params.toList++Rows.topWorldSpec.plain.varTypes prog++f3.resultTypes.toList).any (prog.wideKeysFrom ·))=true:=by kernel_rfl
theorem jfp18:Rows.topWorldSpec.vars.all (prog.varReadable ·)=true:=by kernel_rfl
theorem jfp19:f3.resultTypes.all (fun t=>prog.readableRec t&&decide (t<prog.types.size))=true:=by kernel_rfl
theorem jfp20:(Rows.topWorldRow.ifacesOut==f3.resultTypes.toList.any (prog.ifacesRec ·))=true:=by kernel_rfl
theorem jfp21:(Rows.topWorldRow.loopsOut==f3.resultTypes.toList.any (prog.loopsFrom ·))=true:=by kernel_rfl
theorem jfp22:(Rows.topWorldRow.plainKeys==prog.plainKeys)=true:=by kernel_rfl
theorem jfp23:Rows.topWorldRow.shortTexts.isNone=true:=by kernel_rfl
theorem jfp24:prog.stopsHeard=true:=by kernel_rfl
theorem jfp25:prog.mayEnter=true:=mayEnter
theorem jfp26:(Rows.topWorldRow.lifted==prog.liftsFinal)=true:=by rw[liftsFinal];kernel_rfl
theorem jfp27:(prog.make==some Rows.topWorldRow.make)=true:=by rw[make];kernel_rfl
theorem jfp28:(Rows.topWorldRow.kinds==(if Rows.topWorldRow.domain.isEmpty then []else f3.params.toList.map fun t=>match prog.underlying t with|some (.int k)=>some k|_=>none))=true:=by kernel_rfl
theorem jfp29:(Rows.topWorldRow.pinned==Rows.topWorldRow.pinnedBy)=true:=by kernel_rfl
theorem jfp30:(Rows.topWorldRow.veiled==(f3.params.toList++Rows.topWorldSpec.plain.varTypes prog++f3.resultTypes.toList).any (prog.veiledRec ·))=true:=by kernel_rfl
theorem jfp31:Rows.topWorldRow.veiledFits prog f3.params.toList (f3.params.toList++Rows.topWorldSpec.plain.varTypes prog++f3.resultTypes.toList)=true:=by kernel_rfl
theorem facts0:joinedFacts prog 3 f3 Rows.topWorldSpec Rows.topWorldRow=true:=by
 unfold joinedFacts;rw[jfp0,jfp1,jfp2,jfp3,jfp4,jfp5,jfp6,jfp7,jfp8,jfp9,jfp10,jfp11,jfp12,jfp13,jfp14,jfp15,jfp16,jfp17,jfp18,jfp19,jfp20,jfp21,jfp22,jfp23,jfp24,jfp25,jfp26,jfp27,jfp29,jfp30,jfp31];kernel_rfl
theorem facts:joinedFacts pinned.checked.prog 3 f3 Rows.topWorldSpec Rows.topWorldRow=true:=facts0
end QT
end
end Go.Proofs.YtacfncmndodlpaaGreat
