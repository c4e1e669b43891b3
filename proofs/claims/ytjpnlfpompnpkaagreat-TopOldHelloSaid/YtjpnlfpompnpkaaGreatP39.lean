import Derived.JoinedOf
import Derived.OpenShut
import Derived.ShutString
import Derived.ChangeOld
import Derived.Test.YtjpnlfpompnpkaaGreatP00
namespace Go.Proofs.YtjpnlfpompnpkaaGreat
open Go.RowKit Go.Proofs.Tryz
open Go.Value renaming int->an,slice->av,bool->aw,string->aA,tuple->aM,pointer->aL,agg->aG
open Go.IntKind renaming i64->ar
open Go.Ending renaming returned->ax
open Go.Obj renaming cells->aB
set_option maxRecDepth 100000
set_option linter.all false
open Go.ChangeShapes Go.WideShapes Go.ChangeAt
def yd:ownKnob prog.godebug=none:=by kernel_rfl
def pw:laidOutB prog=true:=by kernel_rfl
def bt{a b:Bool}(c:a=true)(d:b=true):(a&&b)=true:=by rw[c,d];rfl
def BZ:(Rows.topOldHelloRow.wf (OpenSpec.ofChange Rows.topOldHelloSpec))=true:=by kernel_rfl
def B0:(laidOutB prog)=true:=pw
def B3:(mapsRowed prog)=true:=by kernel_rfl
def B4:(Tryz.f12.params.all (prog.readableRec ·))=true:=by kernel_rfl
def B5:(namedTie prog Rows.topOldHelloRow.named Rows.topOldHelloSpec.vars)=true:=by kernel_rfl
def B6:((Rows.topOldHelloRow.stops==[]))=true:=by kernel_rfl
def B7:((prog.stops==[]))=true:=by kernel_rfl
def B8:((Rows.topOldHelloRow.knobs==[]))=true:=by kernel_rfl
def B9:((prog.stopKnobs==[]))=true:=by kernel_rfl
def B_:((Rows.topOldHelloRow.inPlace==prog.inPlace 12))=true:=by kernel_rfl
def yg:((Rows.topOldHelloRow.unfollowed==prog.unfollowed 12))=true:=by kernel_rfl
def yh:((Rows.topOldHelloRow.recurses==prog.recurses 12))=true:=by kernel_rfl
def yi:((Rows.topOldHelloRow.named==prog.varsNamed 12))=true:=by kernel_rfl
def yj:((Rows.topOldHelloRow.maps==(Tryz.f12.params.toList++Rows.topOldHelloSpec.plain.varTypes prog).any (prog.mapsRec ·)))=true:=by kernel_rfl
def ym:((Rows.topOldHelloRow.ifaces==(Tryz.f12.params.toList++Rows.topOldHelloSpec.plain.varTypes prog).any (prog.ifacesRec ·)))=true:=by kernel_rfl
def yn:((Rows.topOldHelloRow.mapsOut==prog.mapsAmong Tryz.f12.resultTypes.toList))=true:=by kernel_rfl
def yo:((Rows.topOldHelloRow.loops==(Tryz.f12.params.toList++Rows.topOldHelloSpec.plain.varTypes prog).any (prog.loopsFrom ·)))=true:=by kernel_rfl
def yp:((Rows.topOldHelloRow.wideKeys==(Tryz.f12.params.toList++Rows.topOldHelloSpec.plain.varTypes prog++Tryz.f12.resultTypes.toList).any (prog.wideKeysFrom ·)))=true:=by kernel_rfl
def yr:(Rows.topOldHelloSpec.vars.all (prog.varReadable ·))=true:=by kernel_rfl
def yu:(Tryz.f12.resultTypes.all (λt=>prog.readableRec t&&decide (t<prog.types.size)))=true:=by kernel_rfl
def yv:((Rows.topOldHelloRow.ifacesOut==Tryz.f12.resultTypes.toList.any (prog.ifacesRec ·)))=true:=by kernel_rfl
def yw:((Rows.topOldHelloRow.loopsOut==Tryz.f12.resultTypes.toList.any (prog.loopsFrom ·)))=true:=by kernel_rfl
def yx:((Rows.topOldHelloRow.plainKeys==prog.plainKeys))=true:=by kernel_rfl
def yz:(Rows.topOldHelloRow.shortTexts.isNone)=true:=by kernel_rfl
def yA:(prog.stopsHeard)=true:=by kernel_rfl
def yB:(prog.mayEnter)=true:=by kernel_rfl
def yC:((Rows.topOldHelloRow.lifted==prog.liftsFinal))=true:=by kernel_rfl
def yD:((prog.make==some Rows.topOldHelloRow.make))=true:=by kernel_rfl
def yE:((Rows.topOldHelloRow.kinds==(if Rows.topOldHelloRow.domain.isEmpty then []else Tryz.f12.params.toList.map λt=>match prog.underlying t with|some (.int k)=>some k|_=>none)))=true:=by kernel_rfl
def yF:((Rows.topOldHelloRow.pinned==Rows.topOldHelloRow.pinnedBy))=true:=by kernel_rfl
def yG:((Rows.topOldHelloRow.veiled==(Tryz.f12.params.toList++Rows.topOldHelloSpec.plain.varTypes prog++Tryz.f12.resultTypes.toList).any (prog.veiledRec ·)))=true:=by kernel_rfl
def yH:(Rows.topOldHelloRow.veiledFits prog Tryz.f12.params.toList (Tryz.f12.params.toList++Rows.topOldHelloSpec.plain.varTypes prog++Tryz.f12.resultTypes.toList))=true:=by kernel_rfl
def uK:joinedFacts prog 12 Tryz.f12 Rows.topOldHelloSpec Rows.topOldHelloRow=true:=bt (bt (bt (bt (bt (bt (bt (bt (bt (bt (bt (bt (bt (bt (bt (bt (bt (bt (bt (bt (bt (bt (bt (bt (bt (bt (bt (bt (bt (bt (bt (BZ) B0) B3) B4) B5) B6) B7) B8) B9) B_) yg) yh) yi) yj) ym) yn) yo) yp) yr) yu) yv) yw) yx) yz) yA) yB) yC) yD) yE) yF) yG) yH
end Go.Proofs.YtjpnlfpompnpkaaGreat
