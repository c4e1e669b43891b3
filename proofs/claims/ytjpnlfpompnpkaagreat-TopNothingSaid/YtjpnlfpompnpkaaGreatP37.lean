import Derived.JoinedOf
import Derived.OpenShut
import Derived.ShutString
import Derived.ChangeOld
import Derived.Test.YtjpnlfpompnpkaaGreatP00
namespace Go.Proofs.YtjpnlfpompnpkaaGreat
open Go.RowKit Go.Proofs.Tryz
open Go.Value renaming int->an,slice->av,bool->aw,string->aA,tuple->aM,pointer->aL,agg->aG
open Go.IntKind renaming i64->ar
open Go.Ending renaming returned->ax
open Go.Obj renaming cells->aB
set_option maxRecDepth 100000
set_option linter.all false
open Go.ChangeShapes Go.WideShapes Go.ChangeAt
def BA:ownKnob prog.godebug=none:=by kernel_rfl
def iT:laidOutB prog=true:=by kernel_rfl
def bE{a b:Bool}(c:a=true)(d:b=true):(a&&b)=true:=by rw[c,d];rfl
def Dk:(Rows.topNothingRow.wf (OpenSpec.ofChange Rows.topNothingSpec))=true:=by kernel_rfl
def Dl:(laidOutB prog)=true:=iT
def Dm:(mapsRowed prog)=true:=by kernel_rfl
def Dn:(Tryz.f3.params.all (prog.readableRec ·))=true:=by kernel_rfl
def Dp:(namedTie prog Rows.topNothingRow.named Rows.topNothingSpec.vars)=true:=by kernel_rfl
def Dq:((Rows.topNothingRow.stops==[]))=true:=by kernel_rfl
def Dr:((prog.stops==[]))=true:=by kernel_rfl
def Ds:((Rows.topNothingRow.knobs==[]))=true:=by kernel_rfl
def Dt:((prog.stopKnobs==[]))=true:=by kernel_rfl
def Du:((Rows.topNothingRow.inPlace==prog.inPlace 3))=true:=by kernel_rfl
def BB:((Rows.topNothingRow.unfollowed==prog.unfollowed 3))=true:=by kernel_rfl
def BC:((Rows.topNothingRow.recurses==prog.recurses 3))=true:=by kernel_rfl
def BD:((Rows.topNothingRow.named==prog.varsNamed 3))=true:=by kernel_rfl
def BE:((Rows.topNothingRow.maps==(Tryz.f3.params.toList++Rows.topNothingSpec.plain.varTypes prog).any (prog.mapsRec ·)))=true:=by kernel_rfl
def BF:((Rows.topNothingRow.ifaces==(Tryz.f3.params.toList++Rows.topNothingSpec.plain.varTypes prog).any (prog.ifacesRec ·)))=true:=by kernel_rfl
def BG:((Rows.topNothingRow.mapsOut==prog.mapsAmong Tryz.f3.resultTypes.toList))=true:=by kernel_rfl
def BH:((Rows.topNothingRow.loops==(Tryz.f3.params.toList++Rows.topNothingSpec.plain.varTypes prog).any (prog.loopsFrom ·)))=true:=by kernel_rfl
def BI:((Rows.topNothingRow.wideKeys==(Tryz.f3.params.toList++Rows.topNothingSpec.plain.varTypes prog++Tryz.f3.resultTypes.toList).any (prog.wideKeysFrom ·)))=true:=by kernel_rfl
def BJ:(Rows.topNothingSpec.vars.all (prog.varReadable ·))=true:=by kernel_rfl
def BK:(Tryz.f3.resultTypes.all (λt=>prog.readableRec t&&decide (t<prog.types.size)))=true:=by kernel_rfl
def BL:((Rows.topNothingRow.ifacesOut==Tryz.f3.resultTypes.toList.any (prog.ifacesRec ·)))=true:=by kernel_rfl
def BM:((Rows.topNothingRow.loopsOut==Tryz.f3.resultTypes.toList.any (prog.loopsFrom ·)))=true:=by kernel_rfl
def BN:((Rows.topNothingRow.plainKeys==prog.plainKeys))=true:=by kernel_rfl
def BP:(Rows.topNothingRow.shortTexts.isNone)=true:=by kernel_rfl
def BQ:(prog.stopsHeard)=true:=by kernel_rfl
def BR:(prog.mayEnter)=true:=by kernel_rfl
def BS:((Rows.topNothingRow.lifted==prog.liftsFinal))=true:=by kernel_rfl
def BT:((prog.make==some Rows.topNothingRow.make))=true:=by kernel_rfl
def BU:((Rows.topNothingRow.kinds==(if Rows.topNothingRow.domain.isEmpty then []else Tryz.f3.params.toList.map λt=>match prog.underlying t with|some (.int k)=>some k|_=>none)))=true:=by kernel_rfl
def BV:((Rows.topNothingRow.pinned==Rows.topNothingRow.pinnedBy))=true:=by kernel_rfl
def BW:((Rows.topNothingRow.veiled==(Tryz.f3.params.toList++Rows.topNothingSpec.plain.varTypes prog++Tryz.f3.resultTypes.toList).any (prog.veiledRec ·)))=true:=by kernel_rfl
def BX:(Rows.topNothingRow.veiledFits prog Tryz.f3.params.toList (Tryz.f3.params.toList++Rows.topNothingSpec.plain.varTypes prog++Tryz.f3.resultTypes.toList))=true:=by kernel_rfl
def wJ:joinedFacts prog 3 Tryz.f3 Rows.topNothingSpec Rows.topNothingRow=true:=bE (bE (bE (bE (bE (bE (bE (bE (bE (bE (bE (bE (bE (bE (bE (bE (bE (bE (bE (bE (bE (bE (bE (bE (bE (bE (bE (bE (bE (bE (bE (Dk) Dl) Dm) Dn) Dp) Dq) Dr) Ds) Dt) Du) BB) BC) BD) BE) BF) BG) BH) BI) BJ) BK) BL) BM) BN) BP) BQ) BR) BS) BT) BU) BV) BW) BX
end Go.Proofs.YtjpnlfpompnpkaaGreat
