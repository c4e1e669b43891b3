import Derived.JoinedOf
import Derived.OpenShut
import Derived.ShutString
import Derived.ChangeOld
import Derived.Test.YtjpnlfpompnpkaaGreatP00
namespace Go.Proofs.YtjpnlfpompnpkaaGreat
open Go.RowKit Go.Proofs.Tryz
open Go.Value renaming int->an,slice->av,bool->aw,string->aA,tuple->aM,pointer->aL,agg->aG
open Go.IntKind renaming i64->ar
open Go.Ending renaming returned->ax
open Go.Obj renaming cells->aB
set_option maxRecDepth 100000
set_option linter.all false
open Go.ChangeShapes Go.WideShapes Go.ChangeAt
def CW:ownKnob prog.godebug=none:=by kernel_rfl
def kY:laidOutB prog=true:=by kernel_rfl
def bI{a b:Bool}(c:a=true)(d:b=true):(a&&b)=true:=by rw[c,d];rfl
def GK:(Rows.topFallenRow.wf (OpenSpec.ofChange Rows.topFallenSpec))=true:=by kernel_rfl
def GL:(laidOutB prog)=true:=kY
def GN:(mapsRowed prog)=true:=by kernel_rfl
def GO:(Tryz.f8.params.all (prog.readableRec ·))=true:=by kernel_rfl
def GP:(namedTie prog Rows.topFallenRow.named Rows.topFallenSpec.vars)=true:=by kernel_rfl
def GQ:((Rows.topFallenRow.stops==[]))=true:=by kernel_rfl
def GR:((prog.stops==[]))=true:=by kernel_rfl
def GS:((Rows.topFallenRow.knobs==[]))=true:=by kernel_rfl
def GW:((prog.stopKnobs==[]))=true:=by kernel_rfl
def GX:((Rows.topFallenRow.inPlace==prog.inPlace 8))=true:=by kernel_rfl
def CX:((Rows.topFallenRow.unfollowed==prog.unfollowed 8))=true:=by kernel_rfl
def CY:((Rows.topFallenRow.recurses==prog.recurses 8))=true:=by kernel_rfl
def CZ:((Rows.topFallenRow.named==prog.varsNamed 8))=true:=by kernel_rfl
def C0:((Rows.topFallenRow.maps==(Tryz.f8.params.toList++Rows.topFallenSpec.plain.varTypes prog).any (prog.mapsRec ·)))=true:=by kernel_rfl
def C2:((Rows.topFallenRow.ifaces==(Tryz.f8.params.toList++Rows.topFallenSpec.plain.varTypes prog).any (prog.ifacesRec ·)))=true:=by kernel_rfl
def C3:((Rows.topFallenRow.mapsOut==prog.mapsAmong Tryz.f8.resultTypes.toList))=true:=by kernel_rfl
def C4:((Rows.topFallenRow.loops==(Tryz.f8.params.toList++Rows.topFallenSpec.plain.varTypes prog).any (prog.loopsFrom ·)))=true:=by kernel_rfl
def C5:((Rows.topFallenRow.wideKeys==(Tryz.f8.params.toList++Rows.topFallenSpec.plain.varTypes prog++Tryz.f8.resultTypes.toList).any (prog.wideKeysFrom ·)))=true:=by kernel_rfl
def C6:(Rows.topFallenSpec.vars.all (prog.varReadable ·))=true:=by kernel_rfl
def C7:(Tryz.f8.resultTypes.all (λt=>prog.readableRec t&&decide (t<prog.types.size)))=true:=by kernel_rfl
def C8:((Rows.topFallenRow.ifacesOut==Tryz.f8.resultTypes.toList.any (prog.ifacesRec ·)))=true:=by kernel_rfl
def C9:((Rows.topFallenRow.loopsOut==Tryz.f8.resultTypes.toList.any (prog.loopsFrom ·)))=true:=by kernel_rfl
def C_:((Rows.topFallenRow.plainKeys==prog.plainKeys))=true:=by kernel_rfl
def Da:(Rows.topFallenRow.shortTexts.isNone)=true:=by kernel_rfl
def Db:(prog.stopsHeard)=true:=by kernel_rfl
def Dc:(prog.mayEnter)=true:=by kernel_rfl
def Dd:((Rows.topFallenRow.lifted==prog.liftsFinal))=true:=by kernel_rfl
def De:((prog.make==some Rows.topFallenRow.make))=true:=by kernel_rfl
def Df:((Rows.topFallenRow.kinds==(if Rows.topFallenRow.domain.isEmpty then []else Tryz.f8.params.toList.map λt=>match prog.underlying t with|some (.int k)=>some k|_=>none)))=true:=by kernel_rfl
def Dg:((Rows.topFallenRow.pinned==Rows.topFallenRow.pinnedBy))=true:=by kernel_rfl
def Dh:((Rows.topFallenRow.veiled==(Tryz.f8.params.toList++Rows.topFallenSpec.plain.varTypes prog++Tryz.f8.resultTypes.toList).any (prog.veiledRec ·)))=true:=by kernel_rfl
def Di:(Rows.topFallenRow.veiledFits prog Tryz.f8.params.toList (Tryz.f8.params.toList++Rows.topFallenSpec.plain.varTypes prog++Tryz.f8.resultTypes.toList))=true:=by kernel_rfl
def x_:joinedFacts prog 8 Tryz.f8 Rows.topFallenSpec Rows.topFallenRow=true:=bI (bI (bI (bI (bI (bI (bI (bI (bI (bI (bI (bI (bI (bI (bI (bI (bI (bI (bI (bI (bI (bI (bI (bI (bI (bI (bI (bI (bI (bI (bI (GK) GL) GN) GO) GP) GQ) GR) GS) GW) GX) CX) CY) CZ) C0) C2) C3) C4) C5) C6) C7) C8) C9) C_) Da) Db) Dc) Dd) De) Df) Dg) Dh) Di
end Go.Proofs.YtjpnlfpompnpkaaGreat
