import Derived.JoinedOf
import Derived.OpenShut
import Derived.ShutString
import Derived.ChangeOld
import Derived.Test.YtjpnlfpompnpkaaGreatP00
namespace Go.Proofs.YtjpnlfpompnpkaaGreat
open Go.RowKit Go.Proofs.Tryz
open Go.Value renaming int->an,slice->av,bool->aw,string->aA,tuple->aM,pointer->aL,agg->aG
open Go.IntKind renaming i64->ar
open Go.Ending renaming returned->ax
open Go.Obj renaming cells->aB
set_option maxRecDepth 100000
set_option linter.all false
open Go.ChangeShapes Go.WideShapes Go.ChangeAt
def IB:ownKnob prog.godebug=none:=by kernel_rfl
def oL:laidOutB prog=true:=by kernel_rfl
def bV{a b:Bool}(c:a=true)(d:b=true):(a&&b)=true:=by rw[c,d];rfl
def L0:(Rows.topWakesRow.wf (OpenSpec.ofChange Rows.topWakesSpec))=true:=by kernel_rfl
def L5:(laidOutB prog)=true:=oL
def L6:(mapsRowed prog)=true:=by kernel_rfl
def L7:(Tryz.f5.params.all (prog.readableRec ·))=true:=by kernel_rfl
def L8:(namedTie prog Rows.topWakesRow.named Rows.topWakesSpec.vars)=true:=by kernel_rfl
def L9:((Rows.topWakesRow.stops==[]))=true:=by kernel_rfl
def L_:((prog.stops==[]))=true:=by kernel_rfl
def Ma:((Rows.topWakesRow.knobs==[]))=true:=by kernel_rfl
def Mb:((prog.stopKnobs==[]))=true:=by kernel_rfl
def Mc:((Rows.topWakesRow.inPlace==prog.inPlace 5))=true:=by kernel_rfl
def IC:((Rows.topWakesRow.unfollowed==prog.unfollowed 5))=true:=by kernel_rfl
def ID:((Rows.topWakesRow.recurses==prog.recurses 5))=true:=by kernel_rfl
def IE:((Rows.topWakesRow.named==prog.varsNamed 5))=true:=by kernel_rfl
def IF:((Rows.topWakesRow.maps==(Tryz.f5.params.toList++Rows.topWakesSpec.plain.varTypes prog).any (prog.mapsRec ·)))=true:=by kernel_rfl
def IG:((Rows.topWakesRow.ifaces==(Tryz.f5.params.toList++Rows.topWakesSpec.plain.varTypes prog).any (prog.ifacesRec ·)))=true:=by kernel_rfl
def IH:((Rows.topWakesRow.mapsOut==prog.mapsAmong Tryz.f5.resultTypes.toList))=true:=by kernel_rfl
def II:((Rows.topWakesRow.loops==(Tryz.f5.params.toList++Rows.topWakesSpec.plain.varTypes prog).any (prog.loopsFrom ·)))=true:=by kernel_rfl
def IJ:((Rows.topWakesRow.wideKeys==(Tryz.f5.params.toList++Rows.topWakesSpec.plain.varTypes prog++Tryz.f5.resultTypes.toList).any (prog.wideKeysFrom ·)))=true:=by kernel_rfl
def IK:(Rows.topWakesSpec.vars.all (prog.varReadable ·))=true:=by kernel_rfl
def IL:(Tryz.f5.resultTypes.all (λt=>prog.readableRec t&&decide (t<prog.types.size)))=true:=by kernel_rfl
def IM:((Rows.topWakesRow.ifacesOut==Tryz.f5.resultTypes.toList.any (prog.ifacesRec ·)))=true:=by kernel_rfl
def IP:((Rows.topWakesRow.loopsOut==Tryz.f5.resultTypes.toList.any (prog.loopsFrom ·)))=true:=by kernel_rfl
def IQ:((Rows.topWakesRow.plainKeys==prog.plainKeys))=true:=by kernel_rfl
def IS:(Rows.topWakesRow.shortTexts.isNone)=true:=by kernel_rfl
def IT:(prog.stopsHeard)=true:=by kernel_rfl
def IU:(prog.mayEnter)=true:=by kernel_rfl
def IV:((Rows.topWakesRow.lifted==prog.liftsFinal))=true:=by kernel_rfl
def IW:((prog.make==some Rows.topWakesRow.make))=true:=by kernel_rfl
def IX:((Rows.topWakesRow.kinds==(if Rows.topWakesRow.domain.isEmpty then []else Tryz.f5.params.toList.map λt=>match prog.underlying t with|some (.int k)=>some k|_=>none)))=true:=by kernel_rfl
def IY:((Rows.topWakesRow.pinned==Rows.topWakesRow.pinnedBy))=true:=by kernel_rfl
def IZ:((Rows.topWakesRow.veiled==(Tryz.f5.params.toList++Rows.topWakesSpec.plain.varTypes prog++Tryz.f5.resultTypes.toList).any (prog.veiledRec ·)))=true:=by kernel_rfl
def I0:(Rows.topWakesRow.veiledFits prog Tryz.f5.params.toList (Tryz.f5.params.toList++Rows.topWakesSpec.plain.varTypes prog++Tryz.f5.resultTypes.toList))=true:=by kernel_rfl
def Cq:joinedFacts prog 5 Tryz.f5 Rows.topWakesSpec Rows.topWakesRow=true:=bV (bV (bV (bV (bV (bV (bV (bV (bV (bV (bV (bV (bV (bV (bV (bV (bV (bV (bV (bV (bV (bV (bV (bV (bV (bV (bV (bV (bV (bV (bV (L0) L5) L6) L7) L8) L9) L_) Ma) Mb) Mc) IC) ID) IE) IF) IG) IH) II) IJ) IK) IL) IM) IP) IQ) IS) IT) IU) IV) IW) IX) IY) IZ) I0
end Go.Proofs.YtjpnlfpompnpkaaGreat
