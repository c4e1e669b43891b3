import Derived.JoinedOf
import Derived.OpenShut
import Derived.ShutString
import Derived.ChangeOld
import Derived.Test.YtjpnlfpompnpkaaGreatP00
namespace Go.Proofs.YtjpnlfpompnpkaaGreat
open Go.RowKit Go.Proofs.Tryz
open Go.Value renaming int->an,slice->av,bool->aw,string->aA,tuple->aM,pointer->aL,agg->aG
open Go.IntKind renaming i64->ar
open Go.Ending renaming returned->ax
open Go.Obj renaming cells->aB
set_option maxRecDepth 100000
set_option linter.all false
open Go.ChangeShapes Go.WideShapes Go.ChangeAt
def Ib:ownKnob prog.godebug=none:=by kernel_rfl
def oK:laidOutB prog=true:=by kernel_rfl
def bU{a b:Bool}(c:a=true)(d:b=true):(a&&b)=true:=by rw[c,d];rfl
def LH:(Rows.topStopsRow.wf (OpenSpec.ofChange Rows.topStopsSpec))=true:=by kernel_rfl
def LI:(laidOutB prog)=true:=oK
def LJ:(mapsRowed prog)=true:=by kernel_rfl
def LK:(Tryz.f9.params.all (prog.readableRec ·))=true:=by kernel_rfl
def LM:(namedTie prog Rows.topStopsRow.named Rows.topStopsSpec.vars)=true:=by kernel_rfl
def LO:((Rows.topStopsRow.stops==[]))=true:=by kernel_rfl
def LP:((prog.stops==[]))=true:=by kernel_rfl
def LQ:((Rows.topStopsRow.knobs==[]))=true:=by kernel_rfl
def LR:((prog.stopKnobs==[]))=true:=by kernel_rfl
def LU:((Rows.topStopsRow.inPlace==prog.inPlace 9))=true:=by kernel_rfl
def Ic:((Rows.topStopsRow.unfollowed==prog.unfollowed 9))=true:=by kernel_rfl
def Ie:((Rows.topStopsRow.recurses==prog.recurses 9))=true:=by kernel_rfl
def Ig:((Rows.topStopsRow.named==prog.varsNamed 9))=true:=by kernel_rfl
def Ih:((Rows.topStopsRow.maps==(Tryz.f9.params.toList++Rows.topStopsSpec.plain.varTypes prog).any (prog.mapsRec ·)))=true:=by kernel_rfl
def Ii:((Rows.topStopsRow.ifaces==(Tryz.f9.params.toList++Rows.topStopsSpec.plain.varTypes prog).any (prog.ifacesRec ·)))=true:=by kernel_rfl
def Ij:((Rows.topStopsRow.mapsOut==prog.mapsAmong Tryz.f9.resultTypes.toList))=true:=by kernel_rfl
def Ik:((Rows.topStopsRow.loops==(Tryz.f9.params.toList++Rows.topStopsSpec.plain.varTypes prog).any (prog.loopsFrom ·)))=true:=by kernel_rfl
def Il:((Rows.topStopsRow.wideKeys==(Tryz.f9.params.toList++Rows.topStopsSpec.plain.varTypes prog++Tryz.f9.resultTypes.toList).any (prog.wideKeysFrom ·)))=true:=by kernel_rfl
def Im:(Rows.topStopsSpec.vars.all (prog.varReadable ·))=true:=by kernel_rfl
def Io:(Tryz.f9.resultTypes.all (λt=>prog.readableRec t&&decide (t<prog.types.size)))=true:=by kernel_rfl
def Ip:((Rows.topStopsRow.ifacesOut==Tryz.f9.resultTypes.toList.any (prog.ifacesRec ·)))=true:=by kernel_rfl
def Iq:((Rows.topStopsRow.loopsOut==Tryz.f9.resultTypes.toList.any (prog.loopsFrom ·)))=true:=by kernel_rfl
def Ir:((Rows.topStopsRow.plainKeys==prog.plainKeys))=true:=by kernel_rfl
def Is:(Rows.topStopsRow.shortTexts.isNone)=true:=by kernel_rfl
def It:(prog.stopsHeard)=true:=by kernel_rfl
def Iu:(prog.mayEnter)=true:=by kernel_rfl
def Iv:((Rows.topStopsRow.lifted==prog.liftsFinal))=true:=by kernel_rfl
def Iw:((prog.make==some Rows.topStopsRow.make))=true:=by kernel_rfl
def Ix:((Rows.topStopsRow.kinds==(if Rows.topStopsRow.domain.isEmpty then []else Tryz.f9.params.toList.map λt=>match prog.underlying t with|some (.int k)=>some k|_=>none)))=true:=by kernel_rfl
def Iy:((Rows.topStopsRow.pinned==Rows.topStopsRow.pinnedBy))=true:=by kernel_rfl
def Iz:((Rows.topStopsRow.veiled==(Tryz.f9.params.toList++Rows.topStopsSpec.plain.varTypes prog++Tryz.f9.resultTypes.toList).any (prog.veiledRec ·)))=true:=by kernel_rfl
def IA:(Rows.topStopsRow.veiledFits prog Tryz.f9.params.toList (Tryz.f9.params.toList++Rows.topStopsSpec.plain.varTypes prog++Tryz.f9.resultTypes.toList))=true:=by kernel_rfl
def Ce:joinedFacts prog 9 Tryz.f9 Rows.topStopsSpec Rows.topStopsRow=true:=bU (bU (bU (bU (bU (bU (bU (bU (bU (bU (bU (bU (bU (bU (bU (bU (bU (bU (bU (bU (bU (bU (bU (bU (bU (bU (bU (bU (bU (bU (bU (LH) LI) LJ) LK) LM) LO) LP) LQ) LR) LU) Ic) Ie) Ig) Ih) Ii) Ij) Ik) Il) Im) Io) Ip) Iq) Ir) Is) It) Iu) Iv) Iw) Ix) Iy) Iz) IA
end Go.Proofs.YtjpnlfpompnpkaaGreat
