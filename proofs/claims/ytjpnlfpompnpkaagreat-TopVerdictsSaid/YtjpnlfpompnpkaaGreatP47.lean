import Derived.JoinedOf
import Derived.OpenShut
import Derived.ShutString
import Derived.ChangeOld
import Derived.Test.YtjpnlfpompnpkaaGreatP00
namespace Go.Proofs.YtjpnlfpompnpkaaGreat
open Go.RowKit Go.Proofs.Tryz
open Go.Value renaming int->an,slice->av,bool->aw,string->aA,tuple->aM,pointer->aL,agg->aG
open Go.IntKind renaming i64->ar
open Go.Ending renaming returned->ax
open Go.Obj renaming cells->aB
set_option maxRecDepth 100000
set_option linter.all false
open Go.ChangeShapes Go.WideShapes Go.ChangeAt
def yM:ownKnob prog.godebug=none:=by kernel_rfl
def lS:laidOutB prog=true:=by kernel_rfl
def bu{a b:Bool}(c:a=true)(d:b=true):(a&&b)=true:=by rw[c,d];rfl
def Cf:(Rows.topVerdictsRow.wf (OpenSpec.ofChange Rows.topVerdictsSpec))=true:=by kernel_rfl
def Cg:(laidOutB prog)=true:=lS
def Ch:(mapsRowed prog)=true:=by kernel_rfl
def Ci:(Tryz.f7.params.all (prog.readableRec ·))=true:=by kernel_rfl
def Cj:(namedTie prog Rows.topVerdictsRow.named Rows.topVerdictsSpec.vars)=true:=by kernel_rfl
def Ck:((Rows.topVerdictsRow.stops==[]))=true:=by kernel_rfl
def Cl:((prog.stops==[]))=true:=by kernel_rfl
def Cm:((Rows.topVerdictsRow.knobs==[]))=true:=by kernel_rfl
def Cn:((prog.stopKnobs==[]))=true:=by kernel_rfl
def Co:((Rows.topVerdictsRow.inPlace==prog.inPlace 7))=true:=by kernel_rfl
def yN:((Rows.topVerdictsRow.unfollowed==prog.unfollowed 7))=true:=by kernel_rfl
def yO:((Rows.topVerdictsRow.recurses==prog.recurses 7))=true:=by kernel_rfl
def yP:((Rows.topVerdictsRow.named==prog.varsNamed 7))=true:=by kernel_rfl
def yQ:((Rows.topVerdictsRow.maps==(Tryz.f7.params.toList++Rows.topVerdictsSpec.plain.varTypes prog).any (prog.mapsRec ·)))=true:=by kernel_rfl
def yR:((Rows.topVerdictsRow.ifaces==(Tryz.f7.params.toList++Rows.topVerdictsSpec.plain.varTypes prog).any (prog.ifacesRec ·)))=true:=by kernel_rfl
def yT:((Rows.topVerdictsRow.mapsOut==prog.mapsAmong Tryz.f7.resultTypes.toList))=true:=by kernel_rfl
def yU:((Rows.topVerdictsRow.loops==(Tryz.f7.params.toList++Rows.topVerdictsSpec.plain.varTypes prog).any (prog.loopsFrom ·)))=true:=by kernel_rfl
def yV:((Rows.topVerdictsRow.wideKeys==(Tryz.f7.params.toList++Rows.topVerdictsSpec.plain.varTypes prog++Tryz.f7.resultTypes.toList).any (prog.wideKeysFrom ·)))=true:=by kernel_rfl
def yW:(Rows.topVerdictsSpec.vars.all (prog.varReadable ·))=true:=by kernel_rfl
def yX:(Tryz.f7.resultTypes.all (λt=>prog.readableRec t&&decide (t<prog.types.size)))=true:=by kernel_rfl
def yY:((Rows.topVerdictsRow.ifacesOut==Tryz.f7.resultTypes.toList.any (prog.ifacesRec ·)))=true:=by kernel_rfl
def yZ:((Rows.topVerdictsRow.loopsOut==Tryz.f7.resultTypes.toList.any (prog.loopsFrom ·)))=true:=by kernel_rfl
def y_:((Rows.topVerdictsRow.plainKeys==prog.plainKeys))=true:=by kernel_rfl
def ze:(Rows.topVerdictsRow.shortTexts.isNone)=true:=by kernel_rfl
def zg:(prog.stopsHeard)=true:=by kernel_rfl
def zh:(prog.mayEnter)=true:=by kernel_rfl
def zi:((Rows.topVerdictsRow.lifted==prog.liftsFinal))=true:=by kernel_rfl
def zj:((prog.make==some Rows.topVerdictsRow.make))=true:=by kernel_rfl
def zk:((Rows.topVerdictsRow.kinds==(if Rows.topVerdictsRow.domain.isEmpty then []else Tryz.f7.params.toList.map λt=>match prog.underlying t with|some (.int k)=>some k|_=>none)))=true:=by kernel_rfl
def zm:((Rows.topVerdictsRow.pinned==Rows.topVerdictsRow.pinnedBy))=true:=by kernel_rfl
def zn:((Rows.topVerdictsRow.veiled==(Tryz.f7.params.toList++Rows.topVerdictsSpec.plain.varTypes prog++Tryz.f7.resultTypes.toList).any (prog.veiledRec ·)))=true:=by kernel_rfl
def zo:(Rows.topVerdictsRow.veiledFits prog Tryz.f7.params.toList (Tryz.f7.params.toList++Rows.topVerdictsSpec.plain.varTypes prog++Tryz.f7.resultTypes.toList))=true:=by kernel_rfl
def uM:joinedFacts prog 7 Tryz.f7 Rows.topVerdictsSpec Rows.topVerdictsRow=true:=bu (bu (bu (bu (bu (bu (bu (bu (bu (bu (bu (bu (bu (bu (bu (bu (bu (bu (bu (bu (bu (bu (bu (bu (bu (bu (bu (bu (bu (bu (bu (Cf) Cg) Ch) Ci) Cj) Ck) Cl) Cm) Cn) Co) yN) yO) yP) yQ) yR) yT) yU) yV) yW) yX) yY) yZ) y_) ze) zg) zh) zi) zj) zk) zm) zn) zo
end Go.Proofs.YtjpnlfpompnpkaaGreat
