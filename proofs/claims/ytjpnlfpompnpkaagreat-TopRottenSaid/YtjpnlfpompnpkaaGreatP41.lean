import Derived.JoinedOf
import Derived.OpenShut
import Derived.ShutString
import Derived.ChangeOld
import Derived.Test.YtjpnlfpompnpkaaGreatP00
namespace Go.Proofs.YtjpnlfpompnpkaaGreat
open Go.RowKit Go.Proofs.Tryz
open Go.Value renaming int->an,slice->av,bool->aw,string->aA,tuple->aM,pointer->aL,agg->aG
open Go.IntKind renaming i64->ar
open Go.Ending renaming returned->ax
open Go.Obj renaming cells->aB
set_option maxRecDepth 100000
set_option linter.all false
open Go.ChangeShapes Go.WideShapes Go.ChangeAt
def Dv:ownKnob prog.godebug=none:=by kernel_rfl
def nW:laidOutB prog=true:=by kernel_rfl
def bJ{a b:Bool}(c:a=true)(d:b=true):(a&&b)=true:=by rw[c,d];rfl
def G6:(Rows.topRottenRow.wf (OpenSpec.ofChange Rows.topRottenSpec))=true:=by kernel_rfl
def G7:(laidOutB prog)=true:=nW
def G9:(mapsRowed prog)=true:=by kernel_rfl
def G_:(Tryz.f4.params.all (prog.readableRec ·))=true:=by kernel_rfl
def Ha:(namedTie prog Rows.topRottenRow.named Rows.topRottenSpec.vars)=true:=by kernel_rfl
def Hb:((Rows.topRottenRow.stops==[]))=true:=by kernel_rfl
def Hc:((prog.stops==[]))=true:=by kernel_rfl
def Hd:((Rows.topRottenRow.knobs==[]))=true:=by kernel_rfl
def He:((prog.stopKnobs==[]))=true:=by kernel_rfl
def Hf:((Rows.topRottenRow.inPlace==prog.inPlace 4))=true:=by kernel_rfl
def Dw:((Rows.topRottenRow.unfollowed==prog.unfollowed 4))=true:=by kernel_rfl
def Dx:((Rows.topRottenRow.recurses==prog.recurses 4))=true:=by kernel_rfl
def Dy:((Rows.topRottenRow.named==prog.varsNamed 4))=true:=by kernel_rfl
def Dz:((Rows.topRottenRow.maps==(Tryz.f4.params.toList++Rows.topRottenSpec.plain.varTypes prog).any (prog.mapsRec ·)))=true:=by kernel_rfl
def DA:((Rows.topRottenRow.ifaces==(Tryz.f4.params.toList++Rows.topRottenSpec.plain.varTypes prog).any (prog.ifacesRec ·)))=true:=by kernel_rfl
def DB:((Rows.topRottenRow.mapsOut==prog.mapsAmong Tryz.f4.resultTypes.toList))=true:=by kernel_rfl
def DC:((Rows.topRottenRow.loops==(Tryz.f4.params.toList++Rows.topRottenSpec.plain.varTypes prog).any (prog.loopsFrom ·)))=true:=by kernel_rfl
def DD:((Rows.topRottenRow.wideKeys==(Tryz.f4.params.toList++Rows.topRottenSpec.plain.varTypes prog++Tryz.f4.resultTypes.toList).any (prog.wideKeysFrom ·)))=true:=by kernel_rfl
def DE:(Rows.topRottenSpec.vars.all (prog.varReadable ·))=true:=by kernel_rfl
def DF:(Tryz.f4.resultTypes.all (λt=>prog.readableRec t&&decide (t<prog.types.size)))=true:=by kernel_rfl
def DG:((Rows.topRottenRow.ifacesOut==Tryz.f4.resultTypes.toList.any (prog.ifacesRec ·)))=true:=by kernel_rfl
def DH:((Rows.topRottenRow.loopsOut==Tryz.f4.resultTypes.toList.any (prog.loopsFrom ·)))=true:=by kernel_rfl
def DI:((Rows.topRottenRow.plainKeys==prog.plainKeys))=true:=by kernel_rfl
def DJ:(Rows.topRottenRow.shortTexts.isNone)=true:=by kernel_rfl
def DL:(prog.stopsHeard)=true:=by kernel_rfl
def DM:(prog.mayEnter)=true:=by kernel_rfl
def DN:((Rows.topRottenRow.lifted==prog.liftsFinal))=true:=by kernel_rfl
def DO:((prog.make==some Rows.topRottenRow.make))=true:=by kernel_rfl
def DP:((Rows.topRottenRow.kinds==(if Rows.topRottenRow.domain.isEmpty then []else Tryz.f4.params.toList.map λt=>match prog.underlying t with|some (.int k)=>some k|_=>none)))=true:=by kernel_rfl
def DQ:((Rows.topRottenRow.pinned==Rows.topRottenRow.pinnedBy))=true:=by kernel_rfl
def DR:((Rows.topRottenRow.veiled==(Tryz.f4.params.toList++Rows.topRottenSpec.plain.varTypes prog++Tryz.f4.resultTypes.toList).any (prog.veiledRec ·)))=true:=by kernel_rfl
def DS:(Rows.topRottenRow.veiledFits prog Tryz.f4.params.toList (Tryz.f4.params.toList++Rows.topRottenSpec.plain.varTypes prog++Tryz.f4.resultTypes.toList))=true:=by kernel_rfl
def yJ:joinedFacts prog 4 Tryz.f4 Rows.topRottenSpec Rows.topRottenRow=true:=bJ (bJ (bJ (bJ (bJ (bJ (bJ (bJ (bJ (bJ (bJ (bJ (bJ (bJ (bJ (bJ (bJ (bJ (bJ (bJ (bJ (bJ (bJ (bJ (bJ (bJ (bJ (bJ (bJ (bJ (bJ (G6) G7) G9) G_) Ha) Hb) Hc) Hd) He) Hf) Dw) Dx) Dy) Dz) DA) DB) DC) DD) DE) DF) DG) DH) DI) DJ) DL) DM) DN) DO) DP) DQ) DR) DS
end Go.Proofs.YtjpnlfpompnpkaaGreat
