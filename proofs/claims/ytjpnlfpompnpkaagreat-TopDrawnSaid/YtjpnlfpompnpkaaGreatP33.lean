import Derived.JoinedOf
import Derived.OpenShut
import Derived.ShutString
import Derived.ChangeOld
import Derived.Test.YtjpnlfpompnpkaaGreatP00
namespace Go.Proofs.YtjpnlfpompnpkaaGreat
open Go.RowKit Go.Proofs.Tryz
open Go.Value renaming int->an,slice->av,bool->aw,string->aA,tuple->aM,pointer->aL,agg->aG
open Go.IntKind renaming i64->ar
open Go.Ending renaming returned->ax
open Go.Obj renaming cells->aB
set_option maxRecDepth 100000
set_option linter.all false
open Go.ChangeShapes Go.WideShapes Go.ChangeAt
def Gl:ownKnob prog.godebug=none:=by kernel_rfl
def lX:laidOutB prog=true:=by kernel_rfl
def bS{a b:Bool}(c:a=true)(d:b=true):(a&&b)=true:=by rw[c,d];rfl
def Lc:(Rows.topDrawnRow.wf (OpenSpec.ofChange Rows.topDrawnSpec))=true:=by kernel_rfl
def Ld:(laidOutB prog)=true:=lX
def Le:(mapsRowed prog)=true:=by kernel_rfl
def Lf:(Tryz.f6.params.all (prog.readableRec ·))=true:=by kernel_rfl
def Lg:(namedTie prog Rows.topDrawnRow.named Rows.topDrawnSpec.vars)=true:=by kernel_rfl
def Lh:((Rows.topDrawnRow.stops==[]))=true:=by kernel_rfl
def Li:((prog.stops==[]))=true:=by kernel_rfl
def Lj:((Rows.topDrawnRow.knobs==[]))=true:=by kernel_rfl
def Lk:((prog.stopKnobs==[]))=true:=by kernel_rfl
def Ll:((Rows.topDrawnRow.inPlace==prog.inPlace 6))=true:=by kernel_rfl
def Gm:((Rows.topDrawnRow.unfollowed==prog.unfollowed 6))=true:=by kernel_rfl
def Gn:((Rows.topDrawnRow.recurses==prog.recurses 6))=true:=by kernel_rfl
def Gp:((Rows.topDrawnRow.named==prog.varsNamed 6))=true:=by kernel_rfl
def Gq:((Rows.topDrawnRow.maps==(Tryz.f6.params.toList++Rows.topDrawnSpec.plain.varTypes prog).any (prog.mapsRec ·)))=true:=by kernel_rfl
def Gr:((Rows.topDrawnRow.ifaces==(Tryz.f6.params.toList++Rows.topDrawnSpec.plain.varTypes prog).any (prog.ifacesRec ·)))=true:=by kernel_rfl
def Gs:((Rows.topDrawnRow.mapsOut==prog.mapsAmong Tryz.f6.resultTypes.toList))=true:=by kernel_rfl
def Gt:((Rows.topDrawnRow.loops==(Tryz.f6.params.toList++Rows.topDrawnSpec.plain.varTypes prog).any (prog.loopsFrom ·)))=true:=by kernel_rfl
def Gu:((Rows.topDrawnRow.wideKeys==(Tryz.f6.params.toList++Rows.topDrawnSpec.plain.varTypes prog++Tryz.f6.resultTypes.toList).any (prog.wideKeysFrom ·)))=true:=by kernel_rfl
def Gv:(Rows.topDrawnSpec.vars.all (prog.varReadable ·))=true:=by kernel_rfl
def Gw:(Tryz.f6.resultTypes.all (λt=>prog.readableRec t&&decide (t<prog.types.size)))=true:=by kernel_rfl
def Gx:((Rows.topDrawnRow.ifacesOut==Tryz.f6.resultTypes.toList.any (prog.ifacesRec ·)))=true:=by kernel_rfl
def Gy:((Rows.topDrawnRow.loopsOut==Tryz.f6.resultTypes.toList.any (prog.loopsFrom ·)))=true:=by kernel_rfl
def Gz:((Rows.topDrawnRow.plainKeys==prog.plainKeys))=true:=by kernel_rfl
def GA:(Rows.topDrawnRow.shortTexts.isNone)=true:=by kernel_rfl
def GB:(prog.stopsHeard)=true:=by kernel_rfl
def GC:(prog.mayEnter)=true:=by kernel_rfl
def GD:((Rows.topDrawnRow.lifted==prog.liftsFinal))=true:=by kernel_rfl
def GF:((prog.make==some Rows.topDrawnRow.make))=true:=by kernel_rfl
def GG:((Rows.topDrawnRow.kinds==(if Rows.topDrawnRow.domain.isEmpty then []else Tryz.f6.params.toList.map λt=>match prog.underlying t with|some (.int k)=>some k|_=>none)))=true:=by kernel_rfl
def GH:((Rows.topDrawnRow.pinned==Rows.topDrawnRow.pinnedBy))=true:=by kernel_rfl
def GI:((Rows.topDrawnRow.veiled==(Tryz.f6.params.toList++Rows.topDrawnSpec.plain.varTypes prog++Tryz.f6.resultTypes.toList).any (prog.veiledRec ·)))=true:=by kernel_rfl
def GJ:(Rows.topDrawnRow.veiledFits prog Tryz.f6.params.toList (Tryz.f6.params.toList++Rows.topDrawnSpec.plain.varTypes prog++Tryz.f6.resultTypes.toList))=true:=by kernel_rfl
def Bv:joinedFacts prog 6 Tryz.f6 Rows.topDrawnSpec Rows.topDrawnRow=true:=bS (bS (bS (bS (bS (bS (bS (bS (bS (bS (bS (bS (bS (bS (bS (bS (bS (bS (bS (bS (bS (bS (bS (bS (bS (bS (bS (bS (bS (bS (bS (Lc) Ld) Le) Lf) Lg) Lh) Li) Lj) Lk) Ll) Gm) Gn) Gp) Gq) Gr) Gs) Gt) Gu) Gv) Gw) Gx) Gy) Gz) GA) GB) GC) GD) GF) GG) GH) GI) GJ
end Go.Proofs.YtjpnlfpompnpkaaGreat
