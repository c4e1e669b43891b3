import Derived.JoinedOf
import Derived.OpenShut
import Derived.ShutString
import Derived.ChangeOld
import Derived.Test.YtjpnlfpompnpkaaGreatP00
namespace Go.Proofs.YtjpnlfpompnpkaaGreat
open Go.RowKit Go.Proofs.Tryz
open Go.Value renaming int->an,slice->av,bool->aw,string->aA,tuple->aM,pointer->aL,agg->aG
open Go.IntKind renaming i64->ar
open Go.Ending renaming returned->ax
open Go.Obj renaming cells->aB
set_option maxRecDepth 100000
set_option linter.all false
open Go.ChangeShapes Go.WideShapes Go.ChangeAt
def Hi:ownKnob prog.godebug=none:=by kernel_rfl
def oJ:laidOutB prog=true:=by kernel_rfl
def bT{a b:Bool}(c:a=true)(d:b=true):(a&&b)=true:=by rw[c,d];rfl
def Lt:(Rows.topStillRow.wf (OpenSpec.ofChange Rows.topStillSpec))=true:=by kernel_rfl
def Lu:(laidOutB prog)=true:=oJ
def Lv:(mapsRowed prog)=true:=by kernel_rfl
def Lw:(Tryz.f11.params.all (prog.readableRec ·))=true:=by kernel_rfl
def Lx:(namedTie prog Rows.topStillRow.named Rows.topStillSpec.vars)=true:=by kernel_rfl
def Ly:((Rows.topStillRow.stops==[]))=true:=by kernel_rfl
def Lz:((prog.stops==[]))=true:=by kernel_rfl
def LA:((Rows.topStillRow.knobs==[]))=true:=by kernel_rfl
def LB:((prog.stopKnobs==[]))=true:=by kernel_rfl
def LC:((Rows.topStillRow.inPlace==prog.inPlace 11))=true:=by kernel_rfl
def Hj:((Rows.topStillRow.unfollowed==prog.unfollowed 11))=true:=by kernel_rfl
def Hk:((Rows.topStillRow.recurses==prog.recurses 11))=true:=by kernel_rfl
def Hl:((Rows.topStillRow.named==prog.varsNamed 11))=true:=by kernel_rfl
def Hm:((Rows.topStillRow.maps==(Tryz.f11.params.toList++Rows.topStillSpec.plain.varTypes prog).any (prog.mapsRec ·)))=true:=by kernel_rfl
def Hn:((Rows.topStillRow.ifaces==(Tryz.f11.params.toList++Rows.topStillSpec.plain.varTypes prog).any (prog.ifacesRec ·)))=true:=by kernel_rfl
def Ho:((Rows.topStillRow.mapsOut==prog.mapsAmong Tryz.f11.resultTypes.toList))=true:=by kernel_rfl
def Hp:((Rows.topStillRow.loops==(Tryz.f11.params.toList++Rows.topStillSpec.plain.varTypes prog).any (prog.loopsFrom ·)))=true:=by kernel_rfl
def Hq:((Rows.topStillRow.wideKeys==(Tryz.f11.params.toList++Rows.topStillSpec.plain.varTypes prog++Tryz.f11.resultTypes.toList).any (prog.wideKeysFrom ·)))=true:=by kernel_rfl
def Hr:(Rows.topStillSpec.vars.all (prog.varReadable ·))=true:=by kernel_rfl
def Hs:(Tryz.f11.resultTypes.all (λt=>prog.readableRec t&&decide (t<prog.types.size)))=true:=by kernel_rfl
def Ht:((Rows.topStillRow.ifacesOut==Tryz.f11.resultTypes.toList.any (prog.ifacesRec ·)))=true:=by kernel_rfl
def Hu:((Rows.topStillRow.loopsOut==Tryz.f11.resultTypes.toList.any (prog.loopsFrom ·)))=true:=by kernel_rfl
def Hv:((Rows.topStillRow.plainKeys==prog.plainKeys))=true:=by kernel_rfl
def Hw:(Rows.topStillRow.shortTexts.isNone)=true:=by kernel_rfl
def Hx:(prog.stopsHeard)=true:=by kernel_rfl
def Hy:(prog.mayEnter)=true:=by kernel_rfl
def Hz:((Rows.topStillRow.lifted==prog.liftsFinal))=true:=by kernel_rfl
def H7:((prog.make==some Rows.topStillRow.make))=true:=by kernel_rfl
def H8:((Rows.topStillRow.kinds==(if Rows.topStillRow.domain.isEmpty then []else Tryz.f11.params.toList.map λt=>match prog.underlying t with|some (.int k)=>some k|_=>none)))=true:=by kernel_rfl
def H9:((Rows.topStillRow.pinned==Rows.topStillRow.pinnedBy))=true:=by kernel_rfl
def H_:((Rows.topStillRow.veiled==(Tryz.f11.params.toList++Rows.topStillSpec.plain.varTypes prog++Tryz.f11.resultTypes.toList).any (prog.veiledRec ·)))=true:=by kernel_rfl
def Ia:(Rows.topStillRow.veiledFits prog Tryz.f11.params.toList (Tryz.f11.params.toList++Rows.topStillSpec.plain.varTypes prog++Tryz.f11.resultTypes.toList))=true:=by kernel_rfl
def Cc:joinedFacts prog 11 Tryz.f11 Rows.topStillSpec Rows.topStillRow=true:=bT (bT (bT (bT (bT (bT (bT (bT (bT (bT (bT (bT (bT (bT (bT (bT (bT (bT (bT (bT (bT (bT (bT (bT (bT (bT (bT (bT (bT (bT (bT (Lt) Lu) Lv) Lw) Lx) Ly) Lz) LA) LB) LC) Hj) Hk) Hl) Hm) Hn) Ho) Hp) Hq) Hr) Hs) Ht) Hu) Hv) Hw) Hx) Hy) Hz) H7) H8) H9) H_) Ia
end Go.Proofs.YtjpnlfpompnpkaaGreat
