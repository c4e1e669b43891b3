import Derived.JoinedOf
import Derived.OpenShut
import Derived.ShutString
import Derived.ChangeOld
import Derived.Test.YtjpnlfpompnpkaaGreatP00
namespace Go.Proofs.YtjpnlfpompnpkaaGreat
open Go.RowKit Go.Proofs.Tryz
open Go.Value renaming int->an,slice->av,bool->aw,string->aA,tuple->aM,pointer->aL,agg->aG
open Go.IntKind renaming i64->ar
open Go.Ending renaming returned->ax
open Go.Obj renaming cells->aB
set_option maxRecDepth 100000
set_option linter.all false
set_option maxHeartbeats 2000000
open Go.ChangeShapes Go.WideShapes Go.ChangeAt
def vT:ownKnob prog.godebug=none:=by kernel_rfl
def gX:laidOutB prog=true:=by kernel_rfl
def bk{a b:Bool}(c:a=true)(d:b=true):(a&&b)=true:=by rw[c,d];rfl
def tB:joinedFacts prog 10 Tryz.f10 Rows.topCancelledSpec Rows.topCancelledRow=true:=by
 unfold joinedFacts
 repeat' with_reducible refine bk ?_ ?_
 all_goals as_aux_lemma=>kernel_rfl
end Go.Proofs.YtjpnlfpompnpkaaGreat
