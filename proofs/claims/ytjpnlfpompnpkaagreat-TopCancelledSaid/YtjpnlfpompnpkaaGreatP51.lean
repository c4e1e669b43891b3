import Derived.ChangeKeysEq
import Derived.Test.YtjpnlfpompnpkaaGreatP23
namespace Go.Proofs.YtjpnlfpompnpkaaGreat
open Go.RowKit Go.Proofs.Tryz
open Go.Value renaming int->an,slice->av,bool->aw,string->aA,tuple->aM,pointer->aL,agg->aG
open Go.IntKind renaming i64->ar
open Go.Ending renaming returned->ax
open Go.Obj renaming cells->aB
open Go renaming World->ae,Value->ah,Calls->aj,Ending->ak
open Go.RowKit renaming Below->ai
set_option maxRecDepth 100000
set_option linter.all false
set_option maxHeartbeats 2000000
open Go.ChangeMaps mX
variable{P:Tg->Prop}{τ br:cj}{w w':ae}{c:aV}{xb rb np:Nat}{rs:List cS}{v:ah}{ls:List fF}{E:List (Nat×Obj)}{s:di×cS}{wr y:ae}
def agk(w:ae)(v:ah):(method (prog.types.size+Made.depth) 124 v "inkhorn/cluster.wake").run prog w=.ok (243,v) w:=by kernel_rfl
def agl(w:ae)(v:ah):(method (prog.types.size+Made.depth) 93 v "inkhorn/cluster.wake").run prog w=.ok (218,v) w:=by kernel_rfl
def xD{P:Program}{w:ae}{g:Array Oper}{o:Oper}{a:Act}{K:Act->ae->Prop}{Q:Exit->Act->ae->Prop}{E:Prop}(p:o.guard=none)(f:FuncId){fn:Func}(q:P.funcs[f]? =some fn)(d:(fn.name== "runtime.NumGoroutine")=false)(n:fn.body.isNone=false){rc:Operand}{b:String}{xs:Array Operand}{ts:Array TypeId}
 (t:o.op=.call {callee:=.invoke rc b,args:=xs,argTypes:=ts}) {h:TypeId} {rv:ah} (i:a.eval rc=.iface h rv) (hm:(method (P.types.size+Made.depth) h rv b).run P w=.ok (f,rv) w) (j:Array ah) (u: #[rv]++xs.map a.eval=j) {R:ak->ae->Prop}
 (x:aj P f j w R) (z:∀e w',R e w'->∃k,e=ax k/\K (a.put o.dst k) w'):if Region.wanted o (yielded g a.tmps)=true then Oper.wp P o a w K Q else E:=by
 have A:Region.wanted o (yielded g a.tmps)=true:=by simp[Region.wanted,p]
 rw[aI A];unfold Oper.wp;have B:(execOp a.eval o).run P w=.ok (.enter f j) w:=by
  have l:fn.name≠ "runtime.NumGoroutine" :=by simpa using d
  have m:fn.body≠none:=by intro e;rw[e]at n;cases n
  have C:(#[a.eval rc]++xs.map a.eval)[0]? =some (.iface h rv):=by rw[i,Array.getElem?_append_left (by simp)];rfl
  have h1:(#[a.eval rc]++xs.map a.eval).extract 1 (#[a.eval rc]++xs.map a.eval).size=xs.map a.eval:=by simp
  simp only[execOp,t,resolve,invoke,callMethod,Sem.run_bind,Sem.run_pure,Result.andThen_ok,C,h1,hm,run_program,callFunc,q,u];simp[l,m]
 rw[B,Oper.upon_enter];refine x.mono λe w' i=> ?_
 obtain⟨k,rfl,F⟩:=z e w' i;exact F
variable{r:cS}
def RV{G:ae}{x:di}(h:dN c xb rb np rs () [] E τ G (x,r) w)(nd d z:Int)(A:ByteArray)(B C:Int)(H:¬(0<=nd/\nd<=x.ws.length))(f:∃b j k,w.cell? ⟨xb,1,none⟩=some (av (some ⟨b,j,none⟩) (x.ws.length+1) k))(l:x.ws.length<=5):
 aj prog 47 #[xb,rb,aG #[an ar 4,(nd:Int),d,z,aA A,B,C]] w λe w'=>e=ax (aM #[])/\dN c xb rb np rs () [] E τ G (x,r) w':=by
 have⟨u,m⟩:=aD (w.alloc (aB #[an ar 4,(nd:Int),d,z,aA A,B,C] 33 (0,0)));have⟨q,F,J⟩:=dt m;have i:=h.box _ m;have⟨O,a⟩:=aD w.heap.size;have⟨Q,g⟩:=aD (Obj.cells #[an ar 4,(nd:Int),d,z,aA A,B,C] 33 (0,0));rw[<-a]at q J i;rw[<-g]at i;have⟨T,U⟩:=dk q;have⟨I,n⟩:=aK m a;have⟨K,V,W,_⟩:=i.cells;have hid:=au (i.less (E':=E) (λ_ L=>du _ L));obtain⟨b,j,k,t⟩:=f;have M:=(F.aJ.cell (p:=⟨xb,1,none⟩) (iV w _ t)).trans t;by_cases X:nd<0
 .have N:¬(0:Int)<=nd:=by omega
  clear H h i m a g F q t l;go_in;go_upto_region 1 with fail
  rw[<-I.o,<-n.o];go_upto_region 12 with fail
  go_region
  go_wp2
  go_end0
  exact⟨rfl,hid.o.below (aO _ _).drew⟩
 .have N:(0:Int)<=nd:=by omega
  have Y:¬nd<((x.ws.length+1:Nat):Int):=by omega
  clear H h i m a g F q t l;generalize x.ws.length+1=n1 at*;go_in;go_upto_region 1 with fail
  rw[<-I.o,<-n.o];go_upto_region 12 with fail
  go_quiet (fail);go_wp2
  go_end0
  exact⟨rfl,hid.o.below (below_drewN (aO _ _) _)⟩
end Go.Proofs.YtjpnlfpompnpkaaGreat
