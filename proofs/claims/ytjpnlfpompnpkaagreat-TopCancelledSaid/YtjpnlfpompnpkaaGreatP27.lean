import Derived.Test.YtjpnlfpompnpkaaGreatP24
namespace Go.Proofs.YtjpnlfpompnpkaaGreat
open Go.RowKit Go.Proofs.Tryz
open Go.Value renaming int->an,slice->av,bool->aw,string->aA,tuple->aM,pointer->aL,agg->aG
open Go.IntKind renaming i64->ar
open Go.Ending renaming returned->ax
open Go.Obj renaming cells->aB
open Go renaming World->ae,Value->ah,Calls->aj
open Go.RowKit renaming Below->ai
set_option maxRecDepth 100000
set_option linter.all false
set_option maxHeartbeats 1000000
open Go.ChangeMaps mX
variable{P:Tg->Prop}{τ br:cj}{w w':ae}{c:aV}
def N3(x:ByteArray)(y:Int)(z:Int)(w:ae):(Op.equalIn 10000 31 (aG #[aA x,(y:Int),(z:Int)]) (aG #[aA x,(y:Int),(z:Int)])).run prog w=.ok true w:=by
 have a:prog.underlying 31=some (.struct (prog.fieldsOf 31)):=by kernel_rfl
 show(Op.equalIn (9998+1+1) 31 _ _).run prog w=_
 rw[run_equalIn_struct w _ _ _ _ a (by kernel_rfl)];rw[show prog.fieldsOf 31=_ by unfold Program.fieldsOf;rw[underlying31]];refine gh (by decide) (run_part_plain w (by kernel_rfl) rfl) (run_part_plain w (by kernel_rfl) rfl) (NW _ _ _) ?_;refine gh (by decide) (run_part_plain w (by kernel_rfl) rfl) (run_part_plain w (by kernel_rfl) rfl) (mO _ _ _) ?_;refine gh (by decide) (run_part_plain w (by kernel_rfl) rfl) (run_part_plain w (by kernel_rfl) rfl) (mO _ _ _) ?_;rfl
def R2(x:ByteArray)(y:Int)(z:Int)(w:ae):(binOp .eql 31 (aG #[aA x,(y:Int),(z:Int)]) (aG #[aA x,(y:Int),(z:Int)])).run prog w=.ok (aw true) w:=by
 rw[run_eql_struct,N3];rfl
def E6(id:Int)(text:ByteArray)(k n:Int)(done a:Bool){d g:ah}{xs:List aY}(i:aT rK 2 w d xs)(j:aT rK 2 w g xs):aj prog 35 #[aG #[(id:Int),aA text,k,n,d,aw done,aw a],aG #[(id:Int),aA text,k,n,g,aw done,aw a]] w λe w'=>e=ax (aw true)/\ai w w w':=by
 have⟨u,f⟩:=aD ((w.alloc (aB #[(id:Int),aA text,k,n,d,aw done,aw a] 68 (0,0))).alloc (aB #[(id:Int),aA text,k,n,g,aw done,aw a] 68 (0,0)));have⟨q,h⟩:=aD w.heap.size;have l:u.heap[q]? =some (aB #[(id:Int),aA text,k,n,d,aw done,aw a] 68 (0,0)):=by rw[f,h];exact(fH _ _ _ (by simp)).trans (a_ _ _)
 have p:u.heap[q+1]? =some (aB #[(id:Int),aA text,k,n,g,aw done,aw a] 68 (0,0)):=by
  have:q+1=(w.alloc (aB #[(id:Int),aA text,k,n,d,aw done,aw a] 68 (0,0))).heap.size:=by rw[h];simp
  rw[f,this];exact a_ _ _
 have b:ai w w u:=by rw[f];exact((aO _ _).alloc (aP _) _).alloc (by simp) _
 have⟨B,C,E,F,G,H,I⟩:=qN l;have⟨J,K,L,M,N,O,Q⟩:=qN p;have t:=au (pZ (i.below b) (j.below b));have v:=R2 text k n;obtain⟨T,U,rfl,_⟩:=i;obtain⟨V,W,rfl,_⟩:=j;have⟨x,z,r⟩:=aX f h b;clear f h l p b;go_in;go_upto_region 1 with fail
 rw[<-x.o,<-z.o];go_wp2_with fail
 refine t.m ?_;rintro e y ⟨rfl,s⟩;have A:=au (r.o.trans (s.mono r.o.size));clear s;go_wp2;go_ret;exact⟨rfl,A.o⟩
end Go.Proofs.YtjpnlfpompnpkaaGreat
