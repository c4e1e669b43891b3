import Derived.WideKeyEntry
import Derived.DeepKeys4
import Derived.Test.YtjpnlfpompnpkaaGreatP00
namespace Go.Proofs.YtjpnlfpompnpkaaGreat
open Go.RowKit Go.Proofs.Tryz
open Go.Value renaming int->an,slice->av,bool->aw,string->aA,tuple->aM,pointer->aL,agg->aG
open Go.IntKind renaming i64->ar
open Go.Ending renaming returned->ax
open Go.Obj renaming cells->aB
open Go renaming World->ae,Value->ah
set_option maxRecDepth 100000
set_option linter.all false
section
open Go.Maps Go.ChangeMaps Go.MapKept Go.WideShapes
structure cf where
 slot:Int
 query:Int
 aR:Int
 seq:Int
 aW:Int
 text:ByteArray
 k:Int
 batch:Int
 first:Bool
 jk:Int
 word:ByteArray
instance:Inhabited cf:=⟨⟨0,0,0,0,0,ByteArray.empty,0,0,false,0,ByteArray.empty⟩⟩
def cf.cells(r:cf):List ah:=[an ar r.slot,an ar r.query,an ar r.aR,an ar r.seq,an ar r.aW,aA r.text,an ar r.k,an ar r.batch,aw r.first,an ar r.jk,aA r.word]
def cf.val(r:cf):ah:=aG r.cells.toArray
def cf.val_inj{a b:cf}(h:a.val=b.val):a=b:=by
 cases a;cases b;have c:=congrArg (λv=>match v with|Value.agg d=>d.toList|_=> []) h;simp only[cf.val,cf.cells,List.cons.injEq,Value.int.injEq,Value.string.injEq,Value.bool.injEq,bK,et]at c;simp only[cf.mk.injEq];exact c
open Classical in
noncomputable def tK (v:ah):Option (DataW cf×List MemPlace):=if h:∃r:cf,v=r.val then some (.held h.choose,[])else none
def qP(r:cf):tK r.val=some (.held r,[]):=by
 unfold tK;have h:∃x:cf,r.val=x.val:=⟨r,rfl⟩
 rw[dif_pos h,<-cf.val_inj h.choose_spec]
def wR{v:ah}{r:cf}{a:List MemPlace}(h:tK v=some (.held r,a)):v=r.val:=by
 unfold tK at h;split at h
 .rename_i c
  simp only[bA,Prod.mk.injEq,DataW.held.injEq]at h;rw[<-h.1];exact c.choose_spec
 .cases h
def pG(x y:Int):ah:=aG #[x,y]
def lj(x:Int):Prop:=(Lit.int .i64 x).wf=true
variable{x:Int}
def iu(a: -9223372036854775808<=x)(c:x<9223372036854775808):lj x:=WalkArith.wf_i64 (by omega)
def ZW:laidOutB prog=true:=by kernel_rfl
def n_:Keyed prog 372:=Keyed.of_law (deep_law_laid ZW (m:=5) (by decide) (of_decide_eq_true (by kernel_rfl)) (by kernel_rfl) (by kernel_rfl))
def Ti(w:ae):(zeroValue 240).run prog w=.ok (default:cf).val w:=by kernel_rfl
noncomputable def kP(x y:Int):Lit:=(keyOf prog 372 (pG x y)).getD (0:Int)
variable{y:Int}
def Mu(a:lj x)(c:lj y)(d:Nat):prog.keyLits (d+2) 372 [.int .i64 x,.int .i64 y]=some [.int .i64 x,.int .i64 y]:=by
 have e:prog.cellsOf 372=2:=by kernel_rfl
 have g:prog.cellsOf 3=1:=by kernel_rfl
 unfold lj at a c;simp[Program.keyLits,underlying372,underlying3,e,g,a,c]
def Mv(a:lj x)(c:lj y):keyOf prog 372 (pG x y)=some (kP x y):=by
 have h:∃l,keyOf prog 372 (pG x y)=some l:=by
  have d:prog.types.size+1=(prog.types.size-1)+2:=by
   have:0<prog.types.size:=of_decide_eq_true (by kernel_rfl);omega
  have e:prog.keyType 372=true:=by kernel_rfl
  have g:prog.cellsOf 372=2:=by kernel_rfl
  unfold keyOf;rw[underlying372,d];simp[pG,Value.formed,underlying372,Value.cells,e,g,Mu a c]
 obtain⟨l,i⟩:=h;unfold kP;rw[i];rfl
def Fv{x' a:Int}(g:lj x)(i:lj y)(c:lj x')(d:lj a)(h:kP x y=kP x' a):x=x'/\y=a:=by
 have j:=Mv g i;have e:=Mv c d;rw[<-h]at e;have:=n_.inj j e;simpa[pG]using this
def iL(w:ae)(b:Nat)(f:Int->Int->Option cf)(n:Nat):Prop:=
 ∃D:DataW cf,w.ownsMap prog 372 tK b n D/\Maps.size D=n/\(∀x y,lj x->lj y->Maps.has D (kP x y)=(f x y).isSome)/\
  ∀x y,lj x->lj y->D.atKey (kP x y) (.held default)=.held ((f x y).getD default)
def Ab{H:Type}{w:ae}{P:Program}{k:TypeId}{R:ah->Option (DataW H×List MemPlace)}{b n:Nat}{D:DataW H}(h:w.ownsMap P k R b n D):w.ownsMap P k R b (Maps.size D) D:=by
 obtain⟨c,a,d,F,e,rfl⟩:=h;exact⟨c,a,d,F,by simp[Maps.size,length_sorted],rfl⟩
variable{w:ae}{b:Nat}{f:Int->Int->Option cf}{n:Nat}
def iL.lt(h:iL w b f n):b<w:=by
 obtain⟨D,h,_⟩:=h;exact h.lt
def iL.same{w':ae}(h:iL w b f n)(c:w'.heap[b]? =w.heap[b]?):iL w' b f n:=by
 obtain⟨D,⟨d,a,e,g⟩,r⟩:=h;exact⟨D,⟨d,a,c.trans e,g⟩,r⟩
def iL.made(w:ae):iL (w.alloc (.map #[] 0)) w (λ_ _=>none) 0:=
 ⟨.map [],World.ownsMap_made _ _ _ _,rfl,λ_ _ _ _=>rfl,λ_ _ _ _=>rfl⟩
def iL.look_ok(h:iL w b f n)(a:lj x)(c:lj y):
 (Instr.lookup 263 (.map (some b)) (pG x y) true).run prog w=.ok (aM #[((f x y).getD default).val,aw (f x y).isSome]) w:=by
 obtain⟨D,h,_,e,g⟩:=h;have⟨v,j,i,d⟩:=h.look_ok n_ underlying263 (Ti _) (zd:=.held default) (zp:=[]) (qP _) (Mv a c);rw[g x y a c]at d;rw[i,e x y a c,wR d]
def iL.look(h:iL w b f n)(a:lj x)(c:lj y):
 (Instr.lookup 263 (.map (some b)) (pG x y) false).run prog w=.ok ((f x y).getD default).val w:=by
 obtain⟨D,h,_,i,e⟩:=h;have⟨v,j,g,d⟩:=h.lookup n_ underlying263 (Ti _) (zd:=.held default) (zp:=[]) (qP _) (Mv a c);rw[e x y a c]at d;rw[g,wR d]
def iL.drop(h:iL w b f n)(l:lj x)(m:lj y):
 ∃w',(∀p,(Builtin.delete_ #[263,372] p #[.map (some b),pG x y]).run prog w=.ok (aM #[]) w')/\
  (∀g:Int->Int->Option cf,g x y=none->(∀x' a,x'≠x∨a≠y->g x' a=f x' a)->iL w' b g (n-if(f x y).isSome then 1 else 0))/\w.mapTurned w' b:=by
 obtain⟨D,h,u,q,v⟩:=h;have T:=h.tidy n_;have⟨w',z,A,B⟩:=h.drop n_ underlying263 (Mv l m) 0;have r:=size_del (k:=kP x y) T;have s:Maps.size (D.del (kP x y))=n-if(f x y).isSome then 1 else 0:=by
  rw[q x y l m,u]at r;split at r<;>split<;>simp_all<;>omega
 refine⟨w',λp=>z,λg t j=>⟨D.del (kP x y),by rw[<-s];exact Ab A,s,λx' a c d=> ?_,λx' a c d=> ?_⟩,B⟩
 .by_cases e:x'=x/\a=y
  .obtain⟨rfl,rfl⟩:=e
   rw[has_del_same,t];rfl
  .have i:kP x' a≠kP x y:=λo=>e (Fv c d l m o)
   rw[has_del_other i,q x' a c d,j x' a (by omega)]
 .by_cases e:x'=x/\a=y
  .obtain⟨rfl,rfl⟩:=e
   rw[atKey_del_same,t];rfl
  .have i:kP x' a≠kP x y:=λo=>e (Fv c d l m o)
   rw[atKey_del_other i,v x' a c d,j x' a (by omega)]
def iL.store(h:iL w b f n)(C:n<1000000)(j:lj x)(l:lj y)(r:cf):
 ∃w',(Instr.mapUpdate 263 (.map (some b)) (pG x y) r.val).run prog w=.ok () w'/\
  (∀g:Int->Int->Option cf,g x y=some r->(∀x' a,x'≠x∨a≠y->g x' a=f x' a)->iL w' b g (if(f x y).isSome then n else n+1))/\w.mapTurned w' b:=by
 obtain⟨D,h,o,q,u⟩:=h;have T:=h.tidy n_;have s:=n_.key (Mv j l);have⟨w',v,z,A⟩:=h.store n_ underlying263 (by unfold maxLen;omega) (Mv j l) (qP r);have B:=size_put (k:=kP x y) T (.held r);have e:Maps.size (D.put (kP x y) (.held r))=if(f x y).isSome then n else n+1:=by
  rw[B,q x y j l,o]
 refine⟨w',v,λg t m=>⟨D.put (kP x y) (.held r),by rw[<-e];exact Ab z,e,λx' a c d=> ?_,λx' a c d=> ?_⟩,A⟩
 .by_cases e:x'=x/\a=y
  .obtain⟨rfl,rfl⟩:=e
   rw[has_put_same T.isMap s,t];rfl
  .have i:kP x' a≠kP x y:=λp=>e (Fv c d j l p)
   rw[has_put_other i,q x' a c d,m x' a (by omega)]
 .by_cases e:x'=x/\a=y
  .obtain⟨rfl,rfl⟩:=e
   rw[atKey_put_same T.isMap s,t];rfl
  .have i:kP x' a≠kP x y:=λp=>e (Fv c d j l p)
   rw[atKey_put_other i,u x' a c d,m x' a (by omega)]
end
def gJ(L:List cf)(x y:Int):Option cf:=L.find? (λr=>decide (r.slot=x)&&decide (r.aR=y))
def okV(r:cf):Bool:=decide (0<=r.slot)&&decide (r.slot<4)&&decide (0<=r.aR)&&decide (r.aR<6)
def wS(a r:cf):Bool:=decide (r.slot=a.slot)&&decide (r.aR=a.aR)
def OF(a b:cf):Prop:=a.slot≠b.slot∨a.aR≠b.aR
structure Cr(L:List cf):Prop where
 valid:∀r∈L,okV r=true
 nodup:L.Pairwise OF
def lI(x a:cf):Bool:=decide (a.query<x.query)||(decide (x.query=a.query)&&decide (a.seq<x.seq))
def qE(L:List cf)(a:cf):List cf:=L.map (λr=>if wS a r then a else r)
def lA(L:List cf)(a:cf):Bool:=okV a&&(match gJ L a.slot a.aR with|some x=> !lI x a|none=>true)
def jA(L:List cf)(a:cf):List cf:=if lA L a then(match gJ L a.slot a.aR with|some _=>qE L a|none=>L++ [a])else L
def ku(slot query:Int)(r:cf):Bool:=decide (r.slot=slot)&&decide (r.query<=query)
def dy(L:List cf)(slot query:Int):List cf:=L.filter (λr=> !ku slot query r)
def od(r:cf):okV r=true↔0<=r.slot/\r.slot<4/\0<=r.aR/\r.aR<6:=by
 unfold okV;simp;omega
variable{L:List cf}{r:cf}
def Jc{x y:Int}(h:gJ L x y=some r):r∈L/\r.slot=x/\r.aR=y:=by
 unfold gJ at h;have c:=List.mem_of_find?_eq_some h;have b:=List.find?_some h;simp at b;exact⟨c,b⟩
def Ac{x y:Int}:gJ L x y=none↔∀r∈L,r.slot=x->r.aR≠y:=by
 unfold gJ;rw[List.find?_eq_none];simp
def Tj(h:Cr L)(b:r∈L):gJ L r.slot r.aR=some r:=by
 have c:=h.nodup;clear h
 induction L with
 |nil=>simp at b
 |cons a l d=>
  unfold gJ;rw[List.find?_cons];rw[List.pairwise_cons]at c;obtain rfl|b:=List.mem_cons.1 b
  .simp
  .have:=c.1 r b
   have f:(decide (a.slot=r.slot)&&decide (a.aR=r.aR))=false:=by
    simp;intro e;obtain h|h:=this
    .exact bL e h
    .exact h
   rw[f];exact d b c.2
variable{a:cf}
def Jd(h:r∈qE L a):r=a∨r∈L:=by
 unfold qE at h;obtain⟨x,b,rfl⟩:=List.mem_map.1 h;split
 .exact .inl rfl
 .exact .inr b
def kx(a r:cf):(if wS a r then a else r).slot=r.slot/\(if wS a r then a else r).aR=r.aR:=by
 split
 .rename_i h
  unfold wS at h;simp at h;exact⟨h.1.symm,h.2.symm⟩
 .exact⟨rfl,rfl⟩
def Cr.push(h:Cr L)(a:cf):Cr (jA L a):=by
 unfold jA;split
 .rename_i d
  have f:okV a=true:=by unfold lA at d;simp at d;exact d.1
  split
  .refine⟨λr b=> ?_,?_⟩
   .obtain rfl|b:=Jd b
    .exact f
    .exact h.valid r b
   .unfold qE
    rw[List.pairwise_map];refine h.nodup.imp λ{x y} c=> ?_
    unfold OF at c⊢;rw[(kx a x).1,(kx a x).2,(kx a y).1,(kx a y).2];exact c
  .rename_i i
   refine⟨λr b=> ?_,?_⟩
   .obtain b|b:=List.mem_append.1 b
    .exact h.valid r b
    .simp at b
     rw[b];exact f
   .rw[List.pairwise_append]
    refine⟨h.nodup,by simp,λx j y g=> ?_⟩;simp at g;subst g;have:=Ac.1 i x j;unfold OF;by_cases e:x.slot=y.slot
    .exact .inr (this e)
    .exact .inl e
 .exact h
def Cr.tail(h:Cr (a::L)):Cr L:=⟨λr b=>h.valid r (du _ b),(List.pairwise_cons.1 h.nodup).2⟩
def Cr.filter(h:Cr L)(f:cf->Bool):Cr (L.filter f):=⟨λr b=>h.valid r (List.mem_filter.1 b).1,h.nodup.filter f⟩
def Ad(d:lA L a=true):gJ (jA L a) a.slot a.aR=some a/\∀x y,x≠a.slot∨y≠a.aR->gJ (jA L a) x y=gJ L x y:=by
 unfold jA;rw[aI d];cases hx:gJ L a.slot a.aR with
 |some i=>
  have c:∀l:List cf,∀x y,gJ (qE l a) x y=(gJ l x y).map (λr=>if wS a r then a else r):=λl x y=>by
   unfold gJ qE;rw[List.find?_map];congr 1;apply congrArg (λf=>List.find? f l);funext r;simp only[Function.comp,(kx a r).1,(kx a r).2]
  refine⟨?_,λx y b=> ?_⟩
  .rw[c,hx]
   have:=Jc hx;simp[wS,this.2.1,this.2.2]
  .rw[c]
   cases hf:gJ L x y with
   |none=>rfl
   |some r=>
    have:=Jc hf;have g:wS a r=false:=by
     unfold wS;rw[this.2.1,this.2.2];simp;intro e;obtain h|h:=b
     .exact bL e h
     .exact h
    simp[g]
 |none=>
  refine⟨?_,λx y b=> ?_⟩
  .show gJ (L++ [a]) a.slot a.aR=some a
   unfold gJ at hx⊢;rw[List.find?_append,hx];simp
  .show gJ (L++ [a]) x y=gJ L x y
   unfold gJ;rw[List.find?_append];have:([a].find? λr=>decide (r.slot=x)&&decide (r.aR=y))=none:=by
    simp;intro e;obtain h|h:=b
    .exact bL e.symm h
    .exactλe=>h e.symm
   rw[this];simp
def Tk(h:Cr (a::L)):gJ L a.slot a.aR=none/\∀x y,x≠a.slot∨y≠a.aR->gJ L x y=gJ (a::L) x y:=by
 refine⟨Ac.2 λr c e=> ?_,λx y b=> ?_⟩
 .have:=(List.pairwise_cons.1 h.nodup).1 r c
  obtain h|h:=this
  .exact bL e.symm h
  .exactλe=>h e.symm
 .unfold gJ
  rw[List.find?_cons];have:(decide (a.slot=x)&&decide (a.aR=y))=false:=by
   simp;intro e;obtain h|h:=b
   .exact bL e.symm h
   .exactλe=>h e.symm
  rw[this]
def Tl:∀(n:Nat) (l:List Nat),l.Nodup->(∀x∈l,x<n)->l.length<=n
 |0,l,_,h=>by
  cases l with
  |nil=>simp
  |cons a l=>exact bL (h a (by simp)) (by omega)
 |n+1,l,b,h=>by
  have c:=Tl n (l.erase n) (b.erase n) (λx d=>by
   have f:=h x (List.mem_of_mem_erase d);have g:x≠n:=λe=>by
    subst e;exact bL d (List.Nodup.not_mem_erase b)
   omega)
  rw[List.length_erase]at c;split at c<;>omega
def Cr.small(h:Cr L):L.length<=24:=by
 have c:(L.map (λr=>(r.slot*6+r.aR).toNat)).Nodup:=by
  rw[List.Nodup,List.pairwise_map];refine h.nodup.imp_of_mem λ{x y} d e b=> ?_
  have f:=(od x).1 (h.valid x d);have k:=(od y).1 (h.valid y e);unfold OF at b;omega
 have g:=Tl 24 _ c (λn i=>by
  obtain⟨r,j,rfl⟩:=List.mem_map.1 i;have f:=(od r).1 (h.valid r j);omega)
 simpa using g
end Go.Proofs.YtjpnlfpompnpkaaGreat
