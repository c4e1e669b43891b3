import Derived.Deep.RegionLaw
import Derived.Outline
import Derived.Deep.CutBlock
import Derived.WideKeyEntry
import Derived.StringKeys
import Derived.Test.YtjpnlfpompnpkaaGreatP00
namespace Go.Proofs.YtjpnlfpompnpkaaGreat
open Go.RowKit Go.Proofs.Tryz
open Go.Value renaming int->an,slice->av,bool->aw,string->aA,tuple->aM,pointer->aL,agg->aG
open Go.IntKind renaming i64->ar
open Go.Ending renaming returned->ax
open Go.Obj renaming cells->aB
open Go renaming World->ae,Value->ah,Calls->aj
open Go.RowKit renaming Below->ai
set_option maxRecDepth 100000
set_option linter.all false
set_option maxHeartbeats 2000000
section
open Go.Maps Go.ChangeMaps Go.MapKept Go.WideShapes
def ld(x:Int):Prop:=(Lit.int .i64 x).wf=true
variable{x:Int}
def eN(a: -9223372036854775808<=x)(c:x<9223372036854775808):ld x:=WalkArith.wf_i64 (by omega)
def iM:Keyed prog 3:=int_keyed underlying3
def Mw(w:ae):(zeroValue 3).run prog w=.ok (0:Int) w:=by kernel_rfl
def kZ(x:Int):Lit:=.int .i64 x
def wT{y:Int}(h:x≠y):kZ x≠kZ y:=by
 intro e;unfold kZ at e;injection e with _ e
 exact h e
def jK(w:ae)(b:Nat)(f:Int->Option Int)(n:Nat):Prop:=
 ∃D:DataW Unit,w.ownsMap prog 3 (plainElem prog 3) b n D/\Maps.size D=n/\(∀x,ld x->Maps.has D (kZ x)=(f x).isSome)/\
  ∀x,ld x->D.atKey (kZ x) (.lit (0:Int))=.lit ((f x).getD 0:Int)
def oQ{H:Type}{w:ae}{P:Program}{k:TypeId}{R:ah->Option (DataW H×List MemPlace)}{b n:Nat}{D:DataW H}(h:w.ownsMap P k R b n D):w.ownsMap P k R b (Maps.size D) D:=by
 obtain⟨c,a,d,F,e,rfl⟩:=h;exact⟨c,a,d,F,by simp[Maps.size,length_sorted],rfl⟩
variable{w:ae}{b:Nat}{f:Int->Option Int}{n:Nat}
def jK.lt(h:jK w b f n):b<w:=by
 obtain⟨D,h,_⟩:=h;exact h.lt
def jK.kept{w':ae}{a:Option Nat}(h:jK w b f n)(d:w.grownBy w' a)(c:some b≠a):jK w' b f n:=by
 obtain⟨D,h,r⟩:=h;exact⟨D,h.kept d c,r⟩
def jK.same{w':ae}(h:jK w b f n)(c:w'.heap[b]? =w.heap[b]?):jK w' b f n:=by
 obtain⟨D,⟨d,a,e,g⟩,r⟩:=h;exact⟨D,⟨d,a,c.trans e,g⟩,r⟩
def jK.made(w:ae):jK (w.alloc (.map #[] 0)) w (λ_=>none) 0:=
 ⟨.map [],World.ownsMap_made _ _ _ _,rfl,λ_ _=>rfl,λ_ _=>rfl⟩
def jK.look_ok(h:jK w b f n)(d:ld x):
 (Instr.lookup 205 (.map (some b)) x true).run prog w=.ok (aM #[an ar ((f x).getD 0),aw (f x).isSome]) w:=by
 obtain⟨D,h,_,i,j⟩:=h;have⟨v,m,k,l⟩:=h.look_ok iM underlying205 (Mw _) (zd:=.lit (0:Int)) (zp:=[]) (plainElem_int underlying3 (by decide)) (keyOf_int_mk underlying3 d);obtain⟨c,rfl,e,_⟩:=plainElem_int_inv underlying3 l;simp only[Prod.mk.injEq]at e;have a:=j x d;unfold kZ at a;rw[e.1]at a;injection a with a
 injection a with _ a
 have g:=i x d;unfold kZ at g;rw[k,a,g]
def jK.look(h:jK w b f n)(d:ld x):
 (Instr.lookup 205 (.map (some b)) x false).run prog w=.ok ((f x).getD 0:Int) w:=by
 obtain⟨D,h,_,j,e⟩:=h;have⟨c,g,i,_⟩:=h.lookup_int iM underlying205 underlying3 (Mw _) (keyOf_int_mk underlying3 d);have a:=e x d;unfold kZ at a;rw[i]at a;injection a with a
 injection a with _ a
 rw[g,a]
def jK.len(h:jK w b f n)(a:TypeId):(Builtin.len_ #[205] a #[.map (some b)]).run prog w=.ok (n:Int) w:=by
 obtain⟨D,h,c,_⟩:=h;rw[h.len underlying205,c]
def jK.drop(h:jK w b f n)(i:ld x):
 ∃w',(∀c,(Builtin.delete_ #[205,3] c #[.map (some b),x]).run prog w=.ok (.tuple #[]) w')/\
  jK w' b (λy=>if y=x then none else f y) (n-if(f x).isSome then 1 else 0)/\w.mapTurned w' b:=by
 obtain⟨D,h,m,j,o⟩:=h;have T:=h.tidy iM;have⟨w',d,p,q⟩:=h.drop iM underlying205 (keyOf_int_mk underlying3 i) 0;have d:∀c,(Builtin.delete_ #[205,3] c #[.map (some b),x]).run prog w=.ok (.tuple #[]) w':=λc=>d
 have l:=size_del (k:=kZ x) T;have r:(D.del x)=D.del (kZ x):=rfl;have e:Maps.size (D.del (kZ x))=n-if(f x).isSome then 1 else 0:=by
  rw[j x i,m]at l;split at l<;>split<;>simp_all<;>omega
 refine⟨w',d,⟨D.del (kZ x),by rw[<-e];exact oQ p,e,λy g=> ?_,λy g=> ?_⟩,q⟩
 .by_cases a:y=x
  .subst a
   simp[has_del_same]
  .rw[has_del_other (wT a),j y g]
   simp[a]
 .by_cases a:y=x
  .subst a
   simp[atKey_del_same]
  .rw[atKey_del_other (wT a),o y g]
   simp[a]
def jK.store(h:jK w b f n)(s:n<1000000){y:Int}(c:ld x)(l:ld y):
 ∃w',(Instr.mapUpdate 205 (.map (some b)) x y).run prog w=.ok () w'/\
  jK w' b (λz=>if z=x then some y else f z) (if(f x).isSome then n else n+1)/\w.mapTurned w' b:=by
 obtain⟨D,h,d,i,m⟩:=h;have T:=h.tidy iM;have j:WideAt.IsKeyLit (kZ x):=iM.key (keyOf_int_mk underlying3 c);have⟨w',o,p,q⟩:=h.store iM underlying205 (by unfold maxLen;omega) (keyOf_int_mk underlying3 c) (plainElem_int underlying3 l);have r:=size_put (k:=kZ x) T (.lit y);have e:Maps.size (D.put (kZ x) (.lit y))=if(f x).isSome then n else n+1:=by
  rw[r,i x c,d]
 refine⟨w',o,⟨D.put (kZ x) (.lit y),by rw[<-e];exact oQ p,e,λz g=> ?_,λz g=> ?_⟩,q⟩
 .by_cases a:z=x
  .subst a
   simp[has_put_same T.isMap j]
  .rw[has_put_other (wT a),i z g]
   simp[a]
 .by_cases a:z=x
  .subst a
   simp[atKey_put_same T.isMap j]
  .rw[atKey_put_other (wT a),m z g]
   simp[a]
def jK.entry(h:jK w b f n)(J:n<1000000)(H:ld x):
 ∃o0 L st o1,w.heap[b]? =some o0/\(∀w2:ae,w2.heap[b]? =some o0->(Instr.mapEntry 205 (.map (some b)) x).run prog w2=.ok (.tuple #[L,.int .i64 st]) (setBlock w2 b o1))/\
  ∀y:Int,ld y->∃o2,(∀w2:ae,w2.heap[b]? =some o1->(Instr.entryStore 205 (.map (some b)) (.int .i64 st) (y:Int)).run prog w2=.ok () (setBlock w2 b o2))/\
   ∀w2:ae,w2.heap[b]? =some o2->jK w2 b (λz=>if z=x then some y else f z) (if(f x).isSome then n else n+1):=by
 have C:=h.lt;have⟨D,⟨es,d,s,F,hs,U⟩,_⟩:=id h;have K:=iM;have i:keyOf prog 3 x=some (kZ x):=keyOf_int_mk underlying3 H;have v:=underlying205;have⟨s1,s2,M⟩:=F.stamped;have fin:∀(y:Int) (o:Array MapEntry) (c2:Nat) (w2:ae),ld y->w2.heap[b]? =some (.map o c2)->(Instr.mapUpdate 205 (.map (some b)) x (y:Int)).run prog w=.ok () (setBlock w b (.map o c2))->
  jK w2 b (λz=>if z=x then some y else f z) (if(f x).isSome then n else n+1):=λy o c2 w2 u h2 N=>by
  have⟨V,A,hm,_⟩:=h.store J H u;rw[N]at A;injection A with _ A
  subst A;refine hm.same ?_;rw[h2,pE _ _ C]
 obtain⟨h1,h2⟩|⟨j,e0,h1,h2,t⟩:=K.find w i es.toList F.keys
 .have q:∀w2:ae,(Instr.findKey 3 x es.toList).run prog w2=.ok none w2:=λw2=>by
   obtain⟨g1,_⟩|⟨j,e0,_,g2,E⟩:=K.find w2 i es.toList F.keys
   .exact g1
   .exact bL E (h2 e0 (List.mem_of_getElem? g2))
  refine⟨.map es d,.int .i64 0,d,.map (es.push ⟨.int .i64 x,.int .i64 0,d⟩) (d+1),s,λw2 g=> ?_,λy u=> ?_⟩
  .simp[Instr.mapEntry,run_underlying v,MapKept.run_getObj_map g,K.check w2 false i,q,Mw,MapKept.run_setObj_map _ g,Result.andThen,setBlock,goInt]
  .have k:(es.push ⟨.int .i64 x,.int .i64 0,d⟩).findIdx? (λe=>((e.born:Nat):Int)==((d:Nat):Int))=some es.size:=by
    rw[WideElems.findIdx_arr];refine WideElems.findIdx_born (l:=(es.push ⟨.int .i64 x,.int .i64 0,d⟩).toList) (j:=es.size) (e0:=⟨.int .i64 x,.int .i64 0,d⟩) ?_ (by simp);rw[Array.toList_push,gF];refine List.nodup_append.2 ⟨s2,by simp,?_⟩;intro a O c P e1;obtain⟨p,Q,rfl⟩:=List.mem_map.1 O;have:=s1 p Q;simp at P;omega
   have m:(es.push ⟨.int .i64 x,.int .i64 0,d⟩).modify es.size (λe=>{e with val:=.int .i64 y})=es.push ⟨.int .i64 x,.int .i64 y,d⟩:=by
    apply Array.ext';rw[Array.toList_modify,Array.toList_push,Array.toList_push,<-Array.length_toList,WideElems.modify_last]
   refine⟨.map (es.push ⟨.int .i64 x,.int .i64 y,d⟩) (d+1),λw2 g=> ?_,λw2 g=>fin y _ _ w2 u g ?_⟩
   .simp[Instr.entryStore,MapKept.run_getObj_map g,asInt,asIntOf,k,m,MapKept.run_setObj_map _ g,Result.andThen,setBlock]
   .simp[Instr.mapUpdate,run_underlying v,MapKept.run_getObj_map s,K.check w false i,h1,MapKept.run_setObj_map _ s,Result.andThen,setBlock]
 .have I:es[j]? =some e0:=by simpa using h2
  have q:∀w2:ae,(Instr.findKey 3 x es.toList).run prog w2=.ok (some (j,e0.val)) w2:=λw2=>by
   obtain⟨_,g2⟩|⟨T,B,g1,g2,E⟩:=K.find w2 i es.toList F.keys
   .exact bL t (g2 e0 (List.mem_of_getElem? h2))
   .have G:=(List.getElem?_eq_some_iff.1 h2).1
    have:j=T:=(List.getElem?_inj (l:=es.toList.map (·.key)) (by simpa using G) M).1 (by simp only[uP,h2,g2,Option.map_some,t,E]);subst this;rw[h2]at g2;injection g2 with g2
    subst g2;exact g1
  have r:es.modify j (λe=>{e with key:=.int .i64 x})=es:=by
   apply Array.ext';rw[Array.toList_modify,modify_eq_set _ _ _ _ h2];have:({e0 with key:=.int .i64 x}:MapEntry)=e0:=by rw[<-t]
   rw[this];exact WideElems.set_self _ _ _ h2
  refine⟨.map es d,e0.val,e0.born,.map es d,s,λw2 g=> ?_,λy u=> ?_⟩
  .simp[Instr.mapEntry,run_underlying v,MapKept.run_getObj_map g,K.check w2 false i,q,I,t,K.stays w2 i,r,MapKept.run_setObj_map _ g,Result.andThen,setBlock,goInt]
  .have k:es.findIdx? (λe=>((e.born:Nat):Int)==((e0.born:Nat):Int))=some j:=by
    rw[WideElems.findIdx_arr];exact WideElems.findIdx_born s2 h2
   have m:es.modify j (λe=>{e with val:=.int .i64 y})=es.modify j (λB=>{B with key:=.int .i64 x,val:=.int .i64 y}):=by
    apply Array.ext';rw[Array.toList_modify,Array.toList_modify,modify_eq_set _ _ _ _ h2,modify_eq_set _ _ _ _ h2,<-t]
   refine⟨.map (es.modify j (λB=>{B with key:=.int .i64 x,val:=.int .i64 y})) d,λw2 g=> ?_,λw2 g=>fin y _ _ w2 u g ?_⟩
   .simp[Instr.entryStore,MapKept.run_getObj_map g,asInt,asIntOf,k,m,MapKept.run_setObj_map _ g,Result.andThen,setBlock]
   .simp[Instr.mapUpdate,run_underlying v,MapKept.run_getObj_map s,K.check w false i,h1,I,t,K.stays w i,MapKept.run_setObj_map _ s,Result.andThen,setBlock]
end
section
open Go.Maps Go.ChangeMaps Go.MapKept Go.WideShapes Go.WideMaps
def zy:Keyed prog 9:=string_keyed underlying9
def ZX(w:ae):(zeroValue 3).run prog w=.ok (0:Int) w:=by kernel_rfl
def kS(x:List UInt8):Lit:=.string x
def Y_{x y:List UInt8}(h:x≠y):kS x≠kS y:=by
 intro e;unfold kS at e;injection e with e
 exact h e
def nB(w:ae)(b:Nat)(f:List UInt8->Option Int)(n:Nat):Prop:=
 ∃D:DataW Unit,w.ownsMap prog 9 (plainElem prog 3) b n D/\Maps.size D=n/\(∀x,Maps.has D (kS x)=(f x).isSome)/\
  ∀x,D.atKey (kS x) (.lit (0:Int))=.lit ((f x).getD 0:Int)
variable{w:ae}{b:Nat}{f:List UInt8->Option Int}{n:Nat}
def nB.lt(h:nB w b f n):b<w:=by
 obtain⟨D,h,_⟩:=h;exact h.lt
def nB.kept{w':ae}{a:Option Nat}(h:nB w b f n)(d:w.grownBy w' a)(c:some b≠a):nB w' b f n:=by
 obtain⟨D,h,r⟩:=h;exact⟨D,h.kept d c,r⟩
def nB.same{w':ae}(h:nB w b f n)(c:w'.heap[b]? =w.heap[b]?):nB w' b f n:=by
 obtain⟨D,⟨d,a,e,g⟩,r⟩:=h;exact⟨D,⟨d,a,c.trans e,g⟩,r⟩
def nB.made(w:ae):nB (w.alloc (.map #[] 0)) w (λ_=>none) 0:=
 ⟨.map [],World.ownsMap_made _ _ _ _,rfl,λ_=>rfl,λ_=>rfl⟩
def nB.look_ok(h:nB w b f n){x:ByteArray}(g:x.size<=maxLen):
 (Instr.lookup 328 (.map (some b)) (aA x) true).run prog w=.ok (aM #[an ar ((f x.data.toList).getD 0),aw (f x.data.toList).isSome]) w:=by
 obtain⟨D,h,_,i,j⟩:=h;have⟨v,m,k,l⟩:=h.look_ok zy underlying328 (ZX _) (zd:=.lit (0:Int)) (zp:=[]) (plainElem_int underlying3 rfl) (keyOf_string_mk underlying9 g);obtain⟨c,rfl,d,_⟩:=plainElem_int_inv underlying3 l;simp only[Prod.mk.injEq]at d;have a:=j x.data.toList;unfold kS at a;rw[d.1]at a;injection a with a
 injection a with _ a
 have e:=i x.data.toList;unfold kS at e;rw[k,a,e]
def nB.store(h:nB w b f n)(r:n<1000000){x:ByteArray}{y:Int}(d:x.size<=maxLen)(j:ld y):
 ∃w',(Instr.mapUpdate 328 (.map (some b)) (.string x) y).run prog w=.ok () w'/\
  nB w' b (λz=>if z=x.data.toList then some y else f z) (if(f x.data.toList).isSome then n else n+1)/\w.mapTurned w' b:=by
 obtain⟨D,h,c,g,l⟩:=h;have T:=h.tidy zy;have i:WideAt.IsKeyLit (kS x.data.toList):=zy.key (keyOf_string_mk underlying9 d);have⟨w',m,o,p⟩:=h.store zy underlying328 (by unfold maxLen;omega) (keyOf_string_mk underlying9 d) (plainElem_int underlying3 j);have q:=size_put (k:=kS x.data.toList) T (.lit y);have e:Maps.size (D.put (kS x.data.toList) (.lit y))=if(f x.data.toList).isSome then n else n+1:=by
  rw[q,g x.data.toList,c]
 refine⟨w',m,⟨D.put (kS x.data.toList) (.lit y),by rw[<-e];exact oQ o,e,λz=> ?_,λz=> ?_⟩,p⟩
 .by_cases a:z=x.data.toList
  .subst a
   simp[has_put_same T.isMap i]
  .rw[has_put_other (Y_ a),g z]
   simp[a]
 .by_cases a:z=x.data.toList
  .subst a
   simp[atKey_put_same T.isMap i]
  .rw[atKey_put_other (Y_ a),l z]
   simp[a]
end
section
def uN(who:List Int)(id:Int):Option Int:=if 0<id then(who.findIdx? (·==id)).map (λk:Nat=>(k:Int))else none
def mC(who:List Int)(k:Int):Option Int:=if 0<=k/\0<who.getD k.toNat 0 then some (who.getD k.toNat 0)else none
def cntF(who:List Int):Nat:=who.countP (λx=>decide (0<x))
def cK(who:List Int):Nat:=who.findIdx (·==0)
structure jU(who:List Int)(last:Int):Prop where
 ge:∀i,0<=who.getD i 0
 le:∀i,who.getD i 0<=last
 uniq:∀i j,who.getD i 0=who.getD j 0->0<who.getD i 0->i=j
def tL{who:List Int}{i:Nat}(h:0<who.getD i 0):i<who.length:=by
 obtain a|a:=Nat.lt_or_ge i who.length
 .exact a
 .simp[aU,oz a]at h
def fJ(who:List Int)(i j:Nat)(x:Int)(a:i<who.length):(who.set i x).getD j 0=if j=i then x else who.getD j 0:=by
 simp only[aU,iW];by_cases h:j=i
 .subst h;simp[a]
 .simp[h,Ne.symm h]
def kK{who:List Int}{last:Int}(h:jU who last)(id i:Int):uN who id=some i↔0<id/\∃k:Nat,i=k/\who.getD k 0=id:=by
 unfold uN;by_cases d:0<id
 .simp only[d,if_true,bK,Option.map_eq_some_iff]
  constructor
  .rintro⟨k,a,rfl⟩
   refine⟨k,rfl,?_⟩;have⟨l,g,_⟩:=List.findIdx?_eq_some_iff_getElem.1 a;simp[aU,l]at g⊢;exact g
  .rintro⟨k,rfl,a⟩
   refine⟨k,?_,rfl⟩;have b:=tL (by rw[a];exact d);refine List.findIdx?_eq_some_iff_getElem.2 ⟨b,?_,λj m=> ?_⟩
   .simp[aU,b]at a
    simp[a]
   .have c:who.getD j 0≠id:=λe=>by
     have:=h.uniq j k (e.trans a.symm) (by rw[e];exact d);omega
    have f:j<who.length:=by omega
    simp[aU,f]at c;simp[c]
 .simp[d]
def Je{who:List Int}{last:Int}(h:jU who last)(id:Int):uN who id=none↔0<id->∀k,who.getD k 0≠id:=by
 cases e:uN who id with
 |none=>
  simp only[true_iff];intro a k b;have:=(kK h id k).2 ⟨a,k,rfl,b⟩;rw[e]at this;cases this
 |some i=>
  have⟨a,k,_,b⟩:=(kK h id i).1 e;simp;exact⟨a,k,b⟩
def OG{c:Type}{a b:Option c}(h:∀x,a=some x↔b=some x):a=b:=Option.ext h
def tM{who:List Int}(h:cK who<who.length):who.getD (cK who) 0=0:=by
 have:=List.findIdx_getElem (w:=h);simp[cK]at this⊢;unfold cK at h;simp[h,this]
def Fw{who:List Int}{j:Nat}(h:j<cK who):who.getD j 0≠0:=by
 have a:=bP h List.findIdx_le_length;have:=List.not_of_lt_findIdx h;simp[aU,a]at this⊢;exact this
def tN{who:List Int}{last:Int}(h:jU who last):cntF who=who.length↔cK who=who.length:=by
 unfold cntF cK;rw[List.countP_eq_length,List.findIdx_eq_length];constructor
 .intro g x a
  have:=g x a;simp at this⊢;omega
 .intro g x a
  have b:=g x a;obtain⟨i,c,rfl⟩:=lG a;have:=h.ge i;simp[aU,c]at this b⊢;omega
def ZY(who:List Int):cntF who<=who.length:=List.countP_le_length
def tP(who:List Int):cK who<=who.length:=List.findIdx_le_length
def OH(who:List Int)(i:Nat)(x:Int)(a:i<who.length):cntF (who.set i x)+(if 0<who.getD i 0 then 1 else 0)=cntF who+(if 0<x then 1 else 0):=by
 unfold cntF;have e:who.getD i 0=who[i]:=by simp[aU,a]
 rw[List.countP_set (h:=a),e];have b:0<who[i]->0<who.countP (λx=>decide (0<x)):=λh=>List.countP_pos_iff.2 ⟨who[i],eA a,by simp[h]⟩
 simp only[ei];split<;>split<;>simp_all<;>omega
section
variable{who:List Int}{last:Int}(h:jU who last)
include h
def pH:0<=last:=by
 have a:=h.ge who.length;have b:=h.le who.length;omega
def jU.sub(a:cK who<who.length):jU (who.set (cK who) (last+1)) (last+1):=by
 have:=pH h;refine⟨λi=> ?_,λi=> ?_,λi j=> ?_⟩
 .rw[fJ _ _ _ _ a];have:=h.ge i;split<;>omega
 .rw[fJ _ _ _ _ a];have:=h.le i;split<;>omega
 .rw[fJ _ _ _ _ a,fJ _ _ _ _ a]
  have c:=h.le i;have d:=h.le j;have b:=h.uniq i j;split<;>split<;>intros<;>first|omega|(apply b<;>assumption)
def WO(b:cK who<who.length)(id:Int):uN (who.set (cK who) (last+1)) id=if id=last+1 then some (cK who:Int)else uN who id:=by
 have f:=pH h;apply OG;intro i;rw[kK (h.sub b)];split
 .rename_i e
  subst e;constructor
  .rintro⟨_,k,rfl,a⟩
   rw[fJ _ _ _ _ b]at a;have:=h.le k;split at a
   .rename_i e;rw[e]
   .omega
  .intro e
   simp only[bA]at e;exact⟨by omega,cK who,e.symm,by rw[fJ _ _ _ _ b,aI rfl]⟩
 .rename_i d
  rw[kK h];constructor
  .rintro⟨c,k,rfl,a⟩
   rw[fJ _ _ _ _ b]at a;split at a
   .omega
   .exact⟨c,k,rfl,a⟩
  .rintro⟨c,k,rfl,a⟩
   refine⟨c,k,rfl,?_⟩;rw[fJ _ _ _ _ b];split
   .rename_i e
    rw[e,tM b]at a;omega
   .exact a
def OI(c:cK who<who.length)(k:Int):mC (who.set (cK who) (last+1)) k=if k=cK who then some (last+1)else mC who k:=by
 have d:=pH h;unfold mC;rw[fJ _ _ _ _ c];by_cases b:0<=k
 .by_cases e:k.toNat=cK who
  .have a:k=cK who:=by omega
   rw[aI e,aI a,aI ⟨b,by omega⟩]
  .have a:¬k=cK who:=by omega
   rw[aC e,aC a]
 .have a:¬k=cK who:=by omega
  simp[b,a]
def Ae:(uN who (last+1)).isSome=false/\(cK who<who.length->(mC who (cK who)).isSome=false):=by
 constructor
 .rw[Option.isSome_eq_false_iff,Option.isNone_iff_eq_none,Je h]
  intro _ k b;have:=h.le k;omega
 .intro a
  unfold mC;simp only[gE];rw[tM a];simp
def Fx(a:cK who<who.length):cntF (who.set (cK who) (last+1))=cntF who+1:=by
 have b:=pH h;have:=OH who (cK who) (last+1) a;rw[tM a]at this;simp at this;rw[aI (by omega)]at this;exact this
def jU.free(i:Nat)(c:i<who.length):jU (who.set i 0) last:=by
 have:=pH h;refine⟨λj=> ?_,λj=> ?_,λa b=> ?_⟩
 .rw[fJ _ _ _ _ c];have:=h.ge j;split<;>omega
 .rw[fJ _ _ _ _ c];have:=h.le j;split<;>omega
 .rw[fJ _ _ _ _ c,fJ _ _ _ _ c]
  have d:=h.uniq a b;split<;>split<;>intros<;>first|omega|(apply d<;>assumption)
variable{i:Int}
def Tm{id:Int}(g:uN who id=some i)(y:Int):uN (who.set i.toNat 0) y=if y=id then none else uN who y:=by
 obtain⟨l,k,rfl,c⟩:=(kK h id i).1 g;have b:=tL (by rw[c];exact l);have n:=h.free k b;simp only[gE];apply OG;intro j;rw[kK n];split
 .rename_i e
  subst e;simp only[reduceCtorEq,iff_false,not_and,not_exists];intro _ m _ a;rw[fJ _ _ _ _ b]at a;split at a
  .omega
  .have:=h.uniq m k (a.trans c.symm) (by omega)
   contradiction
 .rename_i d
  rw[kK h];constructor
  .rintro⟨f,m,rfl,a⟩
   rw[fJ _ _ _ _ b]at a;split at a
   .omega
   .exact⟨f,m,rfl,a⟩
  .rintro⟨f,m,rfl,a⟩
   refine⟨f,m,rfl,?_⟩;rw[fJ _ _ _ _ b];split
   .rename_i e
    rw[e,c]at a;exact bL a.symm d
   .exact a
def Jf{id:Int}(d:uN who id=some i)(k:Int):mC (who.set i.toNat 0) k=if k=i then none else mC who k:=by
 obtain⟨b,m,rfl,f⟩:=(kK h id i).1 d;have c:=tL (by rw[f];exact b);simp only[gE];unfold mC;rw[fJ _ _ _ _ c];by_cases b:0<=k
 .by_cases e:k.toNat=m
  .have a:k=m:=by omega
   rw[aI e,aI a];simp
  .have a:¬k=m:=by omega
   rw[aC e,aC a]
 .have a:¬k=m:=by omega
  simp[b,a]
def Jg{id:Int}(d:uN who id=some i):cntF (who.set i.toNat 0)=cntF who-1:=by
 obtain⟨b,m,rfl,c⟩:=(kK h id i).1 d;have a:=tL (by rw[c];exact b);have:=OH who m 0 a;rw[c]at this;simp[b]at this;simp;omega
def OJ{id:Int}(c:uN who id=some i):0<=i/\i.toNat<who.length/\0<id/\who.getD i.toNat 0=id/\id<=last:=by
 obtain⟨a,m,rfl,b⟩:=(kK h id i).1 c;have:=h.le m;exact⟨by omega,by simp;exact tL (by rw[b];exact a),a,by simpa using b,by omega⟩
def OL{k:Int}{v:Int}(a:mC who k=some v):uN who v=some k/\0<v:=by
 unfold mC at a;split at a
 .rename_i b
  simp only[bA]at a;refine⟨(kK h v k).2 ⟨by omega,k.toNat,by omega,a⟩,by omega⟩
 .cases a
def ZZ{id:Int}(a:uN who id=some i):mC who i=some id:=by
 have⟨b,d,e,c,_⟩:=OJ h a;unfold mC;rw[aI ⟨b,by omega⟩,c]
end
def qQ(n:Nat):jU (List.replicate n 0) 0:=by
 have e:∀i,(List.replicate n (0:Int)).getD i 0=0:=λi=>by
  simp only[aU,List.getElem?_replicate];split<;>rfl
 exact⟨λi=>by rw[e];omega,λi=>by rw[e];omega,λi j _ a=>by rw[e]at a;omega⟩
def Qc(n:Nat)(id:Int):uN (List.replicate n 0) id=none:=by
 rw[Je (qQ n)];intro h k a;have:=(qQ n).le k;omega
def DY(n:Nat)(k:Int):mC (List.replicate n 0) k=none:=by
 unfold mC;rw[aC];have:=(qQ n).le k.toNat;omega
def uT(n:Nat):cntF (List.replicate n 0)=0:=by simp[cntF,List.countP_replicate]
def qR(who:List Int)(id:Int):List Int:=match uN who id with|none=>who|some i=>who.set i.toNat 0
def upto(who:List Int)(j:Nat):Nat:=(List.range j).countP (λi=>decide (0<who.getD i 0))
def m_(who:List Int)(j:Nat):upto who (j+1)=upto who j+if 0<who.getD j 0 then 1 else 0:=by
 unfold upto;rw[List.range_succ,List.countP_append,List.countP_singleton];simp
end
open Go.ChangeMaps mX
def ie(s:ByteArray)(k n:Int):Bool:=iA s.data.toList&&decide (0<=k)&&decide (k<=4)&&decide (1<=n)&&decide (n<=10)
def WQ(s:ByteArray)(k n:Int)(w:ae)(f:s.size<=maxLen):
 aj prog 31 #[aG #[aA s,k,n]] w λe w'=>e=ax (aw (ie s k n))/\ai w w w':=by
 unfold ie;generalize d:iA s.data.toList=v;have c:=λw=>d▸Mo s w f
 clear d;cases v<;>by_cases g:0<=k<;>by_cases h:k<=4<;>by_cases i:1<=n<;>by_cases j:n<=10
 all_goals
  go_in;go_wp2_with (go_at_call 50;refine oO (c _) ?_;intro u)
  all_goals (try omega)
  all_goals go_ret
  all_goals exact⟨cA (by simp[*]<;>omega),gR ((aO _ _).alloc (aP _) _) (by simp) _⟩
def eB(w:ae)(p a b:Nat)(who:List Int)(last:Int):Prop:=
 w.heap[p]? =some (aB #[(who.length:Int),(last:Int),.map (some a),.map (some b)] 207 (0,0))/\jK w a (uN who) (cntF who)/\jK w b (mC who) (cntF who)/\
  p≠a/\p≠b/\a≠b/\jU who last/\who.length<=4/\last<1000000000
variable{w:ae}{p a b:Nat}
def eB.bH{w':ae}{d:List Int}{c:Int}{S:List Nat}(h:eB w p a b d c)(g:aQ S w w')(e:p∉S)(f:a∉S)(i:b∉S):eB w' p a b d c:=
 ⟨g.at h.1 e,h.2.1.same (g.block a h.2.1.lt f),h.2.2.1.same (g.block b h.2.2.1.lt i),h.2.2.2⟩
def eB.cells{d:List Int}{c:Int}(h:eB w p a b d c):
 p<w/\w.cell? p=(d.length:Int)/\w.cell? ⟨p,1,none⟩=c/\w.cell? ⟨p,2,none⟩=some (.map (some a))/\w.cell? ⟨p,3,none⟩=some (.map (some b))/\
  w.frozen? ⟨p,1,none⟩=false:=by
 have h:=h.1;refine⟨az h,?_,?_,?_,?_,?_⟩<;>simp[World.cell?,World.frozen?,h]
def ofC{c:List Int}{d:Int}(h:eB w p a b c d)(id:Int)(hid:ld id):
 aj prog 154 #[p,(id:Int)] w λe w'=>e=ax (aM #[an ar ((uN c id).getD 0),aw (uN c id).isSome])/\w=w':=by
 have⟨f,g,i,j,k,l⟩:=h.cells;have m:=h.2.1.look_ok hid;generalize(uN c id).getD 0=x at*;generalize(uN c id).isSome=y at*;clear h;go_in;go_wp2;go_ret2;exact⟨rfl,rfl⟩
def atC{c:List Int}{d:Int}(h:eB w p a b c d)(id:Int)(hid:ld id):
 aj prog 248 #[p,(id:Int)] w λe w'=>e=ax (aM #[an ar ((mC c id).getD 0),aw (mC c id).isSome])/\w=w':=by
 have⟨f,g,i,j,k,l⟩:=h.cells;have m:=h.2.2.1.look_ok hid;generalize(mC c id).getD 0=x at*;generalize(mC c id).isSome=y at*;clear h;go_in;go_wp2;go_ret2;exact⟨rfl,rfl⟩
def Z0(m:Int)(w:ae)(b:1<=m)(c:m<=4):
 aj prog 83 #[(m:Int)] w λe w'=>e=ax (aM #[aL (some ⟨w.heap.size+2,0,none⟩),an ar 0])/\
  eB w' (w.heap.size+2) w (w.heap.size+1) (List.replicate m.toNat 0) 0/\ai w w w':=by
 have a:= @run_makeMap prog;go_in;go_wp2;go_ret2;refine⟨rfl,⟨?_,?_,?_,by omega,by omega,by omega,qQ _,by simp;omega,by decide⟩,(((aO _ _).alloc (aP _) _).alloc (by simp) _).alloc (by simp;omega) _⟩
 .have:=a_ ((w.alloc (.map #[] 0)).alloc (.map #[] 0)) (aB #[(m:Int),an ar 0,.map (some w),.map (some (w.heap.size+1))] 207)
  have e:((m.toNat:Nat):Int)=m:=by omega
  simpa[e]using this
 .rw[show uN (List.replicate m.toNat 0)=λ_=>none from funext (Qc _),uT]
  exact(jK.made w).same (((aO (w.alloc (.map #[] 0)).heap.size _).alloc (aP _) _).alloc (by simp) _|>.block _ (by simp))
 .rw[show mC (List.replicate m.toNat 0)=λ_=>none from funext (DY _),uT]
  have:=(jK.made (w.alloc (.map #[] 0))).same ((aO ((w.alloc (.map #[] 0)).alloc (.map #[] 0)).heap.size _).alloc (aP _) (aB #[(m:Int),an ar 0,.map (some w),.map (some (w.heap.size+1))] 207)|>.block _ (by simp));simpa using this
def adf{w:ae}{p a b:Nat}{c:List Int}{f:Int}(h:eB w p a b c f)(id:Int)(hid:ld id):
 aj prog 126 #[p,(id:Int)] w λe w'=>e=ax (aw (uN c id).isSome)/\
  eB w' p a b (qR c id) f/\aQ [p,a,b] w w':=by
 have⟨M,X,Y,Z,c3,f1⟩:=h.cells;have d:=ofC h id hid;unfold qR;cases ho:uN c id with
 |none=>
  rw[ho]at d;simp only[Option.getD_none,Option.isSome_none]at d;clear ho;go_in;go_wp2_with (go_at_call 154;refine aH d ?_);go_ret;exact⟨rfl,h,aQ.refl _ _⟩
 |some i=>
  rw[ho]at d;simp only[Option.getD_some,Option.isSome_some]at d;obtain⟨z,A,B,C,E,F,l,N,O⟩:=h;have⟨i0,P,Q,_,T⟩:=OJ l ho;have G:∀y,uN (c.set i.toNat 0) y=_:=Tm l ho
  have H:∀y,mC (c.set i.toNat 0) y=_:=Jf l ho
  have u:=Jg l ho;have m:=ZZ l ho;have⟨U,r1,I,J⟩:=A.drop hid;have s:=J.grown;have n:=B.kept s (by simp;omega);have⟨v,r2,K,L⟩:=n.drop (eN (x:=i) (by omega) (by omega));have t:=L.grown;have g:U.heap[p]? =_:=(s.block p M (by simp;omega)).trans z;have q:v.heap[p]? =_:=(t.block p (az g) (by simp;omega)).trans g;have d3:=aF g 3 rfl;have r:=l.free i.toNat P;have j:eB v p a b (c.set i.toNat 0) f:=by
   refine⟨by rw[q];simp,?_,?_,C,E,F,r,by simpa using N,O⟩
   .rw[show uN (c.set i.toNat 0)=_ from funext G,u]
    have:=I.kept t (by simp;omega);simpa[ho]using this
   .rw[show mC (c.set i.toNat 0)=_ from funext H,u]
    simpa[m]using K
  have k:aQ [p,a,b] w v:=((aQ.nA s).mono (by simp)).trans ((aQ.nA t).mono (by simp));have⟨V,W⟩:=aK j k;clear j k G H u m I K B n A s t J L z g q l r ho C E F;go_in;go_wp2_with (go_at_call 154;refine aH d ?_);go_ret;exact⟨rfl,V.o,W.o⟩
def two(z:ae)(a b:Nat)(x y:Obj):ae:=setBlock (setBlock z a x) b y
variable{z:ae}
def Tn(x y:Obj)(c:a≠b)(d:a<z):(two z a b x y).drew.heap[a]? =some x:=by
 show(two z a b x y).heap[a]? =some x
 rw[two,lT _ _ c,pE _ _ d]
def To(x y:Obj)(c:b<z):(two z a b x y).drew.heap[b]? =some y:=by
 show(two z a b x y).heap[b]? =some y
 rw[two,pE _ _ (by rw[P6];exact c)]
def zA{k:Nat}(x y:Obj)(c:k≠a)(d:k≠b):(two z a b x y).heap[k]? =z.heap[k]? :=by
 rw[two,lT _ _ d,lT _ _ c]
def DZ(x y u:Obj)(c:a≠b):setBlock (two z a b x y).drew a u=(two z a b u y).drew:=by
 unfold two setBlock World.drew;simp only[World.mk.injEq,bK,et];apply Array.ext_getElem?;intro i;simp only[pB,Array.size_setIfInBounds];by_cases d:b=i
 .subst d;simp[c]
 .by_cases e:a=i<;>simp[d,e]
def D0(x y u:Obj):setBlock (two z a b x y).drew b u=(two z a b x u).drew:=by
 unfold two setBlock World.drew;simp
def Tp{x y:Obj}(d:z.heap[a]? =some x)(f:z.heap[b]? =some y):two z a b x y=z:=by
 unfold two setBlock;have e:((z.heap.setIfInBounds a x).setIfInBounds b y)=z.heap:=by
  apply Array.ext_getElem?;intro i;simp only[pB,Array.size_setIfInBounds];by_cases c:b=i
  .subst c
   rw[aI rfl,aI (az f),f]
  .by_cases g:a=i
   .subst g
    rw[aC c,aI rfl,aI (az d),d]
   .rw[aC c,aC g]
 rw[e]
def WR(z:ae)(a b:Nat)(x y:Obj):aQ [a,b] z (two z a b x y):=((aQ.refl _ _).setBlock (by simp) _).setBlock (by simp) _
def Tq{d:List Int}{c:Int}(h:eB w p a b d c)(s:ByteArray)(k n:Int)(g:s.size<=maxLen)(f:ie s k n=false):
 aj prog 91 #[p,aG #[aA s,k,n]] w λe w'=>e=ax (aM #[an ar 1,an ar 0,an ar 0])/\ai w w w':=by
 have nC:=λw=>WQ s k n w g
 rw[f]at nC;have⟨i,j,l,m,o,q⟩:=h.cells;clear f h;go_in;go_wp2_with (go_at_call 31;refine oO (nC _) ?_;intro u);go_ret3;exact⟨rfl,gR ((aO _ _).alloc (aP _) _) (by simp) _⟩
def Mx{c:List Int}{f:Int}(h:eB w p a b c f)(s:ByteArray)(k n:Int)(o:s.size<=maxLen)(i:ie s k n=true)(j:cntF c=c.length):
 aj prog 91 #[p,aG #[aA s,k,n]] w λe w'=>e=ax (aM #[an ar 2,an ar 0,an ar 0])/\ai w w w':=by
 have nC:=λw=>WQ s k n w o
 rw[i]at nC;have⟨q,r,t,v,y,A⟩:=h.cells;have d:=h.2.1;rw[j]at d;have l:∀(x:ae) m g,(Builtin.len_ #[205] g #[.map (some a)]).run prog ((ext (w.alloc (aB #[aA s,k,n] 31)) x).drewN m)=.ok (c.length:Int) ((ext (w.alloc (aB #[aA s,k,n] 31)) x).drewN m):=
  λx m g=>(d.same (((below_drewN (gR ((aO _ _).alloc (aP _) _) (by simp) x) m)).block a d.lt)).len g
 clear i h d j;go_in;go_wp2_with (go_at_call 31;refine oO (nC _) ?_;intro u);go_quiet (fail);go_wp2;go_ret3;exact⟨rfl,below_drewN (gR ((aO _ _).alloc (aP _) _) (by simp) _) _⟩
def Qd{c:List Int}{d:Int}(h:eB w p a b c d)(s:ByteArray)(k n:Int)(hs:s.size<=maxLen)(hm:ie s k n=true)(hc:cntF c≠c.length)(hlb:d<999999999):
 aj prog 91 #[p,aG #[aA s,k,n]] w λe w'=>e=ax (aM #[an ar 3,an ar (d+1),an ar (cK c)])/\
  eB w' p a b (c.set (cK c) (d+1)) (d+1)/\aQ [p,a,b] w w':=by
 have nC:=λw=>WQ s k n w hs
 rw[hm]at nC;have H:=au h;have⟨hp,c0,c1,c2,c3,f1⟩:=h.cells;obtain⟨hh,ma,mb,K,L,I,ok,l4,l9⟩:=h;have hne:((cntF c:Int)==c.length)=false:=by simp;omega
 have f:cK c<c.length:=by
  obtain h1|h1:=Nat.lt_or_ge (cK c) c.length
  .exact h1
  .exact bL ((tN ok).2 (by have:=tP c;omega)) hc
 have hl0:=pH ok;clear hm hc c0 c1 c2 c3 f1 hh;go_in;go_wp2_with fail
 refine aN (nC _) ?_;intro u hu;have A:=((aO _ _).alloc (aP _) _).trans (hu.mono (by simp));have l:=H.o.bH (aQ.of_below (S:=[]) A) (by simp) (by simp) (by simp);have⟨hup,d0,d1,d2,d3,g1⟩:=l.cells;have M:=λm ty=>(jK.same (w':=u.drewN m) l.2.1 rfl).len ty
 have q:∀m (j:Nat),j<5->(Instr.lookup 205 (.map (some b)) (j:Int) false).run prog (u.drewN m)=.ok ((mC c j).getD 0:Int) (u.drewN m):=λm j hj=>(jK.same (w':=u.drewN m) l.2.2.1 rfl).look (eN (x:=j) (by omega) (by omega))
 have⟨N,HU,HL,B⟩:=c_ l A q ok;clear l hu A q ma mb ok;go_wp2_with fail
 go_quiet (fail);go_wp2
 go_loop [7] (λv=>∃j:Nat,j<=cK c/\v=an ar j) (λv=>cK c-(intOf v).toNat)
 case atStart=>exact⟨0,bz _,rfl⟩
 case round=>
  obtain⟨j,hj,rfl⟩:=hrel;have hl:=HL.o nq j (by omega);by_cases hjf:j<cK c
  .have hb:=Fw hjf
   have hg:=B.o.ge j;have O:((mC c j).getD 0)=c.getD j 0:=by simp only[mC,gE];rw[aI ⟨by omega,by omega⟩];rfl
   rw[O]at hl;have hpos:0<c.getD j 0:=by omega
   generalize c.getD j 0=x at*;clear O hb hg;go_wp2;go_roundw
   case rel=>exact⟨j+1,by omega,by simp⟩
   case measure=>simp[intOf];omega
  .obtain rfl:j=cK c:=by omega
   have O:((mC c (cK c)).getD 0)=0:=by simp only[mC,gE];rw[tM f,aC (by omega)];rfl
   rw[O]at hl;clear O;go_upto_region 11 with fail
   have⟨z,hz⟩:=aD ((u.drewN nq).setCell ⟨p,1,none⟩ (d+1:Int));rw[<-hz];have J:z.heap[p]? =some (aB #[(c.length:Int),an ar (d+1),.map (some a),.map (some b)] 207 (0,0)):=by
    rw[hz,aE (by simpa using N.o.1)];rfl
   have zc:aQ [p] u z:=by
    rw[hz];exact((aQ.refl _ _:aQ [p] u u).trans (aQ.of_below (below_drewN (aO _ _) _))).setCell _ (by simp) _
   have za:=N.o.2.1.same (zc.block a N.o.2.1.lt (by simp;omega));have zb:=N.o.2.2.1.same (zc.block b N.o.2.2.1.lt (by simp;omega));have hcl:=ZY c;have⟨oa,va,sa,P,C,Q,T⟩:=za.entry (by omega) (eN (x:=d+1) (by omega) (by omega));have⟨ob,vb,sb,U,E,V,W⟩:=zb.entry (by omega) (eN (x:=cK c) (by omega) (by omega));have⟨g,X,Y⟩:=T (cK c) (eN (by omega) (by omega));have⟨i,Z,hb4⟩:=W (d+1) (eN (by omega) (by omega));have zl:p<z/\a<z/\b<z:=⟨az J,az C,az E⟩;obtain⟨zl1,F,G⟩:=zl;have hMa:∀y,(Instr.mapEntry 205 (.map (some a)) (d+1:Int)).run prog (two z a b oa y).drew=.ok (aM #[va,sa]) (two z a b P y).drew:=λy=>by
    rw[Q _ (Tn _ _ I F),DZ _ _ _ I]
   have hSa:∀y,(Instr.entryStore 205 (.map (some a)) sa (cK c:Int)).run prog (two z a b P y).drew=.ok () (two z a b g y).drew:=λy=>by
    rw[X _ (Tn _ _ I F),DZ _ _ _ I]
   have hMb:∀x,(Instr.mapEntry 205 (.map (some b)) (cK c:Int)).run prog (two z a b x ob).drew=.ok (aM #[vb,sb]) (two z a b x U).drew:=λx=>by
    rw[V _ (To _ _ G),D0]
   have hSb:∀x,(Instr.entryStore 205 (.map (some b)) sb (d+1:Int)).run prog (two z a b x U).drew=.ok () (two z a b x i).drew:=λx=>by
    rw[Z _ (To _ _ G),D0]
   have r:eB (two z a b g i).drew p a b (c.set (cK c) (d+1)) (d+1):=by
    have hos:=Ae B.o;refine⟨by show(two z a b g i).heap[p]? =_;rw[zA _ _ K L,J];simp,?_,?_,K,L,I,B.o.sub f,by simpa using l4,by omega⟩
    .rw[show uN (c.set (cK c) (d+1))=_ from funext (WO B.o f),Fx B.o f]
     have:=Y (two z a b g i).drew (Tn _ _ I F);rw[hos.1]at this;exact this
    .rw[show mC (c.set (cK c) (d+1))=_ from funext (OI B.o f),Fx B.o f]
     have:=hb4 (two z a b g i).drew (To _ _ G);rw[hos.2 f]at this;exact this
   have e1:∀x y,(two z a b x y).cell? ⟨p,1,none⟩=(d+1:Int):=λx y=>by simp[World.cell?,zA _ _ K L,J]
   have e2:∀x y,(two z a b x y).cell? ⟨p,2,none⟩=some (.map (some a)):=λx y=>by simp[World.cell?,zA _ _ K L,J]
   have e3:∀x y,(two z a b x y).cell? ⟨p,3,none⟩=some (.map (some b)):=λx y=>by simp[World.cell?,zA _ _ K L,J]
   have HE:=au r;have t:aQ [p,a,b] w (two z a b g i).drew:=(((aQ.of_below HU.o).mono (S:=[]) (by simp)).trans (zc.mono (by simp))).trans (((WR z a b g i).mono (by simp)).drew);have HC:=au t;rw[<-Tp C E];clear hz hl M W T za zb Q X V Z Y hb4 J zc r C E t;go_region_held3 (λw'=>w'.cell? ⟨p,1,none⟩=(d+1:Int)/\w'.cell? ⟨p,2,none⟩=some (.map (some a))/\w'.cell? ⟨p,3,none⟩=some (.map (some b))) (go_keep) (fail)
   go_wp2_with fail
   go_quiet (fail);go_wp2;go_ret3;exact⟨rfl,HE.o.bH (aQ.of_below (S:=[]) (below_drewN (aO _ _) _)) (by simp) (by simp) (by simp),HC.o.trans (aQ.of_below (below_drewN (aO _ _) _))⟩
def jD(m:Bool)(who:List Int)(last:Int):Int×Int×Int:=if m=false then(1,0,0)else if cntF who=who.length then(2,0,0)else(3,last+1,cK who)
def CC(m:Bool)(who:List Int)(last:Int):List Int:=if m=false then who else if cntF who=who.length then who else who.set (cK who) (last+1)
def CD(m:Bool)(who:List Int)(last:Int):Int:=if m=false then last else if cntF who=who.length then last else last+1
def OM{d:List Int}{c:Int}(h:eB w p a b d c)(s:ByteArray)(k n:Int)(l:s.size<=maxLen)(m:c<999999999):
 aj prog 91 #[p,aG #[aA s,k,n]] w λe w'=>
  e=ax (aM #[an ar (jD (ie s k n) d c).1,an ar (jD (ie s k n) d c).2.1,an ar (jD (ie s k n) d c).2.2])/\
   eB w' p a b (CC (ie s k n) d c) (CD (ie s k n) d c)/\aQ [p,a,b] w w':=by
 cases hm:ie s k n with
 |false=>
  refine(Tq h s k n l hm).mono λe w' ⟨g,i⟩=> ?_
  have f:aQ ([]:List Nat) w w':=aQ.of_below i;exact⟨by simpa[jD]using g,by simpa[CC,CD]using h.bH f (by simp) (by simp) (by simp),f.mono (by simp)⟩
 |true=>
  by_cases f:cntF d=d.length
  .refine(Mx h s k n l hm f).mono λe w' ⟨g,i⟩=> ?_
   have j:aQ ([]:List Nat) w w':=aQ.of_below i;exact⟨by simpa[jD,f]using g,by simpa[CC,CD,f]using h.bH j (by simp) (by simp) (by simp),j.mono (by simp)⟩
  .refine(Qd h s k n l hm f m).mono λe w' ⟨g,i,j⟩=> ?_
   exact⟨by simpa[jD,f]using g,by simpa[CC,CD,f]using i,j⟩
end Go.Proofs.YtjpnlfpompnpkaaGreat
