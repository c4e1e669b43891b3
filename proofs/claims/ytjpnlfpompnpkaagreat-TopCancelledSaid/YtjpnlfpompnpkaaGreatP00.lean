import Derived.WalkKit
import Derived.BigQuiet
import Derived.WalkSpells
import Derived.WalkLawsBesides
import Derived.Deep.QuietTactic
import Derived.IntWalk
import Derived.Lib.Hide
import Derived.Laws.AppendOwn
import GoSem.Core.Utf8
import Derived.Lib.Bytealg
import Derived.Test.YtjpnlfpompnpkaaGreatRows
import Derived.Lib.OthersKept
import Derived.WalkSmall
import Derived.Maps.OwnSet
import Derived.ProofKit
import Derived.Deep.Slices
import Derived.BigRegion
import Derived.Deep.RegionHeld3
namespace Go.Proofs.YtjpnlfpompnpkaaGreat
open Go.RowKit Go.Proofs.Tryz
open Go.Value renaming int->an,slice->av,bool->aw,string->aA,tuple->aM,pointer->aL,agg->aG
open Go.IntKind renaming i64->ar
open Go.Ending renaming returned->ax
open Go.Obj renaming cells->aB
open Go renaming World->ae,Value->ah,Calls->aj,Ending->ak
open Go.RowKit renaming Below->ai
set_option maxRecDepth 100000
set_option linter.all false
set_option maxHeartbeats 1000000
theorem aF{w:ae}{b:Nat}{l:List ah}{t:TypeId}{p:Nat×Nat}(h:w.heap[b]? =some (.cells l.toArray t p))(k:Nat){v:ah}(e:l[k]? =some v):w.cell? ⟨b,k,none⟩=some v:=by simp[World.cell?,h,e]
theorem bB{w:ae}{b:Nat}{a:Array ah}{t:TypeId}(h:w.heap[b]? =some (.cells a t (0,0)))(k:Nat):w.frozen? ⟨b,k,none⟩=false:=by simp[World.frozen?,h]
theorem aD{α:Type}(a:α):∃x,x=a:=⟨a,rfl⟩
structure nr(p:Prop):Prop where
 o:p
theorem au{p:Prop}(h:p):nr p:=⟨h⟩
theorem aK{p q:Prop}(a:p)(b:q):nr p/\nr q:=⟨⟨a⟩,⟨b⟩⟩
theorem aX{p q r:Prop}(a:p)(b:q)(c:r):nr p/\nr q/\nr r:=⟨⟨a⟩,⟨b⟩,⟨c⟩⟩
theorem c_{p q r s:Prop}(a:p)(b:q)(c:r)(d:s):nr p/\nr q/\nr r/\nr s:=⟨⟨a⟩,⟨b⟩,⟨c⟩,⟨d⟩⟩
theorem iI{p q r s t:Prop}(a:p)(b:q)(c:r)(d:s)(e:t):nr p/\nr q/\nr r/\nr s/\nr t:=⟨⟨a⟩,⟨b⟩,⟨c⟩,⟨d⟩,⟨e⟩⟩
theorem eC{p q r s t u:Prop}(a:p)(b:q)(c:r)(d:s)(e:t)(f:u):nr p/\nr q/\nr r/\nr s/\nr t/\nr u:=⟨⟨a⟩,⟨b⟩,⟨c⟩,⟨d⟩,⟨e⟩,⟨f⟩⟩
instance:Coe Int ah:=⟨λn=>.int .i64 n⟩
instance:Coe Nat Addr:=⟨λn=>⟨n,0,none⟩⟩
instance:Coe Addr ah:=⟨λa=>.pointer (some a)⟩
instance:Coe ae Nat:=⟨λw=>w.heap.size⟩
instance:Coe Int Lit:=⟨λn=>.int .i64 n⟩
instance:Coe Unit ah:=⟨λ_=>.slice none 0 0⟩
instance (priority:=low){α:Type}[Inhabited α]:CoeTail Unit α:=⟨λ_=>default⟩
theorem nr.m{P:Program}{n:Nat}{a:Array ah}{w:ae}{Q R:ak->ae->Prop}(h:nr (aj P n a w Q))(k:∀e y,Q e y->R e y):aj P n a w R:=h.o.mono k
theorem dk{w:ae}{b:Nat}{l:List ah}{t:TypeId}{p:Nat×Nat}{v0 v1:ah}(h:w.heap[b]? =some (.cells (v0::v1::l).toArray t p)):w.cell? ⟨b,0,none⟩=some v0/\w.cell? ⟨b,1,none⟩=some v1:=⟨aF h 0 rfl,aF h 1 rfl⟩
theorem oN{w:ae}{b:Nat}{l:List ah}{t:TypeId}{p:Nat×Nat}{v0 v1 v2:ah}(h:w.heap[b]? =some (.cells (v0::v1::v2::l).toArray t p)):w.cell? ⟨b,0,none⟩=some v0/\w.cell? ⟨b,1,none⟩=some v1/\w.cell? ⟨b,2,none⟩=some v2:=⟨aF h 0 rfl,aF h 1 rfl,aF h 2 rfl⟩
theorem qN{w:ae}{b:Nat}{l:List ah}{t:TypeId}{p:Nat×Nat}{v0 v1 v2 v3 v4 v5 v6:ah}(h:w.heap[b]? =some (.cells (v0::v1::v2::v3::v4::v5::v6::l).toArray t p)):w.cell? ⟨b,0,none⟩=some v0/\w.cell? ⟨b,1,none⟩=some v1/\w.cell? ⟨b,2,none⟩=some v2/\w.cell? ⟨b,3,none⟩=some v3/\w.cell? ⟨b,4,none⟩=some v4/\w.cell? ⟨b,5,none⟩=some v5/\w.cell? ⟨b,6,none⟩=some v6:=⟨aF h 0 rfl,aF h 1 rfl,aF h 2 rfl,aF h 3 rfl,aF h 4 rfl,aF h 5 rfl,aF h 6 rfl⟩
theorem Ou{w:ae}{b:Nat}{l:List ah}{t:TypeId}{p:Nat×Nat}{v0 v1 v2 v3 v4 v5 v6 v7:ah}(h:w.heap[b]? =some (.cells (v0::v1::v2::v3::v4::v5::v6::v7::l).toArray t p)):w.cell? ⟨b,0,none⟩=some v0/\w.cell? ⟨b,1,none⟩=some v1/\w.cell? ⟨b,2,none⟩=some v2/\w.cell? ⟨b,3,none⟩=some v3/\w.cell? ⟨b,4,none⟩=some v4/\w.cell? ⟨b,5,none⟩=some v5/\w.cell? ⟨b,6,none⟩=some v6/\w.cell? ⟨b,7,none⟩=some v7:=⟨aF h 0 rfl,aF h 1 rfl,aF h 2 rfl,aF h 3 rfl,aF h 4 rfl,aF h 5 rfl,aF h 6 rfl,aF h 7 rfl⟩
theorem Fk{w:ae}{b:Nat}{l:List ah}{t:TypeId}{p:Nat×Nat}{v0 v1 v2 v3 v4 v5 v6 v7 v8 v9 v10:ah}(h:w.heap[b]? =some (.cells (v0::v1::v2::v3::v4::v5::v6::v7::v8::v9::v10::l).toArray t p)):w.cell? ⟨b,0,none⟩=some v0/\w.cell? ⟨b,1,none⟩=some v1/\w.cell? ⟨b,2,none⟩=some v2/\w.cell? ⟨b,3,none⟩=some v3/\w.cell? ⟨b,4,none⟩=some v4/\w.cell? ⟨b,5,none⟩=some v5/\w.cell? ⟨b,6,none⟩=some v6/\w.cell? ⟨b,7,none⟩=some v7/\w.cell? ⟨b,8,none⟩=some v8/\w.cell? ⟨b,9,none⟩=some v9/\w.cell? ⟨b,10,none⟩=some v10:=⟨aF h 0 rfl,aF h 1 rfl,aF h 2 rfl,aF h 3 rfl,aF h 4 rfl,aF h 5 rfl,aF h 6 rfl,aF h 7 rfl,aF h 8 rfl,aF h 9 rfl,aF h 10 rfl⟩
theorem mD{w:ae}{b:Nat}{l:List ah}{t:TypeId}{p:Nat×Nat}{v0 v1 v2 v3 v4 v5 v6 v7 v8 v9 v10 v11:ah}(h:w.heap[b]? =some (.cells (v0::v1::v2::v3::v4::v5::v6::v7::v8::v9::v10::v11::l).toArray t p)):w.cell? ⟨b,0,none⟩=some v0/\w.cell? ⟨b,1,none⟩=some v1/\w.cell? ⟨b,2,none⟩=some v2/\w.cell? ⟨b,3,none⟩=some v3/\w.cell? ⟨b,4,none⟩=some v4/\w.cell? ⟨b,5,none⟩=some v5/\w.cell? ⟨b,6,none⟩=some v6/\w.cell? ⟨b,7,none⟩=some v7/\w.cell? ⟨b,8,none⟩=some v8/\w.cell? ⟨b,9,none⟩=some v9/\w.cell? ⟨b,10,none⟩=some v10/\w.cell? ⟨b,11,none⟩=some v11:=⟨aF h 0 rfl,aF h 1 rfl,aF h 2 rfl,aF h 3 rfl,aF h 4 rfl,aF h 5 rfl,aF h 6 rfl,aF h 7 rfl,aF h 8 rfl,aF h 9 rfl,aF h 10 rfl,aF h 11 rfl⟩
abbrev aU:= @List.getD_eq_getElem?_getD
abbrev bA:= @Option.some.injEq
abbrev bP:= @Nat.lt_of_lt_of_le
abbrev aO:= @Below.refl
abbrev aP:= @Nat.le_refl
abbrev bF:= @List.length_append
abbrev bG:= @Value.slice.injEq
abbrev dF:= @List.setIfInBounds_toArray
abbrev cU:= @World.cell?_of_block
abbrev bD:= @Nat.le_trans
abbrev ct:= @List.set_cons_succ
abbrev cm:= @List.mem_singleton
abbrev cC:= @List.set_cons_zero
abbrev bQ:= @List.mem_cons
abbrev cr:= @List.length_map
abbrev du:= @List.mem_cons_of_mem
abbrev bM:= @Nat.add_zero
abbrev cG:= @List.length_cons
abbrev bz:= @Nat.zero_le
abbrev cV:= @Bool.and_eq_true
abbrev fG:= @List.take_succ_eq_append_getElem
abbrev dJ:= @List.mem_append
abbrev dr:= @Addr.mk.injEq
abbrev gZ:= @List.getElem?_append_left
abbrev g_:= @List.getElem?_append_right
abbrev dw:= @List.length_take
abbrev ds:= @List.length_set
abbrev iV:= @World.block_lt_of_cell?
abbrev ei:= @decide_eq_true_eq
abbrev eI:= @List.flatMap_cons
abbrev eZ:= @Option.mem_toList
abbrev ez:= @List.not_mem_nil
abbrev dx:= @List.length_nil
abbrev fQ:= @List.flatMap_append
abbrev jC:= @List.mem_or_eq_of_mem_set
abbrev jg:= @List.find?_cons_of_neg
abbrev gE:= @Int.toNat_natCast
abbrev fH:= @Below.heap_alloc
abbrev iK:= @List.mem_cons_self
abbrev jY:= @List.take_of_length_le
abbrev eJ:= @Nat.zero_add
abbrev jZ:= @List.getElem?_eq_getElem
abbrev jh:= @List.map_congr_left
abbrev fR:= @List.take_length
abbrev eA:= @List.getElem_mem
abbrev gF:= @List.map_append
abbrev j7:= @beq_eq_false_iff_ne
abbrev lF:= @Lib.run_eql_slice_nil
abbrev gi:= @List.map_cons
abbrev eV:= @wpQuiet_nil
abbrev fS:= @bodyPost_ret
abbrev fT:= @List.map_map
abbrev mE:= @List.take_append_drop
abbrev iW:= @List.getElem?_set
abbrev h_:= @List.append_assoc
abbrev j8:= @List.length_drop
abbrev lG:= @List.getElem_of_mem
abbrev ji:= @List.nodup_cons
abbrev nu:= @List.mem_of_mem_drop
abbrev pB:= @Array.getElem?_setIfInBounds
abbrev aC:= @if_neg
abbrev aI:= @if_pos
abbrev a_:= @heap_alloc_new
abbrev SM:= @List.mem_map
abbrev bK:= @true_and
abbrev SN:= @List.length_eq_zero_iff
abbrev ZL:= @List.getElem?_eq_some_iff
abbrev mF:= @List.mem_filterMap
abbrev bL:= @absurd
abbrev oz:= @List.getElem?_eq_none
abbrev oA:= @Bool.false_eq_true
abbrev uP:= @List.getElem?_map
abbrev lH:= @Nat.le_of_lt
abbrev kG:= @Nat.not_lt_zero
abbrev et:= @and_true
abbrev Fl:= @List.mem_filter
abbrev Fm:= @List.any_eq_true
abbrev pC:= @List.all_eq_true
abbrev SO:= @List.set_set
section
open Classical in
noncomputable def ext (w x:ae):ae:=if ai w w x then x else w
def bX(w x:ae):ai w w (ext w x):=by
 unfold ext;split
 .assumption
 .exact aO _ _
def Mm(w x:ae)(h:ai w w x):x=ext w x:=by
 unfold ext;rw[aI h]
def SP(w x:ae)(p:Addr)(h:p.block<w.heap.size):(ext w x).cell? p=w.cell? p:=(bX w x).cell h
def Mn(w x:ae)(p:Addr)(h:p.block<w.heap.size):(ext w x).frozen? p=w.frozen? p:=(bX w x).frozen h
def WB(a b:Int):(if a<b then a else b)=min b a:=by split<;>omega
def WC(a b:Int):(if a<b then b else a)=max a b:=by split<;>omega
def ZM(w x:ae)(o:Obj):w.heap.size<(ext (w.alloc o) x).heap.size:=by
 have:=(bX (w.alloc o) x).size;simp at this;omega
variable{w:ae}
def gR{B:Nat}{a:ae}(h:ai B w a)(b:B<=w)(x:ae):ai B w (ext a x):=
 h.trans ((bX a x).mono (bD b h.size))
attribute [go_sem] SP Mn WB WC ZM
variable{P:Program}
def cD{id:Nat}{Q:Exit->Act->ae->Prop}{a:Act}{l:List Oper}(b:P.follows .mixedOrders=true)(c:Region.lexB .any l.toArray=true)
 (h:wpQuiet P l.toArray (λw'=>∃x,w'=ext w x) (λd=>∀w',(∃x,w'=ext w x)->Q .normal d w') l a):(Code.region id l.toArray true).wp P Q a w:=
 wp_region_quiet (C:=λw'=>∃x,w'=ext w x) b c ⟨w.drew,Mm _ _ ((aO _ _).drew)⟩ (by simpa using h)
variable{f:FuncId}
def cH{args:Array ah}{x:ae}{v:ah}
 (h:aj P f args (ext w x) λe w'=>e=ax v/\ai (ext w x).heap.size (ext w x) w'):aj P f args (ext w x) λe a=>e=ax v/\∃y,a=ext w y:=
 h.mono λ_ w' ⟨b,c⟩=>⟨b,w',Mm _ _ ((bX w x).trans (c.mono (bX w x).size))⟩
variable{Q:ak->ae->Prop}
def oO{args:Array ah}{v:ah}
 (h:aj P f args w λe w'=>e=ax v/\ai w w w') (a:∀x,Q (ax v) (ext w x)):aj P f args w Q:=
 h.mono λe w' ⟨b,c⟩=>by rw[b,Mm _ _ c];exact a w'
def aH{args:Array ah}{v:ah}
 (h:aj P f args w λe w'=>e=ax v/\w=w') (a:Q (ax v) w):aj P f args w Q:=
 h.mono λe w' ⟨b,c⟩=>by rw[b,<-c];exact a
def aN{args:Array ah}{v:ah}{R:ae->Prop}
 (h:aj P f args w λe w'=>e=ax v/\R w') (a:∀x,R x->Q (ax v) x):aj P f args w Q:=
 h.mono λe w' ⟨b,c⟩=>by rw[b];exact a w' c
end
variable{k:IntKind}
def kH{a b:Int}(h:a=b):Ending.returned (.int k a)=ax (.int k b):=by rw[h]
def cA{a b:Bool}(h:a=b):Ending.returned (aw a)=ax (aw b):=by rw[h]
def dc(w:ae)(k:IntKind)(v:ah)(xs:List Int):Prop:=
 ∃a cap,v=av a xs.length cap/\xs.length<=maxLen/\(xs.length<=cap/\(a=none->cap=0))/\∀i,i<xs.length->∃b off,a=some ⟨b,off,none⟩/\b<w.heap.size/\w.cell? ⟨b,off+i,none⟩=some (.int k (xs.getD i 0))
variable{w:ae}
def dc.below{w':ae}{v:ah}{xs:List Int}(h:dc w k v xs)(g:ai w w w'):dc w' k v xs:=by
 obtain⟨a,f,j,l,m,n⟩:=h;refine⟨a,f,j,l,m,λi o=> ?_⟩;have⟨b,c,e,d,q⟩:=n i o;exact⟨b,c,e,bP d g.size,(g.cell (p:=⟨b,c+i,none⟩) d).trans q⟩
def dc.ext{v:ah}{xs:List Int}(h:dc w k v xs)(x:ae):dc (ext w x) k v xs:=h.below (bX w x)
def dc.drew{v:ah}{xs:List Int}(h:dc w k v xs):dc w.drew k v xs:=h.below (aO _ _).drew
def dc.alloc{v:ah}{xs:List Int}(h:dc w k v xs)(o:Obj):dc (w.alloc o) k v xs:=h.below ((aO _ _).alloc (aP _) o)
def uQ(w:ae)(k:IntKind):dc w k () []:=⟨none,0,rfl,by decide,⟨by decide,λ_=>rfl⟩,λi b=>by simp at b⟩
def zR{B:Nat}{e:TypeId}{v:ah}{xs:List Int}(h:w.ownsRow B e 1 v xs.length (xs.map (Value.int k))):dc w k v xs:=by
 obtain⟨_,h⟩:=h;obtain⟨rfl,l⟩|⟨g,c,d,rfl,q,f,m,j,n,o⟩:=h
 .have:xs=[]:=List.length_eq_zero_iff.1 l
  subst this;exact uQ w k
 .refine⟨_,c,rfl,by omega,⟨m,λh=>by cases h⟩,λi p=>⟨g,0,rfl,?_,?_⟩⟩
  .exact(Array.getElem?_eq_some_iff.1 f).1
  .have b:(d.toList.take (xs.length*1))[i]? =(xs.map (Value.int k))[i]? :=by rw[o]
   rw[List.getElem?_take_of_lt (by omega)]at b;simp only[World.cell?,f,eJ];rw[Array.getElem?_toList]at b;simp[p]at b⊢;exact b
def tH{B B':Nat}{e:TypeId}{size:Nat}{v:ah}{n:Nat}{xs:List ah}(h:w.ownsRow B e size v n xs)(l:B'<=B):w.ownsRow B' e size v n xs:=by
 obtain⟨j,d⟩:=h;refine⟨j,?_⟩;obtain d|⟨g,f,i,a,b,c⟩:=d
 .exact .inl d
 .exact .inr ⟨g,f,i,a,by omega,c⟩
def oB{w':ae}{B:Nat}{e:TypeId}{size:Nat}{v:ah}{n:Nat}{xs:List ah}(h:w.ownsRow B e size v n xs)(l:ai w w w'):w'.ownsRow B e size v n xs:=by
 obtain⟨m,f⟩:=h;refine⟨m,?_⟩;obtain f|⟨g,i,j,a,b,c,d⟩:=f
 .exact .inl f
 .exact .inr ⟨g,i,j,a,b,by rw[l.block g (Array.getElem?_eq_some_iff.1 c).1];exact c,d⟩
def DT{v:ah}{xs:List Int}(h:dc w k v xs):∃a b,v=av a xs.length b/\xs.length<=maxLen/\xs.length<=b:=by
 obtain⟨a,b,c,d,e,_⟩:=h;exact⟨a,b,c,d,e.1⟩
variable{a:Option Addr}
def dc.slot{n c:Nat}{xs:List Int}(h:dc w k (av a n c) xs)(i:Nat)(f:i<xs.length):
 ∃b d,a=some ⟨b,d,none⟩/\b<w.heap.size/\w.cell? ⟨b,d+i,none⟩=some (.int k (xs.getD i 0)):=by
 obtain⟨l,m,e,_,_,g⟩:=h;injection e with j _ _
 subst j;exact g i f
def zS{c:Nat}{xs:List Int}(h:dc w k (av a xs.length c) xs)(n:Nat)(q:n<=xs.length):dc w k (av a n c) (xs.take n):=by
 obtain⟨r,f,e,s,l,m⟩:=h;simp only[bG,bK]at e;obtain⟨rfl,rfl⟩:=e;have g:(xs.take n).length=n:=by simp;omega
 refine⟨a,c,by rw[g],by omega,⟨by omega,l.2⟩,λi j=> ?_⟩;rw[g]at j;have⟨b,d,e,o,p⟩:=m i (by omega);refine⟨b,d,e,o,?_⟩;rw[p];simp[aU,j]
section
namespace mX
def bN(l:List UInt8)(k:Nat):Nat:=(l.getD k 0).toNat
def pD(l:List UInt8)(k:Nat):Bool:=decide (k<l.length)&&bN l k/64==2
def dec(l:List UInt8):Nat×Nat:=
 if bN l 0<0x80 then(bN l 0,1)
 else if bN l 0/32==6&&pD l 1 then
  (if(bN l 0%32)*64+bN l 1%64≥0x80 then((bN l 0%32)*64+bN l 1%64,2)else(65533,1))
 else if bN l 0/16==14&&pD l 1&&pD l 2 then
  (if(bN l 0%16)*4096+(bN l 1%64)*64+bN l 2%64≥0x800&&Utf8.valid ((bN l 0%16)*4096+(bN l 1%64)*64+bN l 2%64:Nat)then((bN l 0%16)*4096+(bN l 1%64)*64+bN l 2%64,3)else(65533,1))
 else if bN l 0/8==30&&pD l 1&&pD l 2&&pD l 3 then
  (if(bN l 0%8)*262144+(bN l 1%64)*4096+(bN l 2%64)*64+bN l 3%64≥0x10000&&Utf8.valid ((bN l 0%8)*262144+(bN l 1%64)*4096+(bN l 2%64)*64+bN l 3%64:Nat)then((bN l 0%8)*262144+(bN l 1%64)*4096+(bN l 2%64)*64+bN l 3%64,4)else(65533,1))
 else(65533,1)
def SQ(s:ByteArray)(i k:Nat):(s.get! (i+k)).toNat=bN (s.data.toList.drop i) k:=by
 unfold bN;congr 1;rw[aU,List.getElem?_drop]
 show s.data[i+k]! =_
 rw[getElem!_def,<-Array.getElem?_toList];cases s.data.toList[i+k]? <;>rfl
def WD(s:ByteArray)(i k:Nat):(i+k<s.size)=(k<(s.data.toList.drop i).length):=by
 have:s.size=s.data.toList.length:=rfl;rw[this,j8];apply propext;omega
def mY(s:ByteArray)(i:Nat):Utf8.decode s i=dec (s.data.toList.drop i):=by
 simp only[Utf8.decode,dec,SQ,WD,pD,Utf8.runeError];rfl
def good(c:Nat):Bool:=(decide (c<0xD800)||(decide (0xE000<=c)&&decide (c<=0x10FFFF)))&&decide (c≠65533)
def enc(c:Nat):List UInt8:=
 if c<0x80 then [UInt8.ofNat c]
 else if c<0x800 then [UInt8.ofNat (0xC0+c/64),UInt8.ofNat (0x80+c%64)]
 else if c<0x10000 then [UInt8.ofNat (0xE0+c/4096),UInt8.ofNat (0x80+c/64%64),UInt8.ofNat (0x80+c%64)]
 else [UInt8.ofNat (0xF0+c/262144),UInt8.ofNat (0x80+c/4096%64),UInt8.ofNat (0x80+c/64%64),UInt8.ofNat (0x80+c%64)]
def DU(c:Nat):Utf8.valid (c:Int)=(decide (c<0xD800)||(decide (0xE000<=c)&&decide (c<=0x10FFFF))):=by
 rw[Bool.eq_iff_iff];simp[Utf8.valid];omega
def Ov(c:Nat):1<=(enc c).length/\(enc c).length<=4:=by
 unfold enc
 repeat' split
 all_goals simp
def P4(l:List UInt8)(k:Nat):bN l k<256:=(l.getD k 0).toNat_lt
variable{l:List UInt8}
def kn{k:Nat}(h:pD l k=true):k<l.length/\128<=bN l k/\bN l k<192:=by
 simp[pD]at h;omega
def Ow(h:1<=l.length):l=UInt8.ofNat (bN l 0)::l.drop 1:=by
 match l,h with
 |a::l,_=>simp[bN]
def I5(l:List UInt8)(i k:Nat):bN (l.drop i) k=bN l (i+k):=by
 simp[bN,aU,List.getElem?_drop]
def tI(l:List UInt8):∀n:Nat,n<=l.length->l=(List.range n).map (λk=>UInt8.ofNat (bN l k))++l.drop n
 |0,_=>by simp
 |n+1,h=>by
  have b:=tI l n (by omega);have a:=Ow (l:=l.drop n) (by simp;omega);rw[I5,List.drop_drop,bM]at a;rw[List.range_succ,gF,h_];simp only[gi,List.map_nil,List.cons_append,List.nil_append];rw[<-a];exact b
def SR(m:l≠[])(h:(dec l).1≠65533):good (dec l).1=true/\(dec l).2=(enc (dec l).1).length/\l=enc (dec l).1++l.drop (dec l).2:=by
 have d:1<=l.length:=by cases l with|nil=>exact bL rfl m|cons a l=>simp
 have q:=P4 l 0;unfold dec at h⊢;split
 .rename_i e
  rw[aI e]at h;refine⟨by simp[good];omega,by simp[enc,e],?_⟩;simp only[enc,e,if_true];exact Ow d
 .rename_i e
  rw[aC e]at h;split
  .rename_i f
   rw[aI f]at h;simp only[cV,beq_iff_eq]at f;have⟨i,j,k⟩:=kn f.2;split
   .rename_i c
    rw[aI c]at h;refine⟨by simp[good];omega,?_,?_⟩
    .simp only[enc];rw[aC (by omega),aI (by omega)];rfl
    .simp only[enc]
     rw[aC (by omega),aI (by omega)];have:=tI l 2 (by omega);simp[List.range_succ]at this;rw[show 0xC0+(bN l 0%32*64+bN l 1%64)/64=bN l 0 by omega,show 0x80+(bN l 0%32*64+bN l 1%64)%64=bN l 1 by omega];simpa using this
   .rename_i c;rw[aC c]at h;exact bL rfl h
  .rename_i f
   rw[aC f]at h;split
   .rename_i c
    rw[aI c]at h;simp only[cV,beq_iff_eq]at c;have⟨i,j,k⟩:=kn c.1.2;have⟨n,o,p⟩:=kn c.2;split
    .rename_i b
     rw[aI b]at h;rw[DU]at b;simp at b;refine⟨by simp[good];omega,?_,?_⟩
     .simp only[enc];rw[aC (by omega),aC (by omega),aI (by omega)];rfl
     .simp only[enc]
      rw[aC (by omega),aC (by omega),aI (by omega)];have:=tI l 3 (by omega);simp[List.range_succ]at this;rw[show 0xE0+(bN l 0%16*4096+bN l 1%64*64+bN l 2%64)/4096=bN l 0 by omega,show 0x80+(bN l 0%16*4096+bN l 1%64*64+bN l 2%64)/64%64=bN l 1 by omega,
       show 0x80+(bN l 0%16*4096+bN l 1%64*64+bN l 2%64)%64=bN l 2 by omega]
      simpa using this
    .rename_i b;rw[aC b]at h;exact bL rfl h
   .rename_i c
    rw[aC c]at h;split
    .rename_i b
     rw[aI b]at h;simp only[cV,beq_iff_eq]at b;have⟨i,j,k⟩:=kn b.1.1.2;have⟨n,o,p⟩:=kn b.1.2;have⟨r,s,t⟩:=kn b.2;split
     .rename_i g
      rw[aI g]at h;rw[DU]at g;simp at g;refine⟨by simp[good];omega,?_,?_⟩
      .simp only[enc];rw[aC (by omega),aC (by omega),aC (by omega)];rfl
      .simp only[enc]
       rw[aC (by omega),aC (by omega),aC (by omega)];have:=tI l 4 (by omega);simp[List.range_succ]at this;rw[show 0xF0+(bN l 0%8*262144+bN l 1%64*4096+bN l 2%64*64+bN l 3%64)/262144=bN l 0 by omega,
        show 0x80+(bN l 0%8*262144+bN l 1%64*4096+bN l 2%64*64+bN l 3%64)/4096%64=bN l 1 by omega,
        show 0x80+(bN l 0%8*262144+bN l 1%64*4096+bN l 2%64*64+bN l 3%64)/64%64=bN l 2 by omega,
        show 0x80+(bN l 0%8*262144+bN l 1%64*4096+bN l 2%64*64+bN l 3%64)%64=bN l 3 by omega]
       simpa using this
     .rename_i g;rw[aC g]at h;exact bL rfl h
    .rename_i b;rw[aC b]at h;exact bL rfl h
def mZ(l:List UInt8):1<=(dec l).2/\(dec l).2<=4:=by
 unfold dec
 repeat' split
 all_goals simp
end mX
end
section
namespace mX
def nz:Nat->List UInt8->Option (List Nat)
 |0,_=>some []
 |_+1,[]=>some []
 |n+1,a::l=>if(dec (a::l)).1=65533 then none else(nz n ((a::l).drop (dec (a::l)).2)).map ((dec (a::l)).1::·)
def kq(l:List UInt8):Option (List Nat):=nz l.length l
def jj(n:Nat):nz n []=some []:=by cases n<;>rfl
def nZ(n:Nat)(l:List UInt8)(b:l≠[]):
 nz (n+1) l=if(dec l).1=65533 then none else(nz n (l.drop (dec l).2)).map ((dec l).1::·):=by
 cases l with
 |nil=>exact bL rfl b
 |cons a l=>rfl
def wN:∀(n:Nat) (l:List UInt8),l.length<=n->∀rs,nz n l=some rs->(∀r∈rs,good r=true)/\l=rs.flatMap enc
 |0,l,h,rs,b=>by
  have:l=[]:=List.length_eq_zero_iff.1 (by omega);subst this;simp only[nz,bA]at b;subst b;simp
 |n+1,l,h,rs,b=>by
  by_cases c:l=[]
  .subst c
   rw[jj]at b;simp only[bA]at b;subst b;simp
  .rw[nZ n l c]at b
   split at b
   .cases b
   .rename_i f
    have⟨g,m,i⟩:=SR c f;have o:=mZ l;have j:1<=l.length:=by cases l with|nil=>exact bL rfl c|cons a l=>simp
    cases hm:nz n (l.drop (dec l).2)with
    |none=>rw[hm]at b;cases b
    |some d=>
     rw[hm]at b;simp only[Option.map_some,bA]at b;subst b;have⟨k,e⟩:=wN n (l.drop (dec l).2) (by simp;omega) d hm;refine⟨λr b=> ?_,?_⟩
     .obtain rfl|b:=List.mem_cons.1 b
      .exact g
      .exact k r b
     .rw[eI,<-e]
      exact i
def wO:∀(n m:Nat) (l:List UInt8),l.length<=n->l.length<=m->nz n l=nz m l
 |0,m,l,h,_=>by
  have:l=[]:=List.length_eq_zero_iff.1 (by omega);subst this;rw[jj,jj]
 |n+1,0,l,_,h=>by
  have:l=[]:=List.length_eq_zero_iff.1 (by omega);subst this;rw[jj,jj]
 |n+1,m+1,l,h,b=>by
  by_cases a:l=[]
  .subst a;rw[jj,jj]
  .rw[nZ n l a,nZ m l a]
   have c:=mZ l;rw[wO n m (l.drop (dec l).2) (by simp;omega) (by simp;omega)]
variable{l:List UInt8}
def zT{rs:List Nat}(h:kq l=some rs):(∀r∈rs,good r=true)/\l=rs.flatMap enc:=
 wN _ l (aP _) rs h
def SS(rs:List Nat):rs.length<=(rs.flatMap enc).length:=by
 induction rs with
 |nil=>simp
 |cons r rs a=>have:=Ov r;simp only[eI,bF,cG];omega
def P5{rs:List Nat}(h:kq l=some rs):rs.length<=l.length:=by
 obtain⟨_,rfl⟩:=zT h;exact SS rs
def left(l:List UInt8)(pos:Nat):Option (List Nat):=nz l.length (l.drop pos)
def DV{pos:Nat}(h:pos<l.length):
 left l pos=if(dec (l.drop pos)).1=65533 then none else(left l (pos+(dec (l.drop pos)).2)).map ((dec (l.drop pos)).1::·):=by
 have a:l.drop pos≠[]:=by intro e;have:=congrArg List.length e;simp at this;omega
 unfold left;rw[wO l.length (l.length+1) (l.drop pos) (by simp) (by simp;omega),nZ _ _ a,List.drop_drop]
def SU{pos:Nat}(h:¬pos<l.length):left l pos=some []:=by
 unfold left;rw[List.drop_eq_nil_of_le (by omega),jj]
def zU(l:List UInt8):left l 0=kq l:=by simp[left,kq]
def iX(l:List UInt8):Int:=match kq l with|some rs=>rs.length|none=> -1
def mQ(l:List UInt8):Bool:=decide (1<=iX l)&&decide (iX l<=12)
def iA(l:List UInt8):Bool:=decide (0<=iX l)&&decide (iX l<=16)
def Fo(o:Option (List Nat)):List Int:=match o with|some rs=>rs.map (λ(r:Nat)=>(r:Int))|none=> []
def ZN(l:List UInt8):iX l<=l.length/\ -1<=iX l:=by
 unfold iX;split
 .rename_i a h;have:=P5 h;omega
 .omega
def I6{pos:Nat}{a:List Nat}{d:Nat×Nat}(b:left l pos=if d.1=65533 then none else(left l (pos+d.2)).map (d.1::·))(c:kq l=(left l pos).map (a++·))(h:d.1=65533):kq l=none:=by
 rw[c,b,aI h];rfl
def DW{pos:Nat}{a:List Nat}{d:Nat×Nat}(b:left l pos=if d.1=65533 then none else(left l (pos+d.2)).map (d.1::·))(c:kq l=(left l pos).map (a++·))(h:¬d.1=65533):
 kq l=(left l (pos+d.2)).map ((a++ [d.1])++·):=by
 rw[c,b,aC h];cases left l (pos+d.2)<;>simp
def DX{pos:Nat}{a:List Nat}(b:kq l=(left l pos).map (a++·))(h:¬pos<l.length):kq l=some a:=by
 rw[b,SU h];simp
end mX
end
open mX
def zV(a b:ByteArray)(w:ae):
 aj prog 89 #[aA a,aA b] w λe w'=>e=ax (Lib.compareBytes a.data.toList b.data.toList:Int)/\w=w':=by
 go_in;go_wp2;rw[run_callFunc_extern func165 (by kernel_rfl) (by kernel_rfl) (by kernel_rfl) (e:=Extern.BytealgCompare.compare) (by kernel_rfl),Lib.run_compareString];simp only[Result.andThen];rw[Oper.upon_value];go_wp2;go_ret;exact⟨rfl,rfl⟩
def SV(s:ByteArray)(w:ae)(t:s.size<=maxLen):
 aj prog 77 #[aA s] w λe w'=>e=ax (iX s.data.toList:Int)/\ai w w w':=by
 unfold maxLen at t;go_in;go_wp2;go_loopw [3,5] (λn _ wr=>∃(pos:Nat) (a:List Nat),n=an ar a.length/\kq s.data.toList=(left s.data.toList pos).map (a++·)/\a.length<=pos/\pos<=s.size+3/\wr=w.iter s pos) (λ_ _ wr=>s.size-wr.iterPos w)
 case atStart=>exact⟨0,[],rfl,by rw[zU];cases kq s.data.toList<;>rfl,by simp,bz _,rfl⟩
 case round=>
  obtain⟨pos,a,rfl,f,v,p,rfl⟩:=hrel;by_cases g:pos<s.size
  .have j:∀c,(Instr.next w true c).run prog (w.iter s pos)=_:=λc=>run_next_any w s pos c g
   have b:=DV (l:=s.data.toList) (pos:=pos) g;rw[<-mY]at b;have k:=mZ (s.data.toList.drop pos);rw[<-mY]at k;generalize q:Utf8.decode s pos=d at*;have⟨r,h⟩:=aK b f;by_cases i:d.1=65533
   .have u:((d.1:Int)==65533)=true:=by simp;omega
    have m:=au i;clear b f i q;go_wp2;go_ret;exact⟨kH (by simp[iX,I6 r.o h.o m.o]),(aO _ _).alloc (aP _) _⟩
   .have u:((d.1:Int)==65533)=false:=by simp;omega
    have m:=au i;clear b f i q;go_wp2;go_roundw
    case rel=>exact⟨pos+d.2,a++ [d.1],by simp,DW r.o h.o m.o,by simp;omega,by omega,rfl⟩
    case measure=>simp;omega
  .have j:∀c,(Instr.next w true c).run prog (w.iter s pos)=_:=λc=>run_next_end w s pos c g
   have h:=au f;clear f;go_wp2;go_ret;exact⟨kH (by simp[iX,DX h.o g]),(aO _ _).alloc (aP _) _⟩
def WE(l:List UInt8):mQ l=(decide (1<=iX l)&&decide (iX l<=12)):=rfl
def SW(l:List UInt8):iA l=(decide (0<=iX l)&&decide (iX l<=16)):=rfl
def SX(s:ByteArray)(w:ae)(b:s.size<=maxLen):
 aj prog 88 #[aA s] w λe w'=>e=ax (aw (mQ s.data.toList))/\ai w w w':=by
 generalize a:mQ s.data.toList=v;have c:=au a;clear a;by_cases d:1<=iX s.data.toList
 all_goals
  go_in;go_wp2_with (go_at_call 77;refine oO (SV _ _ b) ?_;intro u);go_ret;exact⟨cA (by rw[<-c.o,WE];simp[d]<;>omega),bX _ _⟩
def Mo(s:ByteArray)(w:ae)(b:s.size<=maxLen):
 aj prog 50 #[aA s] w λe w'=>e=ax (aw (iA s.data.toList))/\ai w w w':=by
 generalize a:iA s.data.toList=v;have c:=au a;clear a;by_cases d:0<=iX s.data.toList
 all_goals
  go_in;go_wp2_with (go_at_call 77;refine oO (SV _ _ b) ?_;intro u);go_ret;exact⟨cA (by rw[<-c.o,SW];simp[d]<;>omega),bX _ _⟩
section
open Go.ChangeMaps Go.MapKept
structure aQ(S:List Nat)(w w':ae):Prop where
 os:w'.os=w.os
 tape:w'.tape=w.tape
 output:w'.output=w.output
 size:w.heap.size<=w'.heap.size
 block:∀k,k<w.heap.size->k∉S->w'.heap[k]? =w.heap[k]?
variable{S:List Nat}{w w' w'':ae}
def aQ.refl(S:List Nat)(w:ae):aQ S w w:=⟨rfl,rfl,rfl,aP _,λ_ _ _=>rfl⟩
def aQ.trans(h:aQ S w w')(g:aQ S w' w''):aQ S w w'':=
 ⟨g.os.trans h.os,g.tape.trans h.tape,g.output.trans h.output,bD h.size g.size,λk a c=>(g.block k (bP a h.size) c).trans (h.block k a c)⟩
def aQ.mono{S':List Nat}(h:aQ S w w')(a:∀x∈S,x∈S'):aQ S' w w':=⟨h.os,h.tape,h.output,h.size,λk c d=>h.block k c (λe=>d (a k e))⟩
def aQ.drew(h:aQ S w w'):aQ S w w'.drew:=⟨h.os,h.tape,h.output,h.size,h.block⟩
def aQ.of_below(h:ai w w w'):aQ S w w':=⟨h.os,h.tape,h.output,h.size,λk a _=>h.block k a⟩
variable{b:Nat}
def aQ.nA(h:w.grownBy w' (some b)):aQ [b] w w':=⟨h.os,h.tape,h.output,h.size,λk a c=>h.block k a (by simpa using c)⟩
def aQ.ext(h:aQ S w w')(x:ae):aQ S w (ext w' x):=h.trans (aQ.of_below (bX _ _))
def aQ.alloc(h:aQ S w w')(o:Obj):aQ S w (w'.alloc o):=h.trans (aQ.of_below ((aO _ _).alloc (aP _) o))
def aQ.setCell(h:aQ S w w')(a:Addr)(c:a.block∈S)(u:ah):aQ S w (w'.setCell a u):=
 h.trans ⟨rfl,rfl,rfl,by simp[World.setCell],λk _ d=>Below.heap_setCell _ _ _ _ (λe=>d (e▸c))⟩
def lT(w:ae){k:Nat}(o:Obj)(h:k≠b):(Go.ChangeMaps.setBlock w b o).heap[k]? =w.heap[k]? :=by
 simp[Go.ChangeMaps.setBlock,pB,Ne.symm h]
def pE(w:ae)(o:Obj)(h:b<w):(Go.ChangeMaps.setBlock w b o).heap[b]? =some o:=by
 simp[Go.ChangeMaps.setBlock,pB,h]
def P6(w:ae)(b:Nat)(o:Obj):(Go.ChangeMaps.setBlock w b o).heap.size=w.heap.size:=by simp[Go.ChangeMaps.setBlock]
def aQ.setBlock(h:aQ S w w')(a:b∈S)(o:Obj):aQ S w (Go.ChangeMaps.setBlock w' b o):=
 h.trans ⟨rfl,rfl,rfl,by simp[Go.ChangeMaps.setBlock],λk _ c=>lT _ _ (λe=>c (e▸a))⟩
def aQ.below{B:Nat}(h:aQ S w w')(a:∀x∈S,B<=x)(c:B<=w):ai B w w':=
 ⟨h.os,h.tape,h.output,h.size,λk d=>h.block k (by omega) (λe=>by have:=a k e;omega)⟩
def aQ.at{k:Nat}{o:Obj}(h:aQ S w w')(a:w.heap[k]? =some o)(c:k∉S):w'.heap[k]? =some o:=
 (h.block k (Array.getElem?_eq_some_iff.1 a).1 c).trans a
def aQ.aJ(h:aQ [] w w'):ai w w w':=h.below (by simp) (aP _)
def aE{w:ae}{i:Nat}{cs:Array ah}{t:TypeId}{a:Nat×Nat}(h:w.heap[b]? =some (aB cs t a))(u:ah):
 (w.setCell ⟨b,i,none⟩ u).heap[b]? =some (aB (cs.setIfInBounds i u) t a):=by
 simp[World.setCell,Array.getElem?_modify,h]
def az{w:ae}{o:Obj}(h:w.heap[b]? =some o):b<w:=(Array.getElem?_eq_some_iff.1 h).1
def aQ.new{S T:List Nat}{w w' w'':ae}(h:aQ S w w')(g:aQ T w' w'')(c:∀x∈T,w.heap.size<=x):aQ S w w'':=
 ⟨g.os.trans h.os,g.tape.trans h.tape,g.output.trans h.output,bD h.size g.size,λk a d=>(g.block k (bP a h.size) (λe=>by have:=c k e;omega)).trans (h.block k a d)⟩
def ch{w w':ae}(h:ai w.heap.size w w'):aQ ([]:List Nat) w w':=aQ.of_below h
end
open Go.ChangeShapes Go.WideShapes Go.ChangeAt
def aT{α:Type}[Inhabited α](f:α->List ah)(sz:Nat)(w:ae)(v:ah)(xs:List α):Prop:=
 ∃a cap,v=av a xs.length cap/\xs.length<=maxLen/\xs.length<=cap/\∀i,i<xs.length->∃b off,a=some ⟨b,off,none⟩/\b<w.heap.size/\
  ∀j u,(f (xs.getD i ()))[j]? =some u->w.cell? ⟨b,off+i*sz+j,none⟩=some u
theorem aT.below{g:Type}[Inhabited g]{f:g->List ah}{sz:Nat}{w w':ae}{v:ah}{xs:List g}(h:aT f sz w v xs)(l:ai w w w'):aT f sz w' v xs:=by
 obtain⟨a,k,m,n,o,q⟩:=h;refine⟨a,k,m,n,o,λi r=> ?_⟩;have⟨b,c,e,d,s⟩:=q i r;exact⟨b,c,e,bP d l.size,λj u t=>(l.cell (p:=⟨b,c+i*sz+j,none⟩) d).trans (s j u t)⟩
theorem aT.slot{g:Type}[Inhabited g]{f:g->List ah}{sz:Nat}{w:ae}{a:Option Addr}{n c:Nat}{xs:List g}(h:aT f sz w (av a n c) xs)(i:Nat)(k:i<xs.length):
 ∃b d,a=some ⟨b,d,none⟩/\b<w.heap.size/\∀j u,(f (xs.getD i ()))[j]? =some u->w.cell? ⟨b,d+i*sz+j,none⟩=some u:=by
 obtain⟨o,p,e,_,_,l⟩:=h;injection e with m _ _
 subst m;exact l i k
theorem zW{b:Type}[Inhabited b]{p:Nat->b->Prop}{m:Nat}(h:∀i,i<m->∃v,p i v):∃V:Nat->b,∀i,i<m->p i (V i):=by
 classical
 refine⟨λi=>if a:i<m then(h i a).choose else default,λi a=> ?_⟩;simp only[a,dif_pos];exact(h i a).choose_spec
theorem P7{J:Type}[Inhabited J](f:J->List ah)(sz:Nat)(K:J->Prop){H:Type}{enc:TypeId×ah->H}{W:ae}{base:Nat}{T E:TypeId}{v:ah}{d:DataW H}{p:List MemPlace}{P:Program}
 (X:P.underlying T=some (.slice E)) (Y:P.cellsOf E=sz) (I:0<sz)
 (s:∀t cs x,DataW.trod enc P W 0 (λ_=>true) true t E cs=some x->∃r,cs=f r/\K r)
 (hv:Value.okWide P W .any base T v) (h:DataW.Trod enc P W 0 (λ_=>true) true T v d p):∃xs,aT f sz W v xs/\∀x∈xs,K x:=by
 obtain⟨a,L,cap,rfl⟩:=okWide_slice X hv;obtain⟨t,hf⟩:=h;obtain⟨q,_⟩|⟨x,l,c,m,n,D,Pl,q,_,hl,hm,B,_,M⟩:=Go.Deep.open_slice X hf
 .simp[Value.cells]at q
  obtain⟨rfl,rfl,rfl⟩:=q;exact⟨[],⟨none,0,rfl,bz _,aP _,λi w=>bL w (by simp)⟩,λx M=>by simp at M⟩
 .simp[Value.cells]at q
  obtain⟨rfl,rfl,rfl⟩:=q;simp at B;subst B;have⟨V,N⟩:=zW (m:=m) (p:=λi r=>W.cells? 0 (x.add (i*P.cellsOf E)) (P.cellsOf E)=some (f r)/\K r) (λi w=>by
   have⟨cs',h1,h2⟩:=M i w;obtain⟨r,rfl,hr⟩:=s _ _ _ h2;exact⟨r,h1,hr⟩)
  refine⟨(List.range L).map V,⟨some x,m,by simp,by simp;omega,by simpa using hl,λi w=> ?_⟩,λy Z=> ?_⟩
  .simp at w
   have O:i<m:=by omega
   have⟨_,C,g⟩:=World.cells?_some (N i O).1;rw[Y]at C g;have Q:=g 0 I;rw[jZ (by omega)]at Q;obtain⟨b,U,F⟩:=x;have z:F=none:=by
    have⟨_,A,k⟩:=World.cells?_some (N 0 (by omega)).1;rw[Y]at A k;have G:=k 0 I;rw[jZ (by omega)]at G;have I:=World.cell?_spot G;simpa[Addr.add]using I
   subst z;have e:∀o i,(⟨b,o,none⟩:Addr).add i=⟨b,o+i,none⟩:=λo i=>by cases i<;>simp[Addr.add]
   rw[e,e]at Q;refine⟨b,U,rfl,iV W _ Q,λj u hu=> ?_⟩;have hj:j<sz:=by
    have:=(List.getElem?_eq_some_iff.1 hu).1;simp[aU,w]at this;omega
   have:=g j hj;rw[e,e]at this;rw[this];simpa[aU,w]using hu
  .simp at Z
   obtain⟨i,w,rfl⟩:=Z;exact(N i (by omega)).2
open Go.ChangeMaps
def jJ(a b:Int):Int:=if a<b then-1 else if b<a then 1 else 0
def I7(a b:Int):Int:=if a=0 then b else a
def zt(a b:Int)(w:ae):aj prog 139 #[a,b] w λe w'=>e=ax (jJ a b:Int)/\w=w':=by
 have c:∀x:Int,aj prog 166 #[x] w λe w'=>e=ax (aw false)/\w=w':=λx=>by
  go_in;go_wp2;go_ret;exact⟨rfl,rfl⟩
 unfold jJ;have d:=au c;clear c;by_cases f:a<b
 .go_in
  go_wp2_with (go_at_call 166;refine aH (d.o _) ?_);go_ret;exact⟨rfl,rfl⟩
 .by_cases g:b<a
  .go_in
   go_wp2_with (go_at_call 166;refine aH (d.o _) ?_);go_ret;exact⟨rfl,rfl⟩
  .go_in
   go_wp2_with (go_at_call 166;refine aH (d.o _) ?_);go_ret;exact⟨rfl,rfl⟩
def orC(a b:Int)(g:Nat)(w:ae)(h:w.heap[g]? =some (aB #[a,b] 3 (0,0))):
 aj prog 138 #[av (some ⟨g,0,none⟩) 2 2] w λe w'=>e=ax (I7 a b:Int)/\w=w':=by
 have⟨r,s⟩:=dk h;have m:I7 a b=if a=0 then b else a:=rfl
 generalize I7 a b=z at*;have d:=au m;clear h m;go_in;go_wp2
 go_loop [8] (λi=>∃k:Nat,i=an ar k/\k<=2/\(0<k->a=0)/\(1<k->b=0)) (λi=>2-(intOf i).toNat)
 case atStart=>exact⟨0,rfl,by omega,by omega,by omega⟩
 case round=>
  obtain⟨k,rfl,t,n,p⟩:=hrel;have⟨f,q⟩:=aK n p;clear n p;obtain rfl|rfl|rfl:=(by omega:k=0∨k=1∨k=2)
  .by_cases c:a=0
   .have j:(a !=0)=false:=by simp[c]
    have l:=au c;clear c;go_wp2
    go_round
    case rel=>exact⟨1,rfl,by omega,λ_=>l.o,by omega⟩
    case measure=>simp[intOf]
   .have j:(a !=0)=true:=by simp[c]
    go_wp2;go_ret;exact⟨kH (by rw[d.o,aC c]),rfl⟩
  .by_cases c:b=0
   .have j:(b !=0)=false:=by simp[c]
    have l:=au c;clear c;go_wp2
    go_round
    case rel=>exact⟨2,rfl,by omega,λ_=>f.o (by omega),λ_=>l.o⟩
    case measure=>simp[intOf]
   .have j:(b !=0)=true:=by simp[c]
    go_wp2;go_ret;exact⟨kH (by rw[d.o,aI (f.o (by omega))]),rfl⟩
  .go_wp2
   go_ret;exact⟨kH (by rw[d.o,aI (f.o (by omega)),q.o (by omega)]),rfl⟩
structure fI where
 len:Int
 text:ByteArray
deriving Inhabited
def fI.cells(k:fI):List ah:=[an ar k.len,aA k.text]
def nX(a b:ByteArray):Int:=Lib.compareBytes a.data.toList b.data.toList
def Fp(a b:fI):Int:=I7 (jJ a.len b.len) (nX a.text b.text)
def gI(a b:fI):Bool:=decide (Fp a b<0)
def dt{w u:ae}{o:Obj}(h:u=w.alloc o):u.heap[w.heap.size]? =some o/\aQ ([]:List Nat) w u/\w.heap.size<u.heap.size:=by
 subst h;exact⟨a_ _ _,(aQ.refl _ _).alloc _,by simp⟩
def rZ{w u:ae}{a b:Obj}(h:u=(w.alloc a).alloc b):u.heap[w.heap.size]? =some a/\u.heap[w.heap.size+1]? =some b/\aQ ([]:List Nat) w u/\w.heap.size+1<u.heap.size:=by
 subst h;refine⟨?_,?_,((aQ.refl _ _).alloc _).alloc _,by simp⟩
 .rw[fH _ _ _ (by simp)]
  exact a_ _ _
 .have:=a_ (w.alloc a) b
  simpa using this
def WG(c d:Int)(a b:ByteArray)(w:ae):aj prog 111 #[aG #[c,aA a],aG #[d,aA b]] w λe w'=>e=ax (Fp ⟨c,a⟩ ⟨d,b⟩:Int)/\ai w w w':=by
 have h:Fp ⟨c,a⟩ ⟨d,b⟩=I7 (jJ c d) (nX a b):=rfl;rw[h];have i:∀u,aj prog 89 #[aA a,aA b] u λe w'=>e=ax (nX a b:Int)/\u=w':=λu=>zV a b u
 have j:=λu=>zt c d u
 have k:∀(u:ae),aj prog 138 #[av (some ⟨u,0,none⟩) 2 2] (u.alloc (aB #[an ar (jJ c d),an ar (nX a b)] 3 (0,0))).drew λe w'=>e=ax (I7 (jJ c d) (nX a b):Int)/\(u.alloc (aB #[an ar (jJ c d),an ar (nX a b)] 3 (0,0))).drew=w':=λu=>orC _ _ _ _ (a_ _ _)
 generalize I7 (jJ c d) (nX a b)=z3 at*;generalize jJ c d=z1 at*;generalize nX a b=z2 at*;have⟨u,f⟩:=aD ((w.alloc (aB #[c,aA a] 116 (0,0))).alloc (aB #[d,aA b] 116 (0,0)));have⟨l,m,g,s⟩:=rZ f;have⟨t,v⟩:=dk l;have⟨x,y⟩:=dk m;have⟨n,p,q,r,G⟩:=iI j i k f g;clear j i k h f g l m;go_in;go_wp2_with fail
 rw[<-r.o];go_region_held3 (λw'=>w'.cell? w.heap.size=c/\w'.cell? ⟨w,1,none⟩=some (aA a)/\w'.cell? ⟨w.heap.size+1,0,none⟩=d/\w'.cell? ⟨w.heap.size+1,1,none⟩=some (aA b)) (go_keep) (first
  |(go_at_call 139;(with_reducible refine aH (n.o _) ?_))
  |(go_at_call 89;(with_reducible refine aH (p.o _) ?_))
  |(go_at_call 138;(with_reducible refine aH (q.o _) ?_)))
 all_goals
  go_wp2_with fail
  go_ret;exact⟨rfl,((G.o.alloc _).trans (aQ.refl _ _).drew).aJ⟩
end Go.Proofs.YtjpnlfpompnpkaaGreat
