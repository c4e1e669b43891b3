import Derived.Test.YtjpnlfpompnpkaaGreatP05
namespace Go.Proofs.YtjpnlfpompnpkaaGreat
open Go.RowKit Go.Proofs.Tryz
open Go.Value renaming int->an,slice->av,bool->aw,string->aA,tuple->aM,pointer->aL,agg->aG
open Go.IntKind renaming i64->ar
open Go.Ending renaming returned->ax
open Go.Obj renaming cells->aB
open Go renaming World->ae
open Go.RowKit renaming Below->ai
set_option maxRecDepth 100000
set_option linter.all false
section
inductive Tg where
 |keep
 |co
 |aS
 |slot
 |timer
 |FO
 |FP (id:Int)
 |mg (id:Int)
 |told
 |item (k:Nat)
 |net
 |M7 (i:Nat)
 |FQ (i:Nat)
 |dmap (i:Nat)
 |FR (i:Nat) (s:Int)
 |CM (i:Nat)
 |JR (i:Nat)
 |cl
 |recs
 |tmp
 |rc (k:Nat)
abbrev cj:=Nat->Tg
def eP(τ:cj)(n:Nat)(t:Tg):cj:=λk=>if k<n then τ k else t
variable{t:Tg}
def dZ{τ:cj}{n k:Nat}(h:k<n):eP τ n t k=τ k:=aI h
def d_{τ:cj}{n k:Nat}(h:n<=k):eP τ n t k=t:=aC (by omega)
structure Fr(P:Tg->Prop)(τ br:cj)(w w':ae):Prop where
 os:w'.os=w.os
 tape:w'.tape=w.tape
 output:w'.output=w.output
 size:w.heap.size<=w'.heap.size
 old:∀k,k<w.heap.size->br k=τ k
 block:∀k,k<w.heap.size->¬P (τ k)->w'.heap[k]? =w.heap[k]?
variable{P Q:Tg->Prop}{τ br ad4:cj}{w w' w'':ae}
def Fr.refl(P:Tg->Prop)(τ:cj)(w:ae):Fr P τ τ w w:=⟨rfl,rfl,rfl,aP _,λ_ _=>rfl,λ_ _ _=>rfl⟩
def Fr.trans(h:Fr P τ br w w')(g:Fr P br ad4 w' w''):Fr P τ ad4 w w'':=
 ⟨g.os.trans h.os,g.tape.trans h.tape,g.output.trans h.output,bD h.size g.size,λk a=>(g.old k (bP a h.size)).trans (h.old k a),
  λk a b=>(g.block k (bP a h.size) (by rw[h.old k a];exact b)).trans (h.block k a b)⟩
def Fr.mono(h:Fr P τ br w w')(a:∀t,P t->Q t):Fr Q τ br w w':=⟨h.os,h.tape,h.output,h.size,h.old,λk b c=>h.block k b λe=>c (a _ e)⟩
def Fr.dC{S:List Nat}(h:aQ S w w')(b:∀x∈S,P (τ x))(t:Tg):Fr P τ (eP τ w t) w w':=
 ⟨h.os,h.tape,h.output,h.size,λ_ a=>dZ a,λk a c=>h.block k a λe=>c (b k e)⟩
def Fr.fm{S:List Nat}(h:aQ S w w')(a:∀x∈S,P (τ x)):Fr P τ τ w w':=
 ⟨h.os,h.tape,h.output,h.size,λ_ _=>rfl,λk b c=>h.block k b λe=>c (a k e)⟩
def Fr.of_below(h:ai w w w')(P:Tg->Prop)(τ:cj)(t:Tg):Fr P τ (eP τ w t) w w':=Fr.dC (ch h) (by simp) t
def Fr.eS(h:ai w w w')(P:Tg->Prop)(τ:cj):Fr P τ τ w w':=Fr.fm (ch h) (by simp)
variable{F:List Nat}
def Fr.kept(h:Fr P τ br w w')(b:∀x∈F,x<w)(hF:∀x∈F,¬P (τ x)):Kept F w w':=λx a=>h.block x (b x a) (hF x a)
def Fr.at{k:Nat}{o:Obj}(h:Fr P τ br w w')(a:w.heap[k]? =some o)(b:¬P (τ k)):w'.heap[k]? =some o:=(h.block k (az a) b).trans a
def Fr.tags(h:Fr P τ br w w')(b:∀x∈F,x<w)(hF:∀x∈F,τ x=t):∀x∈F,br x=t:=λx a=>(h.old x (b x a)).trans (hF x a)
def Fr.below{B:Nat}(h:Fr P τ br w w')(a:∀k,k<B->¬P (τ k))(c:B<=w):ai B w w':=⟨h.os,h.tape,h.output,h.size,λk b=>h.block k (by omega) (a k b)⟩
def Fro(t:Tg)(τ:cj)(F:List Nat):Prop:=∀x∈F,τ x=t
def Fro.next{F':List Nat}{n:Nat}(h:Fro t τ F)(b:∀x∈F,x<n)(c:∀x∈F',x∈F∨n<=x):Fro t (eP τ n t) F':=λx d=>by
 obtain a|a:=c x d
 .rw[dZ (b x a)];exact h x a
 .exact d_ a
end
end Go.Proofs.YtjpnlfpompnpkaaGreat
