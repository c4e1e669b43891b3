/-
  The law TopNothing: for every input it returns true, and its arguments read as they did; under no condition but the row's.
-/
import Derived.Test.YtjpnlfpompnpkaaGreatP30
import Derived.Test.YtjpnlfpompnpkaaGreatP37
namespace Go.Proofs.YtjpnlfpompnpkaaGreat
open Go.RowKit Go.Proofs.Tryz
open Go.Value renaming int->an,slice->av,bool->aw,string->aA,tuple->aM,pointer->aL,agg->aG
open Go.IntKind renaming i64->ar
open Go.Ending renaming returned->ax
open Go.Obj renaming cells->aB
open Go renaming World->ae,Value->ah,Calls->aj,Ending->ak
open Go.RowKit renaming Below->ai
set_option maxRecDepth 100000
set_option linter.all false
set_option maxHeartbeats 2000000
open Go.ChangeMaps mX
variable{P:Tg->Prop}{τ br:cj}{w w':ae}{c:aV}
def Od(x0:Int)(e:Int)(f:Int)(g:Int)(a:ByteArray)(b:Int)(d:Int)(w:ae):(Op.equalIn 10000 33 (aG #[(x0:Int),(e:Int),(f:Int),(g:Int),aA a,(b:Int),(d:Int)]) (aG #[(x0:Int),(e:Int),(f:Int),(g:Int),aA a,(b:Int),(d:Int)])).run prog w=.ok true w:=by
 have i:prog.underlying 33=some (.struct (prog.fieldsOf 33)):=by kernel_rfl
 have j:prog.underlying 31=some (.struct (prog.fieldsOf 31)):=by kernel_rfl
 show(Op.equalIn (9998+1+1) 33 _ _).run prog w=_
 rw[run_equalIn_struct w _ _ _ _ i (by kernel_rfl)];rw[show prog.fieldsOf 33=_ by unfold Program.fieldsOf;rw[underlying33]];refine gh (by decide) (run_part_plain w (by kernel_rfl) rfl) (run_part_plain w (by kernel_rfl) rfl) (mO _ _ _) ?_;refine gh (by decide) (run_part_plain w (by kernel_rfl) rfl) (run_part_plain w (by kernel_rfl) rfl) (mO _ _ _) ?_;refine gh (by decide) (run_part_plain w (by kernel_rfl) rfl) (run_part_plain w (by kernel_rfl) rfl) (mO _ _ _) ?_;refine gh (by decide) (run_part_plain w (by kernel_rfl) rfl) (run_part_plain w (by kernel_rfl) rfl) (mO _ _ _) ?_;have h:(part 31 #[(x0:Int),(e:Int),(f:Int),(g:Int),aA a,(b:Int),(d:Int)] 4).run prog w=.ok (aG #[aA a,(b:Int),(d:Int)]) w:=by kernel_rfl
 refine gh (by decide) h h ?_ rfl
 show(Op.equalIn (9997+1+1) 31 _ _).run prog w=_
 rw[run_equalIn_struct w _ _ _ _ j (by kernel_rfl)];rw[show prog.fieldsOf 31=_ by unfold Program.fieldsOf;rw[underlying31]];refine gh (by decide) (run_part_plain w (by kernel_rfl) rfl) (run_part_plain w (by kernel_rfl) rfl) (NW _ _ _) ?_;refine gh (by decide) (run_part_plain w (by kernel_rfl) rfl) (run_part_plain w (by kernel_rfl) rfl) (mO _ _ _) ?_;refine gh (by decide) (run_part_plain w (by kernel_rfl) rfl) (run_part_plain w (by kernel_rfl) rfl) (mO _ _ _) ?_;rfl
def Se(x0:Int)(a:Int)(b:Int)(d:Int)(e:ByteArray)(f:Int)(g:Int)(w:ae):(binOp .eql 33 (aG #[(x0:Int),(a:Int),(b:Int),(d:Int),aA e,(f:Int),(g:Int)]) (aG #[(x0:Int),(a:Int),(b:Int),(d:Int),aA e,(f:Int),(g:Int)])).run prog w=.ok (aw true) w:=by
 rw[run_eql_struct,Od];rfl
def V4(g h i j:Int)(k:ByteArray)(l n r s a:Int){t B d f:ah}{K:List (Int×Int×Int)}{L:List Int}(M:aT iE 3 w t K)(N:aT iE 3 w B K)(O:aT dX 1 w d L)(Q:aT dX 1 w f L):aj prog 19 #[aG #[g,h,i,j,aA k,l,n,r,s,t,a,d],aG #[g,h,i,j,aA k,l,n,r,s,B,a,f]] w λe w'=>e=ax (aw true)/\ai w w w':=by
 have⟨u,v⟩:=aD ((w.alloc (aB #[g,h,i,j,aA k,l,n,r,s,t,a,d] 45 (0,0))).alloc (aB #[g,h,i,j,aA k,l,n,r,s,B,a,f] 45 (0,0)));have⟨q,C⟩:=aD w.heap.size;have E:u.heap[q]? =some (aB #[g,h,i,j,aA k,l,n,r,s,t,a,d] 45 (0,0)):=by rw[v,C];exact(fH _ _ _ (by simp)).trans (a_ _ _)
 have F:u.heap[q+1]? =some (aB #[g,h,i,j,aA k,l,n,r,s,B,a,f] 45 (0,0)):=by
  have:q+1=(w.alloc (aB #[g,h,i,j,aA k,l,n,r,s,t,a,d] 45 (0,0))).heap.size:=by rw[C];simp
  rw[v,this];exact a_ _ _
 have b:ai w w u:=by rw[v];exact((aO _ _).alloc (aP _) _).alloc (by simp) _
 have⟨p0,p1,p2,p3,p4,p5,p6,p7,p8,p9,W,G⟩:=mD E;have⟨r0,r1,r2,r3,r4,r5,r6,r7,r8,r9,X,H⟩:=mD F;have Y:=az E;have Z:=az F;have⟨HI,HL⟩:=aK (Br (M.below b) (N.below b)) (λz (T:ai u u z)=>E7 ((O.below b).below T) ((Q.below b).below T));have hqq:=Se g h i j k l n;obtain⟨a1,c1,rfl,_⟩:=M;obtain⟨a2,c2,rfl,_⟩:=N;obtain⟨a3,c3,rfl,_⟩:=O;obtain⟨a4,c4,rfl,_⟩:=Q;have⟨HU,HQ,U⟩:=aX v C b;clear v C E F b;go_in;go_upto_region 1 with fail
 rw[<-HU.o,<-HQ.o];go_wp2_with fail
 refine HI.m ?_;rintro e y ⟨rfl,x⟩;have V:=au x;have m5:=(x.cell (p:=⟨q,11,none⟩) Y).trans G;have n5:=(x.cell (p:=⟨q+1,11,none⟩) Z).trans H;have I:=au (HL.o y x);clear x;go_wp2_with fail
 refine I.m ?_;rintro e y2 ⟨rfl,A⟩;have J:=au (U.o.trans ((V.o.trans (A.mono V.o.size)).mono U.o.size));clear A;go_wp2;go_ret;exact⟨rfl,J.o⟩
def YY(kd nd at':Int):cO:=⟨kd,nd,at',0,⟨#[]⟩,0,0⟩
def nU(kd nd:Int):List cO:=[YY kd nd 0,YY 4 nd 0,YY 5 0 (100+nd),YY 6 0 (-1-nd),YY 9 0 0,YY 10 nd 0,YY 11 (-nd) 0]
def jI(kd nd:Int)(es:List cO):List cO:=es.flatMap λe=>e::nU kd nd
def BY{x:di}{i:Int}(f:gL->gL)(h:¬(1<=i/\i<=x.ws.length)):x.upd i f=x:=by
 unfold di.upd di.wk;rw[aC h]
def YZ{n:Nat}{x:di}(h:f_ c n x){kd nd:Int}(b:¬(1<=kd/\kd<=12))(d:6<=nd){e:cO}(a:e∈nU kd nd):(bC c x e).1=x:=by
 have f:=h.wl;have g:=h.workers;have i:=h.nt.n;have j:=(aV.bounds h.co.may).n2;unfold nU YY at a;simp only[bQ,ez,or_false]at a;unfold bC cM;rcases a with rfl|rfl|rfl|rfl|rfl|rfl|rfl<;>simp only
 .repeat (first|rw[aC (by omega)]|rfl)
 .simp only[Int.reduceEq,if_false,if_true]
  rw[aC (by omega)]
 .simp only[Int.reduceEq,if_false,if_true]
  unfold eE;rw[aC (by unfold qm;simp;omega)]
 .simp only[Int.reduceEq,if_false,if_true]
  rw[aC (by unfold qm;simp;omega)]
 .simp only[Int.reduceEq,if_false,if_true]
  exact BY _ (by omega)
 .simp only[Int.reduceEq,if_false,if_true]
  exact BY _ (by omega)
 .simp only[Int.reduceEq,if_false,if_true,true_or]
  exact BY _ (by omega)
def Lp{n:Nat}{x:di}(h:f_ c n x){kd nd:Int}(b:¬(1<=kd/\kd<=12))(d:6<=nd):∀l:List cO,(∀e∈l,e∈nU kd nd)->(cT c x l).1=x
 | [],_=>rfl
 |e::l,f=>by
  unfold cT;rw[YZ h b d (f e (by simp))];exact Lp h b d l λa g=>f a (by simp[g])
def Fc{kd nd:Int}(b:¬(1<=kd/\kd<=12))(d:6<=nd):∀(es:List cO) {n:Nat} {x:di},f_ c n x->(cT c x (jI kd nd es)).1=(cT c x es).1/\(cT c x (jI kd nd es)).2.length=8*es.length/\∀k,(cT c x (jI kd nd es)).2[8*k]? =(cT c x es).2[k]?
 | [],_,_,_=>⟨rfl,rfl,λk=>by simp[jI,cT]⟩
 |e::es,n,x,h=>by
  have f:=rW h e;have⟨i,j,l⟩:=Fc b d es f;have m:jI kd nd (e::es)=[e]++(nU kd nd++jI kd nd es):=by simp[jI]
  have o:=Lp f b d (nU kd nd) λa p=>p
  have g:(cT c (bC c x e).1 (nU kd nd)).2.length=7:=by rw[kE];rfl
  rw[m,nm,nm];simp only[cT,o];refine⟨i,by simp only[bF,cG,dx,g,j];omega,λk=> ?_⟩;cases k with
  |zero=>rfl
  |succ k=>
   show([(bC c x e).2]++((cT c (bC c x e).1 (nU kd nd)).2++(cT c (bC c x e).1 (jI kd nd es)).2))[8*(k+1)]? =(cT c (bC c x e).1 es).2[k]?
   rw[g_ (by simp;omega),g_ (by simp[g];omega),<-l k];congr 1
def PZ(a:fX c=true){kd nd:Int}(b:¬(1<=kd/\kd<=12))(d:6<=nd)(es:List cO):bW c (jI kd nd es)=bW c es/\(iQ c (jI kd nd es)).length=8*(iQ c es).length/\∀k,(iQ c (jI kd nd es))[8*k]? =(iQ c es)[k]? :=by
 have⟨e,f,g⟩:=Fc b d es (Gg a);exact⟨e,by unfold iQ;rw[f,kE],g⟩
def V5(kd nd:Int)(es:List cO){k:Nat}(a:k<es.length):jI kd nd (es.take (k+1))=jI kd nd (es.take k)++(es[k]::nU kd nd):=by
 unfold jI;rw[fG a,fQ];simp
def G5(kd nd:Int):∀es:List cO,(jI kd nd es).length=8*es.length
 | []=>rfl
 |e::es=>by
  have:=G5 kd nd es;unfold jI at this⊢;rw[eI,bF,this];simp[nU];omega
def Y0{kd nd:Int}{es:List cO}{e:cO}(h:e∈jI kd nd es):e∈es∨e∈nU kd nd:=by
 unfold jI at h;have⟨a,b,h⟩:=List.mem_flatMap.1 h;obtain rfl|h:=List.mem_cons.1 h
 .exact .inl b
 .exact .inr h
variable{y z:ae}
def V6{c:aV}{kd nd:Int}(a:¬(1<=kd/\kd<=12))(b:6<=nd)(es:List cO):mB c (jI kd nd es)=mB c es:=by
 unfold mB;split
 .rename_i d
  rw[(PZ d a b es).1]
 .rfl
def V7{c:aV}{kd nd:Int}(a:¬(1<=kd/\kd<=12))(b:6<=nd)(es:List cO):(gB c (jI kd nd es)).length=8*(gB c es).length/\∀k:Nat,(gB c (jI kd nd es))[8*k]? =(gB c es)[k]? :=by
 unfold gB;split
 .rename_i d
  exact(PZ d a b es).2
 .exact⟨rfl,λk=>by simp⟩
def ab5{kd nd:Int}(b:6<=nd)(d:nd<=2000){es:List cO}(h:∀e∈es,tj e):∀e∈jI kd nd es,tj e:=λe a=>by
 obtain a|a:=Y0 a
 .exact h e a
 .unfold nU YY at a
  simp only[bQ,ez,or_false]at a;rcases a with rfl|rfl|rfl|rfl|rfl|rfl|rfl<;>exact⟨eN (by simp only;omega) (by simp only;omega),bz _⟩
def V8(c:aV)(v:ah)(es:List cO)(B nd0:Int)(w:ae)(hc:c.rd w)(hes:aT cO.cells 7 w v es)(he:∀e∈es,te e):aj prog 3 #[c.val,v,B,nd0] w λe w'=>e=ax (aw true)/\ai w w w':=by
 have⟨u,hu⟩:=aD (w.alloc (aB c.cells.toArray 25 (0,0)));have⟨hbx,hg,hl2⟩:=aV.box hu;have Y:=hl2.aJ;have hb0:u.heap[w.heap.size]? =some (aB c.cells.toArray 25 (0,0)):=by rw[hu];exact a_ _ _
 have⟨q,hq⟩:=aD w.heap.size;rw[<-hq]at hb0 hbx;have⟨Er,qH,CN,oM⟩:=c_ (hes.below Y) (hc.below Y) he (qe (hc.below Y) (hes.below Y) 200 (by decide));have⟨Q,hQ⟩:= @aD (ak->ae->Prop) (λe w'=>e=ax (aw true)/\ai w w w');have K9:=au (show∀y,ai u u y->Q (ax (aw true)) y fromλy F=>by rw[hQ];exact⟨rfl,Y.trans (F.mono Y.size)⟩);have uG:=au (show∀y,ai u u y->aj prog 14 #[] y λe z=>e=ax (aw true)/\Q (ax (aw true)) z fromλy F=>(nS y).mono λe z ⟨Z,h2⟩=>⟨Z,K9.o z (F.trans (h2.mono F.size))⟩);rw[<-hQ];have⟨C,hC⟩:=aD c;rw[<-hC]at oM qH;obtain⟨wv,cv,words,cuts,f,h,t,x,aS,A,first,cap,l,net⟩:=c;have th:=au (show∀y,ai u u y->q<y/\y.cell? q=(wv)/\y.cell? ⟨q,1,none⟩=(cv)/\y.cell? ⟨q,2,none⟩=f/\y.cell? ⟨q,3,none⟩=h/\y.cell? ⟨q,4,none⟩=t/\y.cell? ⟨q,5,none⟩=x/\y.cell? ⟨q,6,none⟩=aS/\y.cell? ⟨q,7,none⟩=A/\y.cell? ⟨q,8,none⟩=first/\y.cell? ⟨q,9,none⟩=cap/\y.cell? ⟨q,10,none⟩=l/\y.cell? ⟨q,11,none⟩=net fromλy F=>by
  have r:=(F.block q (az hb0)).trans hb0;exact⟨az r,aF r _ rfl,aF r _ rfl,aF r _ rfl,aF r _ rfl,aF r _ rfl,aF r _ rfl,aF r _ rfl,aF r _ rfl,aF r _ rfl,aF r _ rfl,aF r _ rfl,aF r _ rfl⟩)
 have vR:=au (show C.val=aG #[wv,cv,f,h,t,x,aS,A,first,cap,l,net]by rw[hC];rfl);have hval:aV.val ⟨wv,cv,words,cuts,f,h,t,x,aS,A,first,cap,l,net⟩=aG #[wv,cv,f,h,t,x,aS,A,first,cap,l,net]:=rfl;have⟨HU,HQ⟩:=aK (show u=w.alloc (aB #[wv,cv,f,h,t,x,aS,A,first,cap,l,net] 25 (0,0))from hu) hq;rw[hval];rw[vR.o]at oM;have⟨ql,h0,Z,h2,h3,h4,h5,h6,h7,h8,h9,h10,h11⟩:=th.o u (aO _ _);obtain⟨va,vc,rfl,hn1,hn2,hrd⟩:=hes;unfold maxLen at hn1;have⟨N,hN⟩:=aD es.length;have HN:=au hN;rw[<-hN]at hn1 hn2 oM⊢;clear hQ hu hbx hl2 Y hq hval hC hb0 hrd hN hc he;go_in;go_upto_region 1 with fail
 rw[<-HU.o,<-HQ.o];go_wp2_with fail
 refine oM.m ?_;rintro e O ⟨b,rfl,T,hbf⟩;obtain rfl|rfl:=Bool.eq_false_or_eq_true b
 .have HA:=au (uG.o O T)
  clear hbf T;go_wp2_with fail
  refine HA.m ?_;rintro e y1 ⟨rfl,hy1⟩;have HE:=au hy1;clear hy1;go_wp2;exact HE.o
 .have⟨hok,hle,htx⟩:=hbf rfl
  have I:=rF htx CN.o;have O0:es.length<=200:=by have:=HN.o;omega
  have Cv:=au (hok.below T);have La:=au (show aT cO.cells 7 O (av va N vc) es by
   have:=Er.o.below T;rw[<-HN.o]at this;exact this)
  have⟨CA,I4,HLW⟩:=aX (show∀y,ai O O y->aj prog 14 #[] y λe z=>e=ax (aw true)/\Q (ax (aw true)) z fromλy F=>uG.o y (T.trans (F.mono T.size))) (show∀y,ai O O y->q<y/\y.cell? q=(wv)/\y.cell? ⟨q,1,none⟩=(cv)/\y.cell? ⟨q,2,none⟩=f/\y.cell? ⟨q,3,none⟩=h/\y.cell? ⟨q,4,none⟩=t/\y.cell? ⟨q,5,none⟩=x/\y.cell? ⟨q,6,none⟩=aS/\y.cell? ⟨q,7,none⟩=A/\y.cell? ⟨q,8,none⟩=first/\y.cell? ⟨q,9,none⟩=cap/\y.cell? ⟨q,10,none⟩=l/\y.cell? ⟨q,11,none⟩=net fromλy F=>th.o y (T.trans (F.mono T.size))) (ZP nd0 1000 O (by decide) (by decide));have⟨s,Xx⟩:=aD (low nd0 1000);have lb:=sH nd0 1000 (by decide);rw[<-Xx]at HLW lb;obtain⟨lb1,lb2⟩:=lb;have HVE:=au (show∀(kind node J:Int) (w:ae),aj prog 16 #[kind,node,J] w λen w'=>en=ax (aG #[an ar kind,an ar node,an ar J,an ar 0,aA ⟨#[]⟩,an ar 0,an ar 0])/\ai w w w' from evC);have J_:=au (show∀k,k<es.length->∃b o,va=some ⟨b,o,none⟩/\b<O.heap.size/\∀j v,(es.getD k ()).cells[j]? =some v->O.cell? ⟨b,o+k*7+j,none⟩=some v by
   have⟨a',c',e1,_,_,hr2⟩:=La.o;simp only[bG]at e1;obtain⟨rfl,_,_⟩:=e1;exact hr2)
  have qL:=au I;clear hok hle htx I hbf T Xx;have hcs:(B<1)∨(12<B)∨(1<=B/\B<=12):=by omega
  obtain⟨G,hKD⟩:∃G,G=if 1<=B/\B<=12 then B+12 else B:=⟨_,rfl⟩
  have hno:¬(1<=G/\G<=12):=by rw[hKD];split<;>omega
  have⟨HMT,HMR,HMO⟩:=aX (V6 (c:=C) hno (show 6<=6+s by omega) es) (V7 (c:=C) hno (show 6<=6+s by omega) es) (ab5 (kd:=G) (show 6<=6+s by omega) (by omega) qL.o);have HR1:=au (show∀y,ai O O y->aj prog 17 #[C.val,av va N vc] y λe z=>∃tv rv,e=ax (aM #[tv,rv,an ar (Bm C)])/\eM y z tv (mB C es)/\iF y z rv (gB C es)/\ai y y z fromλy F=>by
   refine(NU C es _ y (Cv.o.below F) (La.o.below F) (by omega) qL.o).mono ?_;rintro e z ⟨tv,rv,n,rfl,hp,H⟩;obtain⟨rfl,Z,h2⟩:=hp.all;exact⟨tv,rv,rfl,Z,h2,H⟩)
  have HR2:=au (show∀y v',ai O O y->aT cO.cells 7 y v' (jI G (6+s) es)->aj prog 17 #[C.val,v'] y λe z=>∃tv rv,e=ax (aM #[tv,rv,an ar (Bm C)])/\eM y z tv (mB C es)/\iF y z rv (gB C (jI G (6+s) es))/\ai y y z fromλy v' F hv=>by
   refine(NU C (jI G (6+s) es) v' y (Cv.o.below F) hv (by rw[G5];omega) HMO.o).mono ?_;rintro e z ⟨tv,rv,n,rfl,hp,H⟩;obtain⟨rfl,Z,h2⟩:=hp.all;rw[HMT.o]at Z;exact⟨tv,rv,rfl,Z,h2,H⟩)
  rw[vR.o]at HR1 HR2;have⟨HSN,HML,HKN⟩:=aX (show∀k (hk:k<es.length),jI G (6+s) (es.take (k+1))=jI G (6+s) (es.take k)++(es[k]::nU G (6+s))fromλk hk=>V5 G (6+s) es hk) (show∀k,(jI G (6+s) (es.take k)).length<=1600 fromλk=>by rw[G5,dw];omega) (show jI G (6+s) (es.take 0)=[]by rw[List.take_zero];rfl);clear hno;obtain hcs|hcs|hcs:=hcs
  all_goals
   first
   |(obtain⟨hc1,hc2⟩:=hcs
     have hw:B+12=G:=by rw[hKD,aI ⟨hc1,hc2⟩]
     have HW:=au hw;clear hKD hw;go_upto_region 5 with fail
     rw[HW.o];clear hc1 hc2 HW)
   |(have hw:G=B:=by rw[hKD,aC (by omega)]
     clear hKD;subst hw;go_upto_region 5 with fail
     clear hcs)
   go_wp2_with fail
   refine aH HLW.o ?_;go_wp2;go_loopw [9,10] (λo i wr=>∃k:Nat,k<=N/\i=an ar k/\iS O wr o (jI G (6+s) (es.take k))/\ai O O wr) (λ_ i _=>N-(intOf i).toNat)
   case atStart=>exact⟨0,bz _,rfl,by rw[HKN.o];exact iS.nil _ _,aO _ _⟩
   case round=>
    obtain⟨k,hk,rfl,I,d⟩:=hrel;by_cases hlt:k<N
    .have hkl:k<es.length:=by rw[<-HN.o];exact hlt
     obtain⟨b,o,rfl,r,g⟩:=J_.o k hkl;have hgd:es.getD k ()=es[k]:=by simp[aU,hkl]
     rw[hgd]at g;have hsn:=HSN.o k hkl;have TA:=HML.o k;have⟨E,hE⟩:=aD (es[k]);rw[<-hE]at g hsn;obtain⟨kd,nd,J,ex,tx,ek,en⟩:=E;have WA:=au (show∀y,ai wr wr y->y.cell? ⟨b,o+k*7,none⟩=kd/\y.cell? ⟨b,o+k*7+1,none⟩=nd/\y.cell? ⟨b,o+k*7+2,none⟩=J/\y.cell? ⟨b,o+k*7+3,none⟩=ex/\y.cell? ⟨b,o+k*7+4,none⟩=some (aA tx)/\y.cell? ⟨b,o+k*7+5,none⟩=ek/\y.cell? ⟨b,o+k*7+6,none⟩=en fromλy F=>by
      have L:=d.trans (F.mono d.size);have p0:=(L.cell (p:=⟨b,o+k*7+0,none⟩) r).trans (g 0 kd rfl);simp only[bM]at p0;exact⟨p0,(L.cell (p:=⟨b,o+k*7+1,none⟩) r).trans (g 1 nd rfl),(L.cell (p:=⟨b,o+k*7+2,none⟩) r).trans (g 2 J rfl),(L.cell (p:=⟨b,o+k*7+3,none⟩) r).trans (g 3 ex rfl),(L.cell (p:=⟨b,o+k*7+4,none⟩) r).trans (g 4 (aA tx) rfl),(L.cell (p:=⟨b,o+k*7+5,none⟩) r).trans (g 5 ek rfl),(L.cell (p:=⟨b,o+k*7+6,none⟩) r).trans (g 6 en rfl)⟩)
     have HAP:=au (show∀y,ai wr wr y->∃a1 n1 k1 z,(∀ty,(Builtin.append_ #[26,26] ty #[u9,av (some ⟨y,0,none⟩) 8 8]).run prog (y.alloc (aB #[an ar kd,an ar nd,an ar J,an ar ex,aA tx,an ar ek,an ar en,an ar G,an ar (6+s),an ar 0,an ar 0,aA ⟨#[]⟩,an ar 0,an ar 0,an ar 4,an ar (6+s),an ar 0,an ar 0,aA ⟨#[]⟩,an ar 0,an ar 0,an ar 5,an ar 0,an ar (100+(6+s)),an ar 0,aA ⟨#[]⟩,an ar 0,an ar 0,an ar 6,an ar 0,an ar (-1-(6+s)),an ar 0,aA ⟨#[]⟩,an ar 0,an ar 0,an ar 9,an ar 0,an ar 0,an ar 0,aA ⟨#[]⟩,an ar 0,an ar 0,an ar 10,an ar (6+s),an ar 0,an ar 0,aA ⟨#[]⟩,an ar 0,an ar 0,an ar 11,an ar (-(6+s)),an ar 0,an ar 0,aA ⟨#[]⟩,an ar 0,an ar 0] 33 (0,0)))=.ok (av a1 n1 k1) z)/\iS O z (av a1 n1 k1) (jI G (6+s) (es.take (k+1)))/\ai O O z/\(z.cell? ⟨b,o+k*7,none⟩=kd/\z.cell? ⟨b,o+k*7+1,none⟩=nd/\z.cell? ⟨b,o+k*7+2,none⟩=J/\z.cell? ⟨b,o+k*7+3,none⟩=ex/\z.cell? ⟨b,o+k*7+4,none⟩=some (aA tx)/\z.cell? ⟨b,o+k*7+5,none⟩=ek/\z.cell? ⟨b,o+k*7+6,none⟩=en)fromλy F=>by
      have L:=d.trans (F.mono d.size);obtain⟨v',w2,hrun,⟨a1,n1,k1,rfl⟩,K_,hb2⟩:=(I.below F).push (⟨kd,nd,J,ex,tx,ek,en⟩::nU G (6+s)) (by simp[nU];omega) L.size (by simp);rw[<-hsn]at K_;have H:=L.trans hb2;have p0:=(H.cell (p:=⟨b,o+k*7+0,none⟩) r).trans (g 0 kd rfl);simp only[bM]at p0;exact⟨a1,n1,k1,w2,hrun,K_,H,p0,(H.cell (p:=⟨b,o+k*7+1,none⟩) r).trans (g 1 nd rfl),(H.cell (p:=⟨b,o+k*7+2,none⟩) r).trans (g 2 J rfl),(H.cell (p:=⟨b,o+k*7+3,none⟩) r).trans (g 3 ex rfl),(H.cell (p:=⟨b,o+k*7+4,none⟩) r).trans (g 4 (aA tx) rfl),(H.cell (p:=⟨b,o+k*7+5,none⟩) r).trans (g 5 ek rfl),(H.cell (p:=⟨b,o+k*7+6,none⟩) r).trans (g 6 en rfl)⟩)
     obtain⟨oa,on',ok',rfl⟩:∃a n k,u9=av a n k:=by
      have⟨a,k,e,_⟩:=I.rd;exact⟨a,_,k,e⟩
     have bl:∀y,ai wr wr y->b<y.heap.size:=λy F=>bP r (bD d.size F.size)
     have g1:(0:Int)<=(k:Int):=by omega
     have g2:(k:Int)<(N:Int):=by omega
     have HZ:=au (show ai wr wr wr.drew from(aO _ _).drew);have⟨K0,HTR⟩:=aK (WA.o _ HZ.o) (show∀y z,ai wr wr y->ai y y z->ai wr wr z fromλy z Z h2=>Z.trans (h2.mono Z.size));have bw:=bl _ (aO _ _);have w1:IntKind.i64.wrap (100+(6+s))=100+(6+s):=IntWalk.i64_in _ (by omega);have w2:IntKind.i64.wrap (-1-(6+s))= -1-(6+s):=IntWalk.i64_in _ (by omega);have w3:IntKind.i64.wrap (-(6+s))= -(6+s):=IntWalk.i64_in _ (by omega);clear g hgd hE r hsn TA I d hkl bl;go_upto_region 10 with fail
     go_region_held3 (λw'=>w'.cell? ⟨b,o+k*7,none⟩=kd/\w'.cell? ⟨b,o+k*7+1,none⟩=nd/\w'.cell? ⟨b,o+k*7+2,none⟩=J/\w'.cell? ⟨b,o+k*7+3,none⟩=ex/\w'.cell? ⟨b,o+k*7+4,none⟩=some (aA tx)/\w'.cell? ⟨b,o+k*7+5,none⟩=ek/\w'.cell? ⟨b,o+k*7+6,none⟩=en) (first|(with_reducible exact K0.o)|(with_reducible exact K1.o)|(with_reducible exact K2.o)|go_keep) (first
      |(go_at_call 16;refine(HVE.o _ _ _ _).mono ?_;rintro e z ⟨rfl,H⟩;have HZ:=au (HTR.o _ _ HZ.o H);have K1:=au (WA.o _ HZ.o);clear H)
      |(have⟨a1,n1,k1,z,hrun,hz1,hz2,hz3⟩:=HAP.o _ HZ.o;have gN:=au hrun;have HZ1:=au hz1;have HZ2:=au hz2;have K2:=au hz3;clear hrun hz1 hz2 hz3;refine iU (by rfl) (.tmp 39) (.tmp 61) 26 (by rfl) _ _ _ z (by rfl) (by rfl) (gN.o _) ?_)
      |fail)
     all_goals
      go_wp2_with fail
      go_roundw
      case rel=>exact⟨k+1,by omega,by go_num,HZ1.o,HZ2.o⟩
      case measure=>simp[intOf];omega
    .obtain rfl:k=N:=by omega
     rw[HN.o,fR]at I;obtain⟨ao,no,ko,rfl⟩:∃a n k,u9=av a n k:=by
      have⟨a,k,e,_⟩:=I.rd;exact⟨a,_,k,e⟩
     have⟨ql,h0,Z,h2,h3,h4,h5,h6,h7,h8,h9,h10,h11⟩:=I4.o wr d;have⟨N7,HRA,sB⟩:=aX I (HR1.o wr d) d;clear I d;go_wp2_with fail
     refine HRA.m ?_;rintro e y2 ⟨tv,rv,rfl,ht,hr,hy2⟩;have hb2:=sB.o.trans (hy2.mono sB.o.size);have F4:=au (HR2.o y2 _ hb2 (N7.o.below hy2).rd);clear h0 Z h2 h3 h4 h5 h6 h7 h8 h9 h10 h11 ql;have⟨ql,h0,Z,h2,h3,h4,h5,h6,h7,h8,h9,h10,h11⟩:=I4.o y2 hb2;have⟨HT,HR,HB2⟩:=aX ht hr hb2;clear ht hr hy2 hb2;go_wp2_with fail
     refine F4.m ?_;rintro e y3 ⟨tv2,rv2,rfl,ht2,hr2,hy3⟩;have hb3:=HB2.o.trans (hy3.mono HB2.o.size);have ht1:=HT.o.below hy3;have hr1:=HR.o.below hy3;obtain⟨ta,tk,rfl,_⟩:=ht1.len;obtain⟨ua,uk,rfl,_⟩:=ht2.len;obtain⟨pa,pk,rfl,pl1,Yn⟩:=hr1.len;have⟨ra,rk,hrv,Wo,Wx⟩:=hr2.len;subst hrv;unfold maxLen at Yn Wx;have⟨hl,hdr⟩:=HMR.o;have hm2:(gB C es).length<=200:=by
      unfold gB iQ;split
      .rw[kE];omega
      .simp
     rw[hl]at Wo Wx⊢;have⟨M,hM⟩:=aD ((gB C es).length);have⟨M8,hM8⟩:=aD (8*M);have HST:=au (tA ht1 ht2);have HH:=au (show∀wr,ai y3 y3 wr->∀k K:Nat,k<M->K=8*k->∃(k0 k1 k2 k3:Int) (k4:ByteArray) (k5 k6 k7 k8 k10:Int) (U W V X:Nat) (s1:Option Addr) (n1 j1:Nat) (s2:Option Addr) (n2 j2:Nat) (l1:Option Addr) (m1 i1:Nat) (l2:Option Addr) (m2 i2:Nat),pa=some ⟨U,W,none⟩/\ra=some ⟨V,X,none⟩/\U<wr/\V<wr/\(wr.cell? ⟨U,W+k*12,none⟩=k0/\wr.cell? ⟨U,W+k*12+1,none⟩=some (an ar k1)/\wr.cell? ⟨U,W+k*12+2,none⟩=k2/\wr.cell? ⟨U,W+k*12+3,none⟩=k3/\wr.cell? ⟨U,W+k*12+4,none⟩=some (aA k4)/\wr.cell? ⟨U,W+k*12+5,none⟩=k5/\wr.cell? ⟨U,W+k*12+6,none⟩=k6/\wr.cell? ⟨U,W+k*12+7,none⟩=k7/\wr.cell? ⟨U,W+k*12+8,none⟩=k8/\wr.cell? ⟨U,W+k*12+9,none⟩=some (av s1 n1 j1)/\wr.cell? ⟨U,W+k*12+10,none⟩=k10/\wr.cell? ⟨U,W+k*12+11,none⟩=some (av l1 m1 i1))/\(wr.cell? ⟨V,X+K*12,none⟩=k0/\wr.cell? ⟨V,X+K*12+1,none⟩=some (an ar k1)/\wr.cell? ⟨V,X+K*12+2,none⟩=k2/\wr.cell? ⟨V,X+K*12+3,none⟩=k3/\wr.cell? ⟨V,X+K*12+4,none⟩=some (aA k4)/\wr.cell? ⟨V,X+K*12+5,none⟩=k5/\wr.cell? ⟨V,X+K*12+6,none⟩=k6/\wr.cell? ⟨V,X+K*12+7,none⟩=k7/\wr.cell? ⟨V,X+K*12+8,none⟩=k8/\wr.cell? ⟨V,X+K*12+9,none⟩=some (av s2 n2 j2)/\wr.cell? ⟨V,X+K*12+10,none⟩=k10/\wr.cell? ⟨V,X+K*12+11,none⟩=some (av l2 m2 i2))/\
      ∀z,ai wr wr z->aj prog 19 #[aG #[k0,an ar k1,k2,k3,aA k4,k5,k6,k7,k8,av s1 n1 j1,k10,av l1 m1 i1],aG #[k0,an ar k1,k2,k3,aA k4,k5,k6,k7,k8,av s2 n2 j2,k10,av l2 m2 i2]] z λe w'=>e=ax (aw true)/\ai z z w' fromλwr r k K hk hK=>by
      have hk1:k<(gB C es).length:=by omega
      have hk2:K<(gB C (jI G (6+s) es)).length:=by rw[hl];omega
      have⟨U,W,c1,s1,n1,j1,l1,m1,i1,e1,g1,f1,x1,z1⟩:=zP (hr1.below r) hk1;have⟨V,X,c2,s2,n2,j2,l2,m2,i2,e2,g2,f2,x2,z2⟩:=zP (hr2.below r) hk2;have he:(gB C (jI G (6+s) es))[K]=(gB C es)[k]:=by
       have:=hdr k;rw[<-hK,jZ hk1,jZ hk2]at this;exact Option.some.inj this
      rw[he]at f2 x2 z2;simp only[bG]at e1 e2;obtain⟨rfl,_⟩:=e1;obtain⟨rfl,_⟩:=e2;have p0:=f1 0 _ rfl;have r0:=f2 0 _ rfl;simp only[bM]at p0 r0;exact⟨_,_,_,_,_,_,_,_,_,_,U,W,V,X,s1,n1,j1,s2,n2,j2,l1,m1,i1,l2,m2,i2,rfl,rfl,g1,g2,⟨p0,f1 1 _ rfl,f1 2 _ rfl,f1 3 _ rfl,f1 4 _ rfl,f1 5 _ rfl,f1 6 _ rfl,f1 7 _ rfl,f1 8 _ rfl,f1 9 _ rfl,f1 10 _ rfl,f1 11 _ rfl⟩,⟨r0,f2 1 _ rfl,f2 2 _ rfl,f2 3 _ rfl,f2 4 _ rfl,f2 5 _ rfl,f2 6 _ rfl,f2 7 _ rfl,f2 8 _ rfl,f2 9 _ rfl,f2 10 _ rfl,f2 11 _ rfl⟩,λz H=>V4 _ _ _ _ _ _ _ _ _ _ (x1.below H) (x2.below H) (z1.below H) (z2.below H)⟩)
     have HB3:=au hb3;have w8:IntKind.i64.wrap (8*(M:Int))=(M8:Int):=by rw[hM8,IntWalk.i64_in (8*(M:Int)) (by omega)];omega
     have HM8:=au hM8;have hM2:M<=200:=by omega
     rw[<-hM]at pl1 Yn Wo Wx⊢;rw[<-hM8]at Wo Wx⊢;generalize Bm C=nn at*;clear h0 Z h2 h3 h4 h5 h6 h7 h8 h9 h10 h11 ql ht1 ht2 hr1 hr2 hy3 hb3 hl hdr hm2 hM hM8;go_wp2_with fail
     refine HST.m ?_;rintro e y4 ⟨rfl,hy4⟩;have⟨Nx,HA4⟩:=aK hy4 (show∀z,ai y4 y4 z->aj prog 14 #[] z λe z=>e=ax (aw true)/\Q (ax (aw true)) z fromλz H=>CA.o z (HB3.o.trans ((hy4.trans (H.mono hy4.size)).mono HB3.o.size)));clear hy4;go_wp2;go_loopw [17] (λi wr=>∃k:Nat,k<=M/\i=an ar k/\ai y4 y4 wr) (λi _=>M-(intOf i).toNat)
     case atStart=>exact⟨0,bz _,rfl,aO _ _⟩
     case round=>
      obtain⟨k,hk,rfl,d⟩:=hrel;by_cases hlt:k<M
      .have⟨K,hK⟩:=aD (8*k)
       obtain⟨k0,k1,k2,k3,k4,k5,k6,k7,k8,k10,U,W,V,X,s1,n1,j1,s2,n2,j2,l1,m1,i1,l2,m2,i2,rfl,rfl,g1,g2,⟨p0,p1,p2,p3,p4,p5,p6,p7,p8,p9,p10,p11⟩,⟨r0,r1,r2,r3,r4,r5,r6,r7,r8,r9,Xm,TX⟩,hs⟩:=HH.o wr (Nx.o.trans (d.mono Nx.o.size)) k K hlt hK;have q1:(0:Int)<=(k:Int):=by omega
       have q2:(k:Int)<(M:Int):=by omega
       have q3:IntKind.i64.wrap (8*(k:Int))=(K:Int):=by rw[hK,IntWalk.i64_in (8*(k:Int)) (by omega)];omega
       have q4:(0:Int)<=(K:Int):=by omega
       have q5:(K:Int)<(M8:Int):=by have:=HM8.o;omega
       have⟨HB,HS⟩:=aK d hs;clear hs d hK;go_upto_region 18 with fail
       refine cD (by kernel_rfl) (by kernel_rfl) ?_
       repeat (go_big_quiet_step (first|(go_at_call 19;exact cH (HS.o _ (bX _ _)))|fail))
       refine eV ?_;rintro _ ⟨u,rfl⟩;have HX:=au (gR HB.o (aP _) u);go_wp2;go_roundw
       case rel=>exact⟨k+1,by omega,by go_num,HX.o⟩
       case measure=>simp[intOf];omega
      .obtain rfl:k=M:=by omega
       have HE:=au (HA4.o wr d);clear d;go_wp2_with fail
       refine HE.m ?_;rintro e y5 ⟨rfl,Ez⟩;have HE5:=au Ez;clear Ez;go_wp2;exact HE5.o
open Go.ChangeShapes Go.WideShapes Go.ChangeAt
def uJ(A:Os)(b:A.Started)(H:Type)(enc:TypeId×ah->H):
 ReturnsInHanded {} Tryz.checked A 3 .any (Rows.topNothingSpec.pre6 enc prog Tryz.f3 Rows.topNothingRow.domain false) (Rows.topNothingSpec.post enc prog Tryz.f3 false true false false):=by
 refine returnsInHanded_of_change (C:=Tryz.checked) BA b (by kernel_rfl) func3
  (ChangeSpec.witness6 (enc:=enc) (C:=Tryz.checked) false ⟨#[],#[aG #[(),(),an ar 0,an ar 0,an ar 0,an ar 0,an ar 0,an ar 0,an ar 0,an ar 0,an ar 0,an ar 0],(),an ar 0,an ar 0],[]⟩ 8 (by kernel_rfl) (by kernel_rfl) (by kernel_rfl) (by kernel_rfl)) ?_
 intro W base args T gs g c B _ _;have a:∀(j:Nat) t v,Tryz.f3.params[j]? =some t->args[j]? =some v->Value.okWide prog W .any base t v:=c
 have i:=B;obtain⟨p,q,sr,U,rfl,_,_⟩:=B;have E:DataW.TrodAll enc prog W 0 (λ_=>true) true Tryz.f3.params.toList args.toList T p:=sr;rw[Tryz.params3]at E a;obtain⟨F,V,d0,X,Y,q0,k,rfl,rfl,G,Z⟩:=trodAll_cons E;obtain⟨l,vs1,d1,ds1,p1,q1,rfl,rfl,rfl,I,r1⟩:=trodAll_cons Z;obtain⟨J,vs2,d2,ds2,p2,q2,rfl,rfl,rfl,K,r2⟩:=trodAll_cons r1;obtain⟨L,vs3,d3,ds3,p3,q3,rfl,rfl,rfl,M,r3⟩:=trodAll_cons r2;obtain⟨rfl,rfl,rfl⟩:=trodAll_nil r3;obtain rfl:args= #[F,l,J,L]:=by cases args;simp_all
 obtain⟨rfl,rfl⟩:=trodVars_none U;have N:=G;have n:∀x∈Y,x.block<W.heap.size:=by obtain⟨m,f⟩:=N;exact DataW.trod_lt m _ _ _ f
 obtain⟨c0,rfl,o,wc0,jc0⟩:=gW (a 0 25 F rfl rfl) G;have O:=I;have r:∀x∈p1,x.block<W.heap.size:=by obtain⟨m,f⟩:=O;exact DataW.trod_lt m _ _ _ f
 have⟨s,u,w⟩:=fN (a 1 26 l rfl rfl) I;have P:=K;have y:∀x∈p2,x.block<W.heap.size:=by obtain⟨m,f⟩:=P;exact DataW.trod_lt m _ _ _ f
 obtain⟨a2,rfl,dd2,_,b2⟩:=open_int underlying3 (a 2 3 J rfl rfl) K;have Q:=M;have z:∀x∈p3,x.block<W.heap.size:=by obtain⟨m,f⟩:=Q;exact DataW.trod_lt m _ _ _ f
 obtain⟨a3,rfl,dd3,_,b3⟩:=open_int underlying3 (a 3 3 L rfl rfl) M;clear sr c;refine(V8 c0 l s a2 a3 W o u w).mono λe W' ⟨he,d⟩=> ?_
 subst he;exact⟨_,rfl,_,_,_,[],_,[],i,trodAll_mk1 (shut_bool underlying4 _),(trodAll_cons_mk (Below.trod iT (by kernel_rfl) (of_decide_eq_true (by kernel_rfl)) N d n) (trodAll_cons_mk (Below.trod iT (by kernel_rfl) (of_decide_eq_true (by kernel_rfl)) O d r) (trodAll_cons_mk (Below.trod iT (by kernel_rfl) (of_decide_eq_true (by kernel_rfl)) P d y) (trodAll_cons_mk (Below.trod iT (by kernel_rfl) (of_decide_eq_true (by kernel_rfl)) Q d z) trodAll_mk0)))),rfl,d.frame _,λh=>by cases h⟩
theorem Sf:Rows.TopNothingSaid:=
 OpenClaim.holds_of_wide 3 Tryz.f3 rfl rfl rfl rfl rfl rfl rfl ⟨rfl,rfl,rfl,rfl,rfl⟩ rfl rfl rfl rfl rfl (by kernel_rfl) func3 wJ
  (of_decide_eq_true (by kernel_rfl)) (by unfold Func.isWrapper;rw[aC (of_decide_eq_false (by kernel_rfl))];exact⟨rfl,rfl⟩)
  (λb a H enc _=>uJ b a H enc)
end Go.Proofs.YtjpnlfpompnpkaaGreat
