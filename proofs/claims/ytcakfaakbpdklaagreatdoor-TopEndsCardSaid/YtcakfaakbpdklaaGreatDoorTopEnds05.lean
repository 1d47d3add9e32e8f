/- Part 5 of what the law needs: own lemmas, in the order in which they build. -/
import Derived.Maps.RangeRun
import Derived.Shelf.SortM.Plain
import Derived.Sort.OwnSortedInts
import Derived.Shelf.SortM.SortNone
import Derived.Test.YtcakfaakbpdklaaGreatDoorProg
import Derived.Test.YtcakfaakbpdklaaGreatDoorTopEnds04
set_option linter.defProp false
set_option linter.unusedSimpArgs false
set_option linter.unusedVariables false
set_option maxRecDepth 100000
namespace Go.Proofs.QV
open Go Go.Proofs Go.Proofs.Tryz
open Go.Proofs.Tryz renaming prog->Z
open Go.IntKind renaming i64->wg
open Go.Value renaming int->v6,pointer->v7,tuple->wc,bool->wd
open Option renaming some->wh
open Option renaming none->wj
open Bool renaming true->wk
open Bool renaming false->wl
open Go renaming Value->wm
open Go renaming World->wn
open Or renaming inr->ws
open Go.Obj renaming cells->wt
section
open Go.RowKit
section
variable{K:VK}{w:wn}{b:Nat}{kv:wm}{ks:List Int}
def Tc{lr:Nat}{J:Nat->Nat->wn->Prop}{X:wn->Prop}(hle:ks.length<=64)(hP:∀p n w,J p n w->Dg w b kv ks)(h0:∀p n w,p<ks.length->J p n w->BT ks (p:Int)=0->J (p+1) (n+1) w)(h1:∀p w,p<=ks.length->J p 0 w->BT ks (p:Int)≠0->J (p+1) 0 w)(h2:∀p n w (K':VK),p<=ks.length->0<n->J p n w->BT ks (p:Int)≠0->(∀w',J (p+1) 0 w'->K' (wd wk) w')->(∀w',X w'->K' (wd wl) w')->Bh Z lr #[v6 wg ((p:Int)-n),v6 wg (n:Int)] w K')(hE:∀w',J (ks.length+1) 0 w'->K (wc #[]) w')(hX:∀w',X w'->K (wc #[]) w'):
  ∀(d p n:Nat) (w:wn),ks.length+1=p+d->n<=p->J p n w->(p=ks.length+1->n=0)->F242.l3 K (v7 (wh ⟨b,0,wj⟩)) (.func (.yield lr) #[] #[]) (v6 wg (n:Int)) (v6 wg ((ks.length+1:Nat):Int)) (v6 wg (p:Int)) w:=by
 intro d;induction d with
 | zero=>
  intro p n w hd hnp hJ hz;refine F242.l3.to ?_;simp only[zv,show ¬((p:Int)<((ks.length+1:Nat):Int)) by omega];have e:p=ks.length+1:=by omega
  have en:=hz e;subst e;subst en;exact hE w hJ
 | succ d ih=>
  intro p n w hd hnp hJ hz;have next:∀(n':Nat) w',n'<=p+1->J (p+1) n' w'->(p=ks.length->n'=0)->F242.k9 K (v7 (wh ⟨b,0,wj⟩)) (.func (.yield lr) #[] #[]) (v6 wg (n':Int)) (v6 wg ((ks.length+1:Nat):Int)) (v6 wg (p:Int)) w':=λn' w' hn' hJ' hz'=>by
   refine F242.k9.to ?_;simp only[A7];rw[BO (n:=(p:Int)+1) (by omega),show (p:Int)+1=((p+1:Nat):Int) by omega];exact ih (p+1) n' w' (by omega) hn' hJ' λe=>hz' (by omega)
  refine F242.l3.to ?_;simp only[zv,show ((p:Int)<((ks.length+1:Nat):Int)) by omega];refine F242.k4.to (Gh (hP p n w hJ) ?_);by_cases c:BT ks (p:Int)=0
  ·have hp:=H4 hle (p:=(p:Int)) (by rw[c];decide);simp only[zv,vw,c];rw[BO (n:=(n:Int)+1) (by omega),show (n:Int)+1=((n+1:Nat):Int) by omega];exact next (n+1) w (by omega) (h0 p n w (by omega) hJ c) λe=>by omega
  ·simp only[zv,c];refine F242.k7.to ?_;by_cases c0:n=0
   ·subst c0;simp only[zv,show ¬(((0:Nat):Int)>0) by omega];exact F242.k8.to (next 0 w (by omega) (h1 p w (by omega) hJ c) λ_=>rfl)
   ·simp only[zv,show ((n:Int)>0) by omega];rw[BO (n:=(p:Int)-n) (by omega)];refine h2 p n w _ (by omega) (by omega) hJ c (λw' hJ'=>?_) λw' hX'=>?_
    ·simp only[zv];exact F242.k8.to (next 0 w' (by omega) hJ' λ_=>rfl)
    ·simp only[zv];exact hX w' hX'
def Tb{lr:Nat}{J:Nat->Nat->wn->Prop}{X:wn->Prop}(hle:ks.length<=64)(hP:∀p n w,J p n w->Dg w b kv ks)(h0:∀p n w,p<ks.length->J p n w->BT ks (p:Int)=0->J (p+1) (n+1) w)(h1:∀p w,p<=ks.length->J p 0 w->BT ks (p:Int)≠0->J (p+1) 0 w)(h2:∀p n w (K':VK),p<=ks.length->0<n->J p n w->BT ks (p:Int)≠0->(∀w',J (p+1) 0 w'->K' (wd wk) w')->(∀w',X w'->K' (wd wl) w')->Bh Z lr #[v6 wg ((p:Int)-n),v6 wg (n:Int)] w K')(hE:∀w',J (ks.length+1) 0 w'->K (wc #[]) w')(hX:∀w',X w'->K (wc #[]) w')(hJ:J 0 0 w):
  I Z 242 #[v7 (wh ⟨b,0,wj⟩),.func (.yield lr) #[] #[]] w K:=by have hp:=hP 0 0 w hJ;refine F242.sh ⟨_,Ck _ _ _ Tryz.underlying234,?_⟩;simp only[Ag];refine F242.k1.to ?_;simp only[zv];refine Ad (v:=kv) hp.blk rfl (AH hp.own.rd ?_);rw[Ca];simp only[A7];rw[BO (n:=(ks.length:Int)+1) (by omega),show (ks.length:Int)+1=((ks.length+1:Nat):Int) by omega];exact Tc hle hP h0 h1 h2 hE hX (ks.length+1) 0 0 w (by omega) (vl _) hJ λe=>by omega
def K3:DK Z 242=wk:=by kernel_rfl
structure CQ(W w:wn)(b:Nat)(kv:wm)(ks:List Int)(lr D x3:Nat)(p n:Nat):Prop where
 fr:Fr [] W w
 pg:Dg w b kv ks
 rec_:DZ w lr .ready wj 14 #[8,9] F241.as3 F241.bd3 [(7,(.func (.func 242) #[v7 (wh ⟨b,0,wj⟩)] #[])),(6,v7 (wh ⟨b,0,wj⟩)),(3,v7 (wh ⟨x3,0,wj⟩)),(2,(v6 wg 0)),(0,v7 (wh ⟨b,0,wj⟩))]
 df:w.heap[D]?=wh (.deferred (wh []))
 box:∃acc:Nat,w.heap[x3]?=wh (wt #[v6 wg (acc:Int)] 3 (0,0))/\acc+n=(ks.take p).countP λk=>decide (k=0)
 lo:W.heap.size<=lr/\W.heap.size<=D/\W.heap.size<=x3
def Sl{p:Nat}:(ks.take p).countP (λk=>decide (k=0))<=ks.length:=by have h1:=List.countP_le_length (p:=λk:Int=>decide (k=0)) (l:=ks.take p);rw[i8]at h1;omega
def Vn(h:Dg w b kv ks)(hk:∀w',Fr [] w w'->K (v6 wg (Dt ks)) w'):I Z 241 #[v7 (wh ⟨b,0,wj⟩)] w K:=by
 have hle:=h.le;refine F241.sh (Ar λx3 w1 hn1=>AI hn1.at_ rfl rfl (by simp) λw2 hu2=>?_);have i1:=hn1.is;have z1:=hn1.sz;have z2:=hu2.sz;have f2:Fr [] w w2:=hn1.fr.then hu2.fr λz hz=>ws (by simp only[zF]at hz;omega);refine KD K3 λlr D w3 hf3 hlr hD hR hdf=>?_
 refine Tb (J:=λp n w'=>CQ w w' b kv ks lr D x3 p n) (X:=λ_=>False) hle (λp n w' hJ=>hJ.pg) (λp n w' hp hJ hz=>?_) (λp w' hp hJ hz=>?_) (λp n w' K' hp hn hJ hz a _=>?_) (λw' hJ=>?_) (λ_ e=>e.elim) ?_
 ·obtain⟨acc,a1,a2⟩:=hJ.box;rw[FP hp]at hz;refine⟨hJ.fr,hJ.pg,hJ.rec_,hJ.df,⟨acc,a1,?_⟩,hJ.lo⟩;rw[wT hp,List.countP_append];simp[hz];omega
 ·obtain⟨acc,a1,a2⟩:=hJ.box;refine⟨hJ.fr,hJ.pg,hJ.rec_,hJ.df,⟨acc,a1,?_⟩,hJ.lo⟩;by_cases e:p<ks.length
  ·rw[FP e]at hz;rw[wT e,List.countP_append, <-a2];simp[hz]
  ·rw[yB (by omega)]at a2 ⊢;exact a2
 ·obtain⟨acc,a1,a2⟩:=hJ.box;obtain⟨r,r1,r2,r3,r4,r5,r6,r7,r8⟩:=hJ.rec_.at_;have hcl:=Sl (ks:=ks) (p:=p);refine R241_3.yield (y3:=v7 (wh ⟨x3,0,wj⟩)) r1 r4 r5 r6 r7 (λt v hv=>?_) (hJ.rec_.begin_ λw4 hf4 hR4=>?_)
  ·refine Sr (env:=[(3,v7 (wh ⟨x3,0,wj⟩))]) (λx hx=>?_) t v hv;simp only[ux,i9,vt]at hx;subst hx;exact r8 3 _ rfl
  ·have nx:=hJ.rec_.off a1 (by simp);have nb:=hJ.rec_.off hJ.pg.blk (by simp);have nk:=hJ.rec_.offS hJ.pg.own;have nd:=hJ.rec_.off hJ.df (by simp);have a14:=hf4.at_ a1 (by simpa using nx);have p4:=hJ.pg.keep hf4 (by simpa using nb) λg hg e=>by simp only[zF]at e;subst e;exact nk hg
   have d4:=hJ.df |> λq=>hf4.at_ q (by simpa using nd)
   refine Ad (v:=v6 wg (acc:Int)) a14 rfl ?_;simp only[A7];rw[BO (n:=(acc:Int)+n) (by omega),show (acc:Int)+n=((acc+n:Nat):Int) by omega];refine AI a14 rfl rfl (by simp) λw5 hu5=>?_;have s5:=hJ.fr.size;have f5:Fr [] w w5:=(hJ.fr.then hf4 λz hz=>ws (by simp only[zF]at hz;have:=hJ.lo;omega)).then hu5.fr λz hz=>ws (by simp only[zF]at hz;have:=hJ.lo;omega);have p5:Dg w5 b kv ks:=h.keep0 f5
   have R5:=hR4.keep hu5.fr (by simp;exact λe=>nx e.symm);have d5:=hu5.fr.at_ d4 (by simp;exact λe=>CZ d4 a14 (by simp) e);refine R5.end_ λw6 hf6 hR6=>a w6 ?_;have f6:Fr [] w w6:=f5.then hf6 λz hz=>ws (by simp only[zF]at hz;have:=hJ.lo;omega);refine⟨f6,h.keep0 f6,hR6,hf6.at_ d5 (by simpa using nd),⟨acc+n,hf6.at_ hu5.at_ (by simpa using nx),?_⟩,hJ.lo⟩;rw[u9];by_cases e:p<ks.length
   ·rw[FP e]at hz;rw[wT e,List.countP_append, <-a2];simp[hz]
   ·rw[yB (by omega)]at a2 ⊢;exact a2
 ·obtain⟨acc,a1,a2⟩:=hJ.box;obtain⟨rec,e1,e2,e3,hf4⟩:=hJ.rec_.exit_ (by simp);refine⟨rec,e1,e2,?_⟩;generalize w'.putObj lr (.loop { rec with state := .exhausted })=w4 at *;rw[e3];have nx:=hJ.rec_.off a1 (by simp);have nd:=hJ.rec_.off hJ.df (by simp);show F241.k5 K (v7 (wh ⟨x3,0,wj⟩)) (v6 wg (D:Int)) w4;refine F241.k5.to (Ad (v:=v6 wg (acc:Int)) (hf4.at_ a1 (by simpa using nx)) rfl ?_)
  refine KZ (hf4.at_ hJ.df (by simpa using nd)) λw5 hf5=>?_;rw[yB (by omega),u9]at a2;rw[a2];exact hk w5 ((hJ.fr.then hf4 λz hz=>ws (by simp only[zF]at hz;have:=hJ.lo;omega)).then hf5 λz hz=>ws (by simp only[zF]at hz;have:=hJ.lo;omega))
 ·have f3:=f2.trans hf3;have s2:=f2.size;exact⟨f3,h.keep0 f3,hR,hdf,⟨0,hf3.at_ hu2.at_ (by simp),by simp⟩,by omega⟩
structure SQ(W w:wn)(b:Nat)(kv:wm)(ks:List Int)(N:Int)(lr D x2 x3 x4 x5:Nat)(st:LoopState)(pe:Option Code)(y4 y5:wm):Prop where
 fr:Fr (BN kv) W w
 pg:Dg w b kv ks
 rec_:DZ w lr st pe 38 #[13,14] F176.as4 F176.bd4 [(12,(.func (.func 242) #[v7 (wh ⟨b,0,wj⟩)] #[])),(11,v7 (wh ⟨b,0,wj⟩)),(2,v7 (wh ⟨x2,0,wj⟩)),(3,v7 (wh ⟨x3,0,wj⟩)),(4,v7 (wh ⟨x4,0,wj⟩)),(5,v7 (wh ⟨x5,0,wj⟩))]
 df:w.heap[D]?=wh (.deferred (wh []))
 c2:w.heap[x2]?=wh (wt #[v7 (wh ⟨b,0,wj⟩)] 234 (0,0))
 c3:w.heap[x3]?=wh (wt #[v6 wg N] 3 (0,0))
 c4:w.heap[x4]?=wh (wt #[y4] 3 (0,0))
 c5:w.heap[x5]?=wh (wt #[y5] 4 (0,0))
 lo:W.heap.size<=lr/\W.heap.size<=D/\W.heap.size<=x2/\W.heap.size<=x3/\W.heap.size<=x4/\W.heap.size<=x5/\x3≠x4/\(∀g∈BN kv,g<W.heap.size)/\b<W.heap.size
section
variable{W:wn}{N:Int}{lr D x2 x3 x4 x5:Nat}{st:LoopState}{pe:Option Code}{y4 y5:wm}
def SQ.list{w':wn}{ks':List Int}(h:SQ W w b kv ks N lr D x2 x3 x4 x5 st pe y4 y5)(hf:Fr (BN kv) w w')(hp:Dg w' b kv ks'):SQ W w' b kv ks' N lr D x2 x3 x4 x5 st pe y4 y5:=by
 have no:∀ {z:Nat},W.heap.size<=z->z∉BN kv:=λhz hg=>by have:=h.lo.2.2.2.2.2.2.2.1 _ hg;omega
 have l:=h.lo;exact⟨h.fr.trans hf,hp,h.rec_.keep hf (no l.1),hf.at_ h.df (no l.2.1),hf.at_ h.c2 (no l.2.2.1),hf.at_ h.c3 (no l.2.2.2.1),hf.at_ h.c4 (no l.2.2.2.2.1),hf.at_ h.c5 (no l.2.2.2.2.2.1),h.lo⟩
def SQ.recd{w':wn}{st':LoopState}{pe':Option Code}(h:SQ W w b kv ks N lr D x2 x3 x4 x5 st pe y4 y5)(hf:Fr [lr] w w')(hr:DZ w' lr st' pe' 38 #[13,14] F176.as4 F176.bd4 [(12,(.func (.func 242) #[v7 (wh ⟨b,0,wj⟩)] #[])),(11,v7 (wh ⟨b,0,wj⟩)),(2,v7 (wh ⟨x2,0,wj⟩)),(3,v7 (wh ⟨x3,0,wj⟩)),(4,v7 (wh ⟨x4,0,wj⟩)),(5,v7 (wh ⟨x5,0,wj⟩))]):
  SQ W w' b kv ks N lr D x2 x3 x4 x5 st' pe' y4 y5:=by
 have l:=h.lo;have k:∀ {z:Nat} {o:Obj},w.heap[z]?=wh o->(∀r,o ≠ .loop r)->w'.heap[z]?=wh o:=λhz hne=>hf.at_ hz (by simp;exact h.rec_.off hz hne)
 refine⟨h.fr.then hf λz hz=>ws (by simp only[zF]at hz;omega),h.pg.keep hf (by simp;exact h.rec_.off h.pg.blk (by simp)) (λg hg e=>by simp only[zF]at e;subst e;exact h.rec_.offS h.pg.own hg),hr,k h.df (by simp),k h.c2 (by simp),k h.c3 (by simp),k h.c4 (by simp),k h.c5 (by simp),l⟩
end
def FL{n:Nat}{p run:Nat}:EO n (ks.drop p) p run=if p<ks.length then (if BT ks (p:Int)=0 then EO n (ks.drop (p+1)) (p+1) (run+1) else if 0<run/\n<=run then wh (p-run) else EO n (ks.drop (p+1)) (p+1) 0) else if n<=run then wh (p-run) else wj:=by
 by_cases c:p<ks.length
 ·rw[vy c,FP c,xJ c];rfl
 ·rw[vx c,xZ (by omega)];rfl
def UG{W:wn}{N:Int}{lr D x2 x3 x4 x5 p n:Nat}{y4 y5:wm}{K':VK}{ks0:List Int}(hl:p+n<=ks0.length)(hn1:1<=n)(h:∀w',SQ W w' b kv ((Dj ks0 p n 6).set p 5) N lr D x2 x3 x4 x5 .done (wh .ret) (v6 wg (p:Int)) (wd wk)->K' (wd wl) w'):
  ∀(d j:Nat) (w:wn),n=j+d->SQ W w b kv (Dj ks0 p j 6) N lr D x2 x3 x4 x5 .busy wj y4 y5->
   R176_4.l8 lr K' (v7 (wh ⟨x2,0,wj⟩)) (v7 (wh ⟨x4,0,wj⟩)) (v7 (wh ⟨x5,0,wj⟩)) (v6 wg (p:Int)) (v6 wg (n:Int)) (v6 wg (j:Int)) w:=by
 intro d;induction d with
 | zero=>
  intro j w hd hQ;have e:j=n:=by omega
  subst e;have hle:=hQ.pg.le;have hpl:=D6 (ks:=ks0) (p:=p) (n:=j) (k:=6) hl;refine R176_4.l8.to ?_;simp only[zv,show ¬((j:Int)<(j:Int)) by omega];refine R176_4.k12.to (Ad (v:=v7 (wh ⟨b,0,wj⟩)) hQ.c2 rfl ?_);simp only[zv];refine Ad (v:=kv) hQ.pg.blk rfl ?_;refine Bi (x:=v6 wg 5) hQ.pg.own (by omega) (by rw[Ca,hpl];omega) rfl (by intro u hu;simp[wm.cells]at hu;subst hu;rfl) λw1 ho1 hf1 _=>?_;rw[zK]at ho1
  have Q1:=hQ.list (ks':=(Dj ks0 p j 6).set p 5) (hf1.mono λx hx=>hx) ⟨hf1.at_ hQ.pg.blk hQ.pg.nb,by rw[<-Ih];exact ho1,by simpa using hle⟩;have l:=Q1.lo;refine AI Q1.c4 rfl rfl (by simp) λw2 hu2=>?_;have k2:∀ {z:Nat} {o:Obj},z≠x4->w1.heap[z]?=wh o->w2.heap[z]?=wh o:=λhz ho=>hu2.fr.at_ ho (by simpa using hz);have Q2:SQ W w2 b kv ((Dj ks0 p j 6).set p 5) N lr D x2 x3 x4 x5 .busy wj (v6 wg (p:Int)) y5:=
   ⟨Q1.fr.then hu2.fr λz hz=>ws (by simp only[zF]at hz;omega),Q1.pg.keep hu2.fr (by simp;omega) (λg hg e=>by simp only[zF]at e;have:=l.2.2.2.2.2.2.2.1 g hg;omega),Q1.rec_.keep hu2.fr (by simp;exact λe=>Q1.rec_.off Q1.c4 (by simp) e.symm),k2 (CZ Q1.df Q1.c4 (by simp)) Q1.df,k2 (CZ Q1.c2 Q1.c4 (by simp)) Q1.c2,k2 l.2.2.2.2.2.2.1 Q1.c3,hu2.at_,k2 (CZ Q1.c5 Q1.c4 (by simp)) Q1.c5,l⟩
  refine AI Q2.c5 rfl rfl (by simp) λw3 hu3=>?_;have k3:∀ {z:Nat} {o:Obj},z≠x5->w2.heap[z]?=wh o->w3.heap[z]?=wh o:=λhz ho=>hu3.fr.at_ ho (by simpa using hz);have Q3:SQ W w3 b kv ((Dj ks0 p j 6).set p 5) N lr D x2 x3 x4 x5 .busy wj (v6 wg (p:Int)) (wd wk):=
   ⟨Q2.fr.then hu3.fr λz hz=>ws (by simp only[zF]at hz;omega),Q2.pg.keep hu3.fr (by simp;omega) (λg hg e=>by simp only[zF]at e;have:=l.2.2.2.2.2.2.2.1 g hg;omega),Q2.rec_.keep hu3.fr (by simp;exact λe=>Q2.rec_.off Q2.c5 (by simp) e.symm),k3 (CZ Q2.df Q2.c5 (by simp)) Q2.df,k3 (CZ Q2.c2 Q2.c5 (by simp)) Q2.c2,k3 (CZ Q2.c3 Q2.c5 (by simp)) Q2.c3,k3 (CZ Q2.c4 Q2.c5 (by simp)) Q2.c4,hu3.at_,l⟩
  exact Q3.rec_.end_ λw4 hf4 hR4=>h w4 (Q3.recd hf4 hR4)
 | succ d ih=>
  intro j w hd hQ;have hle:=hQ.pg.le;have hpl:=D6 (ks:=ks0) (p:=p) (n:=j) (k:=6) (by omega);refine R176_4.l8.to ?_;simp only[zv,show ((j:Int)<(n:Int)) by omega];refine R176_4.k9.to (Ad (v:=v7 (wh ⟨b,0,wj⟩)) hQ.c2 rfl ?_);simp only[zv];refine Ad (v:=kv) hQ.pg.blk rfl ?_;rw[BO (n:=(p:Int)+j) (by omega),show (p:Int)+j=((p+j:Nat):Int) by omega]
  refine Bi (x:=v6 wg 6) hQ.pg.own (by omega) (by rw[Ca,hpl];omega) rfl (by intro u hu;simp[wm.cells]at hu;subst hu;rfl) λw1 ho1 hf1 _=>?_;rw[zK]at ho1;have ho1:BQ w1 kv 3 1 (BX (Dj ks0 p (j+1) 6)):=by rw[<-MW (by omega), <-Ih];exact ho1
  have Q1:=hQ.list (ks':=Dj ks0 p (j+1) 6) (hf1.mono λx hx=>hx) ⟨hf1.at_ hQ.pg.blk hQ.pg.nb,ho1,by rw[D6 (by omega)];omega⟩;refine R176_4.k11.to ?_;simp only[A7];rw[BO (n:=(j:Int)+1) (by omega),show (j:Int)+1=((j+1:Nat):Int) by omega];exact ih (j+1) w1 (by omega) Q1
def Xo{N:Int}(h:Dg w b kv ks)(hN:N<=64)(h0:Fy ks N=wj->∀w',Fr [] w w'->K (wc #[v6 wg 0,wd wl]) w')(h1:∀p w',Fy ks N=wh p->1<=N->p+N.toNat<=ks.length->Fr (BN kv) w w'->Dg w' b kv ((Dj ks p N.toNat 6).set p 5)->K (wc #[v6 wg (p:Int),wd wk]) w'):
  I Z 176 #[v7 (wh ⟨b,0,wj⟩),v6 wg N] w K:=by
 have hle:=h.le;refine F176.sh (Ar λx2 w1 hn1=>Ar λx3 w2 hn2=>Ar λx4 w3 hn3=>Ar λx5 w4 hn4=>?_);have i1:=hn1.is;have i2:=hn2.is;have i3:=hn3.is;have i4:=hn4.is;have z1:=hn1.sz;have z2:=hn2.sz;have z3:=hn3.sz;have z4:=hn4.sz;have f4:Fr [] w w4:=hn1.fr.trans (hn2.fr.trans (hn3.fr.trans hn4.fr));have d2:w4.heap[x2]?=wh (wt #[v7 (wh ⟨b,0,wj⟩)] 234 (0,0)):=(hn2.fr.trans (hn3.fr.trans hn4.fr)).at_ hn1.at_ (by simp)
 have d3:w4.heap[x3]?=wh (wt #[v6 wg N] 3 (0,0)):=(hn3.fr.trans hn4.fr).at_ hn2.at_ (by simp);have d4:=hn4.fr.at_ hn3.at_ (by simp);have d5:=hn4.at_;refine Ad (v:=v6 wg N) d3 rfl ?_;by_cases c:N<1
 ·simp only[zv,c];refine AI d4 rfl rfl (by simp) λw5 hu5=>AI (hu5.fr.at_ d5 (by simp;omega)) rfl rfl (by simp) λw6 hu6=>?_;refine Ad (v:=v6 wg 0) (hu6.fr.at_ hu5.at_ (by simp;omega)) rfl (Ad (v:=wd wl) hu6.at_ rfl ?_);exact h0 (by unfold Fy;rw[vy c]) w6 ((f4.then hu5.fr λz hz=>ws (by simp only[zF]at hz;omega)).then hu6.fr λz hz=>ws (by simp only[zF]at hz;omega))
 simp only[zv,c];obtain⟨n,rfl⟩:=xU (show 0<=N by omega);rw[zK]at h1;refine F176.k3.to (Ad (v:=v7 (wh ⟨b,0,wj⟩)) d2 rfl ?_);have hkv:=h.own.mem_lt;have hbl:=BP h.blk;have sp:Fy ks (n:Int)=EO n (ks.drop 0) 0 0:=by unfold Fy;rw[vx c,zK,List.drop_zero]
 refine KD K3 λlr D w5 hf5 hlr hD hR hdf=>?_;have f5:=f4.trans hf5;have s4:=f4.size
 have told:∀w' y4 y5 ks',SQ w w' b kv ks' (n:Int) lr D x2 x3 x4 x5 .done (wh .ret) y4 y5->(∀w'',Fr (BN kv) w w''->Dg w'' b kv ks'->K (wc #[y4,y5]) w'')->∃rec,w'.heap[lr]?=wh (.loop rec)/\rec.state ≠ .busy/\B2 rec.pending (F176.k14 K (v7 (wh ⟨x4,0,wj⟩)) (v7 (wh ⟨x5,0,wj⟩)) (v6 wg (D:Int)) (w'.putObj lr (.loop { rec with state := .exhausted }))) (Be (v6 wg (D:Int)) (w'.putObj lr (.loop { rec with state := .exhausted })) λw3=>Ac (v7 (wh ⟨x4,0,wj⟩)) w3 λr4 _=>Ac (v7 (wh ⟨x5,0,wj⟩)) w3 λr5 _=>K (wc #[r4,r5]) w3) (λid=>cond (Nat.beq id 0) (F176.k14 K (v7 (wh ⟨x4,0,wj⟩)) (v7 (wh ⟨x5,0,wj⟩)) (v6 wg (D:Int)) (w'.putObj lr (.loop { rec with state := .exhausted }))) (False)):=by
  intro w' y4 y5 ks' Q hk;obtain⟨rec,e1,e2,e3,hf6⟩:=Q.rec_.exit_ (by simp);refine⟨rec,e1,e2,?_⟩;have l:=Q.lo;have kp:∀ {z:Nat} {o:Obj},w'.heap[z]?=wh o->(∀r,o ≠ .loop r)->(w'.putObj lr (.loop { rec with state := .exhausted })).heap[z]?=wh o:=λhz hne=>hf6.at_ hz (by simp;exact Q.rec_.off hz hne)
  have pg6:Dg (w'.putObj lr (.loop { rec with state := .exhausted })) b kv ks':=Q.pg.keep hf6 (by simp;exact Q.rec_.off Q.pg.blk (by simp)) (λg hg e=>by simp only[zF]at e;subst e;exact Q.rec_.offS Q.pg.own hg);have q2:=kp Q.df (by simp);have q4:=kp Q.c4 (by simp);have q5:=kp Q.c5 (by simp);generalize w'.putObj lr (.loop { rec with state := .exhausted })=w6 at *;rw[e3]
  show Be (v6 wg (D:Int)) w6 (λw3=>Ac (v7 (wh ⟨x4,0,wj⟩)) w3 λr4 _=>Ac (v7 (wh ⟨x5,0,wj⟩)) w3 λr5 _=>K (wc #[r4,r5]) w3);refine KZ q2 λw7 hf7=>Ad (v:=y4) (hf7.at_ q4 (by simp;exact (CZ q2 q4 (by simp)).symm)) rfl (Ad (v:=y5) (hf7.at_ q5 (by simp;exact (CZ q2 q5 (by simp)).symm)) rfl ?_)
  refine hk w7 ((Q.fr.then hf6 λz hz=>ws (by simp only[zF]at hz;omega)).then hf7 λz hz=>ws (by simp only[zF]at hz;omega)) (pg6.keep hf7 (by simp;omega) λg hg e=>by simp only[zF]at e;have:=l.2.2.2.2.2.2.2.1 g hg;omega)
 refine Tb (ks:=ks) (J:=λp r w'=>SQ w w' b kv ks (n:Int) lr D x2 x3 x4 x5 .ready wj (v6 wg 0) (wd wl)/\Fr [] w w'/\r<=p/\(p<=ks.length->Fy ks (n:Int)=EO n (ks.drop p) p r)/\(p=ks.length+1->Fy ks (n:Int)=wj))
  (X:=λw'=>∃p,Fy ks (n:Int)=wh p/\p+n<=ks.length/\SQ w w' b kv ((Dj ks p n 6).set p 5) (n:Int) lr D x2 x3 x4 x5 .done (wh .ret) (v6 wg (p:Int)) (wd wk)) hle (λp r w' hJ=>hJ.1.pg) (λp r w' hp hJ hz=>?_) (λp w' hp hJ hz=>?_) (λp r w' K' hp hr hJ hz a x=>?_) (λw' hJ=>?_) (λw' hX=>?_) ?_
 ·obtain⟨j1,jf,j0,j2,j3⟩:=hJ;refine⟨j1,jf,by omega,λ_=>?_,λe=>by omega⟩;rw[j2 (by omega),FL,vy hp,vy hz]
 ·obtain⟨j1,jf,j0,j2,j3⟩:=hJ;by_cases e:p<ks.length
  ·refine⟨j1,jf,by omega,λ_=>?_,λe=>by omega⟩;rw[j2 (by omega),FL,vy e,vx hz,vx (by omega)]
  ·refine⟨j1,jf,by omega,λe'=>by omega,λ_=>?_⟩;rw[j2 (by omega),FL,vx e,vx (by omega)]
 ·obtain⟨j1,jf,j0,j2,j3⟩:=hJ;obtain⟨rr,r1,r2,r3,r4,r5,r6,r7,r8⟩:=j1.rec_.at_;refine R176_4.yield (y2:=v7 (wh ⟨x2,0,wj⟩)) (y3:=v7 (wh ⟨x3,0,wj⟩)) (y4:=v7 (wh ⟨x4,0,wj⟩)) (y5:=v7 (wh ⟨x5,0,wj⟩)) r1 r4 r5 r6 r7 (λt v hv=>?_) (j1.rec_.begin_ λw6 hf6 hR6=>?_)
  ·refine Sr (env:=[(2,v7 (wh ⟨x2,0,wj⟩)),(3,v7 (wh ⟨x3,0,wj⟩)),(4,v7 (wh ⟨x4,0,wj⟩)),(5,v7 (wh ⟨x5,0,wj⟩))]) (λx hx=>?_) t v hv;simp only[ux,i9,vt]at hx;rcases hx with rfl|rfl|rfl|rfl
   ·exact r8 2 _ rfl
   ·exact r8 3 _ rfl
   ·exact r8 4 _ rfl
   ·exact r8 5 _ rfl
  ·have Q6:=j1.recd hf6 hR6;refine Ad (v:=v6 wg (n:Int)) Q6.c3 rfl ?_;by_cases e:(r:Int)<(n:Int)
   ·simp only[zv,e];refine Q6.rec_.end_ λw7 hf7 hR7=>a w7 ⟨Q6.recd hf7 hR7,(jf.then hf6 λz hz=>ws (by simp only[zF]at hz;omega)).then hf7 λz hz=>ws (by simp only[zF]at hz;omega),by omega,λhp'=>?_,λe'=>?_⟩
    ·rw[j2 (by omega),FL,vy (by omega),vx hz,vx (by omega)]
    ·rw[j2 (by omega),FL,vx (by omega),vx (by omega)]
   ·simp only[zv,e];have sp':Fy ks (n:Int)=wh (p-r):=by
     rw[j2 (by omega),FL];by_cases e':p<ks.length
     ·rw[vy e',vx hz,vy (by omega)]
     ·rw[vx e',vy (by omega)]
    rw[show (p:Int)-r=((p-r:Nat):Int) by omega];refine R176_4.k7.to (Ad (v:=v6 wg (n:Int)) Q6.c3 rfl ?_);refine UG (ks0:=ks) (p:=p-r) (n:=n) (y4:=v6 wg 0) (y5:=wd wl) (by omega) (by omega) (λw7 Q7=>x w7 ⟨p-r,sp',by omega,Q7⟩) n 0 w6 (by omega) ?_;rw[MX];exact Q6
 ·obtain⟨j1,jf,j0,j2,j3⟩:=hJ;obtain⟨rec,e1,e2,e3,hf6⟩:=j1.rec_.exit_ (by simp);refine⟨rec,e1,e2,?_⟩;have l:=j1.lo;have kp:∀ {z:Nat} {o:Obj},w'.heap[z]?=wh o->(∀r,o ≠ .loop r)->(w'.putObj lr (.loop { rec with state := .exhausted })).heap[z]?=wh o:=λhz hne=>hf6.at_ hz (by simp;exact j1.rec_.off hz hne);have q2:=kp j1.df (by simp);have q4:=kp j1.c4 (by simp);have q5:=kp j1.c5 (by simp)
  generalize w'.putObj lr (.loop { rec with state := .exhausted })=w6 at *;rw[e3];show F176.k14 K (v7 (wh ⟨x4,0,wj⟩)) (v7 (wh ⟨x5,0,wj⟩)) (v6 wg (D:Int)) w6;have n45:=CZ q4 q5 (by simp);have nD4:=CZ q2 q4 (by simp);have nD5:=CZ q2 q5 (by simp);refine F176.k14.to (AI q4 rfl rfl (by simp) λw7 hu7=>AI (hu7.fr.at_ q5 (by simp;omega)) rfl rfl (by simp) λw8 hu8=>?_)
  refine KZ (hu8.fr.at_ (hu7.fr.at_ q2 (by simpa using nD4)) (by simpa using nD5)) λw9 hf9=>?_;refine Ad (v:=v6 wg 0) (hf9.at_ (hu8.fr.at_ hu7.at_ (by simpa using n45)) (by simp;omega)) rfl (Ad (v:=wd wl) (hf9.at_ hu8.at_ (by simp;omega)) rfl ?_);refine h0 (j3 rfl) w9 ((((jf.then hf6 λz hz=>?_).then hu7.fr λz hz=>?_).then hu8.fr λz hz=>?_).then hf9 λz hz=>?_)
  all_goals (simp only[zF]at hz;exact ws (by omega))
 ·obtain⟨p,x1,x2',Q⟩:=hX;exact told w' _ _ _ Q λw'' hf'' hp''=>h1 p w'' x1 (by omega) x2' hf'' hp''
 ·exact⟨⟨f5.w,h.keep0 f5,hR,hdf,hf5.at_ d2 (by simp),hf5.at_ d3 (by simp),hf5.at_ d4 (by simp),hf5.at_ d5 (by simp),by omega,by omega,by omega,by omega,by omega,by omega,by omega,hkv,hbl⟩,f5,vl _,λ_=>sp,λe=>by omega⟩
end
structure EH where
 cel:Nat
 tab:Nat
 mem:Nat
 tk:Nat
 kv:wm
 mv:wm
def EH.S(A:EH):List Nat:=A.cel::A.tk::(BN A.kv++BN A.mv)
structure Ct(A:EH)(w:wn)(c:Ce):Prop where
 blk:∃cs:Array wm,w.heap[A.cel]?=wh (wt cs 244 (0,0))/\cs.size=131/\cs[0]?=wh (v7 (wh ⟨A.tab,0,wj⟩))/\cs[1]?=wh (v7 (wh ⟨A.mem,0,wj⟩))/\cs[130]?=wh (v7 (wh ⟨A.tk,0,wj⟩))/\∀p,p<64->cs[2+p*2]?=wh (v6 wg (c.ch.getD p (0,0)).1)/\cs[2+p*2+1]?=wh (v6 wg (c.ch.getD p (0,0)).2)
 pg:Dg w A.tab A.kv c.ks
 mm:CF w A.mem A.mv c.m
 tk:Da w A.tk c.n c.tk
 ml:c.m.length=c.ks.length*32
 cl:c.ch.length=64
 cr:∀p,0<=(c.ch.getD p (0,0)).2/\(c.ch.getD p (0,0)).2<=16
section
variable{K:VK}{w:wn}{A:EH}{c:Ce}
def Ct.keep{S:List Nat}{w':wn}(h:Ct A w c)(hf:Fr S w w')(h1:A.cel∉S)(h2:A.tab∉S)(h3:A.mem∉S)(h4:A.tk∉S)(h5:∀g∈BN A.kv,g∉S)(h6:∀g∈BN A.mv,g∉S):Ct A w' c:=by obtain⟨cs,c1,c2⟩:=h.blk;exact⟨⟨cs,hf.at_ c1 h1,c2⟩,h.pg.keep hf h2 h5,h.mm.keep hf h3 h6,h.tk.keep hf h4,h.ml,h.cl,h.cr⟩
def Ct.keep0{w':wn}(h:Ct A w c)(hf:Fr [] w w'):Ct A w' c:=h.keep hf (by simp) (by simp) (by simp) (by simp) (by simp) (by simp)
def Ct.setMem{w':wn}{m':List Int}(h:Ct A w c)(hf:Fr (BN A.mv) w w')(hm:CF w' A.mem A.mv m')(hl:m'.length=c.m.length):Ct A w' { c with m:=m' }:=by
 obtain⟨cs,c1,c2⟩:=h.blk;obtain⟨ts,t1,t2⟩:=h.tk.blk;have hn:(({ c with m:=m' }:Ce)).n=c.n:=by simp[Ce.n,hl]
 refine⟨⟨cs,hf.at_ c1 (h.mm.own.nb c1 (by decide)),c2⟩,h.pg.keep hf (h.mm.own.nb h.pg.blk (by decide)) (h.pg.own.ne h.mm.own (by decide)),hm,?_,by simp only;rw[hl];exact h.ml,h.cl,h.cr⟩;rw[hn];exact h.tk.keep hf (h.mm.own.nb t1 (by decide))
def Ct.setTk{w':wn}{s':Bs}(h:Ct A w c)(hf:Fr [A.tk] w w')(hb:Da w' A.tk c.n s'):Ct A w' { c with tk:=s' }:=by
 obtain⟨cs,c1,c2⟩:=h.blk;obtain⟨ts,t1,t2⟩:=h.tk.blk;have no:∀ {v:wm} {e:TypeId} {sz:Nat} {xs:List (List wm)},BQ w v e sz xs->255≠e->∀g∈BN v,g∉[A.tk]:=λho hne g hg e=>by
  simp only[zF]at e;subst e;exact ho.nb t1 (vv hne) hg
 exact⟨⟨cs,hf.at_ c1 (by simp;exact CZ c1 t1 (by simp)),c2⟩,h.pg.keep hf (by simp;exact CZ h.pg.blk t1 (by simp)) (no h.pg.own (by decide)),h.mm.keep hf (by simp;exact CZ h.mm.blk t1 (by simp)) (no h.mm.own (by decide)),hb,h.ml,h.cl,h.cr⟩
def Ct.setKs{w':wn}{ks':List Int}(h:Ct A w c)(hf:Fr (BN A.kv) w w')(hp:Dg w' A.tab A.kv ks')(hl:ks'.length=c.ks.length):Ct A w' { c with ks:=ks' }:=by obtain⟨cs,c1,c2⟩:=h.blk;obtain⟨ts,t1,t2⟩:=h.tk.blk;exact⟨⟨cs,hf.at_ c1 (h.pg.own.nb c1 (by decide)),c2⟩,hp,h.mm.keep hf (h.pg.own.nb h.mm.blk (by decide)) (h.mm.own.ne h.pg.own (by decide)),h.tk.keep hf (h.pg.own.nb t1 (by decide)),by simp only;rw[hl];exact h.ml,h.cl,h.cr⟩
def Ct.setCh{p:Nat}{l:Int × Int}{F:wn->Prop}(h:Ct A w c)(hp:p<64)(hl:0<=l.2/\l.2<=16)(hk:∀w',Fr [A.cel] w w'->Ct A w' { c with ch:=c.ch.set p l }->F w'):
  Aj 2 (v7 (wh ⟨A.cel,2+p*2,wj⟩)) (EL l) w F:=by
 obtain⟨cs,c1,c2,c3,c4,c5,c6⟩:=h.blk;obtain⟨ts,t1,t2⟩:=h.tk.blk;have cl:=h.cl;refine Bl c1 rfl E0 (by omega) λw' hu=>hk w' hu.fr ?_;have no:∀ {v:wm} {e:TypeId} {sz:Nat} {xs:List (List wm)},BQ w v e sz xs->244≠e->∀g∈BN v,g∉[A.cel]:=λho hne g hg e=>by
  simp only[zF]at e;subst e;exact ho.nb c1 (vv hne) hg
 have gt:∀i:Nat,(CO cs.toList (2+p*2) [v6 wg l.1,v6 wg l.2]).toArray[i]?=if i=2+p*2 then wh (v6 wg l.1) else if i=2+p*2+1 then wh (v6 wg l.2) else cs[i]?:=λi=>by
  unfold CO;have e1:(cs.toList.take (2+p*2)).length=2+p*2:=by rw[i8];simp;omega
  rw[yH,yP];by_cases b1:i<2+p*2+2
  ·rw[vy (by rw[zE,e1];exact b1),yP,e1];by_cases b2:i<2+p*2
   ·rw[vy b2,zD,vy b2,vx (by omega),vx (by omega),yF]
   ·rw[vx b2];by_cases b3:i=2+p*2
    ·subst b3;simp
    ·have:i=2+p*2+1:=by omega
     subst this;rw[show 2+p*2+1-(2+p*2)=1 by omega];simp
  ·rw[vx (by rw[zE,e1];exact b1),zC,vx (by omega),vx (by omega),zE,e1];simp only[d9,m7];rw[show 2+p*2+(0+1+1)+(i-(2+p*2+(0+1+1)))=i by omega,yF]
 have hsz:(CO cs.toList (2+p*2) (EL l).cells.toList).toArray.size=131:=by simp[CO,EL,wm.cells];omega
 refine⟨⟨_,hu.at_,hsz,?_,?_,?_,λq hq=>?_⟩,h.pg.keep hu.fr (by simp;exact CZ h.pg.blk c1 (by simp)) (no h.pg.own (by decide)),h.mm.keep hu.fr (by simp;exact CZ h.mm.blk c1 (by simp)) (no h.mm.own (by decide)),h.tk.keep hu.fr (by simp;exact CZ t1 c1 (by simp)),h.ml,by simpa using cl,λq=>?_⟩
 ·exact (gt 0).trans (by rw[vx (by omega),vx (by omega)];exact c3)
 ·exact (gt 1).trans (by rw[vx (by omega),vx (by omega)];exact c4)
 ·exact (gt 130).trans (by rw[vx (by omega),vx (by omega)];exact c5)
 ·have e:(c.ch.set p l).getD q (0,0)=if q=p then l else c.ch.getD q (0,0):=by
   rw[xF,xF,zO];by_cases e:p=q
   ·subst e;rw[vy rfl,vy (by omega),vy rfl];rfl
   ·rw[vx e,vx (vv e)]
  simp only;rw[e];by_cases e2:q=p
  ·subst e2;rw[vy rfl];exact⟨(gt _).trans (by rw[vy rfl]),(gt _).trans (by rw[vx (by omega),vy rfl])⟩
  ·rw[vx e2];exact⟨(gt _).trans (by rw[vx (by omega),vx (by omega)];exact (c6 q hq).1),(gt _).trans (by rw[vx (by omega),vx (by omega)];exact (c6 q hq).2)⟩
 ·have e:(c.ch.set p l).getD q (0,0)=if q=p then l else c.ch.getD q (0,0):=by
   rw[xF,xF,zO];by_cases e:p=q
   ·subst e;rw[vy rfl,vy (by omega),vy rfl];rfl
   ·rw[vx e,vx (vv e)]
  simp only;rw[e];split
  ·exact hl
  ·exact h.cr q
def HS(h:Ct A w c)(hk:K (wd wk) w):I Z 173 #[v7 (wh ⟨A.cel,0,wj⟩)] w K:=by obtain⟨cs,c1,c2,c3,c4,c5,c6⟩:=h.blk;refine F173.sh ⟨_,CJ _ _ _ Tryz.underlying166,?_⟩;simp only[zv];refine Ad (v:=v7 (wh ⟨A.mem,0,wj⟩)) c1 c4 ⟨_,CJ _ _ _ Tryz.underlying238,?_⟩;simp only[];exact hk
def H2{p:Int}(h:Ct A w c)(hk:∀w',Fr [] w w'->K (v6 wg (BT c.ks p)) w'):I Z 186 #[v7 (wh ⟨A.cel,0,wj⟩),v6 wg p] w K:=by
 obtain⟨cs,c1,c2,c3,c4,c5,c6⟩:=h.blk;refine F186.sh (HS h ?_);simp only[zv];refine F186.k3.to ?_;simp only[zv];refine AS (n:=1) (vs:=[v7 (wh ⟨A.tab,0,wj⟩)]) c1 (by omega) ?_ ?_
 ·rw[List.drop_zero];have:0<cs.toList.length:=by simp;omega
  rw[List.take_one];simp only[List.head?_eq_getElem?,yF,c3,zH]
 ·refine F250.sh (Ar λx2 w1 hn1=>?_);simp only[zv];exact Ad (v:=v7 (wh ⟨A.tab,0,wj⟩)) hn1.at_ rfl (Gh (h.keep0 hn1.fr).pg (hk w1 hn1.fr))
def Py(h:Ct A w c)(hk:∀w',Fr [] w w'->K (v6 wg (Dt c.ks)) w'):I Z 114 #[v7 (wh ⟨A.cel,0,wj⟩)] w K:=by
 obtain⟨cs,c1,c2,c3,c4,c5,c6⟩:=h.blk;refine F114.sh (HS h ?_);simp only[zv];refine F114.k3.to ?_;simp only[zv];refine AS (n:=1) (vs:=[v7 (wh ⟨A.tab,0,wj⟩)]) c1 (by omega) ?_ ?_
 ·rw[List.drop_zero,List.take_one];simp only[List.head?_eq_getElem?,yF,c3,zH]
 ·refine F174.sh (Ar λx2 w1 hn1=>?_);simp only[zv];exact Ad (v:=v7 (wh ⟨A.tab,0,wj⟩)) hn1.at_ rfl (Vn (h.keep0 hn1.fr).pg λw2 hf2=>hk w2 (hn1.fr.trans hf2))
def Qh{p:Int}(h:Ct A w c)(hk:∀w',Fr [] w w'->K (wd (c.small p)) w'):I Z 251 #[v7 (wh ⟨A.cel,0,wj⟩),v6 wg p] w K:=by refine F251.sh (H2 h λw1 hf1=>Ei ?_);simp only[AL];exact hk w1 hf1
def Nk(h:Ct A w c){p:Int}(hs:c.small p=wk):0<=p/\p<c.ks.length/\p<64:=by have hle:=h.pg.le;have:=H4 hle (p:=p) (by intro e;simp[Ce.small,e]at hs;revert hs;decide);omega
def NF{p:Int}(h:Ct A w c)(hk:∀w',Fr [] w w'->K (v6 wg (c.left p)) w'):I Z 187 #[v7 (wh ⟨A.cel,0,wj⟩),v6 wg p] w K:=by
 refine F187.sh (Qh h λw1 hf1=>?_);have hk:=hk w1 hf1;unfold Ce.left at hk;cases hs:c.small p with
 | false=>
  rw[hs]at hk;simp only[zv]at hk ⊢;exact hk
 | true=>
  rw[hs]at hk;obtain⟨p0,p1,p2⟩:=Nk h hs;obtain⟨cs,c1,c2,c3,c4,c5,c6⟩:=(h.keep0 hf1).blk;obtain⟨p,rfl⟩:=xU p0;simp only[zv];refine F187.k3.to ?_;simp only[zv];refine AR (by omega) (by omega) ?_;simp only[Ai,zK];refine Ad (v:=v6 wg (c.ch.getD p (0,0)).2) c1 ?_ ?_
  ·exact (c6 p (by omega)).2
  ·simpa[Ce.chain] using hk
def T6{a:Int}(h:Ct A w c)(hk:K (wd (c.isIt a)) w):I Z 197 #[v7 (wh ⟨A.cel,0,wj⟩),v6 wg a] w K:=by obtain⟨cs,c1,c2,c3,c4,c5,c6⟩:=h.blk;refine F197.sh (HS h ?_);simp only[zv];refine Ad (v:=v7 (wh ⟨A.tk,0,wj⟩)) c1 c5 (Nz h.tk ?_);exact hk
def P0{a:Int}(h:Ct A w c)(hk:∀ok,K (wc #[v6 wg (Cn c.m a),wd ok]) w):I Z 198 #[v7 (wh ⟨A.cel,0,wj⟩),v6 wg a] w K:=by obtain⟨cs,c1,c2,c3,c4,c5,c6⟩:=h.blk;refine F198.sh (HS h ?_);simp only[zv];refine F198.k3.to ?_;simp only[zv];refine Ad (v:=v7 (wh ⟨A.mem,0,wj⟩)) c1 c4 (R4 h.mm λok=>?_);simp only[zv];exact hk ok
def WJ(h:Ct A w c)(hT:GY w)(hk:∀v w',Fr [] w w'->BY w v->BQ w' v 3 1 (BX (HB c.n c.tk))->K v w'):I Z 130 #[v7 (wh ⟨A.cel,0,wj⟩)] w K:=by obtain⟨cs,c1,c2,c3,c4,c5,c6⟩:=h.blk;refine F130.sh (HS h ?_);simp only[zv];refine F130.k3.to ?_;simp only[zv];exact Ad (v:=v7 (wh ⟨A.tk,0,wj⟩)) c1 c5 (WG h.tk hT hk)
def QU(hle:c.ks.length<=64)(p:Int)(h:0<=FA c.ks p):FA c.ks p<64:=by
 unfold FA at h ⊢;have key:∀q:Int,0<=(if Cr c.ks q=0 then -1 else q)->(if Cr c.ks q=0 then -1 else q)<64:=λq hq=>by
  rcases JA hle q with e|⟨e1,e2⟩
  ·rw[vy e]at hq;omega
  ·by_cases e:Cr c.ks q=0
   ·rw[vy e]at hq;omega
   ·rw[vx e];omega
 by_cases hp:0<=p
 ·simp only[hp,vu]at h ⊢;exact key _ h
 ·simp only[hp,vq]at h ⊢;exact key _ h
def WI{a:Int}(h:Ct A w c)(hk:∀w',Fr [] w w'->K (v6 wg (c.base a)) w'):I Z 246 #[v7 (wh ⟨A.cel,0,wj⟩),v6 wg a] w K:=by
 refine F246.sh (HS h ?_);simp only[zv];refine F246.k3.to (G6 (H2 h λw1 hf1=>P3 ?_));have h1:=h.keep0 hf1;obtain⟨cs,c1,c2,c3,c4,c5,c6⟩:=h1.blk;simp only[zv];refine Ad (v:=v7 (wh ⟨A.tab,0,wj⟩)) c1 c3 (Vr h1.pg ?_);have hk:=hk w1 hf1;unfold Ce.base at hk;simp only at hk
 have fin:∀d:Int,d=(if E2 (BT c.ks (Cq a)) a<0/\0<=FA c.ks (Cq a) then (GM (FA c.ks (Cq a)) 1).1 else E2 (BT c.ks (Cq a)) a)->F246.k8 K (v7 (wh ⟨A.cel,0,wj⟩)) (v6 wg d) w1:=λd e=>by
  rw[<-e]at hk;refine F246.k8.to (T6 h1 ?_);cases hi:c.isIt d with
  | true=>
   rw[hi,vy rfl]at hk;simp only[zv];exact F246.k10.to hk
  | false=>
   rw[hi]at hk;simp only[zv,yZ,vq]at hk ⊢;exact hk
 by_cases d1:E2 (BT c.ks (Cq a)) a<0
 ·simp only[zv,d1];by_cases d2:FA c.ks (Cq a)≥0
  ·simp only[zv,d2];have hr:=QU h.pg.le (Cq a) d2;refine Kc ⟨d2,hr⟩ (by omega) ?_;simp only[zv];refine fin _ ?_;rw[vy ⟨d1,d2⟩];unfold GM;rw[vy (by omega)]
  ·simp only[zv,d2];refine fin _ ?_;rw[vx (by omega)]
 ·simp only[zv,d1];refine fin _ ?_;rw[vx (by omega)]
def N9{a v:Int}(h:Ct A w c)(hv : -9223372036854775808<=v/\v<=9223372036854775807)(hk:∀w',Fr (BN A.mv) w w'->Ct A w' (c.store a v).1->K (wd (c.store a v).2) w'):I Z 181 #[v7 (wh ⟨A.cel,0,wj⟩),v6 wg a,v6 wg v] w K:=by
 refine F181.sh (WI h λw1 hf1=>?_);have h1:=h.keep0 hf1;unfold Ce.store at hk;by_cases d:c.base a≥0
 ·obtain⟨cs,c1,c2,c3,c4,c5,c6⟩:=h1.blk;simp only[zv,d];refine Ad (v:=v7 (wh ⟨A.mem,0,wj⟩)) c1 c4 (PJ h1.mm hv λw2 hf2 h2=>?_);by_cases e:ET c.m a 1
  ·rw[vy ⟨d,e⟩]at hk;rw[ur e];exact hk w2 (hf1.w.trans hf2) (h1.setMem hf2 h2 (E5 _ _ _))
  ·rw[vx (λx=>e x.2)]at hk;rw[p9 e];have:DN c.m a v=c.m:=by unfold DN CX;rw[vx e]
   rw[this]at h2;exact hk w2 (hf1.w.trans hf2) (h1.setMem hf2 h2 rfl)
 ·simp only[zv,d];rw[vx (λx=>d x.1)]at hk;exact hk w1 hf1.w h1
end
section
variable{K:VK}{w:wn}{A:EH}{c:Ce}
def QR(m:List Int)(p k:Int):0<=(DM m p k).2.2/\(DM m p k).2.2<=16:=by
 have:=Ey k;unfold DM;split
 ·simp only;omega
 ·simp only;omega
def QQ(m:List Int)(p k:Int):(DM m p k).1.length=m.length:=by
 unfold DM;split
 ·simp only;rw[LF,Dw]
 ·rfl
def S6{m:List Int}{p k:Int}{l:Int × Int}(hl:0<=l.2/\l.2<=16):(0<=(Eb m p k l).2.2/\(Eb m p k l).2.2<=16)/\(0<BR k->0<=(Eb m p k l).1/\(Eb m p k l).1<BR k):=by
 unfold Eb;split
 ·rename_i h;split
  ·exact⟨by simp only;omega,λ_=>h.2.2⟩
  ·exact⟨by simp only;omega,λhc=>by simp only;omega⟩
 ·exact⟨by simp only;omega,λhc=>by simp only;omega⟩
def S4{m:List Int}{p k i:Int}{l:Int × Int}:(0<=(Fe m p k l i).2.2/\(Fe m p k l i).2.2<=16)/\(Fe m p k l i).1.length=m.length:=by
 have:=Ey k;unfold Fe;split
 ·rename_i h;exact⟨by simp only;omega,E5 _ _ _⟩
 ·exact⟨by simp only;omega,rfl⟩
def MV(hle:c.ks.length<=64)(p:Int):(Ii c.ks p).length=c.ks.length:=by
 unfold Ii;split
 ·rfl
 ·rename_i h;rcases JA hle p with e|⟨e1,e2⟩
  ·exact absurd e h
  ·exact D6 (by omega)
def Fr.kv{w w':wn}(h:Fr (BN A.kv) w w'):Fr A.S w w':=h.mono λx hx=>by simp[EH.S,hx]
def Fr.mv{w w':wn}(h:Fr (BN A.mv) w w'):Fr A.S w w':=h.mono λx hx=>by simp[EH.S,hx]
def Fr.cel{w w':wn}(h:Fr [A.cel] w w'):Fr A.S w w':=h.mono λx hx=>by simp only[zF]at hx;simp[EH.S,hx]
def Fr.tk{w w':wn}(h:Fr [A.tk] w w'):Fr A.S w w':=h.mono λx hx=>by simp only[zF]at hx;simp[EH.S,hx]
def Vk{k:Int}(h:Ct A w c)(hk:∀w',Fr A.S w w'->Ct A w' (c.carve k).1->K (match (c.carve k).2 with | wh p=>wc #[v6 wg (p:Int),wd wk] | wj=>wc #[v6 wg 0,wd wl]) w'):
  I Z 188 #[v7 (wh ⟨A.cel,0,wj⟩),v6 wg k] w K:=by
 obtain⟨cs,c1,c2,c3,c4,c5,c6⟩:=h.blk;refine F188.sh (HS h ?_);simp only[zv];refine F188.k3.to ?_;simp only[zv];unfold Ce.carve at hk;refine Ad (v:=v7 (wh ⟨A.tab,0,wj⟩)) c1 c3 (V5 h.pg (λhn=>?_) λp w1 hp hpl hf1 hp1=>?_)
 ·rw[hn]at hk;simp only[zv];exact F188.k6.to (hk w (Fr.refl _ _) h)
 ·rw[hp]at hk;have hle:=h.pg.le;have h1:=h.setKs hf1 hp1 (by simp);obtain⟨ds,d1,d2,d3,d4,d5,d6⟩:=h1.blk;simp only[zv];refine A9 (λ_=>True) λw2 hf2 _=>⟨trivial,?_⟩;have h2:=h1.keep0 hf2;simp only[];refine⟨Ad (v:=v7 (wh ⟨A.mem,0,wj⟩)) (hf2.at_ d1 (by simp)) d4 ⟨trivial,?_⟩,trivial⟩;refine⟨Vj h2.mm (p:=(p:Int)) (by omega) λw3 ok hf3 h3m=>⟨trivial,?_⟩,trivial⟩
  have h3:=h2.setMem hf3 h3m (QQ _ _ _);simp only[zv];refine AR (by omega) (by omega) ?_;rw[zK];refine⟨h3.setCh (l:=(DM c.m p k).2) (by omega) (QR _ _ _) λw4 hf4 h4=>⟨trivial,F188.k6.to ?_⟩,trivial⟩;exact hk w4 ((hf1.kv.trans hf2.w).trans (hf3.mv.trans hf4.cel)) h4
def Po{p:Int}(h:c.small p=wk):0<BR (BT c.ks p):=by unfold Ce.small at h;rcases E1 (BT c.ks p) with⟨_,e,f⟩|⟨_,e,f⟩|⟨_,e,f⟩|⟨_,e,f⟩|⟨_,e,f⟩<;>rw[f]<;>simp[e]at h ⊢
def Xq{p:Int}(h:Ct A w c)(hk:∀w',Fr A.S w w'->Ct A w' (c.take p).1->K (match (c.take p).2 with | wh a=>wc #[v6 wg a,wd wk] | wj=>wc #[v6 wg 0,wd wl]) w'):
  I Z 183 #[v7 (wh ⟨A.cel,0,wj⟩),v6 wg p] w K:=by
 refine F183.sh (NF h λw1 hf1=>?_);have h1:=h.keep0 hf1;unfold Ce.take at hk;by_cases z:c.left p=0
 ·rw[vy z]at hk;simp only[zv,vw,z];exact hk w1 hf1.w h1
 rw[vx z]at hk;have hs:c.small p=wk:=by
  cases e:c.small p with
  | true=>rfl
  | false=>exact absurd (by unfold Ce.left;rw[e];rfl) z
 obtain⟨p0,p1,p2⟩:=Nk h hs;have hcc:=Po hs;have hsz:=J4 (BT c.ks p);obtain⟨p,rfl⟩:=xU p0;simp only[zv,z];refine F183.k3.to (H2 h1 λw2 hf2=>?_);have h2:=h1.keep0 hf2;have f2:=hf1.trans hf2;refine A9 (λw'=>Fr [] w2 w') λw3 hf3 _=>⟨hf3,?_⟩;obtain⟨cs,c1,c2,c3,c4,c5,c6⟩:=h2.blk;simp only[zv];refine AR (by omega) (by omega) ?_;rw[zK]
 refine Au (v:=v7 (wh ⟨A.mem,0,wj⟩)) (λw' hw=>⟨cs,_,_,hw.at_ c1 (by simp),c4⟩) ?_;have hch:(cs.toList.drop (2+p*2)).take 2=[v6 wg (c.ch.getD p (0,0)).1,v6 wg (c.ch.getD p (0,0)).2]:=by
  have q1:=(c6 p (by omega)).1;have q2:=(c6 p (by omega)).2;apply zL;intro i;rw[zD,zC]
  match i with
  | 0=>simpa using q1
  | 1=>simpa using q2
  | i+2=>rw[vx (by omega)];rfl
 refine AO (vs:=[v6 wg (c.ch.getD p (0,0)).1,v6 wg (c.ch.getD p (0,0)).2]) (λw' hw=>⟨cs,_,_,hw.at_ c1 (by simp),by omega,hch⟩) ?_;have hcr:=h.cr p;have hmm:∀w',Fr [] w2 w'->CF w' A.mem A.mv c.m:=λw' hf=>(h2.keep0 hf).mm;have eT:∀(x:Nat),c.chain ((p:Nat):Int)=c.ch.getD p (0,0):=λ_=>by simp[Ce.chain]
 simp only[eT 0]at hk;generalize hl:c.ch.getD p (0,0)=l at *;obtain⟨tr1,tr2⟩:=S6 (m:=c.m) (p:=(p:Int)) (k:=BT c.ks (p:Int)) (l:=l) hcr;have tr2:=tr2 hcc;have fin:∀w4 x8,Fr [] w2 w4->w2.heap.size<=x8->w4.heap[x8]?=wh (wt (EL (Eb c.m p (BT c.ks p) l).2).cells 241 (0,0))->
   F183.k5 K (v7 (wh ⟨A.cel,0,wj⟩)) (v6 wg (p:Int)) (v6 wg (BT c.ks p)) (v6 wg (Eb c.m p (BT c.ks p) l).1) (v7 (wh ⟨x8,0,wj⟩)) w4:=λw4 x8 hf4 hx8 e8=>by
  have h4:=h2.keep0 hf4;refine F183.k5.to (Qt (by omega) tr2 ?_);simp only[zv];have n8:x8≠A.cel:=by have:=BP c1;omega
  refine A9 (λw'=>w'.heap[x8]?=wh (wt (EL (Eb c.m p (BT c.ks p) l).2).cells 241 (0,0))) λw5 hf5 _=>⟨hf5.at_ e8 (by simp),?_⟩;have h5:=h4.keep0 hf5;simp only[];refine AO (vs:=[v6 wg (Eb c.m p (BT c.ks p) l).2.1,v6 wg (Eb c.m p (BT c.ks p) l).2.2]) (λw' hw=>⟨_,_,_,hw,by simp[EL,wm.cells],rfl⟩) ?_;refine AR (by omega) (by omega) ?_;rw[zK]
  refine⟨h5.setCh (l:=(Eb c.m p (BT c.ks p) l).2) (by omega) tr1 λw6 hf6 h6=>⟨hf6.at_ (hf5.at_ e8 (by simp)) (by simpa using n8),?_⟩,trivial⟩;obtain⟨ds,d1,d2,d3,d4,d5,d6⟩:=h6.blk;refine Ad (v:=v7 (wh ⟨A.tk,0,wj⟩)) d1 d5 (Qq h6.tk λw7 hf7 h7b=>?_);have h7:=h6.setTk hf7 h7b;obtain⟨es,e1,e2,e3,e4,e5,e6⟩:=h7.blk
  refine A9 (λw'=>w'.heap[A.cel]?=wh (wt es 244 (0,0))) λw8 hf8 _=>⟨hf8.at_ e1 (by simp),?_⟩;have h8:=h7.keep0 hf8;simp only[];refine Au (v:=v7 (wh ⟨A.mem,0,wj⟩)) (λw' hw=>⟨_,_,_,hw,e4⟩) ⟨Ei ⟨hf8.at_ e1 (by simp),?_⟩,trivial⟩;have e18:=hf8.at_ e1 (by simp);refine⟨Lq h8.mm (by omega) λw9 hf9 h9m=>⟨hf9.at_ e18 (h8.mm.own.nb e18 (by decide)),?_⟩,trivial⟩
  have h9:=h8.setMem hf9 h9m (Dw _ _ _ _);refine hk w9 ?_ h9;exact ((((f2.trans hf4).trans hf5).w.trans hf6.cel).trans (hf7.tk.trans hf8.w)).trans hf9.mv
 refine⟨P1 (l:=l) (hmm w3 hf3) (by omega) (by omega) λw4 ok hf4=>⟨hf3.trans hf4,?_⟩,⟨?_,trivial⟩⟩
 ·simp only[zv];refine⟨Ar λx8 w5 hn5=>⟨(hf3.trans hf4).trans hn5.fr,AA (x:=EL (Eb c.m p (BT c.ks p) l).2) hn5.at_ rfl E0 rfl λw6 hu6=>⟨?_,?_⟩,trivial⟩,trivial⟩
  ·have:=((hf3.trans hf4).trans hn5.fr).size;have:=hn5.is;have:=(hf3.trans hf4).size;exact ((hf3.trans hf4).trans hn5.fr).then hu6.fr λz hz=>ws (by simp only[zF]at hz;omega)
  ·have:=hn5.is;have:=(hf3.trans hf4).size;exact fin w6 x8 (((hf3.trans hf4).trans hn5.fr).then hu6.fr λz hz=>ws (by simp only[zF]at hz;omega)) (by omega) hu6.at_
 ·refine Ar λx8 w4 hn4=>⟨hf3.trans hn4.fr,P1 (l:=l) (hmm w4 (hf3.trans hn4.fr)) (by omega) (by omega) λw5 ok hf5=>⟨(hf3.trans hn4.fr).trans hf5,?_⟩,trivial⟩;simp only[zv];have i4:=hn4.is;have s3:=hf3.size;refine⟨AA (x:=EL (Eb c.m p (BT c.ks p) l).2) (hf5.at_ hn4.at_ (by simp)) rfl E0 rfl λw6 hu6=>⟨?_,?_⟩,trivial⟩
  ·exact ((hf3.trans hn4.fr).trans hf5).then hu6.fr λz hz=>ws (by simp only[zF]at hz;omega)
  ·exact fin w6 x8 (((hf3.trans hn4.fr).trans hf5).then hu6.fr λz hz=>ws (by simp only[zF]at hz;omega)) (by omega) hu6.at_
def Vy{n:Int}(h:Ct A w c)(hn:n<=64)(hk:∀w',Fr A.S w w'->Ct A w' (c.large n).1->K (match (c.large n).2 with | wh a=>wc #[v6 wg a,wd wk] | wj=>wc #[v6 wg 0,wd wl]) w'):
  I Z 119 #[v7 (wh ⟨A.cel,0,wj⟩),v6 wg n] w K:=by
 obtain⟨cs,c1,c2,c3,c4,c5,c6⟩:=h.blk;have hle:=h.pg.le;refine F119.sh (HS h ?_);simp only[zv];refine F119.k3.to ?_;simp only[zv];unfold Ce.large at hk;refine Ad (v:=v7 (wh ⟨A.tab,0,wj⟩)) c1 c3 (Xo h.pg hn (λhs w1 hf1=>?_) λp w1 hs hn1 hl hf1 hp1=>?_)
 ·rw[hs]at hk;simp only[zv];exact hk w1 hf1.w (h.keep0 hf1)
 ·rw[hs]at hk;simp only at hk;have h1:=h.setKs hf1 hp1 (by rw[m8,D6 hl]);simp only[zv];have eg:(GM (p:Int) n).1=(p:Int)*32:=by unfold GM;rw[vy (by omega)]
  rw[eg]at hk;refine F119.k6.to (Kc (by omega) (by omega) ?_);obtain⟨ds,d1,d2,d3,d4,d5,d6⟩:=h1.blk;simp only[zv];refine Ad (v:=v7 (wh ⟨A.tk,0,wj⟩)) d1 d5 (Qq h1.tk λw2 hf2 h2b=>?_);have h2:=h1.setTk hf2 h2b;obtain⟨es,e1,e2,e3,e4,e5,e6⟩:=h2.blk;refine Ad (v:=v7 (wh ⟨A.mem,0,wj⟩)) e1 e4 ?_;rw[BO (n:=n*32) (by omega)];refine Lq h2.mm (by omega) λw3 hf3 h3m=>?_
  exact hk w3 ((hf1.kv.trans hf2.tk).trans hf3.mv) (h2.setMem hf3 h3m (Dw _ _ _ _))
def WQ{a:Int}(h:Ct A w c)(hk:∀w',Fr A.S w w'->Ct A w' (c.give a).1->K (wd (c.give a).2) w'):
  I Z 338 #[v7 (wh ⟨A.cel,0,wj⟩),v6 wg a] w K:=by
 obtain⟨cs,c1,c2,c3,c4,c5,c6⟩:=h.blk;have hle:=h.pg.le;refine F338.sh (T6 h ?_);unfold Ce.give at hk;cases hi:c.isIt a with
 | false=>
  rw[hi]at hk;simp only[yZ,vq]at hk;simp only[zv];exact hk w (Fr.refl _ _) h
 | true=>
  rw[hi]at hk;simp only[vu]at hk;have ha:0<=a/\a<c.n:=by simp[Ce.isIt,Fu]at hi;exact hi.1
  have hml:=h.ml;have hmle:=h.mm.le;have han:a<c.m.length:=ha.2;have hpg:Cq a=a / 32:=by unfold Cq;rw[vy (by omega)]
  simp only[zv];refine F338.k3.to ?_;simp only[zv];refine Ad (v:=v7 (wh ⟨A.tk,0,wj⟩)) c1 c5 (NK h.tk λw1 hf1 h1b=>?_);have h1:=h.setTk hf1 h1b;refine G6 (H2 h1 λw2 hf2=>?_);have h2:=h1.keep0 hf2;obtain⟨ds,d1,d2,d3,d4,d5,d6⟩:=h2.blk;by_cases k5:BT c.ks (Cq a)=5
  ·rw[vy k5]at hk;simp only[zv,vw,k5];refine Ad (v:=v7 (wh ⟨A.tab,0,wj⟩)) d1 d3 (PA h2.pg λw3 hf3 h3p=>?_);exact hk w3 ((hf1.tk.trans hf2.w).trans hf3.kv) (h2.setKs hf3 h3p (MV hle _))
  ·rw[vx k5]at hk;simp only[zv,k5];refine F338.k9.to (Vs ?_);simp only[zv];refine A9 (λ_=>True) λw3 hf3 _=>⟨trivial,?_⟩;have h3:=h2.keep0 hf3;have d13:=hf3.at_ d1 (by simp);have hp0:0<=Cq a/\Cq a<64:=by rw[hpg];omega
   obtain⟨p,hp⟩:=xU hp0.1;rw[hp]at hk hp0 ⊢;simp only[];refine AR (by omega) (by omega) ?_;rw[zK];have hch:(ds.toList.drop (2+p*2)).take 2=[v6 wg (c.ch.getD p (0,0)).1,v6 wg (c.ch.getD p (0,0)).2]:=by
    have q1:=(d6 p (by omega)).1;have q2:=(d6 p (by omega)).2;apply zL;intro i;rw[zD,zC]
    match i with
    | 0=>simpa using q1
    | 1=>simpa using q2
    | i+2=>rw[vx (by omega)];rfl
   have eT:c.chain ((p:Nat):Int)=c.ch.getD p (0,0):=by simp[Ce.chain]
   rw[eT]at hk;obtain⟨g1,g2⟩:=S4 (m:=c.m) (p:=(p:Int)) (k:=BT c.ks (p:Int)) (i:=(GL (BT c.ks (p:Int)) a).1) (l:=c.ch.getD p (0,0))
   have fin:∀w4 ok,Fr (BN A.mv) w3 w4->CF w4 A.mem A.mv (Fe c.m p (BT c.ks p) (c.ch.getD p (0,0)) (GL (BT c.ks (p:Int)) a).1).1->True/\Ao 0 (wc #[EL (Fe c.m p (BT c.ks p) (c.ch.getD p (0,0)) (GL (BT c.ks (p:Int)) a).1).2,wd ok]) w4 λx56_22 w22=>Ao 1 (wc #[EL (Fe c.m p (BT c.ks p) (c.ch.getD p (0,0)) (GL (BT c.ks (p:Int)) a).1).2,wd ok]) w22 λx57_23 w23=>AQ 64 2 (v7 (wh ⟨A.cel,2,wj⟩)) (v6 wg (p:Int)) w23 λx60_24 w24=>(Aj 2 x60_24 x56_22 w24 λw25=>(True/\F338.k11 K w25))/\True:=λw4 ok hf4 hm4=>by
    have h4:=h3.setMem hf4 hm4 g2;refine⟨trivial,?_⟩;simp only[zv];refine AR (by omega) (by omega) ?_;rw[zK];refine⟨h4.setCh (by omega) g1 λw5 hf5 h5=>⟨trivial,F338.k11.to ?_⟩,trivial⟩;exact hk w5 ((hf1.tk.trans (hf2.trans hf3).w).trans (hf4.mv.trans hf5.cel)) h5
   refine⟨Ad (v:=v7 (wh ⟨A.mem,0,wj⟩)) d13 d4 ⟨trivial,?_⟩,?_,trivial⟩
   ·exact⟨AS (n:=2) d13 (by omega) hch ⟨trivial,Pz (l:=c.ch.getD p (0,0)) h3.mm (by omega) fin,trivial⟩,trivial⟩
   ·exact AS (n:=2) d13 (by omega) hch ⟨trivial,Ad (v:=v7 (wh ⟨A.mem,0,wj⟩)) d13 d4 ⟨trivial,Pz (l:=c.ch.getD p (0,0)) h3.mm (by omega) fin,trivial⟩,trivial⟩
def Px{p:Int}(h:Ct A w c)(hk:∀w',Fr A.S w w'->Ct A w' (c.drop p).1->K (wd (c.drop p).2) w'):
  I Z 212 #[v7 (wh ⟨A.cel,0,wj⟩),v6 wg p] w K:=by
 have hle:=h.pg.le;refine F212.sh (Qh h λw1 hf1=>?_);have h1:=h.keep0 hf1;unfold Ce.drop at hk;cases hs:c.small p with
 | false=>
  rw[hs]at hk;simp only[yZ,false_and,vq]at hk;simp only[zv];exact hk w1 hf1.w h1
 | true=>
  rw[hs]at hk;simp only[true_and]at hk;simp only[zv];refine NF h1 λw2 hf2=>H2 (h1.keep0 hf2) λw3 hf3=>Mk ?_;have h3:=(h1.keep0 hf2).keep0 hf3;have f3:=hf1.trans (hf2.trans hf3);by_cases d:c.left p<BR (BT c.ks p)
  ·simp only[zv,d];rw[vx (by omega)]at hk;exact hk w3 f3.w h3
  ·simp only[zv,d];rw[vy (by omega)]at hk;refine F212.k3.to ?_;obtain⟨ds,d1,d2,d3,d4,d5,d6⟩:=h3.blk;simp only[zv];refine Ad (v:=v7 (wh ⟨A.tab,0,wj⟩)) d1 d3 (PA h3.pg λw4 hf4 h4p=>?_);exact hk w4 (f3.w.trans hf4.kv) (h3.setKs hf4 h4p (MV hle _))
end
structure Hr(w:wn)(b m:Nat)(n:Int)(l:List ((Int × Int) × wm × Nat))(c:Nat):Prop where
 blk:w.heap[b]?=wh (wt #[v6 wg n,.map (wh m)] 247 (0,0))
 map:EG Ec w m l c
 int:∀x∈l,∃p:Int,x.2.1=v6 wg p
def Hr.keep{S:List Nat}{w w':wn}{b m c:Nat}{n:Int}{l:List ((Int × Int) × wm × Nat)}(h:Hr w b m n l c)(hf:Fr S w w')(hb:b∉S)(hm:m∉S):Hr w' b m n l c:=
 ⟨hf.at_ h.blk hb,h.map.keep hf hm,h.int⟩
def UR:wm->Int
 | v6 _ p=>p
 | _ => -1
def Fo(l:List ((Int × Int) × wm × Nat))(a:Int × Int):Int:=match Fk a l 0 with
 | some (_,v)=>UR v
 | none => -1
section
variable{K:VK}{w:wn}
def Xz(n:Int)(m:Nat):(Instr.build 247 #[(0,v6 wg n),(1,.map (wh m))]).run Z w=.ok (.agg #[v6 wg n,.map (wh m)]) w:=by kernel_rfl
def QD(t k:Int):(Instr.build 265 #[(0,v6 wg t),(1,v6 wg k)]).run Z w=.ok (Ec (t,k)) w:=by kernel_rfl
def Yo{t:Int}(h:∀b m w',Fr [] w w'->w.heap.size<=b->w.heap.size<=m->b≠m->Hr w' b m (if t<0 then 0 else if t>9 then 9 else t) [] 0->K (v7 (wh ⟨b,0,wj⟩)) w'):I Z 113 #[v6 wg t] w K:=by refine F113.sh (EI ?_);generalize (if t<0 then 0 else if t>9 then 9 else t)=n at h ⊢;refine BD (kv:=Ec) λw1 hf1 hm1 hs1=>A4 (Xz n _) ?_;refine Ar λb w2 hn2=>?_;have hi:=hn2.is;exact h b w.heap.size w2 (hf1.trans hn2.fr) (by have:=hf1.size;omega) (vl _) (by omega) ⟨hn2.at_,hm1.keep hn2.fr (by simp),by simp⟩
def RD{b m c:Nat}{n t k:Int}{l:List ((Int × Int) × wm × Nat)}(hC:Hr w b m n l c)(h:K (v6 wg (Fo l (t,k))) w):I Z 184 #[v7 (wh ⟨b,0,wj⟩),v6 wg t,v6 wg k] w K:=by
 refine F184.sh ⟨_,Ck _ _ _ Tryz.underlying168,?_⟩;simp only[Ag];refine F184.k3.to ?_;simp only[zv];refine Ad (v := .map (wh m)) hC.blk rfl (A4 (QD t k) ?_);have hx:∀ {j:Nat} {v:wm},Fk (t,k) l 0=wh (j,v)->∃p:Int,v=v6 wg p:=fun {j v} e=>by
  have hex:∃x∈l,x.1=(t,k):=by apply xI;intro hc;rw[GA λx hx he=>hc ⟨x,hx,he⟩]at e;cases e
  obtain⟨j',x,h1,_,_,h4⟩:=J7 (i:=0) hex;rw[e]at h4;simp only[zS,uz]at h4;obtain⟨p,hp⟩:=hC.int x (yR h1);exact⟨p,by rw[h4.2,hp]⟩
 cases e:Fk (t,k) l 0 with
 | none=>
  refine B9 IA Tryz.underlying245 (z := .int wg 0) (by kernel_rfl) hC.map (t,k) (.inl ⟨e,rfl,rfl⟩) ?_;simp only[zv,vw,vu];refine F184.k6.to ?_;simpa[Fo,e] using h
 | some p=>
  obtain⟨j,v⟩:=p;obtain⟨p,rfl⟩:=hx e;refine B9 IA Tryz.underlying245 (z := .int wg 0) (by kernel_rfl) hC.map (t,k) (ws ⟨j,e,rfl⟩) ?_;simp only[zv,vw,vu];simpa[Fo,e,UR] using h
end
end
section
open Go.RowKit
open Go.ChangeMaps (setBlock)
def QT(p:Int):wm->Bool
 | v6 wg q=>decide (q=p)
 | _=>wl
def KX{p:Int}{v:wm}:QT p v=wk↔v=v6 wg p:=by
 unfold QT;split
 ·simp
 ·rename_i h;simp only[yZ,false_iff];exact λe=>h p e
def Ds(l:List ((Int × Int) × wm × Nat))(p:Int):Int × Int:=match l.find? (λx=>QT p x.2.1) with
 | some x=>x.1
 | none=>(-1,0)
def HN{l:List ((Int × Int) × wm × Nat)}{p:Int}(h:∀x∈l,x.2.1≠v6 wg p):Ds l p=(-1,0):=by unfold Ds;rw[zB.2 λx hx=>λe=>h x hx (KX.1 e)]
def JJ{l:List ((Int × Int) × wm × Nat)}{p:Int}{x:(Int × Int) × wm × Nat}(hx:x∈l)(hp:x.2.1=v6 wg p)(hu:∀x∈l,∀y∈l,x.2.1=y.2.1->x=y):Ds l p=x.1:=by
 unfold Ds;cases e:l.find? (λx=>QT p x.2.1) with
 | none=>exact absurd (KX.2 hp) (zB.1 e x hx)
 | some y=>
  have h1:=List.mem_of_find?_eq_some e;have h2:y.2.1=v6 wg p:=KX.1 (by have:=List.find?_some e;exact this);rw[hu x hx y h1 (by rw[hp,h2])]
structure EV(l:List ((Int × Int) × wm × Nat))(c:Nat):Prop where
 born:∀x∈l,x.2.2<c
 once:(l.map λx=>x.2.2).Nodup
 uni:∀x∈l,∀y∈l,x.2.1=y.2.1->x=y
section
variable{K:VK}{w:wn}
def OS{r:Nat}{o o':Obj}(hr:w.heap[r]?=wh o):H9 w r o' (setBlock w r o'):=H0 hr o'
def Ra{W:wn}{b m c r:Nat}{n p:Int}{l:List ((Int × Int) × wm × Nat)}(hC:Hr W b m n l c)(hg:EV l c)(hr0:W.heap.size<=r)(h:∀w',Fr [] W w'->K (wc #[v6 wg (Ds l p).1,v6 wg (Ds l p).2]) w'):
  ∀(d:Nat) (seen:Array Nat) (w:wn),(leftOf (l.map (ent Ec)).toArray seen).size<=d->Fr [] W w->w.heap[r]?=wh (.mapIter (wh m) c seen c)->(∀x∈l,seen.contains x.2.2=wk->x.2.1≠v6 wg p)->
   F185.l4 K (v6 wg p) (v7 (wh ⟨r,0,wj⟩)) w:=by
 have hmW:=BP hC.map;intro d;induction d with
 | zero=>
  intro seen w hd hf hr hs;have hm:=hC.map.keep hf (by simp);rcases run_next_at (P:=Z) w 0 r m c c seen _ c hr hm (λx hx=>by
   simp only[u7]at hx;obtain⟨y,hy,rfl⟩:=hx;exact hg.born y hy) (vl _) with⟨h0,hrun⟩ | ⟨e,he,w1,hal,hrun⟩
  ·refine F185.l4.to (A4 hrun ⟨#[wd wl],wd wl,rfl,rfl,?_⟩);simp only[Ag];refine F185.k8.to ?_;have:=h w hf
   rwa [HN λx hx=>hs x hx (all_seen _ _ h0 _ (u7.2 ⟨x,hx,rfl⟩))]at this
  ·have:=Array.size_pos_of_mem (Array.mem_toList_iff.1 he);omega
 | succ d ih=>
  intro seen w hd hf hr hs;have hm:=hC.map.keep hf (by simp);rcases run_next_at (P:=Z) w 0 r m c c seen _ c hr hm (λx hx=>by
   simp only[u7]at hx;obtain⟨y,hy,rfl⟩:=hx;exact hg.born y hy) (vl _) with⟨h0,hrun⟩ | ⟨e,he,w1,hal,hrun⟩
  ·refine F185.l4.to (A4 hrun ⟨#[wd wl],wd wl,rfl,rfl,?_⟩);simp only[Ag];refine F185.k8.to ?_;have:=h w hf
   rwa [HN λx hx=>hs x hx (all_seen _ _ h0 _ (u7.2 ⟨x,hx,rfl⟩))]at this
  ·have hsh:=left_shrinks _ _ _ he;obtain⟨hem,hes⟩:=mem_left he;obtain⟨x,hx,rfl⟩:=u7.1 hem;have f1:Fr [] w w1/\w1.heap=w.heap:=by
    rcases hal with rfl|rfl
    ·exact⟨Fr.refl _ _,rfl⟩
    ·exact⟨Fr.drew w,rfl⟩
   have hr1:w1.heap[r]?=wh (.mapIter (wh m) c seen c):=by rw[f1.2];exact hr
   have hu:=OS (o' := .mapIter (wh m) c (seen.push x.2.2) c) hr1;have ff:Fr [] W (setBlock w1 r (.mapIter (wh m) c (seen.push x.2.2) c)):=(hf.trans f1.1).then hu.fr λz hz=>ws (by simp only[zF]at hz;omega);refine F185.l4.to (A4 hrun ?_);simp only[zv];have hrun2:=run_entry_at (P:=Z) _ r m c seen _ c (ent Ec x) hu.at_ (hC.map.keep ff (by simp)) hem (by simpa[ent,Function.comp_def] using hg.once)
   refine F185.k5.to (A4 hrun2 ?_);obtain⟨q,hq⟩:=hC.int x hx;simp only[zv,ent,hq];refine Ar λg w2 hn2=>AA (x:=Ec x.1) hn2.at_ rfl (by simp[Ec,wm.cells,wm.oneCell']) rfl λw3 hu3=>?_;have i2:=hn2.is;have s2:=ff.size;have f2:Fr [] W w3:=(ff.trans hn2.fr).then hu3.fr λz hz=>ws (by simp only[zF]at hz;omega);by_cases c1:q=p
   ·subst c1;simp only[zv,vw];refine A9 (λw'=>Fr [] w3 w') λw4 hf4 _=>⟨hf4,?_⟩;refine Au (v:=v6 wg x.1.1) (λw' hw=>⟨_,_,_,hw.at_ hu3.at_ (by simp),rfl⟩) ?_;refine Au (v:=v6 wg x.1.2) (λw' hw=>⟨_,_,_,hw.at_ hu3.at_ (by simp),rfl⟩) ?_;have:=h w4 (f2.trans hf4)
    rwa [JJ hx hq hg.uni]at this
   ·simp only[zv,c1];refine ih (seen.push x.2.2) w3 (by have:(ent Ec x).born=x.2.2:=rfl;rw[this]at hsh;omega) f2 ?_ λy hy hc=>?_
    ·refine hu3.fr.at_ (hn2.fr.at_ hu.at_ (by simp)) ?_;have:=BP hu.at_;simp only[zF];omega
    ·rw[Array.contains_push,Bool.or_eq_true]at hc;rcases hc with hc|hc
     ·exact hs y hy hc
     ·have e2:y.2.2=x.2.2:=by simpa using hc
      intro hyp;have:x=y:=by
       obtain⟨i,hi,rfl⟩:=yW hx;obtain⟨j,hj,rfl⟩:=yW hy;by_cases eij:i=j
       ·subst eij;rfl
       ·rcases Nat.lt_or_gt_of_ne eij with hlt|hlt
        ·have q:=xP.1 hg.once i j (by simpa using hi) (by simpa using hj) hlt;simp only[b8]at q;exact absurd e2.symm q
        ·have q:=xP.1 hg.once j i (by simpa using hj) (by simpa using hi) hlt;simp only[b8]at q;exact absurd e2 q
      subst this;rw[hq]at hyp;simp only[wm.int.injEq,true_and]at hyp;exact c1 hyp
def P9{b m c:Nat}{n p:Int}{l:List ((Int × Int) × wm × Nat)}(hC:Hr w b m n l c)(hg:EV l c)(h:∀w',Fr [] w w'->K (wc #[v6 wg (Ds l p).1,v6 wg (Ds l p).2]) w'):I Z 185 #[v7 (wh ⟨b,0,wj⟩),v6 wg p] w K:=by refine F185.sh ⟨_,Ck _ _ _ Tryz.underlying168,?_⟩;simp only[Ag];refine F185.k3.to ?_;simp only[zv];refine Ad (v := .map (wh m)) hC.blk rfl (A4 (run_range_map w 245 265 3 m _ c Tryz.underlying245 hC.map) ?_);have hn:=DE.mk' w (.mapIter (wh m) c #[] c);exact Ra hC hg (vl _) h _ #[] _ (vl _) hn.fr hn.at_ λx _ hx=>by simp at hx
end
end
section
open Go.RowKit
def setL(l:List ((Int × Int) × wm × Nat))(a:Int × Int)(p:Int)(c:Nat):List ((Int × Int) × wm × Nat) × Nat:=match Fk a l 0 with
 | none=>(l++[(a,v6 wg p,c)],c+1)
 | some (j,_)=>(l.set j (a,v6 wg p,(l[j]?.map λx=>x.2.2).getD 0),c)
def TX{k:Int}:BV k=0↔k<1∨k≥5:=by
 unfold BV;by_cases h1:k=1
 ·simp[h1]
 by_cases h2:k=2
 ·simp[h2]
 by_cases h3:k=3
 ·simp[h3]
 by_cases h4:k=4
 ·simp[h4]
 simp only[h1,h2,h3,h4,vq,true_iff];omega
section
variable{K:VK}{w:wn}
def QN(x y:Operand)(m:Nat):(do eqGuard .eql 245 x y (.map (wh m)) (.map wj);binOp .eql 245 (.map (wh m)) (.map wj):Sem wm).run Z w=.ok (wd wl) w:=by
 have h:∀d,(Op.equalIn (d+1) 245 (.map (wh m)) (.map wj)).run Z w=.ok wl w:=λd=>by simp[Op.equalIn,ut Tryz.underlying245]
 exact Ki (by simp[eqGuard]) rfl (h 9999)
def Ys{b m c:Nat}{n t k p:Int}{l:List ((Int × Int) × wm × Nat)}(hC:Hr w b m n l c)(hg:EV l c)(h0:¬(0<=t/\t<n/\BV k≠0/\0<=p/\p<64/\(Ds l p).1<0)->∀w',Fr [] w w'->K (wd wl) w')(h1:(0<=t/\t<n/\BV k≠0/\0<=p/\p<64/\(Ds l p).1<0)->∀w',Fr [m] w w'->Hr w' b m n (setL l (t,k) p c).1 (setL l (t,k) p c).2->K (wd wk) w'):
  I Z 124 #[v7 (wh ⟨b,0,wj⟩),v6 wg t,v6 wg k,v6 wg p] w K:=by
 have hbm:b≠m:=λe=>by subst e;have h1:=hC.blk;have h2:=hC.map;unfold EG at h2;rw[h1]at h2;cases h2
 refine F124.sh ⟨_,Ck _ _ _ Tryz.underlying168,?_⟩;simp only[zv];refine Ad (v := .map (wh m)) hC.blk rfl ⟨_,QN _ _ m,?_⟩;simp only[zv];by_cases c1:t<0
 ·simp only[zv,c1];exact h0 (by omega) w (Fr.refl _ _)
 simp only[zv,c1];refine Ad (v:=v6 wg n) hC.blk rfl ?_;by_cases c2:t≥n
 ·simp only[zv,c2];exact h0 (by omega) w (Fr.refl _ _)
 simp only[zv,c2];refine Ei ?_;by_cases c3:BV k=0
 ·simp only[zv,vw,c3];exact h0 (λe=>e.2.2.1 c3) w (Fr.refl _ _)
 simp only[zv,c3];by_cases c4:p<0
 ·simp only[zv,c4];exact h0 (by omega) w (Fr.refl _ _)
 simp only[zv,c4];by_cases c5:p≥64
 ·simp only[zv,c5];exact h0 (by omega) w (Fr.refl _ _)
 simp only[zv,c5];refine F124.k3.to (P9 hC hg λw1 hf1=>?_);by_cases c6:(Ds l p).1≥0
 ·simp only[zv,c6];exact h0 (by omega) w1 hf1
 simp only[zv,c6];have hC1:=hC.keep hf1 (by simp) (by simp);refine F124.k6.to ?_;simp only[zv];refine Ad (v := .map (wh m)) hC1.blk rfl (A4 (QD t k) ?_);have hlt:=BP hC.map;have fin:∀w' l' c',setL l (t,k) p c=(l',c')->Fr [m] w1 w'->EG Ec w' m l' c'->(∀x∈l',∃q:Int,x.2.1=v6 wg q)->K (wd wk) w':=λw' l' c' e hf hm hi=>by
  refine h1 ⟨by omega,by omega,c3,by omega,by omega,by omega⟩ w' ((hf1.mono (by simp)).trans hf) ?_;rw[e];exact⟨hf.at_ hC1.blk (by simpa using hbm),hm,hi⟩
 cases e:Fk (t,k) l 0 with
 | none=>
  refine BF IA Tryz.underlying245 hC1.map (t,k) (.int wg p) e λw' hf hs hm=>fin w' _ _ (by simp[setL,e]) hf hm λx hx=>?_;rcases n7.1 hx with hx|hx
  ·exact hC.int x hx
  ·rw[zF.1 hx];exact⟨p,rfl⟩
 | some jv=>
  obtain⟨j,v⟩:=jv;have hex:∃x∈l,x.1=(t,k):=by apply xI;intro hc;rw[GA λx hx he=>hc ⟨x,hx,he⟩]at e;cases e
  obtain⟨j',x,g1,g2,_,g4⟩:=J7 (i:=0) hex;rw[vd]at g4;have ej:j=j':=by rw[e]at g4;simp only[zS,uz]at g4;exact g4.1
  subst ej;refine BH IA Tryz.underlying245 hC1.map (t,k) (.int wg p) g1 g2 g4 λw' hf hs hm=>fin w' _ _ (by simp[setL,e,g1]) hf hm λy hy=>?_;rcases xO hy with hy|hy
  ·exact hC.int y hy
  ·rw[hy];exact⟨p,rfl⟩
end
def Uj:EV [] 0:=⟨by simp,by simp,by simp⟩
def Uk{l:List ((Int × Int) × wm × Nat)}{c:Nat}{a:Int × Int}{p:Int}(hg:EV l c)(hp:∀x∈l,x.2.1≠v6 wg p):EV (setL l a p c).1 (setL l a p c).2:=by
 unfold setL;cases e:Fk a l 0 with
 | none=>
  refine⟨λx hx=>?_,?_,λx hx y hy he=>?_⟩
  ·rcases n7.1 hx with hx|hx
   ·have:=hg.born x hx;simp only;omega
   ·rw[zF.1 hx];simp
  ·simp only[m9,uw,u6];rw[zQ];refine⟨hg.once,by simp,λx hx y hy=>?_⟩;obtain⟨z,hz,rfl⟩:=u7.1 hx;have:=hg.born z hz;rw[zF.1 hy];omega
  ·rcases n7.1 hx with hx|hx<;>rcases n7.1 hy with hy|hy
   ·exact hg.uni x hx y hy he
   ·rw[zF.1 hy]at he;exact absurd he (hp x hx)
   ·rw[zF.1 hx]at he;exact absurd he.symm (hp y hy)
   ·rw[zF.1 hx,zF.1 hy]
 | some jv=>
  obtain⟨j,v⟩:=jv;have hex:∃x∈l,x.1=a:=by apply xI;intro hc;rw[GA λx hx he=>hc ⟨x,hx,he⟩]at e;cases e
  obtain⟨j',x0,g1,g2,_,g4⟩:=J7 (i:=0) hex;rw[vd,e]at g4;simp only[zS,uz]at g4;obtain⟨rfl,_⟩:=g4;have hjl:j<l.length:=(xM.1 g1).1;have hxj:l[j]=x0:=(xM.1 g1).2;simp only[g1,o9,j5];refine⟨λx hx=>?_,?_,λx hx y hy he=>?_⟩
  ·rcases xO hx with hx|hx
   ·exact hg.born x hx
   ·rw[hx];exact hg.born x0 (yR g1)
  ·rw[vi];have:(l.map λx=>x.2.2).set j x0.2.2=l.map λx=>x.2.2:=by
    apply b7
    ·simp
    ·intro i h1 h2;rw[d8];split
     ·rename_i e;subst e;simp[hxj]
     ·rfl
   rw[this];exact hg.once
  ·rcases xO hx with hx|hx<;>rcases xO hy with hy|hy
   ·exact hg.uni x hx y hy he
   ·rw[hy]at he;exact absurd he (hp x hx)
   ·rw[hx]at he;exact absurd he.symm (hp y hy)
   ·rw[hx,hy]
abbrev DX:=List ((Int × Int) × wm × Nat)
structure Eh(n:Int)(l:DX):Prop where
 ks:∀x∈l,0<=x.1.1/\x.1.1<n/\1<=x.1.2/\x.1.2<5/\∃p:Int,x.2.1=v6 wg p/\0<=p/\p<64
 kn:(l.map λx=>x.1).Nodup
def On(l:DX)(a:Int × Int)(p:Int):Prop:=∃x∈l,x.1=a/\x.2.1=v6 wg p
def IS(a:Int × Int)(l:DX):(Fk a l 0=wj/\∀x∈l,x.1≠a)∨∃j x,l[j]?=wh x/\x.1=a/\Fk a l 0=wh (j,x.2.1):=by
 by_cases h:∃x∈l,x.1=a
 ·obtain⟨j,x,h1,h2,_,h4⟩:=J7 (i:=0) h;rw[vd]at h4;exact ws ⟨j,x,h1,h2,h4⟩
 ·have h':∀x∈l,x.1≠a:=λx hx e=>h ⟨x,hx,e⟩;exact .inl ⟨GA h',h'⟩
def My{l:DX}(h:(l.map λx=>x.1).Nodup){i j:Nat}{x y:(Int × Int) × wm × Nat}(hi:l[i]?=wh x)(hj:l[j]?=wh y)(e:x.1=y.1):i=j:=by
 obtain⟨i1,i2⟩:=xM.1 hi;obtain⟨j1,j2⟩:=xM.1 hj;apply xI;intro hne;have hp:=xP.1 (List.nodup_iff_pairwise_ne.1 h);rcases Nat.lt_or_gt_of_ne hne with c|c
 ·have:=hp i j (by simpa using i1) (by simpa using j1) c;simp only[b8,i2,j2]at this;exact this e
 ·have:=hp j i (by simpa using j1) (by simpa using i1) c;simp only[b8,i2,j2]at this;exact this e.symm
def Wj{l:DX}(h:(l.map λx=>x.1).Nodup){x y:(Int × Int) × wm × Nat}(hx:x∈l)(hy:y∈l)(e:x.1=y.1):x=y:=by obtain⟨i,hi⟩:=yK.1 hx;obtain⟨j,hj⟩:=yK.1 hy;have:=My h hi hj e;subst this;rw[hi]at hj;exact p6 hj
def On.one{n:Int}{l:DX}(hk:Eh n l){a:Int × Int}{p q:Int}(h1:On l a p)(h2:On l a q):p=q:=by obtain⟨x,a1,a2,a3⟩:=h1;obtain⟨y,b1,b2,b3⟩:=h2;have:=Wj hk.kn a1 b1 (a2.trans b2.symm);subst this;rw[a3]at b3;simpa using b3
def On.whose{c:Nat}{l:DX}(hg:EV l c){a b:Int × Int}{p:Int}(h1:On l a p)(h2:On l b p):a=b:=by obtain⟨x,a1,a2,a3⟩:=h1;obtain⟨y,b1,b2,b3⟩:=h2;have:=hg.uni x a1 y b1 (a3.trans b3.symm);subst this;exact a2.symm.trans b2
def On.in{n:Int}{l:DX}(hk:Eh n l){a:Int × Int}{p:Int}(h:On l a p):0<=a.1/\a.1<n/\1<=a.2/\a.2<5/\0<=p/\p<64:=by obtain⟨x,a1,rfl,a3⟩:=h;obtain⟨h1,h2,h3,h4,q,h5,h6,h7⟩:=hk.ks x a1;rw[a3]at h5;simp only[wm.int.injEq,true_and]at h5;subst h5;exact⟨h1,h2,h3,h4,h6,h7⟩
def Wo{n:Int}{l:DX}(hk:Eh n l){a:Int × Int}(h:∀p,¬On l a p):∀x∈l,x.1≠a:=λx hx e=>by
 obtain⟨_,_,_,_,q,h5,_⟩:=hk.ks x hx;exact h q ⟨x,hx,e,h5⟩
def Wq{n:Int}{l:DX}(hk:Eh n l){a:Int × Int}{p:Int}(h:On l a p):Fo l a=p:=by
 unfold Fo;rcases IS a l with⟨h1,h2⟩|⟨j,x,h1,h2,h3⟩
 ·obtain⟨x,a1,a2,_⟩:=h;exact absurd a2 (h2 x a1)
 ·rw[h3];obtain⟨_,_,_,_,q,h5,_⟩:=hk.ks x (yR h1);have:=On.one hk h ⟨x,yR h1,h2,h5⟩;simp[h5,UR,this]
def U4{n:Int}{l:DX}(hk:Eh n l){a:Int × Int}(h:∀p,¬On l a p):Fo l a = -1:=by unfold Fo;rw[GA (Wo hk h)]
def Qd{n:Int}{l:DX}(hk:Eh n l)(a:Int × Int):(0<=Fo l a/\On l a (Fo l a))∨(Fo l a = -1/\∀p,¬On l a p):=by
 by_cases h:∃p,On l a p
 ·obtain⟨p,h⟩:=h;rw[Wq hk h];exact .inl ⟨(h.in hk).2.2.2.2.1,h⟩
 ·have h':∀p,¬On l a p:=λp hp=>h ⟨p,hp⟩;exact ws ⟨U4 hk h',h'⟩
def O8{c:Nat}{l:DX}(hg:EV l c){a:Int × Int}{p:Int}(h:On l a p):Ds l p=a:=by obtain⟨x,a1,a2,a3⟩:=h;rw[JJ a1 a3 hg.uni,a2]
def SN{l:DX}{p:Int}(h:∀a,¬On l a p):Ds l p=(-1,0):=HN λx hx e=>h x.1 ⟨x,hx,rfl,e⟩
def O7{n:Int}{c:Nat}{l:DX}(hg:EV l c)(hk:Eh n l)(p:Int):(0<=(Ds l p).1/\On l (Ds l p) p)∨(Ds l p=(-1,0)/\∀a,¬On l a p):=by
 by_cases h:∃a,On l a p
 ·obtain⟨a,h⟩:=h;rw[O8 hg h];exact .inl ⟨(h.in hk).1,h⟩
 ·have h':∀a,¬On l a p:=λp hp=>h ⟨p,hp⟩;exact ws ⟨SN h',h'⟩
def XO{n:Int}{l:DX}(hk:Eh n l){a:Int × Int}{p:Int}{c:Nat}(b:Int × Int)(q:Int):On (setL l a p c).1 b q↔(b=a/\q=p)∨(b≠a/\On l b q):=by
 unfold setL;rcases IS a l with⟨h1,h2⟩|⟨j,x,h1,h2,h3⟩
 ·rw[h1];constructor
  ·rintro⟨x,a1,a2,a3⟩;rcases n7.1 a1 with d|d
   ·exact ws ⟨a2 ▸ h2 x d,x,d,a2,a3⟩
   ·rw[zF.1 d]at a2 a3;simp only[wm.int.injEq,true_and]at a3;exact .inl ⟨a2.symm,a3.symm⟩
  ·rintro (⟨rfl,rfl⟩|⟨_,x,d,a2,a3⟩)
   ·exact⟨_,n7.2 (ws (zF.2 rfl)),rfl,rfl⟩
   ·exact⟨x,n7.2 (.inl d),a2,a3⟩
 ·rw[h3];simp only[h1,o9,j5];have hjl:j<l.length:=(xM.1 h1).1;constructor
  ·rintro⟨y,a1,a2,a3⟩;obtain⟨i,hi⟩:=yK.1 a1;by_cases e:i=j
   ·subst e;rw[List.getElem?_set_self hjl]at hi;have:=p6 hi;subst this;simp only[wm.int.injEq,true_and]at a3;exact .inl ⟨a2.symm,a3.symm⟩
   ·rw[List.getElem?_set_ne (vv e)]at hi;exact ws ⟨λd=>e (My hk.kn hi h1 (by rw[a2,d,h2])),y,yR hi,a2,a3⟩
  ·rintro (⟨rfl,rfl⟩|⟨hb,y,d,a2,a3⟩)
   ·exact⟨_,yK.2 ⟨j,List.getElem?_set_self hjl⟩,rfl,rfl⟩
   ·obtain⟨i,hi⟩:=yK.1 d;by_cases e:i=j
    ·subst e;rw[h1]at hi;have:=p6 hi;subst this;exact absurd (a2.symm.trans h2) hb
    ·exact⟨y,yK.2 ⟨i,by rw[List.getElem?_set_ne (vv e)];exact hi⟩,a2,a3⟩
def Up{n t k p:Int}{l:DX}(hk:Eh n l){c:Nat}(h1:0<=t)(h2:t<n)(h3:1<=k)(h4:k<5)(h5:0<=p)(h6:p<64):Eh n (setL l (t,k) p c).1:=by
 unfold setL;rcases IS (t,k) l with⟨g1,g2⟩|⟨j,x,g1,g2,g3⟩
 ·rw[g1];refine⟨λx hx=>?_,?_⟩
  ·rcases n7.1 hx with d|d
   ·exact hk.ks x d
   ·rw[zF.1 d];exact⟨h1,h2,h3,h4,p,rfl,h5,h6⟩
  ·simp only[m9,uw,u6];rw[zQ];refine⟨hk.kn,by simp,λx hx y hy=>?_⟩;obtain⟨z,hz,rfl⟩:=u7.1 hx;rw[zF.1 hy];exact g2 z hz
 ·rw[g3];simp only[g1,o9,j5];refine⟨λx hx=>?_,?_⟩
  ·rcases xO hx with d|d
   ·exact hk.ks x d
   ·rw[d];exact⟨h1,h2,h3,h4,p,rfl,h5,h6⟩
  ·rw[vi];have:(l.map λx=>x.1).set j (t,k)=l.map λx=>x.1:=by
    obtain⟨e1,e2⟩:=xM.1 g1;apply b7
    ·simp
    ·intro i h1 h2;rw[d8];split
     ·rename_i e;subst e;simp[e2,g2]
     ·rfl
   rw[this];exact hk.kn
def KR(l:DX)(a:Int × Int):DX:=match Fk a l 0 with
 | some (j,_)=>l.eraseIdx j
 | none=>l
def PT(l:DX)(a:Int × Int):List.Sublist (KR l a) l:=by
 unfold KR;split
 ·exact List.eraseIdx_sublist _ _
 ·exact List.Sublist.refl _
def EV.sub{l l':DX}{c:Nat}(hg:EV l c)(h:List.Sublist l' l):EV l' c:=
 ⟨λx hx=>hg.born x (h.subset hx),(h.map _).nodup hg.once,λx hx y hy=>hg.uni x (h.subset hx) y (h.subset hy)⟩
def Eh.sub{n:Int}{l l':DX}(hk:Eh n l)(h:List.Sublist l' l):Eh n l':=
 ⟨λx hx=>hk.ks x (h.subset hx),(h.map _).nodup hk.kn⟩
def XN{n:Int}{l:DX}(hk:Eh n l){a:Int × Int}(b:Int × Int)(q:Int):On (KR l a) b q↔b≠a/\On l b q:=by
 unfold KR;rcases IS a l with⟨h1,h2⟩|⟨j,x,h1,h2,h3⟩
 ·rw[h1];constructor
  ·rintro⟨x,a1,a2,a3⟩;exact⟨a2 ▸ h2 x a1,x,a1,a2,a3⟩
  ·exact λh=>h.2
 ·rw[h3];simp only;constructor
  ·rintro⟨y,a1,a2,a3⟩;obtain⟨i,hi,e⟩:=List.mem_eraseIdx_iff_getElem?.1 a1;exact⟨λd=>hi (My hk.kn e h1 (by rw[a2,d,h2])),y,yR e,a2,a3⟩
  ·rintro⟨hb,y,d,a2,a3⟩;obtain⟨i,hi⟩:=yK.1 d;refine⟨y,List.mem_eraseIdx_iff_getElem?.2 ⟨i,λe=>?_,hi⟩,a2,a3⟩;subst e;rw[h1]at hi;have:=p6 hi;subst this;exact hb (a2.symm.trans h2)
theorem JG:∀(n:Nat) (l:List Int),l.Nodup->(∀x∈l,0<=x/\x<(n:Int))->l.length<=n
 | 0,l,_,h=>by
  cases l with
  | nil=>simp
  | cons x l=>have:=h x (by simp);omega
 | n+1,l,hd,h=>by
  by_cases hn:(n:Int)∈l
  ·have ih:=JG n (l.erase n) (hd.erase _) λx hx=>by
    have h1:=h x (List.mem_of_mem_erase hx);have h2:x≠n:=λe=>by subst e;exact absurd hx hd.not_mem_erase
    omega
   have:=List.length_erase_of_mem hn;omega
  ·have ih:=JG n l hd λx hx=>by
    have h1:=h x hx;have h2:x≠n:=λe=>by subst e;exact hn hx
    omega
   omega
structure FF(n t:Int)(l:DX)(c:Nat)(k:Int)(l':DX)(out:List Int):Prop where
 good0:EV l c
 good:EV l' c
 kept:Eh n l'
 on:∀b q,On l' b q↔On l b q/\¬(b.1=t/\b.2<k)
 mem:∀q,q∈out↔∃j,j<k/\On l (t,j) q
 nd:out.Nodup
 len:(out.length:Int)<k
section
variable{n t k:Int}{l l':DX}{c:Nat}{out:List Int}
def FF.start(hg:EV l c)(hk:Eh n l):FF n t l c 1 l []:=by
 refine⟨hg,hg,hk,λb q=>⟨λh=>⟨h,λe=>?_⟩,λh=>h.1⟩,λq=>⟨λh=>(by cases h),?_⟩,by simp,by simp⟩
 ·have:=h.in hk;omega
 ·rintro⟨j,hj,h⟩;have:=h.in hk;simp only at this;omega
def FF.take{p:Int}(h:FF n t l c k l' out)(hp:On l' (t,k) p):FF n t l c (k+1) (KR l' (t,k)) (out++[p]):=by
 have hs:=PT l' (t,k);have h0:=(h.on _ _).1 hp;refine⟨h.good0,h.good.sub hs,h.kept.sub hs,λb q=>?_,λq=>?_,?_,?_⟩
 ·rw[XN h.kept,h.on];constructor
  ·rintro⟨h1,h2,h3⟩;refine⟨h2,λe=>?_⟩;by_cases e2:b.2=k
   ·exact h1 (Prod.ext e.1 e2)
   ·exact h3 ⟨e.1,by omega⟩
  ·rintro⟨h2,h3⟩;refine⟨λe=>?_,h2,λe=>h3 ⟨e.1,by omega⟩⟩;subst e;exact h3 ⟨rfl,by simp only;omega⟩
 ·rw[n7,h.mem,zF];constructor
  ·rintro (⟨j,hj,hq⟩|rfl)
   ·exact⟨j,by omega,hq⟩
   ·exact⟨k,by omega,h0.1⟩
  ·rintro⟨j,hj,hq⟩;by_cases e:j=k
   ·subst e;exact ws (On.one h.kept ((h.on _ _).2 ⟨hq,λd=>h0.2 ⟨rfl,d.2⟩⟩) hp)
   ·exact .inl ⟨j,by omega,hq⟩
 ·rw[zQ];refine⟨h.nd,by simp,λx hx y hy=>?_⟩;rw[zF.1 hy];rintro rfl;obtain⟨j,hj,hq⟩:=(h.mem _).1 hx;have:=On.whose h.good0 hq h0.1;simp only[uz,true_and]at this;omega
 ·have:=h.len;simp only[zE,d9,m7];omega
def FF.skip(h:FF n t l c k l' out)(hp:∀p,¬On l' (t,k) p):FF n t l c (k+1) l' out:=by
 have hno:∀p,¬On l (t,k) p:=λp hq=>hp p ((h.on _ _).2 ⟨hq,λd=>by have:=d.2;simp only at this;omega⟩);refine⟨h.good0,h.good,h.kept,λb q=>?_,λq=>?_,h.nd,by have:=h.len;omega⟩
 ·rw[h.on];constructor
  ·rintro⟨h2,h3⟩;refine⟨h2,λe=>?_⟩;by_cases e2:b.2=k
   ·have:b=(t,k):=Prod.ext e.1 e2;subst this;exact hno q h2
   ·exact h3 ⟨e.1,by omega⟩
  ·rintro⟨h2,h3⟩;exact⟨h2,λe=>h3 ⟨e.1,by omega⟩⟩
 ·rw[h.mem];constructor
  ·rintro⟨j,hj,hq⟩;exact⟨j,by omega,hq⟩
  ·rintro⟨j,hj,hq⟩;by_cases e:j=k
   ·subst e;exact absurd hq (hno q)
   ·exact⟨j,by omega,hq⟩
def FF.fin(hk:Eh n l)(h:FF n t l c 5 l' out):(∀b q,On l' b q↔On l b q/\b.1≠t)/\∀q,q∈out↔∃j,On l (t,j) q:=by
 refine⟨λb q=>?_,λq=>?_⟩
 ·rw[h.on];refine⟨λ⟨a,b⟩=>⟨a,λe=>b ⟨e,(a.in hk).2.2.2.1⟩⟩,λ⟨a,b⟩=>⟨a,λe=>b e.1⟩⟩
 ·rw[h.mem];exact⟨λ⟨j,_,a⟩=>⟨j,a⟩,λ⟨j,a⟩=>⟨j,(a.in hk).2.2.2.1,a⟩⟩
end
end
section
open Go.Shelf
def Tg:Go.Shelf.Ren:=⟨fun | 5=>262 | 8=>94 | 7=>294 | 19=>140 | 20=>141 | 10=>310 | 11=>311 | 12=>312 | 13=>313 | 14=>314 | 15=>315 | 16=>316 | 17=>317 | 18=>318 | 30=>330 | 31=>204 | 32=>205 | 33=>331 | 34=>332 | 35=>333 | 40=>340 | n=>n,fun | 23=>54 | 25=>3 | 3=>3 | 32=>157 | 22=>54 | 0=>0 | 44=>208 | 46=>210 | 4=>4 | 36=>201 | 35=>200 | 41=>68 | 5=>5 | 9=>9 | 53=>275 | 57=>109 | 63=>306 | 64=>262 | n=>n,λn=>n⟩
def Vd:SlLaysM.n5 Z Tg:={
 mixed:=by kernel_rfl,
 f5:=⟨f262.name,by decide,func262.trans (vr wh (by kernel_rfl))⟩,
 f7:=⟨f294.name,by decide,func294.trans (vr wh (by kernel_rfl))⟩,
 f8:=func94.trans (vr wh (by kernel_rfl)),
 f10:=⟨f310.name,by decide,func310.trans (vr wh (by kernel_rfl))⟩,
 f11:=⟨f311.name,by decide,func311.trans (vr wh (by kernel_rfl))⟩,
 f12:=⟨f312.name,by decide,func312.trans (vr wh (by kernel_rfl))⟩,
 f13:=⟨f313.name,by decide,func313.trans (vr wh (by kernel_rfl))⟩,
 f14:=⟨f314.name,by decide,func314.trans (vr wh (by kernel_rfl))⟩,
 f15:=⟨f315.name,by decide,func315.trans (vr wh (by kernel_rfl))⟩,
 f16:=⟨f316.name,by decide,func316.trans (vr wh (by kernel_rfl))⟩,
 f17:=⟨f317.name,by decide,func317.trans (vr wh (by kernel_rfl))⟩,
 f18:=⟨f318.name,by decide,func318.trans (vr wh (by kernel_rfl))⟩,
 f19:=func140.trans (vr wh (by kernel_rfl)),
 f20:=func141.trans (vr wh (by kernel_rfl)),
 f30:=⟨f330.name,by decide,func330.trans (vr wh (by kernel_rfl))⟩,
 f31:=func204.trans (vr wh (by kernel_rfl)),
 f32:=func205.trans (vr wh (by kernel_rfl)),
 f33:=⟨f331.name,by decide,func331.trans (vr wh (by kernel_rfl))⟩,
 f34:=⟨f332.name,by decide,func332.trans (vr wh (by kernel_rfl))⟩,
 f35:=⟨f333.name,by decide,func333.trans (vr wh (by kernel_rfl))⟩,
 f40:=⟨f340.name,by decide,func340.trans (vr wh (by kernel_rfl))⟩,
 t0:=Tryz.underlying0,
 a0:=Tryz.isAgg0,
 z0:=Tryz.sizeOf0,
 v0:=Tryz.zeroValue0,
 t3:=Tryz.underlying3,
 a3:=Tryz.isAgg3,
 z3:=Tryz.sizeOf3,
 v3:=Tryz.zeroValue3,
 t4:=Tryz.underlying4,
 a4:=Tryz.isAgg4,
 z4:=Tryz.sizeOf4,
 v4:=Tryz.zeroValue4,
 t5:=Tryz.underlying5,
 a5:=Tryz.isAgg5,
 z5:=Tryz.sizeOf5,
 v5:=Tryz.zeroValue5,
 t9:=Tryz.underlying9,
 a9:=Tryz.isAgg9,
 z9:=Tryz.sizeOf9,
 v9:=Tryz.zeroValue9,
 t22:=Tryz.underlying54,
 a22:=Tryz.isAgg54,
 z22:=Tryz.sizeOf54,
 v22:=Tryz.zeroValue54,
 t23:=Tryz.underlying54,
 a23:=Tryz.isAgg54,
 z23:=Tryz.sizeOf54,
 v23:=Tryz.zeroValue54,
 t25:=Tryz.underlying3,
 a25:=Tryz.isAgg3,
 z25:=Tryz.sizeOf3,
 v25:=Tryz.zeroValue3,
 t32:=Tryz.underlying157,
 a32:=Tryz.isAgg157,
 z32:=Tryz.sizeOf157,
 v32:=Tryz.zeroValue157,
 t35:=Tryz.underlying200,
 a35:=Tryz.isAgg200,
 z35:=Tryz.sizeOf200,
 v35:=Tryz.zeroValue200,
 t36:=Tryz.underlying201,
 a36:=Tryz.isAgg201,
 z36:=Tryz.sizeOf201,
 v36:=Tryz.zeroValue201,
 t41:=Tryz.underlying68,
 a41:=Tryz.isAgg68,
 z41:=Tryz.sizeOf68,
 v41:=Tryz.zeroValue68,
 t44:=Tryz.underlying208,
 a44:=Tryz.isAgg208,
 z44:=Tryz.sizeOf208,
 v44:=Tryz.zeroValue208,
 t46:=Tryz.underlying210,
 a46:=Tryz.isAgg210,
 z46:=Tryz.sizeOf210,
 v46:=Tryz.zeroValue210,
 t53:=Tryz.underlying275,
 a53:=Tryz.isAgg275,
 z53:=Tryz.sizeOf275,
 v53:=Tryz.zeroValue275,
 t57:=Tryz.underlying109,
 a57:=Tryz.isAgg109,
 z57:=Tryz.sizeOf109,
 v57:=Tryz.zeroValue109,
 t63:=Tryz.underlying306,
 a63:=Tryz.isAgg306,
 z63:=Tryz.sizeOf306,
 v63:=Tryz.zeroValue306,
 t64:=Tryz.underlying262,
 a64:=Tryz.isAgg262,
 z64:=Tryz.sizeOf262,
 v64:=Tryz.zeroValue262 }
end
section
open Go.RowKit
def FQ(l:List Int):List Int:=l.mergeSort λx y=>decide (x<=y)
def GJ(l:List Int):(FQ l).Perm l:=List.mergeSort_perm l _
def Kv(l:List Int):(FQ l).length=l.length:=(GJ l).length_eq
def Yc(l:List Int):(FQ l).Pairwise (· <= ·):=by have:=List.pairwise_mergeSort (le:=λ(x y:Int)=>decide (x<=y)) (λa b c h1 h2=>by simp at *;omega) (λa b=>by simp;omega) l;exact this.imp λh=>by simpa using h
def Md{l:List Int}(h:l.Nodup):(FQ l).Pairwise (· < ·):=by have h1:=Yc l;have h2:(FQ l).Nodup:=(GJ l).nodup_iff.2 h;exact (h1.and h2).imp λ⟨a,b⟩=>by omega
def Yb{l k:List Int}(hk:k.Pairwise (· < ·))(hp:k.Perm l):FQ l=k:=by
 have hl:l.Nodup:=hp.nodup_iff.1 (hk.imp λh=>by omega);have h1:=Md hl;have hm:∀x,x∈FQ l↔x∈k:=λx=>(GJ l).mem_iff.trans hp.mem_iff.symm;generalize FQ l=s at h1 hm;clear hp hl;induction s generalizing k with
 | nil=>
  cases k with
  | nil=>rfl
  | cons y k=>have:=(hm y).2 (by simp);cases this
 | cons x s ih=>
  cases k with
  | nil=>have:=(hm x).1 (by simp);cases this
  | cons y k=>
   obtain⟨a1,a2⟩:=zI.1 h1;obtain⟨b1,b2⟩:=zI.1 hk;have e:x=y:=by
    rcases ux.1 ((hm x).1 (by simp))with c|c
    ·exact c
    ·rcases ux.1 ((hm y).2 (by simp))with d|d
     ·exact d.symm
     ·have:=b1 x c;have:=a1 y d;omega
   subst e;refine vr (x::·) (ih b2 a2 λz=>?_);constructor
   ·intro hz;rcases ux.1 ((hm z).1 (by simp[hz]))with c|c
    ·subst c;have:=a1 z hz;omega
    ·exact c
   ·intro hz;rcases ux.1 ((hm z).2 (by simp[hz]))with c|c
    ·subst c;have:=b1 z hz;omega
    ·exact c
def FJ(l:List Int):(BX l).flatten=l.map (wm.int wg):=by
 induction l with
 | nil=>rfl
 | cons x l ih=>simp only[BX,uw,zM,List.cons_append,n9] at *;rw[ih]
def Ig{l:List Int}:∀y∈BX l,∀u∈y,u.oneCell'=wk:=by intro y hy u hu;simp only[BX,u7]at hy;obtain⟨x,_,rfl⟩:=hy;simp only[ux,i9,vt]at hu;subst hu;rfl
section
variable{K:VK}{w:wn}
def VL{v:wm}{l:List Int}(ho:BQ w v 3 1 (BX l))(hl:l.length<=4000000000000000)(h:∀w',Fr (BN v) w w'->BQ w' v 3 1 (BX (FQ l))->K (wc #[]) w'):I Z 262 #[v] w K:=by
 obtain⟨⟨h1,h2⟩,h3⟩:=ho;rw[Ca]at h1 h2;rcases h2 with⟨rfl,h2⟩|⟨g,cap,cur,rfl,hb,hg,h4,h5,h6,h7⟩
 ·have e:l=[]:=wW h2;subst e;refine (AnyM.slices_Sort_int_none Vd wj 0 w).mono ?_;rintro e w' ⟨rfl,rfl⟩;exact⟨_,rfl,h w' (Fr.refl _ _) (by
   have:FQ []=[]:=by simp[FQ]
   rw[this];exact BQ.nil _ _ _)⟩
 ·rw[FJ,vm]at h7;have hH:=holds_of_blockI hg h7;refine (AnyM.slices_Sort_int Vd g 0 cap l w hH (BP hg) (by omega)).mono ?_;rintro e w' ⟨rfl,n,os,rfl⟩;refine⟨_,rfl,h _ (Hp (v := .slice (wh ⟨g,0,wj⟩) l.length cap) (grownBy_sortedI _)) ?_⟩;have hr:=ownsRow_sortedI (n:=n) (os:=os) (base:=0) (ts:=FQ l) (Kv l) (Nat.zero_le _) hg h4 h5 h6;refine⟨?_,λx hx=>⟨?_,Ig x hx⟩⟩
  ·rw[Ca,FJ,Kv];exact hr
  ·simp only[BX,u7]at hx;obtain⟨y,_,rfl⟩:=hx;rfl
end
section
variable{K:VK}{w:wn}
def Hr.mb{b m c:Nat}{n:Int}{l:DX}(h:Hr w b m n l c):b≠m:=λe=>by
 subst e;have h1:=h.blk;have h2:=h.map;unfold EG at h2;rw[h1]at h2;cases h2
def Sq{W:wn}{b m c:Nat}{n t:Int}{l:DX}(hm0:m<W.heap.size)(hb0:b<W.heap.size)(h:∀v w' l' out,Fr [m] W w'->Hr w' b m n l' c->FF n t l c 5 l' out->BY W v->BQ w' v 3 1 (BX (FQ out))->K v w'):
  ∀(d:Nat) (k:Int) (w:wn) (v:wm) (l':DX) (out:List Int),k+d=5->1<=k->Fr [m] W w->Hr w b m n l' c->FF n t l c k l' out->BY W v->BQ w v 3 1 (BX out)->
   F211.l5 K (v7 (wh ⟨b,0,wj⟩)) (v6 wg t) v (v6 wg k) w:=by
 intro d;induction d with
 | zero=>
  intro k w v l' out hk hk1 hf hC hD hn ho;have e:k=5:=by omega
  subst e;have hlen:=hD.len;refine F211.l5.to (Ei ?_);simp only[zv,show BV 5=0 by decide,show ¬((0:Int)>0) by omega];refine F211.k11.to (VL ho (by omega) λw1 hf1 ho1=>?_);have hb:b∉BN v:=λhg=>by have:=hn.blk b hg;omega
  have hm:m∉BN v:=λhg=>by have:=hn.blk m hg;omega
  exact h v w1 l' out (hf.then hf1 λz hz=>ws (hn.blk z hz)) (hC.keep hf1 hb hm) hD hn ho1
 | succ d ih=>
  intro k w v l' out hk hk1 hf hC hD hn ho;have k5:k<5:=by omega
  have hlen:=hD.len;refine F211.l5.to (Ei ?_);simp only[zv,PS hk1 k5];refine F211.k7.to (RD hC ?_);rcases Qd hD.kept (t,k) with⟨p0,pon⟩|⟨pm,pno⟩
  ·simp only[zv,p0];generalize Fo l' (t,k)=p at *;refine B3 ho (by omega) λv1 w1 ho1 hf1 hg1=>?_;have hb:b∉BN v:=λhg=>by have:=hn.blk b hg;omega
   have hm:m∉BN v:=λhg=>by have:=hn.blk m hg;omega
   have hC1:=hC.keep hf1 hb hm;have hn1:BY W v1:=M2 hn hf.size hg1;refine Ad (v := .map (wh m)) hC1.blk rfl (A4 (QD t k) ?_);refine BC IA Tryz.underlying245 hC1.map (t,k) (l':=KR l' (t,k)) rfl λw2 hf2 _ hm2=>?_;have hm1:m∉BN v1:=λhg=>by have:=hn1.blk m hg;omega
   refine F211.k6.to ?_;simp only[A7];rw[BO (n:=k+1) (by omega)];refine ih (k+1) w2 v1 (KR l' (t,k)) (out++[p]) (by omega) (by omega) ((hf.then hf1 λz hz=>ws (hn.blk z hz)).trans hf2) ⟨hf2.at_ hC1.blk (by simpa using hC.mb),hm2,λx hx=>hC.int x ((PT _ _).subset hx)⟩ (hD.take pon) hn1
    (ho1.keep' hf2 λg hg e=>by simp only[zF]at e;subst e;exact hm1 hg)
  ·simp only[zv,pm,show ¬((-1:Int)≥0) by omega];refine F211.k6.to ?_;simp only[A7];rw[BO (n:=k+1) (by omega)];exact ih (k+1) w v l' out (by omega) (by omega) hf hC (hD.skip pno) hn ho
def WL{b m c:Nat}{n t:Int}{l:DX}(hC:Hr w b m n l c)(hg:EV l c)(hk:Eh n l)(h:∀v w' l' out,Fr [m] w w'->Hr w' b m n l' c->EV l' c->Eh n l'->(∀b q,On l' b q↔On l b q/\b.1≠t)->(∀q,q∈out↔∃j,On l (t,j) q)->out.Nodup->BY w v->BQ w' v 3 1 (BX (FQ out))->K v w'):
  I Z 211 #[v7 (wh ⟨b,0,wj⟩),v6 wg t] w K:=by refine F211.sh ⟨_,Ck _ _ _ Tryz.underlying168,?_⟩;simp only[Ag];refine F211.k3.to (Sq (l:=l) (BP hC.map) (BP hC.blk) (λv w' l' out hf hC' hD hn ho=>?_) 4 1 w _ l [] rfl (by omega) (Fr.refl _ _) hC (FF.start hg hk) (BY.nil _) (BQ.nil _ _ _));obtain⟨h1,h2⟩:=hD.fin hk;exact h v w' l' out hf hC' hD.good hD.kept h1 h2 hD.nd hn ho
end
def EX(w:wn)(b m:Nat)(n:Int)(f:Om):Prop:=n<=9/\∃l c,Hr w b m n l c/\EV l c/\Eh n l/\∀a p,On l a p↔f a=wh p
def EX.keep{S:List Nat}{w w':wn}{b m:Nat}{n:Int}{f:Om}(h:EX w b m n f)(hf:Fr S w w')(hb:b∉S)(hm:m∉S):EX w' b m n f:=by obtain⟨h9,l,c,h1,h2⟩:=h;exact⟨h9,l,c,h1.keep hf hb hm,h2⟩
def SH{a:Int × Int}:a∈FT↔0<=a.1/\a.1<9/\1<=a.2/\a.2<=4:=by
 obtain⟨t,k⟩:=a;simp only[FT,List.mem_flatMap,uq,ux,i9,vt,uz];constructor
 ·rintro⟨x,hx,h|h|h|h⟩<;>simp only[Int.ofNat_eq_natCast]at h<;>omega
 ·rintro⟨h1,h2,h3,h4⟩;refine⟨t.toNat,by omega,?_⟩;simp only[Int.ofNat_eq_natCast];omega
section
variable{K:VK}{w:wn}{b m:Nat}{n:Int}{f:Om}
def U2{l:DX}(hk:Eh n l)(ho:∀a p,On l a p↔f a=wh p)(a:Int × Int):Fo l a=Fi f a:=by
 unfold Fi;rcases Qd hk a with⟨h1,h2⟩|⟨h1,h2⟩
 ·rw[(ho _ _).1 h2];rfl
 ·cases e:f a with
  | none=>simpa using h1
  | some p=>exact absurd ((ho _ _).2 e) (h2 p)
def Nc{c:Nat}{l:DX}(h9:n<=9)(hg:EV l c)(hk:Eh n l)(ho:∀a p,On l a p↔f a=wh p)(p:Int):Ds l p=Dx f p:=by
 unfold Dx;rcases O7 hg hk p with⟨h1,h2⟩|⟨h1,h2⟩
 ·cases e:FT.find? (λa=>decide (f a=wh p)) with
  | none=>
   have:=zB.1 e (Ds l p) (by
    obtain⟨i1,i2,i3,i4,_⟩:=h2.in hk;exact SH.2 ⟨i1,by omega,i3,by omega⟩)
   simp[(ho _ _).1 h2]at this
  | some a=>
   have e1:=List.find?_some e;simp only[zV]at e1;exact O8 hg ((ho _ _).2 e1)
 ·cases e:FT.find? (λa=>decide (f a=wh p)) with
  | none=>exact h1
  | some a=>
   have e1:=List.find?_some e;simp only[zV]at e1;exact absurd ((ho _ _).2 e1) (h2 a)
def V3{t k:Int}(h:EX w b m n f)(hk:K (v6 wg (Fi f (t,k))) w):I Z 184 #[v7 (wh ⟨b,0,wj⟩),v6 wg t,v6 wg k] w K:=by obtain⟨h9,l,c,h1,h2,h3,h4⟩:=h;refine RD h1 ?_;rw[U2 h3 h4];exact hk
def NH{p:Int}(h:EX w b m n f)(hk:∀w',Fr [] w w'->K (wc #[v6 wg (Dx f p).1,v6 wg (Dx f p).2]) w'):I Z 185 #[v7 (wh ⟨b,0,wj⟩),v6 wg p] w K:=by obtain⟨h9,l,c,h1,h2,h3,h4⟩:=h;refine P9 h1 h2 λw' hf=>?_;rw[Nc h9 h2 h3 h4];exact hk w' hf
def WX{t k p:Int}(h:EX w b m n f)(h0:¬(0<=t/\t<n/\BV k≠0/\0<=p/\p<64/\(Dx f p).1<0)->∀w',Fr [] w w'->K (wd wl) w')(h1:(0<=t/\t<n/\BV k≠0/\0<=p/\p<64/\(Dx f p).1<0)->∀w',Fr [m] w w'->EX w' b m n (Lf f (t,k) p)->K (wd wk) w'):
  I Z 124 #[v7 (wh ⟨b,0,wj⟩),v6 wg t,v6 wg k,v6 wg p] w K:=by
 obtain⟨h9,l,c,a1,a2,a3,a4⟩:=h;rw[<-Nc h9 a2 a3 a4]at h0 h1;refine Ys a1 a2 h0 λhc w' hf hi=>h1 hc w' hf ⟨h9,_,_,hi,?_,?_,?_⟩
 ·obtain⟨c1,c2,c3,c4,c5,c6⟩:=hc;refine Uk a2 λx hx e=>?_;rcases O7 a2 a3 p with⟨q1,_⟩|⟨_,q2⟩
  ·omega
  ·exact q2 x.1 ⟨x,hx,rfl,e⟩
 ·obtain⟨c1,c2,c3,c4,c5,c6⟩:=hc;have c3:¬(k<1∨k≥5):=λe=>c3 (TX.2 e);exact Up a3 c1 c2 (by omega) (by omega) c4 c5
 ·intro a q;rw[XO a3,a4];unfold Lf;by_cases e:a=(t,k)
  ·rw[vy e];simp only[e,vz,not_true,false_and,vt,true_and,zS];exact eq_comm
  ·rw[vx e];simp[e]
def Wh{l:DX}{t:Int}{out:List Int}(hk:Eh n l)(ho:∀a p,On l a p↔f a=wh p)(hs:∀q,q∈out↔∃j,On l (t,j) q)(hn:out.Nodup)(hu:∀a c p,On l a p->On l c p->a=c):FQ out=(Fz f t).mergeSort λx y=>decide (x<=y):=by
 have hg:(Fz f t).Nodup:=by
  unfold Fz;have key:∀i j p,f (t,i)=wh p->f (t,j)=wh p->i=j:=λi j p e1 e2=>by
   have:=hu _ _ _ ((ho _ _).2 e1) ((ho _ _).2 e2);simpa using this
  have hN:∀l:List Int,l.Nodup->(l.filterMap λk=>f (t,k)).Nodup:=by
   intro l;induction l with
   | nil=>simp
   | cons x l ih=>
    intro hl;rw[o7]at hl;rw[List.filterMap_cons];cases e:f (t,x) with
    | none=>exact ih hl.2
    | some p=>
     simp only;rw[o7];refine⟨λhm=>?_,ih hl.2⟩;obtain⟨j,hj,e2⟩:=List.mem_filterMap.1 hm;exact hl.1 (key x j p e e2 ▸ hj)
  exact hN _ (by decide)
 have hp:(Fz f t).Perm out:=by
  rw[List.perm_iff_count];intro x;have hm:x∈Fz f t↔x∈out:=by
   rw[hs];unfold Fz;rw[List.mem_filterMap];constructor
   ·rintro⟨k,_,e⟩;exact⟨k,(ho _ _).2 e⟩
   ·rintro⟨j,hj⟩;obtain⟨_,_,i3,i4,_⟩:=hj.in hk;simp only at i3 i4;refine⟨j,?_,(ho _ _).1 hj⟩;simp only[ux,i9,vt];omega
  rw[hg.count,hn.count];simp only[hm]
 exact Yb (Md hg) ((GJ _).trans hp)
def V1{t:Int}(h:EX w b m n f)(hk:∀v w',Fr [m] w w'->EX w' b m n (Ja f t)->BY w v->BQ w' v 3 1 (BX ((Fz f t).mergeSort λx y=>decide (x<=y)))->K v w'):
  I Z 211 #[v7 (wh ⟨b,0,wj⟩),v6 wg t] w K:=by
 obtain⟨h9,l,c,a1,a2,a3,a4⟩:=h;refine WL a1 a2 a3 λv w' l' out hf hi hg' hk' ho hq hn hv hs=>hk v w' hf ⟨h9,l',c,hi,hg',hk',λa p=>?_⟩ hv ?_
 ·rw[ho,a4];unfold Ja;by_cases e:a.1=t<;>simp[e]
 ·rw[Wh a3 a4 hq hn λa c p h1 h2=>h1.whose a2 h2]at hs;exact hs
def WW{t:Int}(h:∀b m w',Fr [] w w'->w.heap.size<=b->w.heap.size<=m->b≠m->EX w' b m (if t<0 then 0 else if t>9 then 9 else t) (λ_=>wj)->K (v7 (wh ⟨b,0,wj⟩)) w'):I Z 113 #[v6 wg t] w K:=
 Yo λb m w' hf h1 h2 h3 hi=>h b m w' hf h1 h2 h3 ⟨by repeat' split<;>omega,[],0,hi,Uj,⟨by simp,by simp⟩,λa p=>by simp[On]⟩
end
end
noncomputable section
variable{K:VK}{w:wn}{x0 x1 x2 x3 y0 y1 y2 y3 y4 y5 y7 y9 y19 y20 y21:wm}
def F153.sh(h:(Aq (wt #[v6 wg 0,v6 wg 0] 60) w λa b=>Am Z (Instr.build 60 #[(0,(v6 wg 2)),(1,x0)]) b λc d=>I Z 224 #[c] d λf g=>Aj 2 a f g λi=>Ak 2 a i λr5 _=>K r5 i)):I Z 153 #[x0] w K:=BK (A:=A0) (args:=[x0]) (qq h)
namespace F201
def ann:=a1 [(6,[2,4]),(8,[2,4])]
def code:=cd f201
def BM:=tp f201
variable(K:VK)(y2 y4:wm)(w:wn)
def k6:=nk ann 24 [(2,y2),(4,y4)] w [1,1,1] code (BM K)
def k8:=nk ann 24 [(2,y2),(4,y4)] w [1,1,1,1] code (BM K)
attribute [irreducible] k6 k8
end F201
def F201.k6.to(h:(Ak 2 y4 w λa b=>I Z 227 #[a] b λc d=>U .neq c (v6 wg 0) d λf g=>Af f (Am Z (Instr.build 60 #[]) g λi j=>Aj 2 y2 i j λk=>Ak 2 y2 k λr6 _=>K (wc #[r6,(wd wl)]) k) (F201.k8 K y2 y4 g))):F201.k6 K y2 y4 w:=qq h
def F201.k8.to(h:(Ak 2 y4 w λa b=>Aj 2 y2 a b λc=>Ak 2 y2 c λr3 _=>K (wc #[r3,(wd wk)]) c)):F201.k8 K y2 y4 w:=qq h
def F201.sh(h:(Aq (wt #[v6 wg 0,v6 wg 0] 60) w λa b=>Aq (wt #[v6 wg 0,v6 wg 0] 60) b λc d=>AB Z .and 2 (.tmp 6) (.const (v6 wg 1)) x0 (v6 wg 1) d λf g=>U .eql f (v6 wg 1) g λi j=>Af i (AB Z .shr 2 (.tmp 9) (.const (v6 .u64 1)) x0 (v6 .u64 1) j λk m=>Am Z (Instr.build 60 #[(0,(v6 wg 1)),(1,k)]) m λo p=>Aj 2 c o p λq=>F201.k6 K a c q) (U .neq x0 (v6 wg 0) j λr s=>Af r (AB Z .quo 2 (.tmp 15) (.const (v6 wg 2)) x0 (v6 wg 2) s λt u=>U .sub t (v6 wg 1) u λv x=>Am Z (Instr.build 60 #[(0,(v6 wg 2)),(1,v)]) x λy z=>Aj 2 c y z λaa=>F201.k6 K a c aa) (F201.k6 K a c s)))):I Z 201 #[x0] w K:=BK (A:=F201.ann) (args:=[x0]) (qq h)
namespace F224
def ann:=a1 [(3,[1,2])]
def code:=cd f224
def BM:=tp f224
variable(K:VK)(y1 y2:wm)(w:wn)
@[irreducible]def k3:=nk ann 8 [(1,y1),(2,y2)] w [1,1] code (BM K)
end F224
def F224.k3.to(h:(Ak 2 y1 w λa b=>Aj 2 y2 a b λc=>Ak 2 y2 c λr3 _=>K r3 c)):F224.k3 K y1 y2 w:=qq h
def F224.sh(h:(Aq (wt (wm.cells x0) 60) w λa b=>Aq (wt #[v6 wg 0,v6 wg 0] 60) b λc d=>Ak 2 a d λf g=>I Z 227 #[f] g λi j=>U .neq i (v6 wg 0) j λk m=>Af k (Am Z (Instr.build 60 #[]) m λo p=>Aj 2 c o p λq=>Ak 2 c q λr8 _=>K r8 q) (F224.k3 K a c m))):I Z 224 #[x0] w K:=BK (A:=F224.ann) (args:=[x0]) (qq h)
namespace F227
def ann:=a1 [(10,[3]),(12,[])]
def code:=cd f227
def BM:=tp f227
variable(K:VK)(y3:wm)(w:wn)
def k10:=nk ann 33 [(3,y3)] w [1,1,1] code (BM K)
def k12:=nk ann 33 [] w [1,1,1,1] code (BM K)
attribute [irreducible] k10 k12
end F227
def F227.k10.to(h:(A8 y3 w λa b=>Af a (K (v6 wg 4) b) (F227.k12 K b))):F227.k10 K y3 w:=qq h
def F227.k12.to(h:(K (v6 wg 0) w)):F227.k12 K w:=qq h
def F227.sh(h:(Aq (wt (wm.cells x0) 60) w λa b=>Ab 0 a b λc d=>Ac c d λf g=>U .eql f (v6 wg 0) g λi j=>Af i (Ab 1 a j λk m=>Ac k m λo p=>U .eql o (v6 wg 0) p λq r=>F227.k10 K q r) (U .eql f (v6 wg 1) j λs t=>Af s (Ab 1 a t λu v=>Ac u v λx y=>U .geq x (v6 wg (-1099511627776)) y λz aa=>Aa wk z (Ab 1 a aa) aa λab ac=>Aa wk z (Ac ab ac) ac λad ae=>Aa wk z (U .lss ad (v6 wg 1099511627776) ae) ae λaf ag=>Aw (wh z) (wh af) (wh (wd wl)) ag λah ai=>F227.k10 K ah ai) (U .eql f (v6 wg 2) t λaj ak=>Af aj (Ab 1 a ak λal am=>Ac al am λan ao=>U .geq an (v6 wg 0) ao λap aq=>Aa wk ap (Ab 1 a aq) aq λar au=>Aa wk ap (Ac ar au) au λav aw=>Aa wk ap (U .lss av (v6 wg 2048) aw) aw λax ay=>Aw (wh ap) (wh ax) (wh (wd wl)) ay λaz ba=>F227.k10 K az ba) (K (v6 wg 12) ak))))):I Z 227 #[x0] w K:=BK (A:=F227.ann) (args:=[x0]) (qq h)
namespace F279
def ann:=a1 [(3,[1]),(6,[1,4,9]),(7,[1]),(8,[1,4]),(9,[4])]
def code:=cd f279
def BM:=tp f279
variable(K:VK)(y1 y4 y9:wm)(w:wn)
def k3:=nk ann 21 [(1,y1)] w [1,1] code (BM K)
def k9:=nk ann 21 [(4,y4)] w [1,1,1,1] code (BM K)
def k8:=nk ann 21 [(1,y1),(4,y4)] w [1,1,1,0,1,0,1] code (BM K)
def k7:=nk ann 21 [(1,y1)] w [1,1,1,0,1,0,0,0,1] code (BM K)
def k6:=nk ann 21 [(1,y1),(4,y4),(9,y9)] w [1,1,1,0,1,0,0,0,0,0,0,1] code (BM K)
attribute [irreducible] k3 k9 k8 k7 k6
end F279
def F279.k3.to(h:(Ab 0 y1 w λa b=>Ac a b λc d=>U .eql c (v6 wg 2) d λf g=>Af f (F279.k7 K y1 g) (F279.k6 K y1 (v6 wg 0) c g))):F279.k3 K y1 w:=qq h
def F279.k9.to(h:(K (wc #[y4,(wd wk)]) w)):F279.k9 K y4 w:=qq h
def F279.k8.to(h:(Ab 1 y1 w λa b=>Ac a b λc d=>U .mul (v6 wg 2) c d λf g=>U .add f (v6 wg 1) g λi j=>U .add y4 i j λk m=>F279.k9 K k m)):F279.k8 K y1 y4 w:=qq h
def F279.k7.to(h:(F279.k8 K y1 (v6 wg 1) w)):F279.k7 K y1 w:=qq h
def F279.k6.to(h:(U .eql y9 (v6 wg 1) w λa b=>Af a (F279.k8 K y1 y4 b) (F279.k9 K y4 b))):F279.k6 K y1 y4 y9 w:=qq h
def F279.sh(h:(Aq (wt (wm.cells x0) 60) w λa b=>Ak 2 a b λc d=>I Z 227 #[c] d λf g=>U .neq f (v6 wg 0) g λi j=>Af i (K (wc #[(v6 wg 0),(wd wl)]) j) (F279.k3 K a j))):I Z 279 #[x0] w K:=BK (A:=F279.ann) (args:=[x0]) (qq h)
def F42.sh(h:(I Z 66 #[x1,(v6 wg 1),(v6 wg 64)] w λa b=>I Z 66 #[x2,(v6 wg 0),a] b λc d=>I Z 66 #[x0,(v6 wg 0),(v6 wg 8)] d λf g=>Am Z (Instr.makeSlice 139 f f) g λi j=>Am Z (Instr.build 141 #[(0,a),(1,c),(2,i)]) j λk m=>Aq (wt (wm.cells k) 141) m λo p=>K o p)):I Z 42 #[x0,x1,x2] w K:=BK (A:=A0) (args:=[x0,x1,x2]) (qq h)
namespace F107
def ann:=a1 [(4,[0,2,7])]
def code:=cd f107
def BM:=tp f107
variable(K:VK)(y0 y2 y7:wm)(w:wn)
@[irreducible]def k4:=nk ann 33 [(0,y0),(2,y2),(7,y7)] w [1,1,1] code (BM K)
end F107
def F107.k4.to(h:(I Z 167 #[y0,y7,y2,(wd wl)] w λa b=>Ae y7 b λc d=>Ab 1 c d λf g=>Ac f g λi j=>U .add i y2 j λk m=>Ae y7 m λo p=>Ab 1 o p λq r=>Aj 1 q k r λs=>K (wd wk) s)):F107.k4 K y0 y2 y7 w:=qq h
def F107.sh(h:(I Z 166 #[x0,x1] w λa b=>AB Z .eql 227 (.tmp 11) (.const (v7 wj)) a (v7 wj) b λc d=>Aa wl c (λK=>K x2 d) d λf g=>Aa wl c (U .lss f (v6 wg 0) g) g λi j=>Aw (wh c) (wh (wd wk)) (wh i) j λk m=>Aa wl k (λK=>K x2 m) m λo p=>Aa wl k (U .gtr o (v6 wg 64) p) p λq r=>Aw (wh k) (wh (wd wk)) (wh q) r λs t=>Af s (K (wd wl) t) (F107.k4 K x0 x2 a t))):I Z 107 #[x0,x1,x2] w K:=BK (A:=F107.ann) (args:=[x0,x1,x2]) (qq h)
namespace F164
def ann:Cg:=⟨[(4,[0,2,7])],[],[],[(4,(tk [0,1,2,3,6,8,9,10,15,17,18,19,4,5,7,11,12,13,20] (.go 14 (tk [16,21,22] .fin) .fin)))],wj⟩
def code:=cd f164
def BM:=tp f164
variable(K:VK)(y0 y2 y7:wm)(w:wn)
@[irreducible]def k4:=nk ann 47 [(0,y0),(2,y2),(7,y7)] w [1,1,1] code (BM K)
end F164
def F164.k4.to(h:(A2 w λS a=>Ae y7 a λb c=>Ab 0 b c λd f=>Ae y0 f λg i=>Ab 0 g i λj k=>Ae y0 k λm o=>Ab 1 m o λp q=>An S d q λr s=>AD r s λt u=>U .add t y2 u λv x=>An S j x λy z=>U .sub v y z λaa ab=>∃ac,(∀w',S w'->(builtin .max #[3,3] 3 #[wl,wk] #[aa,(v6 wg 0)]).run Z w'=.ok (.value ac) w')/\(An S p ab λad ae=>(I Z 236 #[y7,ac] ae λaf ag=>(S ag/\
 U .add af y2 ag λah ai=>U .leq ah ad ai λaj ak=>K aj ak))/\True))):F164.k4 K y0 y2 y7 w:=qq h
def F164.sh(h:(I Z 166 #[x0,x1] w λa b=>AB Z .eql 227 (.tmp 11) (.const (v7 wj)) a (v7 wj) b λc d=>Aa wl c (λK=>K x2 d) d λf g=>Aa wl c (U .lss f (v6 wg 0) g) g λi j=>Aw (wh c) (wh (wd wk)) (wh i) j λk m=>Aa wl k (λK=>K x2 m) m λo p=>Aa wl k (λK=>K x0 p) p λq r=>Aa wl k (Ae q r) r λs t=>Aa wl k (Ab 1 s t) t λu v=>Aa wl k (Ac u v) v λx y=>Aa wl k (U .gtr o x y) y λz aa=>Aw (wh k) (wh (wd wk)) (wh z) aa λab ac=>Af ab (K (wd wl) ac) (F164.k4 K x0 x2 a ac))):I Z 164 #[x0,x1,x2] w K:=BK (A:=F164.ann) (args:=[x0,x1,x2]) (qq h)
namespace F166
def ann:=a1 [(3,[0,1])]
def code:=cd f166
def BM:=tp f166
variable(K:VK)(y0 y1:wm)(w:wn)
@[irreducible]def k3:=nk ann 26 [(0,y0),(1,y1)] w [1,1] code (BM K)
end F166
def F166.k3.to(h:(Ae y0 w λa b=>Ab 2 a b λc d=>Ac c d λf g=>AC 3 f y1 g λi j=>K i j)):F166.k3 K y0 y1 w:=qq h
def F166.sh(h:(AB Z .eql 89 (.tmp 5) (.const (v7 wj)) x0 (v7 wj) w λa b=>Aa wl a (λK=>K x1 b) b λc d=>Aa wl a (U .lss c (v6 wg 0) d) d λf g=>Aw (wh a) (wh (wd wk)) (wh f) g λi j=>Aa wl i (λK=>K x1 j) j λk m=>Aa wl i (λK=>K x0 m) m λo p=>Aa wl i (Ae o p) p λq r=>Aa wl i (Ab 2 q r) r λs t=>Aa wl i (Ac s t) t λu v=>Aa wl i (AD u v) v λx y=>Aa wl i (U .geq k x y) y λz aa=>Aw (wh i) (wh (wd wk)) (wh z) aa λab ac=>Af ab (K (v7 wj) ac) (F166.k3 K x0 x1 ac))):I Z 166 #[x0,x1] w K:=BK (A:=F166.ann) (args:=[x0,x1]) (qq h)
namespace F167
def ann:Cg:=⟨[(1,[0,1])],[],[],[(0,(tk [0,1,2,3,5,7,8,9,10,11,12] (.go 4 (.go 6 (.go 13 (.go 14 (tk [15,16] (.go 17 .fin .fin)) .fin) .fin) .fin) (.go 6 (.go 4 (.go 13 (.go 14 (tk [15,16] (.go 17 .fin .fin)) .fin) .fin) (.go 13 (.go 4 (.go 14 (tk [15,16] (.go 17 .fin .fin)) .fin) .fin) .fin)) .fin)))),(1,(tk [0,1,2,3,5,6,7,10,11,12,13] (.go 4 (.go 8 (tk [9,14,15,16] (.go 17 (tk [18,19] (.go 20 .fin .fin)) .fin)) .fin) (.go 8 (tk [9,14,15] (.go 4 (.take 16 (.go 17 (tk [18,19] (.go 20 .fin .fin)) .fin)) .fin)) .fin))))],wj⟩
def code:=cd f167
def BM:=tp f167
variable(K:VK)(y0 y1:wm)(w:wn)
@[irreducible]def k1:=nk ann 45 [(0,y0),(1,y1)] w [1] code (BM K)
end F167
def F167.k1.to(h:(A2 w λS a=>Ae y1 a λb c=>Ab 0 b c λd f=>Ae y1 f λg i=>Ab 0 g i λj k=>Ae y0 k λm o=>Ab 0 m o λp q=>An S p q λr s=>(Ac d s λt u=>(S u/\
 (Ac j u λv x=>(S x/\
 AD v x λy z=>U .sub y r z λaa ab=>∃ac,(∀w',S w'->(builtin .max #[3,3] 3 #[wl,wk] #[aa,(v6 wg 0)]).run Z w'=.ok (.value ac) w')/\(∃ad,(∀w',S w'->(Instr.sliceAt 84 t (wh ac) wj wj).run Z w'=.ok ad w')/\((I Z 239 #[ad] ab λae af=>(S af/\
 Ae y1 af λag ah=>Ab 0 ag ah λai aj=>(Aj 1 ai ae aj λak=>(S ak/\
 K (wc #[]) ak))/\True))/\True))))/\True))/\((Ac j s λal am=>(S am/\
 AD al am λan ao=>U .sub an r ao λap aq=>∃ar,(∀w',S w'->(builtin .max #[3,3] 3 #[wl,wk] #[ap,(v6 wg 0)]).run Z w'=.ok (.value ar) w')/\((Ac d aq λau av=>(S av/\
 ∃aw,(∀w',S w'->(Instr.sliceAt 84 au (wh ar) wj wj).run Z w'=.ok aw w')/\((I Z 239 #[aw] av λax ay=>(S ay/\
 Ae y1 ay λaz ba=>Ab 0 az ba λbb bc=>(Aj 1 bb ax bc λbd=>(S bd/\
 K (wc #[]) bd))/\True))/\True)))/\True)))/\True))):F167.k1 K y0 y1 w:=qq h
def F167.sh(h:(A2 w λS a=>Ae x1 a λb c=>Ab 0 b c λd f=>Ae x0 f λg i=>Ab 0 g i λj k=>An S j k λm o=>∃p,(∀w',S w'->(builtin .min #[3,3] 3 #[wl,wl] #[x2,m]).run Z w'=.ok (.value p) w')/\((Ac d o λq r=>(S r/\
 (Am Z (Instr.buildSlice 84 1 #[(0,x3)]) r λs t=>(S t/\
 (I Z 238 #[s,p] t λu v=>(S v/\
 (Am Z (Builtin.append_ #[84,84] 84 #[q,u]) v λx y=>(S y/\
 Ae x1 y λz aa=>Ab 0 z aa λab ac=>(Aj 1 ab x ac λad=>(S ad/\
 F167.k1 K x0 x1 ad))/\True))/\True))/\True))/\True))/\((Am Z (Instr.buildSlice 84 1 #[(0,x3)]) o λae af=>(S af/\
 (Ac d af λag ah=>(S ah/\
 (I Z 238 #[ae,p] ah λai aj=>(S aj/\
 (Am Z (Builtin.append_ #[84,84] 84 #[ag,ai]) aj λak al=>(S al/\
 Ae x1 al λam an=>Ab 0 am an λao ap=>(Aj 1 ao ak ap λaq=>(S aq/\
 F167.k1 K x0 x1 aq))/\True))/\True))/\True))/\((I Z 238 #[ae,p] af λar au=>(S au/\
 (Ac d au λav aw=>(S aw/\
 (Am Z (Builtin.append_ #[84,84] 84 #[av,ar]) aw λax ay=>(S ay/\
 Ae x1 ay λaz ba=>Ab 0 az ba λbb bc=>(Aj 1 bb ax bc λbd=>(S bd/\
 F167.k1 K x0 x1 bd))/\True))/\True))/\True))/\True)))/\True)))):I Z 167 #[x0,x1,x2,x3] w K:=BK (A:=F167.ann) (args:=[x0,x1,x2,x3]) (qq h)
namespace F236
def ann:Cg:=⟨[(4,[5,19,20,21]),(7,[5,19,20,21]),(8,[5])],[(3,[5,19,20,21])],[],[(2,(tk [0,1,2,4,5,6,7,13,3,8,9,10,11,12] .fin))],wj⟩
def code:=cd f236
def BM:=tp f236
variable(K:VK)(y5 y19 y20 y21:wm)(w:wn)
def k8:=nk ann 30 [(5,y5)] w [1,1,1] code (BM K)
def l3:=nl ann 30 [(5,y5),(19,y19),(20,y20),(21,y21)] w [1,1,0,1,0] code (BM K)
def k4:=nk ann 30 [(5,y5),(19,y19),(20,y20),(21,y21)] w [1,1,0,1,0,0,1,1] code (BM K)
def k7:=nk ann 30 [(5,y5),(19,y19),(20,y20),(21,y21)] w [1,1,0,1,0,0,1,1,1] code (BM K)
attribute [irreducible] k8 l3 k4 k7
end F236
def F236.k8.to(h:(K y5 w)):F236.k8 K y5 w:=qq h
def F236.l3.to(h:(U .lss y21 y20 w λa b=>Af a (F236.k4 K y5 y19 y20 y21 b) (F236.k8 K y5 b))):F236.l3 K y5 y19 y20 y21 w:=by unfold F236.l3 nl;exact BW (qq h)
def F236.k4.to(h:(AC 1 y19 y21 w λa b=>Ac a b λc d=>Af c (U .add y5 (v6 wg 1) d λf g=>F236.k7 K f y19 y20 y21 g) (F236.k7 K y5 y19 y20 y21 d))):F236.k4 K y5 y19 y20 y21 w:=qq h
def F236.k7.to(h:(U .add y21 (v6 wg 1) w λa b=>F236.l3 K y5 y19 y20 a b)):F236.k7 K y5 y19 y20 y21 w:=qq h
def F236.sh(h:(A2 w λS a=>Ae x0 a λb c=>Ab 0 b c λd f=>Ae x0 f λg i=>Ab 0 g i λj k=>An S d k λm o=>An S j o λp q=>AD p q λr s=>∃t,(∀w',S w'->(builtin .min #[3,3] 3 #[wl,wl] #[x1,r]).run Z w'=.ok (.value t) w')/\(∃u,(∀w',S w'->(Instr.sliceAt 84 m (wh t) wj wj).run Z w'=.ok u w')/\(AD u s λv x=>F236.l3 K (v6 wg 0) u v (v6 wg 0) x)))):I Z 236 #[x0,x1] w K:=BK (A:=F236.ann) (args:=[x0,x1]) (qq h)
namespace F237
def ann:=a1 [(3,[0,1,2])]
def code:=cd f237
def BM:=tp f237
variable(K:VK)(y0 y1 y2:wm)(w:wn)
@[irreducible]def k3:=nk ann 28 [(0,y0),(1,y1),(2,y2)] w [1,1] code (BM K)
end F237
def F237.k3.to(h:(I Z 166 #[y0,y1] w λa b=>I Z 167 #[y0,a,y2,(wd wk)] b λc d=>Ae a d λf g=>Ab 2 f g λi j=>Ac i j λk m=>U .add k y2 m λo p=>Ae a p λq r=>Ab 2 q r λs t=>Aj 1 s o t λu=>K (wd wk) u)):F237.k3 K y0 y1 y2 w:=qq h
def F237.sh(h:(I Z 164 #[x0,x1,x2] w λa b=>A8 a b λc d=>Af c (K (wd wl) d) (F237.k3 K x0 x1 x2 d))):I Z 237 #[x0,x1,x2] w K:=BK (A:=F237.ann) (args:=[x0,x1,x2]) (qq h)
namespace F239
def ann:=a1 [(3,[0])]
def code:=cd f239
def BM:=tp f239
variable(K:VK)(y0:wm)(w:wn)
@[irreducible]def k3:=nk ann 8 [(0,y0)] w [1,1] code (BM K)
end F239
def F239.k3.to(h:(Am Z (Instr.buildSlice 84 0 #[]) w λa b=>Am Z (Builtin.append_ #[84,84] 84 #[a,y0]) b λc d=>K c d)):F239.k3 K y0 w:=qq h
def F239.sh(h:(AB Z .eql 84 (.tmp 3) (.const (.slice wj 0 0)) x0 (.slice wj 0 0) w λa b=>Af a (K (.slice wj 0 0) b) (F239.k3 K x0 b))):I Z 239 #[x0] w K:=BK (A:=F239.ann) (args:=[x0]) (qq h)
def F44.sh(h:(I Z 66 #[x0,(v6 wg 0),(v6 wg 65535)] w λa b=>Am Z (Instr.build 145 #[(1,(wd wk)),(2,a)]) b λc d=>Aq (wt (wm.cells c) 145) d λf g=>K f g)):I Z 44 #[x0] w K:=BK (A:=A0) (args:=[x0]) (qq h)
namespace F235
def ann:Cg:=⟨[(3,[0,1])],[],[],[(4,(tk [0,1,2,3,5,4] (.go 6 (tk [7,8,9] .fin) .fin)))],wj⟩
def code:=cd f235
def BM:=tp f235
variable(K:VK)(y0 y1:wm)(w:wn)
@[irreducible]def k3:=nk ann 43 [(0,y0),(1,y1)] w [1,1] code (BM K)
end F235
def F235.k3.to(h:(I Z 66 #[y1,(v6 wg 0),(v6 wg 2147483648)] w λa b=>A2 b λS c=>Ae y0 c λd f=>Ab 4 d f λg i=>An S g i λj k=>(I Z 274 #[y0] k λm o=>(S o/\
 U .sub j m o λp q=>∃r,(∀w',S w'->(builtin .min #[3,3] 3 #[wl,wl] #[a,p]).run Z w'=.ok (.value r) w')/\(Ae y0 q λs t=>Ab 0 s t λu v=>Ab 0 u v λx y=>Ac x y λz aa=>U .add z r aa λab ac=>Ae y0 ac λad ae=>Ab 0 ad ae λaf ag=>Ab 0 af ag λah ai=>Aj 1 ah ab ai λaj=>Ae y0 aj λak al=>Ab 0 ak al λam an=>Ab 2 am an λao ap=>Ac ao ap λaq ar=>U .sub a r ar λau av=>U .add aq au av λaw ax=>Ae y0 ax λay az=>Ab 0 ay az λba bb=>Ab 2 ba bb λbc bd=>Aj 1 bc aw bd λbe=>K r be)))/\True)):F235.k3 K y0 y1 w:=qq h
def F235.sh(h:(I Z 281 #[x0] w λa b=>A8 a b λc d=>Af c (K (v6 wg 0) d) (F235.k3 K x0 x1 d))):I Z 235 #[x0,x1] w K:=BK (A:=F235.ann) (args:=[x0,x1]) (qq h)
def F274.sh(h:(I Z 301 #[x0] w λa b=>I Z 302 #[a] b λc d=>K c d)):I Z 274 #[x0] w K:=BK (A:=A0) (args:=[x0]) (qq h)
namespace F275
def ann:=a1 [(3,[0,1])]
def code:=cd f275
def BM:=tp f275
variable(K:VK)(y0 y1:wm)(w:wn)
@[irreducible]def k3:=nk ann 23 [(0,y0),(1,y1)] w [1,1] code (BM K)
end F275
def F275.k3.to(h:(I Z 274 #[y0] w λa b=>I Z 66 #[y1,(v6 wg 0),a] b λc d=>Ae y0 d λf g=>Ab 0 f g λi j=>Ab 1 i j λk m=>Ac k m λo p=>U .add o c p λq r=>Ae y0 r λs t=>Ab 0 s t λu v=>Ab 1 u v λx y=>Aj 1 x q y λz=>K c z)):F275.k3 K y0 y1 w:=qq h
def F275.sh(h:(I Z 281 #[x0] w λa b=>A8 a b λc d=>Af c (K (v6 wg 0) d) (F275.k3 K x0 x1 d))):I Z 275 #[x0,x1] w K:=BK (A:=F275.ann) (args:=[x0,x1]) (qq h)
def F281.sh(h:(AB Z .neq 91 (.tmp 3) (.const (v7 wj)) x0 (v7 wj) w λa b=>Aa wk a (λK=>K x0 b) b λc d=>Aa wk a (Ae c d) d λf g=>Aa wk a (Ab 3 f g) g λi j=>Aa wk a (Ac i j) j λk m=>Aw (wh a) (wh k) (wh (wd wl)) m λo p=>K o p)):I Z 281 #[x0] w K:=BK (A:=A0) (args:=[x0]) (qq h)
namespace F301
def ann:=a1 [(3,[0])]
def code:=cd f301
def BM:=tp f301
variable(K:VK)(y0:wm)(w:wn)
@[irreducible]def k3:=nk ann 11 [(0,y0)] w [1,1] code (BM K)
end F301
def F301.k3.to(h:(Ae y0 w λa b=>Ab 0 a b λc d=>K c d)):F301.k3 K y0 w:=qq h
def F301.sh(h:(I Z 281 #[x0] w λa b=>A8 a b λc d=>Af c (Am Z (Instr.build 143 #[]) d λf g=>Aq (wt (wm.cells f) 143) g λi j=>K i j) (F301.k3 K x0 d))):I Z 301 #[x0] w K:=BK (A:=F301.ann) (args:=[x0]) (qq h)
namespace F302
def ann:Cg:=⟨[],[],[],[(1,(tk [0,1,2,4,5,6,3,7,8,9] .fin))],wj⟩
end F302
def F302.sh(h:(A2 w λS a=>Ae x0 a λb c=>Ab 0 b c λd f=>Ae x0 f λg i=>Ab 1 g i λj k=>An S d k λm o=>An S j o λp q=>U .sub m p q λr s=>K r s)):I Z 302 #[x0] w K:=BK (A:=F302.ann) (args:=[x0]) (qq h)
end
def V(k n:Int):wm := .agg #[v6 wg k,v6 wg n]
def vB(k n:Int):Obj:=wt #[v6 wg k,v6 wg n] 60 (0,0)
def YF(a:Int)(h:a % 2=0):a.tdiv 2=a / 2:=Int.tdiv_eq_ediv_of_dvd (Int.dvd_of_emod_eq_zero h)
def Cc{k n:Int}:∀v∈(V k n).cells.toList,v.oneCell'=wk:=by intro v hv;simp only[V,wm.cells,ux,i9,vt]at hv;rcases hv with rfl|rfl<;>rfl
section
variable{K:VK}{w:wn}
def ZL(x y:Operand)(a b c d:Int):(do eqGuard .eql 60 x y (V a b) (V c d);binOp .eql 60 (V a b) (V c d):Sem wm).run Z w=.ok (wd (decide (a=c/\b=d))) w:=by
 have h:=PV (w:=w) (ks:=[wg,wg]) x y Tryz.underlying60 (by kernel_rfl) (by kernel_rfl) (by kernel_rfl) [a,b] [c,d] rfl rfl;have e:([a,b] == [c,d])=decide (a=c/\b=d):=by rw[j7];simp
 rw[e]at h;exact h
def L5(a b:Int):(Instr.build 60 #[(0,v6 wg a),(1,v6 wg b)]).run Z w=.ok (V a b) w:=by kernel_rfl
def Fa:(Instr.build 60 #[]).run Z w=.ok (V 0 0) w:=by kernel_rfl
def G5(k n:Int)(h:∀w',Fr [] w w'->K (v6 wg (DL k n)) w'):I Z 227 #[V k n] w K:=by
 refine F227.sh (Ar λb w1 hn=>?_);have hb:w1.heap[b]?=wh (vB k n):=hn.at_;have h:=h w1 hn.fr;unfold DL at h
 try simp only[zv]
 refine Ad (v:=v6 wg k) hb rfl ?_;by_cases k0:k=0
 ·simp only[zv,vw,k0];refine Ad (v:=v6 wg n) hb rfl ?_;rw[vy k0]at h;refine (Ay ..).2 (F227.k10.to ?_);by_cases n0:n=0
  ·rw[vy n0]at h;simp only[zv,vw,n0];exact F227.k12.to h
  ·rw[vx n0]at h;simp only[zv,n0];exact h
 ·rw[vx k0]at h;by_cases k1:k=1
  ·rw[vy k1]at h;simp only[zv,vw,k1,show ¬(1:Int)=0 by decide];refine Ad (v:=v6 wg n) hb rfl ?_
   try simp only[AE]
   by_cases h1:n ≥ -1099511627776
   ·simp only[zv,h1];refine Ad (v:=v6 wg n) hb rfl ?_
    try simp only[Ap]
    refine F227.k10.to ?_;by_cases h2:n<1099511627776
    ·rw[vy ⟨h1,h2⟩]at h;simp only[zv,h2];exact F227.k12.to h
    ·rw[vx (by omega)]at h;simp only[zv,h2];exact h
   ·rw[vx (by omega)]at h;simp only[zv,h1];refine F227.k10.to ?_
    try simp only[zv]
    exact h
  ·rw[vx k1]at h;by_cases k2:k=2
   ·rw[vy k2]at h;simp only[zv,vw,k2,show ¬(2:Int)=0 by decide,show ¬(2:Int)=1 by decide];refine Ad (v:=v6 wg n) hb rfl ?_
    try simp only[AE]
    by_cases h1:n≥0
    ·simp only[zv,h1];refine Ad (v:=v6 wg n) hb rfl ?_
     try simp only[Ap]
     refine F227.k10.to ?_;by_cases h2:n<2048
     ·rw[vy ⟨h1,h2⟩]at h;simp only[zv,h2];exact F227.k12.to h
     ·rw[vx (by omega)]at h;simp only[zv,h2];exact h
    ·rw[vx (by omega)]at h;simp only[zv,h1];refine F227.k10.to ?_
     try simp only[zv]
     exact h
   ·rw[vx k2]at h;simp only[zv,k0,k1,k2];exact h
def OX{k n:Int}(h:DL k n=0)(hk:k=1∨k=2) : -1099511627776<=n/\n<1099511627776:=by
 unfold DL at h;rcases hk with rfl|rfl
 ·simp at h;omega
 ·simp at h;omega
def Xb(k n:Int)(hc:DL k n≠0)(h:∀w',Fr [] w w'->K (wc #[v6 wg 0,wd wl]) w'):I Z 279 #[V k n] w K:=by refine F279.sh (Ar λb w1 hn=>A3 hn.at_ rfl (G5 k n λw2 hf2=>?_));simp only[zv,vz,hc,zX];exact h w2 (hn.fr.trans hf2)
def V9(k n:Int)(hc:DL k n=0)(h:∀w',Fr [] w w'->K (wc #[v6 wg (Li k n),wd wk]) w'):I Z 279 #[V k n] w K:=by
 refine F279.sh (Ar λb w1 hn=>A3 hn.at_ rfl (G5 k n λw2 hf2=>?_));have hb:w2.heap[b]?=wh (vB k n):=hf2.at_ hn.at_ (by simp);have h:=h w2 (hn.fr.trans hf2);simp only[zv,vw,vz,hc,zW];refine F279.k3.to ?_
 try simp only[zv]
 refine Ad (v:=v6 wg k) hb rfl ?_;unfold Li at h;by_cases k2:k=2
 ·have hn:=OX hc (ws k2);rw[vy k2]at h;simp only[zv,vw,k2];refine F279.k7.to (F279.k8.to ?_)
  try simp only[zv]
  refine Ad (v:=v6 wg n) hb rfl ?_
  try simp only[zv]
  rw[BO (n:=2*n) (by omega),BO (n:=2*n+1) (by omega),BO (n:=1+(2*n+1)) (by omega)];refine F279.k9.to ?_;rw[show 1+(2*n+1)=2*n+2 by omega];exact h
 ·rw[vx k2]at h;simp only[zv,k2];refine F279.k6.to ?_;by_cases k1:k=1
  ·have hn:=OX hc (.inl k1);rw[vy k1]at h;simp only[zv,vw,k1];refine F279.k8.to ?_
   try simp only[zv]
   refine Ad (v:=v6 wg n) hb rfl ?_
   try simp only[zv]
   rw[BO (n:=2*n) (by omega),BO (n:=2*n+1) (by omega),BO (n:=0+(2*n+1)) (by omega)];refine F279.k9.to ?_;rw[show 0+(2*n+1)=2*n+1 by omega];exact h
  ·rw[vx k1]at h;simp only[zv,k1];exact F279.k9.to h
def Ju{b r:Nat}{k n:Int}(hb:w.heap[b]?=wh (vB k n))(hr:w.heap[r]?=wh (vB 0 0))(h1:DL k n=0->∀w',Fr [r] w w'->K (wc #[V k n,wd wk]) w')(h2:DL k n≠0->∀w',Fr [r] w w'->K (wc #[V 0 0,wd wl]) w'):
  F201.k6 K (v7 (wh ⟨r,0,wj⟩)) (v7 (wh ⟨b,0,wj⟩)) w:=by
 refine F201.k6.to (A3 hb rfl (G5 k n λw1 hf1=>?_));have hr1:=hf1.at_ hr (by simp);by_cases hc:DL k n=0
 ·simp only[zv,vw,vz,hc,zW];refine F201.k8.to (A3 (hf1.at_ hb (by simp)) rfl (AA hr1 rfl Cc rfl λw2 hu=>A3 hu.at_ rfl ?_));exact h1 hc w2 (hf1.w.trans hu.fr)
 ·simp only[zv,vz,hc,zX];refine A4 Fa (AA hr1 rfl Cc rfl λw2 hu=>A3 hu.at_ rfl ?_);exact h2 hc w2 (hf1.w.trans hu.fr)
def Xg(a:Int)(ha : -9223372036854775808<=a/\a<=9223372036854775807)(h1:DL (LU a) (LV a)=0->∀w',Fr [] w w'->K (wc #[V (LU a) (LV a),wd wk]) w')(h2:DL (LU a) (LV a)≠0->∀w',Fr [] w w'->K (wc #[V 0 0,wd wl]) w'):
  I Z 201 #[v6 wg a] w K:=by
 refine F201.sh (Ar λr w1 hn1=>Ar λb w2 hn2=>⟨_,NR _ _ _,?_⟩);have hr:w2.heap[r]?=wh (vB 0 0):=hn2.fr.at_ hn1.at_ (by simp);have hb:w2.heap[b]?=wh (vB 0 0):=hn2.at_;have hrb:r≠b:=hn2.ne (BP hn1.at_);have lr:w.heap.size<=r:=by have:=hn1.is;omega
 have lb:w.heap.size<=b:=by have:=hn2.is;have:=hn1.fr.size;omega
 have hf:Fr [] w w2:=hn1.fr.trans hn2.fr;unfold LU LV at h1 h2;by_cases o:a % 2=1
 ·simp only[vy o]at h1 h2;simp only[zv,vw,o];refine⟨_,UE _ _ _,A4 (L5 _ _) (AA hb rfl Cc rfl λw3 hu=>?_)⟩;have hf3:Fr [] w w3:=hf.then hu.fr (by simp;omega);exact Ju hu.at_ (hu.fr.at_ hr (by simp;omega)) (λhc w' hf'=>h1 hc w' (hf3.then hf' (by simp;omega))) (λhc w' hf'=>h2 hc w' (hf3.then hf' (by simp;omega)))
 ·simp only[vx o]at h1 h2;simp only[zv,o];by_cases z:a=0
  ·simp only[vy z]at h1 h2;simp only[z,vz,zW,Ag,vw,decide_false];exact Ju hb hr (λhc w' hf'=>h1 hc w' (hf.then hf' (by simp;omega))) (λhc w' hf'=>h2 hc w' (hf.then hf' (by simp;omega)))
  ·simp only[vx z]at h1 h2;simp only[z,vz,zX,Ah,decide_true];have e2:=YF a (by omega);refine⟨_,DR _ _ _ _ (by decide),?_⟩;rw[BO (n:=a.tdiv 2) (by omega)]
   try simp only[AN]
   rw[BO (n:=a.tdiv 2-1) (by omega)];refine A4 (L5 _ _) (AA hb rfl Cc rfl λw3 hu=>?_);have hf3:Fr [] w w3:=hf.then hu.fr (by simp;omega);exact Ju hu.at_ (hu.fr.at_ hr (by simp;omega)) (λhc w' hf'=>h1 hc w' (hf3.then hf' (by simp;omega))) (λhc w' hf'=>h2 hc w' (hf3.then hf' (by simp;omega)))
def TS{k n:Int}(h:DL k n=0):(k=0/\n=0)∨(k=1 /\ -1099511627776<=n/\n<1099511627776)∨(k=2/\0<=n/\n<2048):=by
 unfold DL at h;split at h
 ·split at h<;>omega
 ·split at h
  ·split at h<;>omega
  ·split at h
   ·split at h<;>omega
   ·omega
end
noncomputable section
variable{K:VK}{w:wn}{x0 x1 x2 x3 y0 y1 y2 y5 y6 y8 y9 y10 y11 y12 y13 y16 y17 y18:wm}
def F73.sh(h:(I Z 112 #[x0] w λa b=>I Z 113 #[x1] b λc d=>Am Z (Instr.build 171 #[(0,a),(1,c)]) d λf g=>Aq (wt (wm.cells f) 171) g λi j=>Ae i j λk m=>Ab 0 k m λo p=>Ac o p λq r=>I Z 114 #[q] r λs t=>Ae i t λu v=>Ab 3 u v λx y=>Aj 1 x s y λz=>Am Z (Builtin.max_ #[3,3] 3 #[x1,(v6 wg 0)]) z λaa ab=>Am Z (Builtin.min_ #[3,3] 3 #[aa,(v6 wg 9)]) ab λac ad=>Ae i ad λae af=>Ab 2 ae af λag ah=>Aj 1 ag ac ah λai=>K i ai)):I Z 73 #[x0,x1] w K:=BK (A:=A0) (args:=[x0,x1]) (qq h)
namespace F79
def ann:Cg:=⟨[(10,[0,2,9]),(11,[0,1,2,8]),(14,[0,1,2,8]),(17,[0,1,2,8,13])],[],[],[(7,(tk [0,1,2,4,3] (.go 5 (.go 6 (tk [7,8,9,10,11] .fin) .fin) .fin)))],wj⟩
def code:=cd f79
def BM:=tp f79
variable(K:VK)(y0 y1 y2 y8 y9 y13:wm)(w:wn)
def k11:=nk ann 90 [(0,y0),(1,y1),(2,y2),(8,y8)] w [1,1,1] code (BM K)
def k10:=nk ann 90 [(0,y0),(2,y2),(9,y9)] w [1,1,0,0,1,1,1,1,1,0,1,1] code (BM K)
def k14:=nk ann 90 [(0,y0),(1,y1),(2,y2),(8,y8)] w [1,1,1,1] code (BM K)
def k17:=nk ann 90 [(0,y0),(1,y1),(2,y2),(8,y8),(13,y13)] w [1,1,1,1,1,1] code (BM K)
attribute [irreducible] k11 k10 k14 k17
end F79
def F79.k11.to(h:(I Z 122 #[y0,y1,y2] w λa b=>Ao 0 a b λc d=>Ao 1 a d λf g=>Af f (K (wc #[c,(v6 wg 0)]) g) (F79.k14 K y0 y1 y2 y8 g))):F79.k11 K y0 y1 y2 y8 w:=qq h
def F79.k10.to(h:(I Z 121 #[y0,y9,y2] w λa b=>K (wc #[a,(v6 wg 0)]) b)):F79.k10 K y0 y2 y9 w:=qq h
def F79.k14.to(h:(I Z 123 #[y0,y8] w λa b=>Ao 0 a b λc d=>Ao 1 a d λf g=>A8 f g λi j=>Af i (K (wc #[(v6 wg 0),(v6 wg 10)]) j) (F79.k17 K y0 y1 y2 y8 c j))):F79.k14 K y0 y1 y2 y8 w:=qq h
def F79.k17.to(h:(Ae y0 w λa b=>Ab 1 a b λc d=>Ac c d λf g=>I Z 124 #[f,y1,y8,y13] g λi j=>I Z 122 #[y0,y1,y2] j λk m=>Ao 0 k m λo p=>Ao 1 k p λq r=>K (wc #[o,(v6 wg 0)]) r)):F79.k17 K y0 y1 y2 y8 y13 w:=qq h
def F79.sh(h:(I Z 117 #[x2] w λa b=>I Z 118 #[x0] b λc d=>A8 c d λf g=>Af f (K (wc #[(v6 wg 0),(v6 wg 9)]) g) (U .eql a (v6 wg 0) g λi j=>Aa wl i (λK=>K x1 j) j λk m=>Aa wl i (U .lss k (v6 wg 0) m) m λo p=>Aw (wh i) (wh (wd wk)) (wh o) p λq r=>Aa wl q (λK=>K x1 r) r λs t=>Aa wl q (λK=>K x0 t) t λu v=>Aa wl q (Ae u v) v λx y=>Aa wl q (Ab 2 x y) y λz aa=>Aa wl q (Ac z aa) aa λab ac=>Aa wl q (U .geq s ab ac) ac λad ae=>Aw (wh q) (wh (wd wk)) (wh ad) ae λaf ag=>Af af (K (wc #[(v6 wg 0),(v6 wg 4)]) ag) (U .eql a (v6 wg 5) ag λah ai=>Af ah (A2 ai λS aj=>Ae x0 aj λak al=>Ab 0 ak al λam an=>An S am an λao ap=>(I Z 120 #[x2] ap λaq ar=>(S ar/\
 (I Z 119 #[ao,aq] ar λau av=>(S av/\
 Ao 0 au av λaw ax=>Ao 1 au ax λay az=>A8 ay az λba bb=>Af ba (K (wc #[(v6 wg 0),(v6 wg 10)]) bb) (F79.k10 K x0 x2 aw bb)))/\True))/\True) (F79.k11 K x0 x1 x2 a ai))))):I Z 79 #[x0,x1,x2] w K:=BK (A:=F79.ann) (args:=[x0,x1,x2]) (qq h)
def F89.sh(h:(I Z 127 #[x0,x1] w λa b=>Ao 0 a b λc d=>Ao 1 a d λf g=>K c g)):I Z 89 #[x0,x1] w K:=BK (A:=A0) (args:=[x0,x1]) (qq h)
namespace F92
def ann:=a1 [(3,[0])]
def code:=cd f92
def BM:=tp f92
variable(K:VK)(y0:wm)(w:wn)
@[irreducible]def k3:=nk ann 11 [(0,y0)] w [1,1] code (BM K)
end F92
def F92.k3.to(h:(Ae y0 w λa b=>Ab 0 a b λc d=>Ac c d λf g=>I Z 130 #[f] g λi j=>K i j)):F92.k3 K y0 w:=qq h
def F92.sh(h:(I Z 118 #[x0] w λa b=>A8 a b λc d=>Af c (K (.slice wj 0 0) d) (F92.k3 K x0 d))):I Z 92 #[x0] w K:=BK (A:=F92.ann) (args:=[x0]) (qq h)
def F118.sh(h:(AB Z .neq 118 (.tmp 3) (.const (v7 wj)) x0 (v7 wj) w λa b=>Aa wk a (λK=>K x0 b) b λc d=>Aa wk a (Ae c d) d λf g=>Aa wk a (Ab 0 f g) g λi j=>Aa wk a (Ac i j) j λk m=>Aa wk a (λK=>AB Z .neq 166 (.tmp 9) (.const (v7 wj)) k (v7 wj) m K) m λo p=>Aw (wh a) (wh o) (wh (wd wl)) p λq r=>K q r)):I Z 118 #[x0] w K:=BK (A:=A0) (args:=[x0]) (qq h)
def F121.sh(h:(Ae x0 w λa b=>Ab 4 a b λc d=>Ac c d λf g=>I Z 180 #[f,x2] g λi j=>Ao 0 i j λk m=>Ao 1 i m λo p=>Ae x0 p λq r=>Ab 0 q r λs t=>Ac s t λu v=>I Z 181 #[u,x1,k] v λx y=>Ae x0 y λz aa=>Ab 4 z aa λab ac=>Ac ab ac λad ae=>U .add ad (v6 wg 1) ae λaf ag=>Ae x0 ag λah ai=>Ab 4 ah ai λaj ak=>Aj 1 aj af ak λal=>K x1 al)):I Z 121 #[x0,x1,x2] w K:=BK (A:=A0) (args:=[x0,x1,x2]) (qq h)
namespace F122
def ann:Cg:=⟨[(3,[0,1,2]),(6,[0,2,8])],[],[],[(3,(tk [0,1,2,4,5,6,8,9,3,7] (.go 10 (.go 11 (.go 12 (tk [13,14,15,16,17] .fin) .fin) .fin) .fin)))],wj⟩
def code:=cd f122
def BM:=tp f122
variable(K:VK)(y0 y1 y2 y8:wm)(w:wn)
def k3:=nk ann 40 [(0,y0),(1,y1),(2,y2)] w [1,1] code (BM K)
def k6:=nk ann 40 [(0,y0),(2,y2),(8,y8)] w [1,1,1,1] code (BM K)
attribute [irreducible] k3 k6
end F122
def F122.k3.to(h:(A2 w λS a=>Ae y0 a λb c=>Ab 0 b c λd f=>Ae y0 f λg i=>Ab 1 g i λj k=>An S d k λm o=>An S j o λp q=>(I Z 117 #[y2] q λr s=>(S s/\
 (I Z 184 #[p,y1,r] s λt u=>(S u/\
 (I Z 183 #[m,t] u λv x=>(S x/\
 Ao 0 v x λy z=>Ao 1 v z λaa ab=>A8 aa ab λac ad=>Af ac (K (wc #[(v6 wg 0),(wd wl)]) ad) (F122.k6 K y0 y2 y ad)))/\True))/\True))/\True)):F122.k3 K y0 y1 y2 w:=qq h
def F122.k6.to(h:(I Z 121 #[y0,y8,y2] w λa b=>K (wc #[a,(wd wk)]) b)):F122.k6 K y0 y2 y8 w:=qq h
def F122.sh(h:(I Z 118 #[x0] w λa b=>A8 a b λc d=>Aa wl c (λK=>K x2 d) d λf g=>Aa wl c (λK=>I Z 182 #[f] g K) g λi j=>Aa wl c (A8 i j) j λk m=>Aw (wh c) (wh (wd wk)) (wh k) m λo p=>Af o (K (wc #[(v6 wg 0),(wd wl)]) p) (F122.k3 K x0 x1 x2 p))):I Z 122 #[x0,x1,x2] w K:=BK (A:=F122.ann) (args:=[x0,x1,x2]) (qq h)
namespace F123
def ann:Cg:=⟨[(3,[0,1,12,13]),(7,[0,1,12,13]),(8,[0,1])],[(2,[0,1,12,13])],[],[],wj⟩
def code:=cd f123
def BM:=tp f123
variable(K:VK)(y0 y1 y12 y13:wm)(w:wn)
def k8:=nk ann 56 [(0,y0),(1,y1)] w [1,1] code (BM K)
def l2:=nl ann 56 [(0,y0),(1,y1),(12,y12),(13,y13)] w [1,0,1,0] code (BM K)
def k3:=nk ann 56 [(0,y0),(1,y1),(12,y12),(13,y13)] w [1,0,1,0,0,1,1] code (BM K)
def k7:=nk ann 56 [(0,y0),(1,y1),(12,y12),(13,y13)] w [1,0,1,0,0,1,1,1] code (BM K)
attribute [irreducible] k8 l2 k3 k7
end F123
def F123.k8.to(h:(Ae y0 w λa b=>Ab 0 a b λc d=>Ac c d λf g=>I Z 188 #[f,y1] g λi j=>Ao 0 i j λk m=>Ao 1 i m λo p=>K (wc #[k,o]) p)):F123.k8 K y0 y1 w:=qq h
def F123.l2.to(h:(U .lss y13 y12 w λa b=>Af a (F123.k3 K y0 y1 y12 y13 b) (F123.k8 K y0 y1 b))):F123.l2 K y0 y1 y12 y13 w:=by unfold F123.l2 nl;exact BW (qq h)
def F123.k3.to(h:(Ae y0 w λa b=>Ab 1 a b λc d=>Ac c d λf g=>I Z 185 #[f,y13] g λi j=>Ao 0 i j λk m=>Ao 1 i m λo p=>U .lss k (v6 wg 0) p λq r=>Aa wk q (λK=>K y0 r) r λs t=>Aa wk q (Ae s t) t λu v=>Aa wk q (Ab 0 u v) v λx y=>Aa wk q (Ac x y) y λz aa=>Aa wk q (λK=>K y13 aa) aa λab ac=>Aa wk q (λK=>I Z 186 #[z,ab] ac K) ac λad ae=>Aa wk q (λK=>K y1 ae) ae λaf ag=>Aa wk q (U .eql ad af ag) ag λah ai=>Aw (wh q) (wh ah) (wh (wd wl)) ai λaj ak=>Aa wk aj (λK=>K y0 ak) ak λal am=>Aa wk aj (Ae al am) am λan ao=>Aa wk aj (Ab 0 an ao) ao λap aq=>Aa wk aj (Ac ap aq) aq λar au=>Aa wk aj (λK=>K y13 au) au λav aw=>Aa wk aj (λK=>I Z 187 #[ar,av] aw K) aw λax ay=>Aa wk aj (U .gtr ax (v6 wg 0) ay) ay λaz ba=>Aw (wh aj) (wh az) (wh (wd wl)) ba λbb bc=>Af bb (K (wc #[y13,(wd wk)]) bc) (F123.k7 K y0 y1 y12 y13 bc))):F123.k3 K y0 y1 y12 y13 w:=qq h
def F123.k7.to(h:(U .add y13 (v6 wg 1) w λa b=>F123.l2 K y0 y1 y12 a b)):F123.k7 K y0 y1 y12 y13 w:=qq h
def F123.sh(h:(Ae x0 w λa b=>Ab 3 a b λc d=>Ac c d λf g=>F123.l2 K x0 x1 f (v6 wg 0) g)):I Z 123 #[x0,x1] w K:=BK (A:=F123.ann) (args:=[x0,x1]) (qq h)
namespace F127
def ann:=a1 [(3,[0,1])]
def code:=cd f127
def BM:=tp f127
variable(K:VK)(y0 y1:wm)(w:wn)
@[irreducible]def k3:=nk ann 40 [(0,y0),(1,y1)] w [1,1] code (BM K)
end F127
def F127.k3.to(h:(Ae y0 w λa b=>Ab 0 a b λc d=>Ac c d λf g=>I Z 198 #[f,y1] g λi j=>Ao 0 i j λk m=>Ao 1 i m λo p=>I Z 199 #[k] p λq r=>Ao 0 q r λs t=>Ao 1 q t λu v=>Ao 2 q v λx y=>K (wc #[s,u]) y)):F127.k3 K y0 y1 w:=qq h
def F127.sh(h:(I Z 118 #[x0] w λa b=>A8 a b λc d=>Aa wl c (λK=>K x0 d) d λf g=>Aa wl c (Ae f g) g λi j=>Aa wl c (Ab 0 i j) j λk m=>Aa wl c (Ac k m) m λo p=>Aa wl c (λK=>K x1 p) p λq r=>Aa wl c (λK=>I Z 197 #[o,q] r K) r λs t=>Aa wl c (A8 s t) t λu v=>Aw (wh c) (wh (wd wk)) (wh u) v λx y=>Af x (K (wc #[(v6 wg (-1)),(v6 wg (-1))]) y) (F127.k3 K x0 x1 y))):I Z 127 #[x0,x1] w K:=BK (A:=F127.ann) (args:=[x0,x1]) (qq h)
def F128.sh(h:(I Z 127 #[x0,x1] w λa b=>Ao 0 a b λc d=>Ao 1 a d λf g=>K f g)):I Z 128 #[x0,x1] w K:=BK (A:=A0) (args:=[x0,x1]) (qq h)
namespace F129
def ann:=a1 [(3,[0,1,2,6])]
def code:=cd f129
def BM:=tp f129
variable(K:VK)(y0 y1 y2 y6:wm)(w:wn)
@[irreducible]def k3:=nk ann 32 [(0,y0),(1,y1),(2,y2),(6,y6)] w [1,1] code (BM K)
end F129
def F129.k3.to(h:(Ae y0 w λa b=>Ab 0 a b λc d=>Ac c d λf g=>U .add y1 (v6 wg 1) g λi j=>U .add i y2 j λk m=>I Z 198 #[f,k] m λo p=>Ao 0 o p λq r=>Ao 1 o r λs t=>I Z 201 #[q] t λu v=>Ao 0 u v λx y=>Ao 1 u y λz aa=>Aj 2 y6 x aa λab=>Ak 2 y6 ab λr13 _=>K (wc #[r13,z]) ab)):F129.k3 K y0 y1 y2 y6 w:=qq h
def F129.sh(h:(Aq (wt #[v6 wg 0,v6 wg 0] 60) w λa b=>I Z 200 #[x0,x1,x2] b λc d=>A8 c d λf g=>Af f (Am Z (Instr.build 60 #[]) g λi j=>Aj 2 a i j λk=>Ak 2 a k λr6 _=>K (wc #[r6,(wd wl)]) k) (F129.k3 K x0 x1 x2 a g))):I Z 129 #[x0,x1,x2] w K:=BK (A:=F129.ann) (args:=[x0,x1,x2]) (qq h)
namespace F147
def ann:Cg:=⟨[(3,[0,1]),(6,[0,5,16,17,18]),(9,[0,5,16,17,18]),(10,[5])],[(5,[0,5,16,17,18])],[],[],wj⟩
def code:=cd f147
def BM:=tp f147
variable(K:VK)(y0 y1 y5 y16 y17 y18:wm)(w:wn)
def k3:=nk ann 32 [(0,y0),(1,y1)] w [1,1] code (BM K)
def k10:=nk ann 32 [(5,y5)] w [1,1,1,1] code (BM K)
def l5:=nl ann 32 [(0,y0),(5,y5),(16,y16),(17,y17),(18,y18)] w [1,1,1,0,1,0] code (BM K)
def k6:=nk ann 32 [(0,y0),(5,y5),(16,y16),(17,y17),(18,y18)] w [1,1,1,0,1,0,0,1,1] code (BM K)
def k9:=nk ann 32 [(0,y0),(5,y5),(16,y16),(17,y17),(18,y18)] w [1,1,1,0,1,0,0,1,1,1] code (BM K)
attribute [irreducible] k3 k10 l5 k6 k9
end F147
def F147.k3.to(h:(Ae y0 w λa b=>Ab 1 a b λc d=>Ac c d λf g=>I Z 211 #[f,y1] g λi j=>AD i j λk m=>F147.l5 K y0 (v6 wg 0) i k (v6 wg 0) m)):F147.k3 K y0 y1 w:=qq h
def F147.k10.to(h:(K y5 w)):F147.k10 K y5 w:=qq h
def F147.l5.to(h:(U .lss y18 y17 w λa b=>Af a (F147.k6 K y0 y5 y16 y17 y18 b) (F147.k10 K y5 b))):F147.l5 K y0 y5 y16 y17 y18 w:=by unfold F147.l5 nl;exact BW (qq h)
def F147.k6.to(h:(AC 1 y16 y18 w λa b=>Ac a b λc d=>Ae y0 d λf g=>Ab 0 f g λi j=>Ac i j λk m=>I Z 212 #[k,c] m λo p=>Af o (U .add y5 (v6 wg 1) p λq r=>F147.k9 K y0 q y16 y17 y18 r) (F147.k9 K y0 y5 y16 y17 y18 p))):F147.k6 K y0 y5 y16 y17 y18 w:=qq h
def F147.k9.to(h:(U .add y18 (v6 wg 1) w λa b=>F147.l5 K y0 y5 y16 y17 a b)):F147.k9 K y0 y5 y16 y17 y18 w:=qq h
def F147.sh(h:(I Z 118 #[x0] w λa b=>A8 a b λc d=>Af c (K (v6 wg 0) d) (F147.k3 K x0 x1 d))):I Z 147 #[x0,x1] w K:=BK (A:=F147.ann) (args:=[x0,x1]) (qq h)
def F182.sh(h:(I Z 117 #[x0] w λa b=>I Z 175 #[a] b λc d=>U .gtr c (v6 wg 0) d λf g=>K f g)):I Z 182 #[x0] w K:=BK (A:=A0) (args:=[x0]) (qq h)
def F200.sh(h:(U .geq x2 (v6 wg 0) w λa b=>Aa wk a (λK=>K x2 b) b λc d=>Aa wk a (λK=>K x0 d) d λf g=>Aa wk a (λK=>K x1 g) g λi j=>Aa wk a (λK=>I Z 128 #[f,i] j K) j λk m=>Aa wk a (U .lss c k m) m λo p=>Aw (wh a) (wh o) (wh (wd wl)) p λq r=>K q r)):I Z 200 #[x0,x1,x2] w K:=BK (A:=A0) (args:=[x0,x1,x2]) (qq h)
def F233.sh(h:(Aq (wt (wm.cells x3) 60) w λa b=>Ak 2 a b λc d=>I Z 279 #[c] d λf g=>Ao 0 f g λi j=>Ao 1 f j λk m=>Aa wk k (λK=>K x0 m) m λo p=>Aa wk k (λK=>K x1 p) p λq r=>Aa wk k (λK=>K x2 r) r λs t=>Aa wk k (λK=>I Z 200 #[o,q,s] t K) t λu v=>Aw (wh k) (wh u) (wh (wd wl)) v λx y=>Aa wk x (λK=>K x0 y) y λz aa=>Aa wk x (Ae z aa) aa λab ac=>Aa wk x (Ab 0 ab ac) ac λad ae=>Aa wk x (Ac ad ae) ae λaf ag=>Aa wk x (λK=>K x1 ag) ag λah ai=>Aa wk x (U .add ah (v6 wg 1) ai) ai λaj ak=>Aa wk x (λK=>K x2 ak) ak λal am=>Aa wk x (U .add aj al am) am λan ao=>Aa wk x (λK=>K i ao) ao λap aq=>Aa wk x (λK=>I Z 181 #[af,an,ap] aq K) aq λar au=>Aw (wh x) (wh ar) (wh (wd wl)) au λav aw=>K av aw)):I Z 233 #[x0,x1,x2,x3] w K:=BK (A:=A0) (args:=[x0,x1,x2,x3]) (qq h)
namespace F273
def ann:=a1 [(3,[0])]
def code:=cd f273
def BM:=tp f273
variable(K:VK)(y0:wm)(w:wn)
@[irreducible]def k3:=nk ann 11 [(0,y0)] w [1,1] code (BM K)
end F273
def F273.k3.to(h:(Ae y0 w λa b=>Ab 0 a b λc d=>Ac c d λf g=>I Z 114 #[f] g λi j=>K i j)):F273.k3 K y0 w:=qq h
def F273.sh(h:(I Z 118 #[x0] w λa b=>A8 a b λc d=>Af c (K (v6 wg 0) d) (F273.k3 K x0 d))):I Z 273 #[x0] w K:=BK (A:=F273.ann) (args:=[x0]) (qq h)
namespace F325
def ann:Cg:=⟨[(4,[1,5,9,10,11]),(7,[1,5,9,10,11]),(8,[5])],[(3,[1,5,9,10,11])],[],[],wj⟩
def code:=cd f325
def BM:=tp f325
variable(K:VK)(y1 y5 y9 y10 y11:wm)(w:wn)
def k8:=nk ann 25 [(5,y5)] w [1,1,1] code (BM K)
def l3:=nl ann 25 [(1,y1),(5,y5),(9,y9),(10,y10),(11,y11)] w [1,1,0,1,0] code (BM K)
def k4:=nk ann 25 [(1,y1),(5,y5),(9,y9),(10,y10),(11,y11)] w [1,1,0,1,0,0,1,1] code (BM K)
def k7:=nk ann 25 [(1,y1),(5,y5),(9,y9),(10,y10),(11,y11)] w [1,1,0,1,0,0,1,1,1] code (BM K)
attribute [irreducible] k8 l3 k4 k7
end F325
def F325.k8.to(h:(K y5 w)):F325.k8 K y5 w:=qq h
def F325.l3.to(h:(U .lss y11 y10 w λa b=>Af a (F325.k4 K y1 y5 y9 y10 y11 b) (F325.k8 K y5 b))):F325.l3 K y1 y5 y9 y10 y11 w:=by unfold F325.l3 nl;exact BW (qq h)
def F325.k4.to(h:(AC 1 y9 y11 w λa b=>Ac a b λc d=>I Z 272 #[c] d λf g=>U .eql f y1 g λi j=>Af i (Am Z (Instr.buildSlice 54 1 #[(0,c)]) j λk m=>Am Z (Builtin.append_ #[54,54] 54 #[y5,k]) m λo p=>F325.k7 K y1 o y9 y10 y11 p) (F325.k7 K y1 y5 y9 y10 y11 j))):F325.k4 K y1 y5 y9 y10 y11 w:=qq h
def F325.k7.to(h:(U .add y11 (v6 wg 1) w λa b=>F325.l3 K y1 y5 y9 y10 a b)):F325.k7 K y1 y5 y9 y10 y11 w:=qq h
def F325.sh(h:(I Z 92 #[x0] w λa b=>AD a b λc d=>F325.l3 K x1 (.slice wj 0 0) a c (v6 wg 0) d)):I Z 325 #[x0,x1] w K:=BK (A:=F325.ann) (args:=[x0,x1]) (qq h)
def F327.sh(h:(I Z 118 #[x0] w λa b=>Aa wk a (λK=>K x0 b) b λc d=>Aa wk a (Ae c d) d λf g=>Aa wk a (Ab 0 f g) g λi j=>Aa wk a (Ac i j) j λk m=>Aa wk a (λK=>K x1 m) m λo p=>Aa wk a (λK=>I Z 338 #[k,o] p K) p λq r=>Aw (wh a) (wh q) (wh (wd wl)) r λs t=>K s t)):I Z 327 #[x0,x1] w K:=BK (A:=A0) (args:=[x0,x1]) (qq h)
def F328.sh(h:(I Z 118 #[x0] w λa b=>Aa wk a (λK=>K x0 b) b λc d=>Aa wk a (λK=>K x1 d) d λf g=>Aa wk a (λK=>I Z 339 #[c,f] g K) g λi j=>Aa wk a (U .lss i (v6 wg 0) j) j λk m=>Aw (wh a) (wh k) (wh (wd wl)) m λo p=>Aa wk o (λK=>K x0 p) p λq r=>Aa wk o (Ae q r) r λs t=>Aa wk o (Ab 0 s t) t λu v=>Aa wk o (Ac u v) v λx y=>Aa wk o (λK=>K x1 y) y λz aa=>Aa wk o (λK=>I Z 212 #[x,z] aa K) aa λab ac=>Aw (wh o) (wh ab) (wh (wd wl)) ac λad ae=>K ad ae)):I Z 328 #[x0,x1] w K:=BK (A:=A0) (args:=[x0,x1]) (qq h)
namespace F339
def ann:=a1 [(3,[0,1])]
def code:=cd f339
def BM:=tp f339
variable(K:VK)(y0 y1:wm)(w:wn)
@[irreducible]def k3:=nk ann 20 [(0,y0),(1,y1)] w [1,1] code (BM K)
end F339
def F339.k3.to(h:(Ae y0 w λa b=>Ab 1 a b λc d=>Ac c d λf g=>I Z 185 #[f,y1] g λi j=>Ao 0 i j λk m=>Ao 1 i m λo p=>K k p)):F339.k3 K y0 y1 w:=qq h
def F339.sh(h:(I Z 118 #[x0] w λa b=>A8 a b λc d=>Af c (K (v6 wg (-1)) d) (F339.k3 K x0 x1 d))):I Z 339 #[x0,x1] w K:=BK (A:=F339.ann) (args:=[x0,x1]) (qq h)
end
section
open Go.RowKit
structure DG where
 A:EH
 st:Nat
 ob:Nat
 om:Nat
def EH.all(A:EH):List Nat:=A.cel::A.tab::A.mem::A.tk::(BN A.kv++BN A.mv)
def DG.S(D:DG):List Nat:=D.st::D.om::D.A.S
def DG.all(D:DG):List Nat:=0::D.st::D.ob::D.om::D.A.all
def EH.sub(A:EH):∀x∈A.S,x∈A.all:=λx hx=>by
 simp only[EH.S,EH.all,ux,n7]at hx ⊢;rcases hx with h|h|h|h<;>simp[h]
def DG.sub(D:DG):∀x∈D.S,x∈D.all:=λx hx=>by
 simp only[DG.S,DG.all,ux]at hx ⊢;rcases hx with h|h|h
 ·simp[h]
 ·simp[h]
 ·exact ws (ws (ws (ws (D.A.sub x h))))
structure DG.Ok(D:DG):Prop where
 so:D.st≠D.ob
 sm:D.st≠D.om
 om:D.ob≠D.om
 s:D.st∉D.A.all
 o:D.ob∉D.A.all
 m:D.om∉D.A.all
 z:0∉D.st::D.ob::D.om::D.A.all
structure C8(D:DG)(np:Nat)(nt:Int)(w:wn)(s:St):Prop where
 ok:D.Ok
 blk:w.heap[D.st]?=wh (wt #[v7 (wh ⟨D.A.cel,0,wj⟩),v7 (wh ⟨D.ob,0,wj⟩),v6 wg nt,v6 wg (np:Int),v6 wg s.made] 171 (0,0))
 cel:Ct D.A w s.c
 own:EX w D.ob D.om nt s.own
 np:np<=64
 tz:GY w
def Ct.keepA{S:List Nat}{A:EH}{w w':wn}{c:Ce}(h:Ct A w c)(hf:Fr S w w')(ha:∀x∈A.all,x∉S):Ct A w' c:=
 h.keep hf (ha _ (by simp[EH.all])) (ha _ (by simp[EH.all])) (ha _ (by simp[EH.all])) (ha _ (by simp[EH.all])) (λg hg=>ha g (by simp[EH.all,hg])) (λg hg=>ha g (by simp[EH.all,hg]))
section
variable{K:VK}{w w':wn}{D:DG}{np:Nat}{nt:Int}{s:St}
def C8.keep{S:List Nat}(h:C8 D np nt w s)(hf:Fr S w w')(ha:∀x∈D.all,x∉S):C8 D np nt w' s:=
 ⟨h.ok,hf.at_ h.blk (ha _ (by simp[DG.all])),h.cel.keepA hf (λx hx=>ha x (by simp[DG.all,hx])),h.own.keep hf (ha _ (by simp[DG.all])) (ha _ (by simp[DG.all])),h.np,h.tz.keep hf (ha _ (by simp[DG.all]))⟩
def C8.keep0(h:C8 D np nt w s)(hf:Fr [] w w'):C8 D np nt w' s:=h.keep hf (by simp)
def C8.setCel{c:Ce}(h:C8 D np nt w s)(hf:Fr D.A.S w w')(hc:Ct D.A w' c):C8 D np nt w' { s with c:=c }:=
 ⟨h.ok,hf.at_ h.blk (λe=>h.ok.s (D.A.sub _ e)),hc,h.own.keep hf (λe=>h.ok.o (D.A.sub _ e)) (λe=>h.ok.m (D.A.sub _ e)),h.np,h.tz.keep hf (λe=>h.ok.z (by simp[D.A.sub _ e]))⟩
def C8.setOwn{f:Om}(h:C8 D np nt w s)(hf:Fr [D.om] w w')(hc:EX w' D.ob D.om nt f):C8 D np nt w' { s with own:=f }:=
 ⟨h.ok,hf.at_ h.blk (by simp[h.ok.sm]),h.cel.keepA hf (λx hx e=>by simp only[zF]at e;subst e;exact h.ok.m hx),hc,h.np,h.tz.keep hf (λe=>h.ok.z (by simp only[zF]at e;simp[e]))⟩
def Fr.ofA(h:Fr D.A.S w w'):Fr D.S w w':=h.mono λx hx=>by simp[DG.S,hx]
def Fr.ofM(h:Fr [D.om] w w'):Fr D.S w w':=h.mono λx hx=>by simp only[zF]at hx;simp[DG.S,hx]
def Fr.ofS(h:Fr [D.st] w w'):Fr D.S w w':=h.mono λx hx=>by simp only[zF]at hx;simp[DG.S,hx]
def Ht(h:C8 D np nt w s)(hk:K (wd wk) w):I Z 118 #[v7 (wh ⟨D.st,0,wj⟩)] w K:=by refine F118.sh ⟨_,CJ _ _ _ Tryz.underlying118,?_⟩;simp only[zv];refine Ad (v:=v7 (wh ⟨D.A.cel,0,wj⟩)) h.blk rfl ⟨_,CJ _ _ _ Tryz.underlying166,?_⟩;simp only[];exact hk
def S5(a n:Int):0<=FI a n/\FI a n<=9223372036854775807:=by unfold FI;split<;>omega
def Pv{a n:Int}(h:C8 D np nt w s)(hk:∀w',Fr D.S w w'->C8 D np nt w' (s.begin a n)->K (v6 wg a) w'):
  I Z 121 #[v7 (wh ⟨D.st,0,wj⟩),v6 wg a,v6 wg n] w K:=by
 have hm:=S5 s.made n;refine F121.sh ?_;simp only[zv];refine Ad (v:=v6 wg s.made) h.blk rfl (Vv λok=>?_)
 try simp only[zv]
 refine Ad (v:=v7 (wh ⟨D.A.cel,0,wj⟩)) h.blk rfl (N9 h.cel (by omega) λw1 hf1 h1=>?_);have h1:=h.setCel hf1.mv h1;refine Ad (v:=v6 wg s.made) h1.blk rfl ?_
 try simp only[A7]
 refine AI h1.blk rfl rfl (by simp) λw2 hu=>?_;refine hk w2 (hf1.mv.ofA.trans hu.fr.ofS) ⟨h.ok,hu.at_,h1.cel.keepA hu.fr (λx hx e=>by simp only[zF]at e;subst e;exact h.ok.s hx),h1.own.keep hu.fr (by simp only[zF];exact h.ok.so.symm) (by simp only[zF];exact h.ok.sm.symm),h.np,h1.tz.keep hu.fr (λe=>h.ok.z (by simp only[zF]at e;simp[e]))⟩
def VJ{n:Int}(hk:K (wd (decide (BV (CD n)>0))) w):I Z 182 #[v6 wg n] w K:=by refine F182.sh (Qz (Ei ?_));by_cases z:BV (CD n)>0<;>simp only[zv,z]at hk ⊢<;>exact hk
def ND{t n:Int}(h:C8 D np nt w s)(hk:∀w',Fr D.S w w'->C8 D np nt w' (s.fast t n).1->K (match (s.fast t n).2 with | wh a=>wc #[v6 wg a,wd wk] | wj=>wc #[v6 wg 0,wd wl]) w'):
  I Z 122 #[v7 (wh ⟨D.st,0,wj⟩),v6 wg t,v6 wg n] w K:=by
 refine F122.sh (Ht h ?_);simp only[zv];refine VJ ?_;have hc:=J4 (CD n);unfold St.fast at hk;by_cases z:BV (CD n)=0
 ·rw[vy z]at hk;simp only[zv,z,show ¬((0:Int)>0) by omega];exact hk w (Fr.refl _ _) h
 rw[vx z]at hk;simp only[zv,show BV (CD n)>0 by omega];refine F122.k3.to (A9 (λw'=>w'.heap[D.st]?=wh (wt #[v7 (wh ⟨D.A.cel,0,wj⟩),v7 (wh ⟨D.ob,0,wj⟩),v6 wg nt,v6 wg (np:Int),v6 wg s.made] 171 (0,0))) λw1 hf1 _=>⟨hf1.at_ h.blk (by simp),?_⟩);have h1:=h.keep0 hf1;simp only[zv]
 refine Au (v:=v7 (wh ⟨D.A.cel,0,wj⟩)) (λw' hw=>⟨_,_,_,hw,rfl⟩) (Au (v:=v7 (wh ⟨D.ob,0,wj⟩)) (λw' hw=>⟨_,_,_,hw,rfl⟩) ?_);refine⟨Qz ⟨h1.blk,V3 h1.own ⟨h1.blk,Xq h1.cel λw2 hf2 h2=>⟨hf2.at_ h1.blk (λe=>h.ok.s (D.A.sub _ e)),?_⟩,trivial⟩,trivial⟩,trivial⟩;have h2:=h1.setCel hf2 h2;cases e:(s.c.take (Fi s.own (t,CD n))).2 with
 | none=>
  simp only[Ah,Av,A5,A6,q9];have e0:s.c.take (Fi s.own (t,CD n))=(s.c,wj):=by
   unfold Ce.take at e ⊢;split
   ·rfl
   ·rename_i z;simp[z]at e
  rw[e0]at hk h2;exact hk w2 (hf1.w.trans hf2.ofA) h2
 | some a=>
  have e0:s.c.take (Fi s.own (t,CD n))=((s.c.take (Fi s.own (t,CD n))).1,wh a):=by rw[<-e]
  rw[e0]at hk;simp only[Ag,Av,A5,A6,uu];refine F122.k6.to (Pv h2 λw3 hf3 h3=>?_);exact hk w3 ((hf1.w.trans hf2.ofA).trans hf3) h3
def PF{a:Int}(h:C8 D np nt w s)(hk:K (wc #[v6 wg (s.read a).1,v6 wg (s.read a).2]) w):
  I Z 127 #[v7 (wh ⟨D.st,0,wj⟩),v6 wg a] w K:=by
 refine F127.sh (Ht h ?_);simp only[zv];refine Ad (v:=v7 (wh ⟨D.A.cel,0,wj⟩)) h.blk rfl (T6 h.cel ?_);unfold St.read at hk;cases e:s.c.isIt a with
 | false=>
  rw[e]at hk;simp only[zv];exact hk
 | true=>
  rw[e]at hk;simp only[zv];refine F127.k3.to ?_;simp only[zv];have hr:=JC h.cel.mm (a:=a);refine Ad (v:=v7 (wh ⟨D.A.cel,0,wj⟩)) h.blk rfl (P0 h.cel λok=>?_);simp only[zv];refine T4 hr λok=>?_;simp only[zv];exact hk
def GX{a:Int}(h:C8 D np nt w s)(hk:K (v6 wg (s.fields a)) w):I Z 128 #[v7 (wh ⟨D.st,0,wj⟩),v6 wg a] w K:=by refine F128.sh (PF h ?_);simp only[zv];exact hk
def RO{a:Int}(h:C8 D np nt w s)(hk:K (v6 wg (s.serial a)) w):I Z 89 #[v7 (wh ⟨D.st,0,wj⟩),v6 wg a] w K:=by refine F89.sh (PF h ?_);simp only[zv];exact hk
def R0{a i:Int}(h:C8 D np nt w s)(hk:K (wd (decide (0<=i/\i<s.fields a))) w):I Z 200 #[v7 (wh ⟨D.st,0,wj⟩),v6 wg a,v6 wg i] w K:=by
 refine F200.sh ?_;by_cases z:i≥0
 ·simp only[zv,z];refine GX h ?_;have:decide (0<=i/\i<s.fields a)=decide (i<s.fields a):=by simp[show 0<=i from z]
  rw[this]at hk;by_cases y:i<s.fields a<;>simp only[zv,y]at hk ⊢<;>exact hk
 ·simp only[zv,z];have:decide (0<=i/\i<s.fields a)=wl:=by simp;omega
  rw[this]at hk;exact hk
def Qv{a i:Int}(h:C8 D np nt w s)(hk:∀w',Fr [] w w'->K (wc #[V (s.get a i).1.1 (s.get a i).1.2,wd (s.get a i).2]) w'):
  I Z 129 #[v7 (wh ⟨D.st,0,wj⟩),v6 wg a,v6 wg i] w K:=by
 refine F129.sh (Ar λr w1 hn=>?_);have h1:=h.keep0 hn.fr;have lr:w.heap.size<=r:=by have:=hn.is;omega
 refine R0 h1 ?_;unfold St.get at hk;by_cases z:0<=i/\i<s.fields a
 ·rw[vy z]at hk;simp only[Av,z];rw[show decide (True/\True)=wk from rfl];simp only[zv];refine F129.k3.to ?_;simp only[zv];refine Ad (v:=v7 (wh ⟨D.A.cel,0,wj⟩)) h1.blk rfl (P0 h1.cel λok=>?_);simp only[zv];have hr:=JC h1.cel.mm (a:=C7 (C7 (a+1)+i))
  have fin:∀(v:V2) (b:Bool) w2,Fr [] w1 w2->(∀w',Fr [] w w'->K (wc #[V v.1 v.2,wd b]) w')->Aj 2 (v7 (wh ⟨r,0,wj⟩)) (V v.1 v.2) w2 λw'=>Ak 2 (v7 (wh ⟨r,0,wj⟩)) w' λr5 _=>K (wc #[r5,wd b]) w':=by intro v b w2 hf2 hk;exact AA (hf2.at_ hn.at_ (by simp)) rfl Cc rfl λw3 hu=>A3 hu.at_ rfl (hk w3 ((hn.fr.trans hf2).then hu.fr (by simp;omega)))
  refine Xg _ hr (λhc w2 hf2=>?_) (λhc w2 hf2=>?_)
  ·unfold H1 at hk;rw[show Cn s.c.m (C7 (C7 (a+1)+i))=Cn s.c.m (IntKind.i64.wrap (IntKind.i64.wrap (a+1)+i)) from rfl,vy hc]at hk;simp only[zv];exact fin (_,_) wk w2 hf2 hk
  ·unfold H1 at hk;rw[show Cn s.c.m (C7 (C7 (a+1)+i))=Cn s.c.m (IntKind.i64.wrap (IntKind.i64.wrap (a+1)+i)) from rfl,vx hc]at hk;simp only[zv];exact fin (0,0) wl w2 hf2 hk
 ·rw[vx z]at hk;simp only[zv,z];refine A4 Fa (AA hn.at_ rfl Cc rfl λw3 hu=>A3 hu.at_ rfl (hk w3 (hn.fr.then hu.fr (by simp;omega))))
end
section
variable{K:VK}{w w':wn}{D:DG}{np:Nat}{nt:Int}{s:St}
def UQ{v:V2}(h:DL v.1 v.2=0) : -9223372036854775808<=ER v/\ER v<=9223372036854775807:=by
 unfold ER Li;rcases TS h with⟨e,_⟩|⟨e,_⟩|⟨e,_⟩<;>rw[e]
 ·simp
 ·simp;omega
 ·simp;omega
def Xl{a i:Int}{v:V2}(h:C8 D np nt w s)(hk:∀w',Fr D.S w w'->C8 D np nt w' (s.set a i v).1->K (wd (s.set a i v).2) w'):
  I Z 233 #[v7 (wh ⟨D.st,0,wj⟩),v6 wg a,v6 wg i,V v.1 v.2] w K:=by
 unfold St.set at hk;refine F233.sh (Ar λr w1 hn=>A3 hn.at_ rfl ?_);have h1:=h.keep0 hn.fr;by_cases hc:DL v.1 v.2=0
 ·refine V9 _ _ hc λw2 hf2=>?_;have h2:=h1.keep0 hf2;simp only[zv];refine R0 h2 ?_;by_cases z:0<=i/\i<s.fields a
  ·have e1:Dp v=wk:=by simpa[Dp] using hc
   rw[vy ⟨e1,z⟩]at hk;simp only[zv,ur z];refine Ad (v:=v7 (wh ⟨D.A.cel,0,wj⟩)) h2.blk rfl ?_;refine N9 h2.cel (UQ hc) λw3 hf3 h3=>?_;have h3:=h2.setCel hf3.mv h3;have e:(ER v)=Li v.1 v.2:=rfl;exact hk w3 ((hn.fr.trans hf2).w.trans hf3.mv.ofA) h3
  ·rw[vx (λx=>z x.2)]at hk;simp only[zv,p9 z];exact hk w2 (hn.fr.trans hf2).w h2
 ·refine Xb _ _ hc λw2 hf2=>?_;rw[vx (λx=>hc (by simpa[Dp] using x.1))]at hk;simp only[zv];exact hk w2 (hn.fr.trans hf2).w (h1.keep0 hf2)
def VH{a:Int}(h:C8 D np nt w s)(hk:∀w',Fr D.S w w'->C8 D np nt w' { s with c:=(s.c.give a).1 }->K (wd (s.c.give a).2) w'):
  I Z 327 #[v7 (wh ⟨D.st,0,wj⟩),v6 wg a] w K:=by refine F327.sh (Ht h ?_);simp only[zv];refine Ad (v:=v7 (wh ⟨D.A.cel,0,wj⟩)) h.blk rfl (WQ h.cel λw1 hf1 h1=>?_);exact hk w1 hf1.ofA (h.setCel hf1 h1)
def MK(h:C8 D np nt w s)(hk:∀v w',Fr [] w w'->BY w v->BQ w' v 3 1 (BX s.objects)->K v w'):
  I Z 92 #[v7 (wh ⟨D.st,0,wj⟩)] w K:=by refine F92.sh (Ht h ?_);simp only[zv];refine F92.k3.to ?_;simp only[zv];exact Ad (v:=v7 (wh ⟨D.A.cel,0,wj⟩)) h.blk rfl (WJ h.cel h.tz hk)
def I1(h:C8 D np nt w s):s.objects.length<=2048:=by unfold St.objects HB;rw[j9];refine va (yI _ _) ?_;rw[zP];have:=h.cel.mm.le;unfold Ce.n;omega
def Vx{W:wn}{v:wm}{l:List Int}{p:Int}(hl:l.length<=2048)(hk:∀v' w',Fr [] W w'->BY W v'->BQ w' v' 3 1 (BX (l.filter λa=>decide (Cq a=p)))->K v' w'):
  ∀(d i:Nat) (w:wn) (v':wm),i+d=l.length->Fr [] W w->BQ w v 3 1 (BX l)->BY W v'->BQ w v' 3 1 (BX ((l.take i).filter λa=>decide (Cq a=p)))->(∀g∈BN v,g∉BN v')->
   F325.l3 K (v6 wg p) v' v (v6 wg (l.length:Int)) (v6 wg (i:Int)) w:=by
 intro d;induction d with
 | zero=>
  intro i w v' hi hf hv hn' hv' hd;have e:i=l.length:=by omega
  subst e;refine F325.l3.to ?_;simp only[zv,show ¬((l.length:Int)<(l.length:Int)) by omega];rw[j4]at hv';exact F325.k8.to (hk v' w hf hn' hv')
 | succ d ih=>
  intro i w v' hi hf hv hn' hv' hd;have hlt:i<l.length:=by omega
  refine F325.l3.to ?_;simp only[zv,show (i:Int)<(l.length:Int) by omega];refine F325.k4.to (AV hv.rd hlt λg o cs e fz hg hc=>Ad hg hc (G6 ?_));have e1:l.take (i+1)=l.take i++[l[i]]:=by rw[zR,xS hlt];rfl
  have hl2:((l.take i).filter λa=>decide (Cq a=p)).length<=2048:=va (yI _ _) (by rw[i8];omega);by_cases z:Cq l[i]=p
  ·simp only[zv,vw,z];refine B3 hv' (by omega) λv1 w1 ho1 hf1 hg1=>?_;refine F325.k7.to ?_;simp only[A7];rw[BO (n:=(i:Int)+1) (by omega)];refine ih (i+1) w1 v1 (by omega) (hf.then hf1 λz hz=>ws (hn'.blk z hz)) (hv.keep' hf1 hd) (M2 hn' hf.size hg1) ?_ λg hg hg'=>?_
   ·rw[e1,zA];simpa[z] using ho1
   ·rcases hg1 g hg' with c|c
    ·exact hd g hg c
    ·have:=hv.lt (Cb.1 hg);omega
  ·simp only[zv,z];refine F325.k7.to ?_;simp only[A7];rw[BO (n:=(i:Int)+1) (by omega)];refine ih (i+1) w v' (by omega) hf hv hn' ?_ hd;rw[e1,zA];simpa[z] using hv'
def WR{p:Int}(h:C8 D np nt w s)(hk:∀v w',Fr [] w w'->BY w v->BQ w' v 3 1 (BX (s.inP p))->K v w'):
  I Z 325 #[v7 (wh ⟨D.st,0,wj⟩),v6 wg p] w K:=by refine F325.sh (MK h λv w1 hf1 hn1 hv1=>?_);have hl:=I1 h;refine AH hv1.rd ?_;rw[Ca];refine Vx (W:=w) (v:=v) hl (λv' w' hf hn hv=>hk v' w' hf hn hv) s.objects.length 0 w1 _ (by omega) hf1 hv1 (BY.nil _) (BQ.nil _ _ _) (by simp[BN,wm.ownBlock])
def TE{p:Int}(h:C8 D np nt w s)(hk:∀w',Fr [] w w'->K (v6 wg (Dx s.own p).1) w'):
  I Z 339 #[v7 (wh ⟨D.st,0,wj⟩),v6 wg p] w K:=by refine F339.sh (Ht h ?_);simp only[zv];refine F339.k3.to ?_;simp only[zv];refine Ad (v:=v7 (wh ⟨D.ob,0,wj⟩)) h.blk rfl (NH h.own λw1 hf1=>?_);simp only[zv];exact hk w1 hf1
def Xs{p:Int}(h:C8 D np nt w s)(hk:∀b w',Fr D.S w w'->C8 D np nt w' (s.trim p)->K (wd b) w'):
  I Z 328 #[v7 (wh ⟨D.st,0,wj⟩),v6 wg p] w K:=by
 refine F328.sh (Ht h ?_);unfold St.trim at hk;simp only[zv];refine TE h λw1 hf1=>?_;have h1:=h.keep0 hf1;by_cases z:(Dx s.own p).1<0
 ·rw[vy z]at hk;simp only[zv,z];refine Ad (v:=v7 (wh ⟨D.A.cel,0,wj⟩)) h1.blk rfl (Px h1.cel λw2 hf2 h2=>?_);exact hk _ w2 (hf1.w.trans hf2.ofA) (h1.setCel hf2 h2)
 ·rw[vx z]at hk;simp only[zv,z];exact hk _ w1 hf1.w h1
end
end
end Go.Proofs.QV
