/- Part 3 of what the law needs: own lemmas, in the order in which they build. -/
import Derived.Maps.RangeRun
import Derived.Shelf.SortM.Plain
import Derived.Sort.OwnSortedInts
import Derived.Shelf.SortM.SortNone
import Derived.Test.YtcakfaakbpdklaaGreatDoorProg
import Derived.Test.YtcakfaakbpdklaaGreatDoorTopLike02
set_option linter.defProp false
set_option linter.unusedSimpArgs false
set_option linter.unusedVariables false
set_option maxRecDepth 100000
namespace Go.Proofs.QV
open Go Go.Proofs Go.Proofs.Tryz
open Go.Proofs.Tryz renaming prog->vp
open Go.IntKind renaming i64->vy
open Go.Value renaming int->vq,pointer->vr,tuple->vu,bool->vw
open Option renaming some->vz
open Option renaming none->v6
open Bool renaming true->v7
open Bool renaming false->v8
open Go renaming Value->wc
open Go renaming World->wd
open Go renaming Program->we
open Or renaming inr->wh
open Go.Obj renaming cells->wj
section
open Go.RowKit
structure Df(w:wd)(b:Nat)(kv:wc)(ks:List Int):Prop where
 blk:w.heap[b]?=vz (wj #[vw v7,kv] 292 (0,0))
 own:BO w kv 3 1 (Ca ks)
 le:ks.length<=64
def Df.keep{S:List Nat}{w w':wd}{b:Nat}{kv:wc}{ks:List Int}(h:Df w b kv ks)(hf:Fr S w w')(hb:b∉S)(hS:∀g∈BM kv,g∉S):Df w' b kv ks:=⟨hf.at_ h.blk hb,h.own.keep' hf hS,h.le⟩
def Df.keep0{w w':wd}{b:Nat}{kv:wc}{ks:List Int}(h:Df w b kv ks)(hf:Fr [] w w'):Df w' b kv ks:=h.keep hf (by simp) (by simp)
section
variable{K:VK}{w:wd}{b:Nat}{kv:wc}{ks:List Int}
def Df.nb(h:Df w b kv ks):b∉BM kv:=h.own.nb h.blk (by decide)
def FO{p:Int}(h:Df w b kv ks)(hk:K (vq vy (BS ks p)) w):I vp 283 #[vr (vz ⟨b,0,v6⟩),vq vy p] w K:=by
 refine F283.sh ⟨_,Cj _ _ _ Tryz.underlying234,?_⟩;simp only[zv];unfold BS at hk;by_cases c1:p<0
 ·simp only[zv,c1]
  rwa [vm (by omega)]at hk
 simp only[zv,c1];refine Ac (v:=kv) h.blk rfl (AK h.own.rd ?_);rw[Cm];by_cases c2:p≥(ks.length:Int)
 ·simp only[zv,c2]
  rwa [vm (by omega)]at hk
 simp only[zv,c2];rw[vn (by omega)]at hk;obtain⟨p,rfl⟩:=xQ (show 0<=p by omega);have hp:p<ks.length:=by omega
 rw[zE,Dy hp]at hk;refine F283.k3.to ?_;simp only[zv];exact Ac (v:=kv) h.blk rfl (Bd h.own.rd hp λg o cs e fz hg hc=>Ac hg hc hk)
def GU(h:ks.length<=64){p:Int}(hp:BS ks p ≠ -1):0<=p/\p<ks.length:=by apply xF;intro hc;exact hp (DR hc)
def RB{p:Nat}(h:Df w b kv ks)(hp:p<ks.length)(hk:K (vq vy ((D7 (ks.drop (p+1))+1:Nat):Int)) w):
  ∀(d n:Nat),ks.length=p+n+d->D7 (ks.drop (p+n))+n=D7 (ks.drop (p+1))+1->F295.l7 K (vr (vz ⟨b,0,v6⟩)) (vq vy (p:Int)) (vq vy (n:Int)) w:=by
 have hle:=h.le;intro d;induction d with
 | zero=>
  intro n hn he;refine F295.l7.to ?_;simp only[AC];rw[BN (n:=(p:Int)+n) (by omega)];refine FO h ?_;rw[DR (by omega)];simp only[zv,show ¬((-1:Int)=6) by decide];rw[xV (by omega)]at he;simp only[D7]at he;refine F295.k9.to ?_;rw[<-he,uy]at hk;exact hk
 | succ d ih=>
  intro n hn he;refine F295.l7.to ?_;simp only[AC];rw[BN (n:=(p:Int)+n) (by omega),show (p:Int)+n=((p+n:Nat):Int) by omega];refine FO h ?_;have hpn:p+n<ks.length:=by omega
  rw[F2 hpn];rw[xG hpn]at he;have e:D7 (ks[p+n]::ks.drop (p+n+1))=if ks[p+n]=6 then D7 (ks.drop (p+n+1))+1 else 0:=rfl;rw[e]at he;by_cases c:ks[p+n]=6
  ·simp only[zv,vl,c];rw[vn c]at he;refine F295.k8.to ?_;simp only[AC];rw[BN (n:=(n:Int)+1) (by omega),show (n:Int)+1=((n+1:Nat):Int) by omega];exact ih (n+1) (by omega) (by rw[show p+(n+1)=p+n+1 by omega];omega)
  ·simp only[zv,c];rw[vm c,uy]at he;refine F295.k9.to ?_;rw[<-he]at hk;exact hk
def KT{p:Int}(h:Df w b kv ks)(hk:K (vq vy (Cu ks p:Nat)) w):I vp 295 #[vr (vz ⟨b,0,v6⟩),vq vy p] w K:=by
 refine F295.sh (FO h (DV ?_));unfold Cu at hk;by_cases c:BT (BS ks p)>0
 ·simp only[zv,c]
  rwa [vn c]at hk
 simp only[zv,c];rw[vm c]at hk;refine F295.k4.to ?_;by_cases d:BS ks p=5
 ·simp only[zv,vl,vo,d,zQ];rw[vn d]at hk;have hp:=GU h.le (p:=p) (by rw[d];decide);obtain⟨p,rfl⟩:=xQ hp.1;rw[zE]at hk;refine F295.k6.to (RB (p:=p) h (by omega) hk (ks.length-p-1) 1 (by omega) rfl)
 ·simp only[zv,vo,d,zR]
  rwa [vm d]at hk
def Pv(h:Df w b kv ks):∀(p:Nat),(∀q,q=Ek ks p->K (vq vy (if Cu ks q=0 then -1 else q)) w)->F285.l1 K (vr (vz ⟨b,0,v6⟩)) (vq vy (p:Int)) w:=by
 have hle:=h.le;have tail:∀q:Int,K (vq vy (if Cu ks q=0 then -1 else q)) w->F285.k3 K (vr (vz ⟨b,0,v6⟩)) (vq vy q) w:=λq hq=>by
  refine F285.k3.to (KT h ?_);by_cases c:Cu ks q=0
  ·rw[vn c]at hq;simp only[zv,show (((Cu ks q:Nat):Int)=0)=True by simp[c]];exact hq
  ·rw[vm c]at hq;simp only[zv,show (((Cu ks q:Nat):Int)=0)=False by simp;exact c];exact F285.k5.to hq
 intro p;induction p with
 | zero=>
  intro hk;have e:Ek ks 0=if BS ks 0=6 then -1 else 0:=rfl;refine F285.l1.to (FO h ?_);by_cases c:BS ks 0=6
  ·simp only[zv,vl,show BS ks ((0:Nat):Int)=6 from c];rw[vn c]at e;refine F285.k2.to ?_;simp only[AO];rw[BN (n:=((0:Nat):Int)-1) (by omega),show ((0:Nat):Int)-1 = -1 from rfl];refine F285.l1.to (FO h ?_);rw[DR (by omega)];simp only[zv,show ¬((-1:Int)=6) by decide];exact tail _ (hk _ e.symm)
  ·simp only[zv,show ¬BS ks ((0:Nat):Int)=6 from c];rw[vm c]at e;exact tail _ (hk _ e.symm)
 | succ p ih=>
  intro hk;have e:Ek ks (p+1)=if BS ks ((p+1:Nat):Int)=6 then Ek ks p else ((p+1:Nat):Int):=rfl;refine F285.l1.to (FO h ?_);by_cases c:BS ks ((p+1:Nat):Int)=6
  ·simp only[zv,vl,c];rw[vn c]at e;have hp:=GU h.le (p:=((p+1:Nat):Int)) (by rw[c];decide);refine F285.k2.to ?_;simp only[AO];rw[BN (n:=((p+1:Nat):Int)-1) (by omega),show ((p+1:Nat):Int)-1=(p:Int) by omega];rw[e]at hk;exact ih hk
  ·simp only[zv,c];rw[vm c]at e;exact tail _ (hk _ e.symm)
def TY{p:Int}(h:Df w b kv ks)(hk:K (vq vy (Fj ks p)) w):I vp 285 #[vr (vz ⟨b,0,v6⟩),vq vy p] w K:=by
 refine F285.sh ?_;unfold Fj at hk;by_cases c:0<=p
 ·obtain⟨p,rfl⟩:=xQ c;simp only[c,vj,zE]at hk;exact Pv h p λq hq=>by subst hq;exact hk
 ·simp only[c,vg]at hk;have:Cu ks p=0:=by unfold Cu;rw[DR (by omega),vm (by decide),vm (by decide)]
  rw[vn this]at hk;refine F285.l1.to (FO h ?_);rw[DR (by omega)];simp only[zv,show ¬((-1:Int)=6) by decide];refine F285.k3.to (KT h ?_);simp only[zv,this,show (((0:Nat):Int)=0)=True by simp];exact hk
def IU(hle:ks.length<=64)(p:Int):Cu ks p=0∨(0<=p/\p.toNat+Cu ks p<=ks.length):=by
 by_cases c:BT (BS ks p)>0
 ·have hp:=GU hle (p:=p) (by intro e;rw[e]at c;exact absurd c (by decide));right;unfold Cu;rw[vn c];omega
 ·by_cases d:BS ks p=5
  ·have hp:=GU hle (p:=p) (by rw[d];decide);right;unfold Cu;rw[vm c,vn d];have:=(GL (ks.drop (p.toNat+1))).1;rw[zZ]at this;omega
  ·left;unfold Cu;rw[vm c,vm d]
def LM{p n:Nat}{k:Int}(h:p+n+1<=ks.length):(Dg ks p n k).set (p+n) k=Dg ks p (n+1) k:=by
 unfold Dg;apply zF;intro i;rw[zI,Jz (by omega),Jz (by omega)];by_cases c:p+n=i
 ·subst c;rw[vn rfl,vn (by simp;omega),vn (by omega)]
 ·rw[vm c];by_cases d:p<=i/\i<p+n
  ·rw[vn d,vn (by omega)]
  ·rw[vm d,vm (by omega)]
def LN{p:Nat}{k:Int}:Dg ks p 0 k=ks:=by unfold Dg;simp
def H6(l:List Int)(j:Nat)(n:Int):(Ca l).set j [vq vy n]=Ca (l.set j n):=by simp[Ca,u6]
def QW{W:wd}{p n:Nat}{y:wc}(hW:Df W b kv ks)(hp:p+n<=ks.length)(hk:∀w',Fr (BM kv) W w'->Df w' b kv (Dg ks p n 0)->K y w'):
  ∀(d j:Nat) (w:wd),n=j+d->Fr (BM kv) W w->Df w b kv (Dg ks p j 0)->F264.l3 K (vr (vz ⟨b,0,v6⟩)) (vq vy (p:Int)) y (vq vy (n:Int)) (vq vy (j:Int)) w:=by
 have hle:=hW.le;intro d;induction d with
 | zero=>
  intro j w hd hf hP;refine F264.l3.to ?_;simp only[zv,show ¬((j:Int)<(n:Int)) by omega];rw[show j=n by omega]at hP;exact F264.k7.to (hk w hf hP)
 | succ d ih=>
  intro j w hd hf hP;refine F264.l3.to ?_;simp only[zv,show ((j:Int)<(n:Int)) by omega];refine F264.k4.to ?_;simp only[zv];refine Ac (v:=kv) hP.blk rfl ?_;rw[BN (n:=(p:Int)+j) (by omega),show (p:Int)+j=((p+j:Nat):Int) by omega];have hl:=Dw (ks:=ks) (p:=p) (n:=j) (k:=0) (by omega);refine Bi (x:=vq vy 0) hP.own (by omega) (by rw[Cm,hl];omega) rfl (by intro u hu;simp[wc.cells]at hu;subst hu;rfl) λw1 ho1 hf1 _=>?_
  rw[zE]at ho1;have ho1:BO w1 kv 3 1 (Ca (Dg ks p (j+1) 0)):=by rw[<-LM (by omega), <-H6];exact ho1
  refine F264.k6.to ?_;simp only[AC];rw[BN (n:=(j:Int)+1) (by omega),show (j:Int)+1=((j+1:Nat):Int) by omega];exact ih (j+1) w1 (by omega) (hf.trans (hf1.mono λx hx=>hx)) ⟨hf1.at_ hP.blk hP.nb,ho1,by rw[Dw (by omega)];exact hle⟩
def Oe{p:Int}(h:Df w b kv ks)(hk:∀w',Fr (BM kv) w w'->Df w' b kv (H7 ks p)->K (vq vy (Cu ks p:Nat)) w'):I vp 264 #[vr (vz ⟨b,0,v6⟩),vq vy p] w K:=by
 refine F264.sh (KT h ?_);unfold H7 at hk;rcases IU h.le p with e|⟨hp,hl⟩
 ·rw[vn e]at hk;rw[e]at hk ⊢;refine F264.l3.to ?_;simp only[zv,show ¬((0:Int)<((0:Nat):Int)) by omega];exact F264.k7.to (hk w (Fr.refl _ _) h)
 ·by_cases e:Cu ks p=0
  ·rw[vn e]at hk;rw[e]at hk ⊢;refine F264.l3.to ?_;simp only[zv,show ¬((0:Int)<((0:Nat):Int)) by omega];exact F264.k7.to (hk w (Fr.refl _ _) h)
  ·rw[vm e]at hk;obtain⟨p,rfl⟩:=xQ hp;rw[zE]at hl hk;exact QW h hl hk _ 0 w (by rw[uy]) (Fr.refl _ _) (by rw[LN];exact h)
def Ob{a:wc}{x:List Int}{n:Int}(ha:Cq w a 1 (Ca x))(h1:∀j:Nat,x[j]?=vz n->(∀i,i<j->x[i]?≠vz n)->K (vq vy (j:Int)) w)(h2:n∉x->K (vq vy (-1)) w):I vp 125 #[a,vq vy n] w K:=by
 have hle:=ha.le;rw[Cm]at hle;refine F125.sh (AK ha ?_);rw[Cm];have key:∀(d j:Nat),x.length=j+d->(∀i,i<j->x[i]?≠vz n)->F125.l2 K a (vq vy n) (vq vy (x.length:Int)) (vq vy (j:Int)) w:=by
  intro d;induction d with
  | zero=>
   intro j hd hno;refine F125.l2.to ?_;simp only[zv,show ¬((j:Int)<(x.length:Int)) by omega];refine F125.k7.to (h2 λhm=>?_);obtain⟨i,hi,e⟩:=yS hm;exact hno i (by omega) (by rw[xO hi,e])
  | succ d ih=>
   intro j hd hno;have jx:j<x.length:=by omega
   refine F125.l2.to ?_;simp only[zv,show ((j:Int)<(x.length:Int)) by omega];refine F125.k3.to (Bd ha jx λg o cs e fz hg hc=>Ac hg hc ?_);simp only[Ap];by_cases hn:n=x[j]
   ·rw[o8 hn];simp only[Ai];exact h1 j (by rw[xO jx,hn]) hno
   ·simp only[zv,hn];refine F125.k6.to ?_;simp only[AC];rw[BN (n:=(j:Int)+1) (by omega),show (j:Int)+1=((j+1:Nat):Int) by omega];refine ih (j+1) (by omega) λi hi=>?_;by_cases e:i=j
    ·subst e;rw[xO jx];intro hc;exact hn (j9 hc).symm
    ·exact hno i (by omega)
 exact key x.length 0 (by omega) λi hi=>by omega
def HX{a:wc}{x:List Int}{n:Int}(ha:Cq w a 1 (Ca x))(h:K (vw (decide (n∈x))) w):I vp 85 #[a,vq vy n] w K:=by
 refine F85.sh (Ob ha (λj hj _=>?_) λhn=>?_)
 ·simp only[zv,show ((j:Int)≥0) by omega]
  rwa [o8 (yN hj)]at h
 ·simp only[zv,show ¬((-1:Int)≥0) by omega]
  rwa [m8 hn]at h
def SU{k:Int}(hk:BT k≠0){j:Nat}(hj:ks[j]?=vz 0)(hno:∀i,i<j->ks[i]?≠vz 0):Fw ks k=vz j:=by unfold Fw;rw[vm hk,List.findIdx?_eq_some_iff_getElem];obtain⟨h1,h2⟩:=xI.1 hj;refine⟨h1,by simpa using h2,λi hi=>?_⟩;have:=hno i hi;rw[xO (by omega)]at this;simpa using this
def MX{k:Int}(h:BT k=0∨0∉ks):Fw ks k=v6:=by
 unfold Fw;by_cases c:BT k=0
 ·rw[vn c]
 ·rw[vm c,List.findIdx?_eq_none_iff];rcases h with h|h
  ·exact absurd h c
  ·intro x hx;simp only[xU];exact λe=>h (e ▸ hx)
def Uk{k:Int}(h:Df w b kv ks)(h0:Fw ks k=v6->K (vu #[vq vy 0,vw v8]) w)(h1:∀p w',Fw ks k=vz p->p<ks.length->Fr (BM kv) w w'->Df w' b kv (ks.set p k)->K (vu #[vq vy (p:Int),vw v7]) w'):
  I vp 252 #[vr (vz ⟨b,0,v6⟩),vq vy k] w K:=by
 refine F252.sh ⟨_,Cj _ _ _ Tryz.underlying234,?_⟩;simp only[zv];refine DV ?_;by_cases c:BT k=0
 ·simp only[zv,vl,c];exact h0 (MX (.inl c))
 simp only[zv,c];refine F252.k3.to ?_;simp only[zv];refine Ac (v:=kv) h.blk rfl (Ob h.own.rd (λj hj hno=>?_) λhn=>?_)
 ·have hjl:=(xI.1 hj).1;simp only[zv,show ¬((j:Int)<0) by omega];refine F252.k6.to ?_;simp only[zv];refine Ac (v:=kv) h.blk rfl ?_;refine Bi (x:=vq vy k) h.own (by omega) (by rw[Cm];omega) rfl (by intro u hu;simp[wc.cells]at hu;subst hu;rfl) λw1 ho1 hf1 _=>?_;rw[zE]at ho1;exact h1 j w1 (SU c hj hno) hjl hf1 ⟨hf1.at_ h.blk h.nb,by rw[<-H6];exact ho1,by simpa using h.le⟩
 ·simp only[zv,show ((-1:Int)<0) by omega];exact h0 (MX (wh hn))
end
structure DL(w:wd)(lr:Nat)(st:LoopState)(pe:Option Code)(n:Nat)(ps:Array Tmp)(aa bd:Code)(env:C1):Prop where
 at_:∃r,w.heap[lr]?=vz (.loop r)/\r.state=st/\r.pending=pe/\r.tmps.size=n/\r.params=ps/\r.assign=aa/\r.body=bd/\∀t v,GC env t=vz v->r.tmps[t]?=vz v
section
variable{w:wd}{lr:Nat}{st:LoopState}{pe:Option Code}{n:Nat}{ps:Array Tmp}{aa bd:Code}{env:C1}
def DL.keep{S:List Nat}{w':wd}(h:DL w lr st pe n ps aa bd env)(hf:Fr S w w')(hS:lr∉S):DL w' lr st pe n ps aa bd env:=by obtain⟨r,h1,h2⟩:=h.at_;exact⟨r,hf.at_ h1 hS,h2⟩
def CY{a b:Nat}{o o':Obj}(h:w.heap[a]?=vz o)(h':w.heap[b]?=vz o')(hne:o≠o'):a≠b:=λe=>by
 subst e;rw[h]at h';exact hne (j9 h')
def DL.off{b:Nat}{o:Obj}(h:DL w lr st pe n ps aa bd env)(hb:w.heap[b]?=vz o)(hne:∀r,o ≠ .loop r):b≠lr:=by obtain⟨r,h1,_⟩:=h.at_;exact CY hb h1 (hne r)
def DL.offS{v:wc}{e:TypeId}{sz:Nat}{xs:List (List wc)}(h:DL w lr st pe n ps aa bd env)(ho:BO w v e sz xs):lr∉BM v:=by obtain⟨r,h1,_⟩:=h.at_;exact ho.no h1 (by simp)
def DL.begin_{F:wd->Prop}(h:DL w lr .ready pe n ps aa bd env)(hk:∀w',Fr [lr] w w'->DL w' lr .busy pe n ps aa bd env->F w'):B1 lr w F:=by obtain⟨r,h1,h2,h3,h4⟩:=h.at_;have hu:=J2 (o := .loop { r with state := .busy }) h1;exact⟨r,h1,h2,hk _ hu.fr ⟨_,hu.at_,rfl,h3,h4⟩⟩
def DL.end_{K:VK}{pe':Option Code}{b:Bool}{st':LoopState}(h:DL w lr st pe n ps aa bd env)(hk:∀w',Fr [lr] w w'->DL w' lr st' pe' n ps aa bd env->K (vw b) w'):Bx lr pe' b st' w K:=by obtain⟨r,h1,h2,h3,h4⟩:=h.at_;have hu:=J2 (o := .loop { r with state:=st',pending:=pe' }) h1;exact⟨r,h1,hk _ hu.fr ⟨_,hu.at_,rfl,rfl,h4⟩⟩
def JG{P:we}{f:Nat}{first captured:Array wc}{K:Nat->Option Code->wd->Prop}(hb:DX P f=v7)(h:∀lr D w1,Fr [] w w1->w.heap.size<=lr->w.heap.size<=D->DL w1 lr .ready v6 n ps aa bd env->w1.heap[D]?=vz (.deferred (vz []))->
   I P f (first.toList++([wc.func (.yield lr) #[] #[]]++captured.toList)).toArray w1 λ_ w2=>∃rec,w2.heap[lr]?=vz (.loop rec)/\rec.state ≠ .busy/\K D rec.pending (w2.putObj lr (.loop { rec with state := .exhausted }))):
  Bn P n (.func (.func f) first captured) ps aa bd env w K:=by
 simp only[Bn,hb,vf];intro fn tmps hsz henv;have hw3:=Dz.mk' w (.deferred (vz []));have hw4:=Dz.mk' (w.alloc (.deferred (vz []))) (.loop { state := .ready,pending:=v6,fn:=fn,tmps:=tmps,params:=ps,assign:=aa,body:=bd,defers:=w.heap.size });have z3:=hw3.sz;have hD4:=hw4.fr.at_ hw3.at_ (by simp);have hl4:=hw4.at_;rw[z3]at hl4
 exact h (w.heap.size+1) w.heap.size _ (hw3.fr.trans hw4.fr) (by omega) (va _) ⟨_,hl4,rfl,rfl,hsz,rfl,rfl,rfl,henv⟩ hD4
def DL.exit_(h:DL w lr st pe n ps aa bd env)(hst:st ≠ .busy):∃rec,w.heap[lr]?=vz (.loop rec)/\rec.state ≠ .busy/\rec.pending=pe/\Fr [lr] w (w.putObj lr (.loop { rec with state := .exhausted })):=by obtain⟨r,h1,h2,h3,h4⟩:=h.at_;have hu:=J2 (o := .loop { r with state := .exhausted }) h1;exact⟨r,h1,by rw[h2];exact hst,h3,hu.fr⟩
def JY{D:Nat}{F:wd->Prop}(h:w.heap[D]?=vz (.deferred (vz [])))(hk:∀w',Fr [D] w w'->F w'):Bl (vq vy (D:Int)) w F:=by have hu:=J2 (o := .deferred v6) h;refine⟨by rw[zE];exact h,?_⟩;rw[zE];exact hk _ hu.fr
end
section
variable{K:VK}{w:wd}{b:Nat}{kv:wc}{ks:List Int}
def R7{lr:Nat}{J:Nat->Nat->wd->Prop}{X:wd->Prop}(hle:ks.length<=64)(hP:∀p n w,J p n w->Df w b kv ks)(h0:∀p n w,p<ks.length->J p n w->BS ks (p:Int)=0->J (p+1) (n+1) w)(h1:∀p w,p<=ks.length->J p 0 w->BS ks (p:Int)≠0->J (p+1) 0 w)(h2:∀p n w (K':VK),p<=ks.length->0<n->J p n w->BS ks (p:Int)≠0->(∀w',J (p+1) 0 w'->K' (vw v7) w')->(∀w',X w'->K' (vw v8) w')->Bp vp lr #[vq vy ((p:Int)-n),vq vy (n:Int)] w K')(hE:∀w',J (ks.length+1) 0 w'->K (vu #[]) w')(hX:∀w',X w'->K (vu #[]) w'):
  ∀(d p n:Nat) (w:wd),ks.length+1=p+d->n<=p->J p n w->(p=ks.length+1->n=0)->F242.l3 K (vr (vz ⟨b,0,v6⟩)) (.func (.yield lr) #[] #[]) (vq vy (n:Int)) (vq vy ((ks.length+1:Nat):Int)) (vq vy (p:Int)) w:=by
 intro d;induction d with
 | zero=>
  intro p n w hd hnp hJ hz;refine F242.l3.to ?_;simp only[zv,show ¬((p:Int)<((ks.length+1:Nat):Int)) by omega];have e:p=ks.length+1:=by omega
  have en:=hz e;subst e;subst en;exact hE w hJ
 | succ d ih=>
  intro p n w hd hnp hJ hz;have next:∀(n':Nat) w',n'<=p+1->J (p+1) n' w'->(p=ks.length->n'=0)->F242.k9 K (vr (vz ⟨b,0,v6⟩)) (.func (.yield lr) #[] #[]) (vq vy (n':Int)) (vq vy ((ks.length+1:Nat):Int)) (vq vy (p:Int)) w':=λn' w' hn' hJ' hz'=>by
   refine F242.k9.to ?_;simp only[AC];rw[BN (n:=(p:Int)+1) (by omega),show (p:Int)+1=((p+1:Nat):Int) by omega];exact ih (p+1) n' w' (by omega) hn' hJ' λe=>hz' (by omega)
  refine F242.l3.to ?_;simp only[zv,show ((p:Int)<((ks.length+1:Nat):Int)) by omega];refine F242.k4.to (FO (hP p n w hJ) ?_);by_cases c:BS ks (p:Int)=0
  ·have hp:=GU hle (p:=(p:Int)) (by rw[c];decide);simp only[zv,vl,c];rw[BN (n:=(n:Int)+1) (by omega),show (n:Int)+1=((n+1:Nat):Int) by omega];exact next (n+1) w (by omega) (h0 p n w (by omega) hJ c) λe=>by omega
  ·simp only[zv,c];refine F242.k7.to ?_;by_cases c0:n=0
   ·subst c0;simp only[zv,show ¬(((0:Nat):Int)>0) by omega];exact F242.k8.to (next 0 w (by omega) (h1 p w (by omega) hJ c) λ_=>rfl)
   ·simp only[zv,show ((n:Int)>0) by omega];rw[BN (n:=(p:Int)-n) (by omega)];refine h2 p n w _ (by omega) (by omega) hJ c (λw' hJ'=>?_) λw' hX'=>?_
    ·simp only[zv];exact F242.k8.to (next 0 w' (by omega) hJ' λ_=>rfl)
    ·simp only[zv];exact hX w' hX'
def R6{lr:Nat}{J:Nat->Nat->wd->Prop}{X:wd->Prop}(hle:ks.length<=64)(hP:∀p n w,J p n w->Df w b kv ks)(h0:∀p n w,p<ks.length->J p n w->BS ks (p:Int)=0->J (p+1) (n+1) w)(h1:∀p w,p<=ks.length->J p 0 w->BS ks (p:Int)≠0->J (p+1) 0 w)(h2:∀p n w (K':VK),p<=ks.length->0<n->J p n w->BS ks (p:Int)≠0->(∀w',J (p+1) 0 w'->K' (vw v7) w')->(∀w',X w'->K' (vw v8) w')->Bp vp lr #[vq vy ((p:Int)-n),vq vy (n:Int)] w K')(hE:∀w',J (ks.length+1) 0 w'->K (vu #[]) w')(hX:∀w',X w'->K (vu #[]) w')(hJ:J 0 0 w):
  I vp 242 #[vr (vz ⟨b,0,v6⟩),.func (.yield lr) #[] #[]] w K:=by have hp:=hP 0 0 w hJ;refine F242.sh ⟨_,Cj _ _ _ Tryz.underlying234,?_⟩;simp only[Ae];refine F242.k1.to ?_;simp only[zv];refine Ac (v:=kv) hp.blk rfl (AK hp.own.rd ?_);rw[Cm];simp only[AC];rw[BN (n:=(ks.length:Int)+1) (by omega),show (ks.length:Int)+1=((ks.length+1:Nat):Int) by omega];exact R7 hle hP h0 h1 h2 hE hX (ks.length+1) 0 0 w (by omega) (va _) hJ λe=>by omega
def J8:DX vp 242=v7:=by kernel_rfl
structure CQ(W w:wd)(b:Nat)(kv:wc)(ks:List Int)(lr D x3:Nat)(p n:Nat):Prop where
 fr:Fr [] W w
 pg:Df w b kv ks
 rec_:DL w lr .ready v6 14 #[8,9] F241.as3 F241.bd3 [(7,(.func (.func 242) #[vr (vz ⟨b,0,v6⟩)] #[])),(6,vr (vz ⟨b,0,v6⟩)),(3,vr (vz ⟨x3,0,v6⟩)),(2,(vq vy 0)),(0,vr (vz ⟨b,0,v6⟩))]
 df:w.heap[D]?=vz (.deferred (vz []))
 box:∃acc:Nat,w.heap[x3]?=vz (wj #[vq vy (acc:Int)] 3 (0,0))/\acc+n=(ks.take p).countP λk=>decide (k=0)
 lo:W.heap.size<=lr/\W.heap.size<=D/\W.heap.size<=x3
def QL{p:Nat}:(ks.take p).countP (λk=>decide (k=0))<=ks.length:=by have h1:=List.countP_le_length (p:=λk:Int=>decide (k=0)) (l:=ks.take p);rw[b7]at h1;omega
def TU(h:Df w b kv ks)(hk:∀w',Fr [] w w'->K (vq vy (D4 ks)) w'):I vp 241 #[vr (vz ⟨b,0,v6⟩)] w K:=by
 have hle:=h.le;refine F241.sh (Ay λx3 w1 hn1=>AM hn1.at_ rfl rfl (by simp) λw2 hu2=>?_);have i1:=hn1.is;have z1:=hn1.sz;have z2:=hu2.sz;have f2:Fr [] w w2:=hn1.fr.then hu2.fr λz hz=>wh (by simp only[yZ]at hz;omega);refine JG J8 λlr D w3 hf3 hlr hD hR hdf=>?_
 refine R6 (J:=λp n w'=>CQ w w' b kv ks lr D x3 p n) (X:=λ_=>False) hle (λp n w' hJ=>hJ.pg) (λp n w' hp hJ hz=>?_) (λp w' hp hJ hz=>?_) (λp n w' K' hp hn hJ hz a _=>?_) (λw' hJ=>?_) (λ_ e=>e.elim) ?_
 ·obtain⟨acc,a1,a2⟩:=hJ.box;rw[F2 hp]at hz;refine⟨hJ.fr,hJ.pg,hJ.rec_,hJ.df,⟨acc,a1,?_⟩,hJ.lo⟩;rw[wT hp,List.countP_append];simp[hz];omega
 ·obtain⟨acc,a1,a2⟩:=hJ.box;refine⟨hJ.fr,hJ.pg,hJ.rec_,hJ.df,⟨acc,a1,?_⟩,hJ.lo⟩;by_cases e:p<ks.length
  ·rw[F2 e]at hz;rw[wT e,List.countP_append, <-a2];simp[hz]
  ·rw[xX (by omega)]at a2 ⊢;exact a2
 ·obtain⟨acc,a1,a2⟩:=hJ.box;obtain⟨r,r1,r2,r3,r4,r5,r6,r7,r8⟩:=hJ.rec_.at_;have hcl:=QL (ks:=ks) (p:=p);refine R241_3.yield (y3:=vr (vz ⟨x3,0,v6⟩)) r1 r4 r5 r6 r7 (λt v hv=>?_) (hJ.rec_.begin_ λw4 hf4 hR4=>?_)
  ·refine QS (env:=[(3,vr (vz ⟨x3,0,v6⟩))]) (λx hx=>?_) t v hv;simp only[un,b8,vi]at hx;subst hx;exact r8 3 _ rfl
  ·have nx:=hJ.rec_.off a1 (by simp);have nb:=hJ.rec_.off hJ.pg.blk (by simp);have nk:=hJ.rec_.offS hJ.pg.own;have nd:=hJ.rec_.off hJ.df (by simp);have a14:=hf4.at_ a1 (by simpa using nx);have p4:=hJ.pg.keep hf4 (by simpa using nb) λg hg e=>by simp only[yZ]at e;subst e;exact nk hg
   have d4:=hJ.df |> λq=>hf4.at_ q (by simpa using nd)
   refine Ac (v:=vq vy (acc:Int)) a14 rfl ?_;simp only[AC];rw[BN (n:=(acc:Int)+n) (by omega),show (acc:Int)+n=((acc+n:Nat):Int) by omega];refine AM a14 rfl rfl (by simp) λw5 hu5=>?_;have s5:=hJ.fr.size;have f5:Fr [] w w5:=(hJ.fr.then hf4 λz hz=>wh (by simp only[yZ]at hz;have:=hJ.lo;omega)).then hu5.fr λz hz=>wh (by simp only[yZ]at hz;have:=hJ.lo;omega);have p5:Df w5 b kv ks:=h.keep0 f5
   have R5:=hR4.keep hu5.fr (by simp;exact λe=>nx e.symm);have d5:=hu5.fr.at_ d4 (by simp;exact λe=>CY d4 a14 (by simp) e);refine R5.end_ λw6 hf6 hR6=>a w6 ?_;have f6:Fr [] w w6:=f5.then hf6 λz hz=>wh (by simp only[yZ]at hz;have:=hJ.lo;omega);refine⟨f6,h.keep0 f6,hR6,hf6.at_ d5 (by simpa using nd),⟨acc+n,hf6.at_ hu5.at_ (by simpa using nx),?_⟩,hJ.lo⟩;rw[uv];by_cases e:p<ks.length
   ·rw[F2 e]at hz;rw[wT e,List.countP_append, <-a2];simp[hz]
   ·rw[xX (by omega)]at a2 ⊢;exact a2
 ·obtain⟨acc,a1,a2⟩:=hJ.box;obtain⟨rec,e1,e2,e3,hf4⟩:=hJ.rec_.exit_ (by simp);refine⟨rec,e1,e2,?_⟩;generalize w'.putObj lr (.loop { rec with state := .exhausted })=w4 at *;rw[e3];have nx:=hJ.rec_.off a1 (by simp);have nd:=hJ.rec_.off hJ.df (by simp);show F241.k5 K (vr (vz ⟨x3,0,v6⟩)) (vq vy (D:Int)) w4;refine F241.k5.to (Ac (v:=vq vy (acc:Int)) (hf4.at_ a1 (by simpa using nx)) rfl ?_)
  refine JY (hf4.at_ hJ.df (by simpa using nd)) λw5 hf5=>?_;rw[xX (by omega),uv]at a2;rw[a2];exact hk w5 ((hJ.fr.then hf4 λz hz=>wh (by simp only[yZ]at hz;have:=hJ.lo;omega)).then hf5 λz hz=>wh (by simp only[yZ]at hz;have:=hJ.lo;omega))
 ·have f3:=f2.trans hf3;have s2:=f2.size;exact⟨f3,h.keep0 f3,hR,hdf,⟨0,hf3.at_ hu2.at_ (by simp),by simp⟩,by omega⟩
structure SQ(W w:wd)(b:Nat)(kv:wc)(ks:List Int)(N:Int)(lr D x2 x3 x4 x5:Nat)(st:LoopState)(pe:Option Code)(y4 y5:wc):Prop where
 fr:Fr (BM kv) W w
 pg:Df w b kv ks
 rec_:DL w lr st pe 38 #[13,14] F176.as4 F176.bd4 [(12,(.func (.func 242) #[vr (vz ⟨b,0,v6⟩)] #[])),(11,vr (vz ⟨b,0,v6⟩)),(2,vr (vz ⟨x2,0,v6⟩)),(3,vr (vz ⟨x3,0,v6⟩)),(4,vr (vz ⟨x4,0,v6⟩)),(5,vr (vz ⟨x5,0,v6⟩))]
 df:w.heap[D]?=vz (.deferred (vz []))
 c2:w.heap[x2]?=vz (wj #[vr (vz ⟨b,0,v6⟩)] 234 (0,0))
 c3:w.heap[x3]?=vz (wj #[vq vy N] 3 (0,0))
 c4:w.heap[x4]?=vz (wj #[y4] 3 (0,0))
 c5:w.heap[x5]?=vz (wj #[y5] 4 (0,0))
 lo:W.heap.size<=lr/\W.heap.size<=D/\W.heap.size<=x2/\W.heap.size<=x3/\W.heap.size<=x4/\W.heap.size<=x5/\x3≠x4/\(∀g∈BM kv,g<W.heap.size)/\b<W.heap.size
section
variable{W:wd}{N:Int}{lr D x2 x3 x4 x5:Nat}{st:LoopState}{pe:Option Code}{y4 y5:wc}
def SQ.list{w':wd}{ks':List Int}(h:SQ W w b kv ks N lr D x2 x3 x4 x5 st pe y4 y5)(hf:Fr (BM kv) w w')(hp:Df w' b kv ks'):SQ W w' b kv ks' N lr D x2 x3 x4 x5 st pe y4 y5:=by
 have no:∀ {z:Nat},W.heap.size<=z->z∉BM kv:=λhz hg=>by have:=h.lo.2.2.2.2.2.2.2.1 _ hg;omega
 have l:=h.lo;exact⟨h.fr.trans hf,hp,h.rec_.keep hf (no l.1),hf.at_ h.df (no l.2.1),hf.at_ h.c2 (no l.2.2.1),hf.at_ h.c3 (no l.2.2.2.1),hf.at_ h.c4 (no l.2.2.2.2.1),hf.at_ h.c5 (no l.2.2.2.2.2.1),h.lo⟩
def SQ.recd{w':wd}{st':LoopState}{pe':Option Code}(h:SQ W w b kv ks N lr D x2 x3 x4 x5 st pe y4 y5)(hf:Fr [lr] w w')(hr:DL w' lr st' pe' 38 #[13,14] F176.as4 F176.bd4 [(12,(.func (.func 242) #[vr (vz ⟨b,0,v6⟩)] #[])),(11,vr (vz ⟨b,0,v6⟩)),(2,vr (vz ⟨x2,0,v6⟩)),(3,vr (vz ⟨x3,0,v6⟩)),(4,vr (vz ⟨x4,0,v6⟩)),(5,vr (vz ⟨x5,0,v6⟩))]):
  SQ W w' b kv ks N lr D x2 x3 x4 x5 st' pe' y4 y5:=by
 have l:=h.lo;have k:∀ {z:Nat} {o:Obj},w.heap[z]?=vz o->(∀r,o ≠ .loop r)->w'.heap[z]?=vz o:=λhz hne=>hf.at_ hz (by simp;exact h.rec_.off hz hne)
 refine⟨h.fr.then hf λz hz=>wh (by simp only[yZ]at hz;omega),h.pg.keep hf (by simp;exact h.rec_.off h.pg.blk (by simp)) (λg hg e=>by simp only[yZ]at e;subst e;exact h.rec_.offS h.pg.own hg),hr,k h.df (by simp),k h.c2 (by simp),k h.c3 (by simp),k h.c4 (by simp),k h.c5 (by simp),l⟩
end
def Fv{n:Nat}{p run:Nat}:E2 n (ks.drop p) p run=if p<ks.length then (if BS ks (p:Int)=0 then E2 n (ks.drop (p+1)) (p+1) (run+1) else if 0<run/\n<=run then vz (p-run) else E2 n (ks.drop (p+1)) (p+1) 0) else if n<=run then vz (p-run) else v6:=by
 by_cases c:p<ks.length
 ·rw[vn c,F2 c,xG c];rfl
 ·rw[vm c,xV (by omega)];rfl
def Tv{W:wd}{N:Int}{lr D x2 x3 x4 x5 p n:Nat}{y4 y5:wc}{K':VK}{ks0:List Int}(hl:p+n<=ks0.length)(hn1:1<=n)(h:∀w',SQ W w' b kv ((Dg ks0 p n 6).set p 5) N lr D x2 x3 x4 x5 .done (vz .ret) (vq vy (p:Int)) (vw v7)->K' (vw v8) w'):
  ∀(d j:Nat) (w:wd),n=j+d->SQ W w b kv (Dg ks0 p j 6) N lr D x2 x3 x4 x5 .busy v6 y4 y5->
   R176_4.l8 lr K' (vr (vz ⟨x2,0,v6⟩)) (vr (vz ⟨x4,0,v6⟩)) (vr (vz ⟨x5,0,v6⟩)) (vq vy (p:Int)) (vq vy (n:Int)) (vq vy (j:Int)) w:=by
 intro d;induction d with
 | zero=>
  intro j w hd hQ;have e:j=n:=by omega
  subst e;have hle:=hQ.pg.le;have hpl:=Dw (ks:=ks0) (p:=p) (n:=j) (k:=6) hl;refine R176_4.l8.to ?_;simp only[zv,show ¬((j:Int)<(j:Int)) by omega];refine R176_4.k12.to (Ac (v:=vr (vz ⟨b,0,v6⟩)) hQ.c2 rfl ?_);simp only[zv];refine Ac (v:=kv) hQ.pg.blk rfl ?_;refine Bi (x:=vq vy 5) hQ.pg.own (by omega) (by rw[Cm,hpl];omega) rfl (by intro u hu;simp[wc.cells]at hu;subst hu;rfl) λw1 ho1 hf1 _=>?_;rw[zE]at ho1
  have Q1:=hQ.list (ks':=(Dg ks0 p j 6).set p 5) (hf1.mono λx hx=>hx) ⟨hf1.at_ hQ.pg.blk hQ.pg.nb,by rw[<-H6];exact ho1,by simpa using hle⟩;have l:=Q1.lo;refine AM Q1.c4 rfl rfl (by simp) λw2 hu2=>?_;have k2:∀ {z:Nat} {o:Obj},z≠x4->w1.heap[z]?=vz o->w2.heap[z]?=vz o:=λhz ho=>hu2.fr.at_ ho (by simpa using hz);have Q2:SQ W w2 b kv ((Dg ks0 p j 6).set p 5) N lr D x2 x3 x4 x5 .busy v6 (vq vy (p:Int)) y5:=
   ⟨Q1.fr.then hu2.fr λz hz=>wh (by simp only[yZ]at hz;omega),Q1.pg.keep hu2.fr (by simp;omega) (λg hg e=>by simp only[yZ]at e;have:=l.2.2.2.2.2.2.2.1 g hg;omega),Q1.rec_.keep hu2.fr (by simp;exact λe=>Q1.rec_.off Q1.c4 (by simp) e.symm),k2 (CY Q1.df Q1.c4 (by simp)) Q1.df,k2 (CY Q1.c2 Q1.c4 (by simp)) Q1.c2,k2 l.2.2.2.2.2.2.1 Q1.c3,hu2.at_,k2 (CY Q1.c5 Q1.c4 (by simp)) Q1.c5,l⟩
  refine AM Q2.c5 rfl rfl (by simp) λw3 hu3=>?_;have k3:∀ {z:Nat} {o:Obj},z≠x5->w2.heap[z]?=vz o->w3.heap[z]?=vz o:=λhz ho=>hu3.fr.at_ ho (by simpa using hz);have Q3:SQ W w3 b kv ((Dg ks0 p j 6).set p 5) N lr D x2 x3 x4 x5 .busy v6 (vq vy (p:Int)) (vw v7):=
   ⟨Q2.fr.then hu3.fr λz hz=>wh (by simp only[yZ]at hz;omega),Q2.pg.keep hu3.fr (by simp;omega) (λg hg e=>by simp only[yZ]at e;have:=l.2.2.2.2.2.2.2.1 g hg;omega),Q2.rec_.keep hu3.fr (by simp;exact λe=>Q2.rec_.off Q2.c5 (by simp) e.symm),k3 (CY Q2.df Q2.c5 (by simp)) Q2.df,k3 (CY Q2.c2 Q2.c5 (by simp)) Q2.c2,k3 (CY Q2.c3 Q2.c5 (by simp)) Q2.c3,k3 (CY Q2.c4 Q2.c5 (by simp)) Q2.c4,hu3.at_,l⟩
  exact Q3.rec_.end_ λw4 hf4 hR4=>h w4 (Q3.recd hf4 hR4)
 | succ d ih=>
  intro j w hd hQ;have hle:=hQ.pg.le;have hpl:=Dw (ks:=ks0) (p:=p) (n:=j) (k:=6) (by omega);refine R176_4.l8.to ?_;simp only[zv,show ((j:Int)<(n:Int)) by omega];refine R176_4.k9.to (Ac (v:=vr (vz ⟨b,0,v6⟩)) hQ.c2 rfl ?_);simp only[zv];refine Ac (v:=kv) hQ.pg.blk rfl ?_;rw[BN (n:=(p:Int)+j) (by omega),show (p:Int)+j=((p+j:Nat):Int) by omega]
  refine Bi (x:=vq vy 6) hQ.pg.own (by omega) (by rw[Cm,hpl];omega) rfl (by intro u hu;simp[wc.cells]at hu;subst hu;rfl) λw1 ho1 hf1 _=>?_;rw[zE]at ho1;have ho1:BO w1 kv 3 1 (Ca (Dg ks0 p (j+1) 6)):=by rw[<-LM (by omega), <-H6];exact ho1
  have Q1:=hQ.list (ks':=Dg ks0 p (j+1) 6) (hf1.mono λx hx=>hx) ⟨hf1.at_ hQ.pg.blk hQ.pg.nb,ho1,by rw[Dw (by omega)];omega⟩;refine R176_4.k11.to ?_;simp only[AC];rw[BN (n:=(j:Int)+1) (by omega),show (j:Int)+1=((j+1:Nat):Int) by omega];exact ih (j+1) w1 (by omega) Q1
def VV{N:Int}(h:Df w b kv ks)(hN:N<=64)(h0:Fe ks N=v6->∀w',Fr [] w w'->K (vu #[vq vy 0,vw v8]) w')(h1:∀p w',Fe ks N=vz p->1<=N->p+N.toNat<=ks.length->Fr (BM kv) w w'->Df w' b kv ((Dg ks p N.toNat 6).set p 5)->K (vu #[vq vy (p:Int),vw v7]) w'):
  I vp 176 #[vr (vz ⟨b,0,v6⟩),vq vy N] w K:=by
 have hle:=h.le;refine F176.sh (Ay λx2 w1 hn1=>Ay λx3 w2 hn2=>Ay λx4 w3 hn3=>Ay λx5 w4 hn4=>?_);have i1:=hn1.is;have i2:=hn2.is;have i3:=hn3.is;have i4:=hn4.is;have z1:=hn1.sz;have z2:=hn2.sz;have z3:=hn3.sz;have z4:=hn4.sz;have f4:Fr [] w w4:=hn1.fr.trans (hn2.fr.trans (hn3.fr.trans hn4.fr));have d2:w4.heap[x2]?=vz (wj #[vr (vz ⟨b,0,v6⟩)] 234 (0,0)):=(hn2.fr.trans (hn3.fr.trans hn4.fr)).at_ hn1.at_ (by simp)
 have d3:w4.heap[x3]?=vz (wj #[vq vy N] 3 (0,0)):=(hn3.fr.trans hn4.fr).at_ hn2.at_ (by simp);have d4:=hn4.fr.at_ hn3.at_ (by simp);have d5:=hn4.at_;refine Ac (v:=vq vy N) d3 rfl ?_;by_cases c:N<1
 ·simp only[zv,c];refine AM d4 rfl rfl (by simp) λw5 hu5=>AM (hu5.fr.at_ d5 (by simp;omega)) rfl rfl (by simp) λw6 hu6=>?_;refine Ac (v:=vq vy 0) (hu6.fr.at_ hu5.at_ (by simp;omega)) rfl (Ac (v:=vw v8) hu6.at_ rfl ?_);exact h0 (by unfold Fe;rw[vn c]) w6 ((f4.then hu5.fr λz hz=>wh (by simp only[yZ]at hz;omega)).then hu6.fr λz hz=>wh (by simp only[yZ]at hz;omega))
 simp only[zv,c];obtain⟨n,rfl⟩:=xQ (show 0<=N by omega);rw[zE]at h1;refine F176.k3.to (Ac (v:=vr (vz ⟨b,0,v6⟩)) d2 rfl ?_);have hkv:=h.own.mem_lt;have hbl:=BP h.blk;have sp:Fe ks (n:Int)=E2 n (ks.drop 0) 0 0:=by unfold Fe;rw[vm c,zE,List.drop_zero]
 refine JG J8 λlr D w5 hf5 hlr hD hR hdf=>?_;have f5:=f4.trans hf5;have s4:=f4.size
 have told:∀w' y4 y5 ks',SQ w w' b kv ks' (n:Int) lr D x2 x3 x4 x5 .done (vz .ret) y4 y5->(∀w'',Fr (BM kv) w w''->Df w'' b kv ks'->K (vu #[y4,y5]) w'')->∃rec,w'.heap[lr]?=vz (.loop rec)/\rec.state ≠ .busy/\B4 rec.pending (F176.k14 K (vr (vz ⟨x4,0,v6⟩)) (vr (vz ⟨x5,0,v6⟩)) (vq vy (D:Int)) (w'.putObj lr (.loop { rec with state := .exhausted }))) (Bl (vq vy (D:Int)) (w'.putObj lr (.loop { rec with state := .exhausted })) λw3=>Ad (vr (vz ⟨x4,0,v6⟩)) w3 λr4 _=>Ad (vr (vz ⟨x5,0,v6⟩)) w3 λr5 _=>K (vu #[r4,r5]) w3) (λid=>cond (Nat.beq id 0) (F176.k14 K (vr (vz ⟨x4,0,v6⟩)) (vr (vz ⟨x5,0,v6⟩)) (vq vy (D:Int)) (w'.putObj lr (.loop { rec with state := .exhausted }))) (False)):=by
  intro w' y4 y5 ks' Q hk;obtain⟨rec,e1,e2,e3,hf6⟩:=Q.rec_.exit_ (by simp);refine⟨rec,e1,e2,?_⟩;have l:=Q.lo;have kp:∀ {z:Nat} {o:Obj},w'.heap[z]?=vz o->(∀r,o ≠ .loop r)->(w'.putObj lr (.loop { rec with state := .exhausted })).heap[z]?=vz o:=λhz hne=>hf6.at_ hz (by simp;exact Q.rec_.off hz hne)
  have pg6:Df (w'.putObj lr (.loop { rec with state := .exhausted })) b kv ks':=Q.pg.keep hf6 (by simp;exact Q.rec_.off Q.pg.blk (by simp)) (λg hg e=>by simp only[yZ]at e;subst e;exact Q.rec_.offS Q.pg.own hg);have q2:=kp Q.df (by simp);have q4:=kp Q.c4 (by simp);have q5:=kp Q.c5 (by simp);generalize w'.putObj lr (.loop { rec with state := .exhausted })=w6 at *;rw[e3]
  show Bl (vq vy (D:Int)) w6 (λw3=>Ad (vr (vz ⟨x4,0,v6⟩)) w3 λr4 _=>Ad (vr (vz ⟨x5,0,v6⟩)) w3 λr5 _=>K (vu #[r4,r5]) w3);refine JY q2 λw7 hf7=>Ac (v:=y4) (hf7.at_ q4 (by simp;exact (CY q2 q4 (by simp)).symm)) rfl (Ac (v:=y5) (hf7.at_ q5 (by simp;exact (CY q2 q5 (by simp)).symm)) rfl ?_)
  refine hk w7 ((Q.fr.then hf6 λz hz=>wh (by simp only[yZ]at hz;omega)).then hf7 λz hz=>wh (by simp only[yZ]at hz;omega)) (pg6.keep hf7 (by simp;omega) λg hg e=>by simp only[yZ]at e;have:=l.2.2.2.2.2.2.2.1 g hg;omega)
 refine R6 (ks:=ks) (J:=λp r w'=>SQ w w' b kv ks (n:Int) lr D x2 x3 x4 x5 .ready v6 (vq vy 0) (vw v8)/\Fr [] w w'/\r<=p/\(p<=ks.length->Fe ks (n:Int)=E2 n (ks.drop p) p r)/\(p=ks.length+1->Fe ks (n:Int)=v6))
  (X:=λw'=>∃p,Fe ks (n:Int)=vz p/\p+n<=ks.length/\SQ w w' b kv ((Dg ks p n 6).set p 5) (n:Int) lr D x2 x3 x4 x5 .done (vz .ret) (vq vy (p:Int)) (vw v7)) hle (λp r w' hJ=>hJ.1.pg) (λp r w' hp hJ hz=>?_) (λp w' hp hJ hz=>?_) (λp r w' K' hp hr hJ hz a x=>?_) (λw' hJ=>?_) (λw' hX=>?_) ?_
 ·obtain⟨j1,jf,j0,j2,j3⟩:=hJ;refine⟨j1,jf,by omega,λ_=>?_,λe=>by omega⟩;rw[j2 (by omega),Fv,vn hp,vn hz]
 ·obtain⟨j1,jf,j0,j2,j3⟩:=hJ;by_cases e:p<ks.length
  ·refine⟨j1,jf,by omega,λ_=>?_,λe=>by omega⟩;rw[j2 (by omega),Fv,vn e,vm hz,vm (by omega)]
  ·refine⟨j1,jf,by omega,λe'=>by omega,λ_=>?_⟩;rw[j2 (by omega),Fv,vm e,vm (by omega)]
 ·obtain⟨j1,jf,j0,j2,j3⟩:=hJ;obtain⟨rr,r1,r2,r3,r4,r5,r6,r7,r8⟩:=j1.rec_.at_;refine R176_4.yield (y2:=vr (vz ⟨x2,0,v6⟩)) (y3:=vr (vz ⟨x3,0,v6⟩)) (y4:=vr (vz ⟨x4,0,v6⟩)) (y5:=vr (vz ⟨x5,0,v6⟩)) r1 r4 r5 r6 r7 (λt v hv=>?_) (j1.rec_.begin_ λw6 hf6 hR6=>?_)
  ·refine QS (env:=[(2,vr (vz ⟨x2,0,v6⟩)),(3,vr (vz ⟨x3,0,v6⟩)),(4,vr (vz ⟨x4,0,v6⟩)),(5,vr (vz ⟨x5,0,v6⟩))]) (λx hx=>?_) t v hv;simp only[un,b8,vi]at hx;rcases hx with rfl|rfl|rfl|rfl
   ·exact r8 2 _ rfl
   ·exact r8 3 _ rfl
   ·exact r8 4 _ rfl
   ·exact r8 5 _ rfl
  ·have Q6:=j1.recd hf6 hR6;refine Ac (v:=vq vy (n:Int)) Q6.c3 rfl ?_;by_cases e:(r:Int)<(n:Int)
   ·simp only[zv,e];refine Q6.rec_.end_ λw7 hf7 hR7=>a w7 ⟨Q6.recd hf7 hR7,(jf.then hf6 λz hz=>wh (by simp only[yZ]at hz;omega)).then hf7 λz hz=>wh (by simp only[yZ]at hz;omega),by omega,λhp'=>?_,λe'=>?_⟩
    ·rw[j2 (by omega),Fv,vn (by omega),vm hz,vm (by omega)]
    ·rw[j2 (by omega),Fv,vm (by omega),vm (by omega)]
   ·simp only[zv,e];have sp':Fe ks (n:Int)=vz (p-r):=by
     rw[j2 (by omega),Fv];by_cases e':p<ks.length
     ·rw[vn e',vm hz,vn (by omega)]
     ·rw[vm e',vn (by omega)]
    rw[show (p:Int)-r=((p-r:Nat):Int) by omega];refine R176_4.k7.to (Ac (v:=vq vy (n:Int)) Q6.c3 rfl ?_);refine Tv (ks0:=ks) (p:=p-r) (n:=n) (y4:=vq vy 0) (y5:=vw v8) (by omega) (by omega) (λw7 Q7=>x w7 ⟨p-r,sp',by omega,Q7⟩) n 0 w6 (by omega) ?_;rw[LN];exact Q6
 ·obtain⟨j1,jf,j0,j2,j3⟩:=hJ;obtain⟨rec,e1,e2,e3,hf6⟩:=j1.rec_.exit_ (by simp);refine⟨rec,e1,e2,?_⟩;have l:=j1.lo;have kp:∀ {z:Nat} {o:Obj},w'.heap[z]?=vz o->(∀r,o ≠ .loop r)->(w'.putObj lr (.loop { rec with state := .exhausted })).heap[z]?=vz o:=λhz hne=>hf6.at_ hz (by simp;exact j1.rec_.off hz hne);have q2:=kp j1.df (by simp);have q4:=kp j1.c4 (by simp);have q5:=kp j1.c5 (by simp)
  generalize w'.putObj lr (.loop { rec with state := .exhausted })=w6 at *;rw[e3];show F176.k14 K (vr (vz ⟨x4,0,v6⟩)) (vr (vz ⟨x5,0,v6⟩)) (vq vy (D:Int)) w6;have n45:=CY q4 q5 (by simp);have nD4:=CY q2 q4 (by simp);have nD5:=CY q2 q5 (by simp);refine F176.k14.to (AM q4 rfl rfl (by simp) λw7 hu7=>AM (hu7.fr.at_ q5 (by simp;omega)) rfl rfl (by simp) λw8 hu8=>?_)
  refine JY (hu8.fr.at_ (hu7.fr.at_ q2 (by simpa using nD4)) (by simpa using nD5)) λw9 hf9=>?_;refine Ac (v:=vq vy 0) (hf9.at_ (hu8.fr.at_ hu7.at_ (by simpa using n45)) (by simp;omega)) rfl (Ac (v:=vw v8) (hf9.at_ hu8.at_ (by simp;omega)) rfl ?_);refine h0 (j3 rfl) w9 ((((jf.then hf6 λz hz=>?_).then hu7.fr λz hz=>?_).then hu8.fr λz hz=>?_).then hf9 λz hz=>?_)
  all_goals (simp only[yZ]at hz;exact wh (by omega))
 ·obtain⟨p,x1,x2',Q⟩:=hX;exact told w' _ _ _ Q λw'' hf'' hp''=>h1 p w'' x1 (by omega) x2' hf'' hp''
 ·exact⟨⟨f5.w,h.keep0 f5,hR,hdf,hf5.at_ d2 (by simp),hf5.at_ d3 (by simp),hf5.at_ d4 (by simp),hf5.at_ d5 (by simp),by omega,by omega,by omega,by omega,by omega,by omega,by omega,hkv,hbl⟩,f5,va _,λ_=>sp,λe=>by omega⟩
end
structure Ew where
 cel:Nat
 tab:Nat
 mem:Nat
 tk:Nat
 kv:wc
 mv:wc
def Ew.S(A:Ew):List Nat:=A.cel::A.tk::(BM A.kv++BM A.mv)
structure Cw(A:Ew)(w:wd)(c:Ce):Prop where
 blk:∃cs:Array wc,w.heap[A.cel]?=vz (wj cs 244 (0,0))/\cs.size=131/\cs[0]?=vz (vr (vz ⟨A.tab,0,v6⟩))/\cs[1]?=vz (vr (vz ⟨A.mem,0,v6⟩))/\cs[130]?=vz (vr (vz ⟨A.tk,0,v6⟩))/\∀p,p<64->cs[2+p*2]?=vz (vq vy (c.ch.getD p (0,0)).1)/\cs[2+p*2+1]?=vz (vq vy (c.ch.getD p (0,0)).2)
 pg:Df w A.tab A.kv c.ks
 mm:CF w A.mem A.mv c.m
 tk:CZ w A.tk c.n c.tk
 ml:c.m.length=c.ks.length*32
 cl:c.ch.length=64
 cr:∀p,0<=(c.ch.getD p (0,0)).2/\(c.ch.getD p (0,0)).2<=16
section
variable{K:VK}{w:wd}{A:Ew}{c:Ce}
def Cw.keep{S:List Nat}{w':wd}(h:Cw A w c)(hf:Fr S w w')(h1:A.cel∉S)(h2:A.tab∉S)(h3:A.mem∉S)(h4:A.tk∉S)(h5:∀g∈BM A.kv,g∉S)(h6:∀g∈BM A.mv,g∉S):Cw A w' c:=by obtain⟨cs,c1,c2⟩:=h.blk;exact⟨⟨cs,hf.at_ c1 h1,c2⟩,h.pg.keep hf h2 h5,h.mm.keep hf h3 h6,h.tk.keep hf h4,h.ml,h.cl,h.cr⟩
def Cw.keep0{w':wd}(h:Cw A w c)(hf:Fr [] w w'):Cw A w' c:=h.keep hf (by simp) (by simp) (by simp) (by simp) (by simp) (by simp)
def Cw.setMem{w':wd}{m':List Int}(h:Cw A w c)(hf:Fr (BM A.mv) w w')(hm:CF w' A.mem A.mv m')(hl:m'.length=c.m.length):Cw A w' { c with m:=m' }:=by
 obtain⟨cs,c1,c2⟩:=h.blk;obtain⟨ts,t1,t2⟩:=h.tk.blk;have hn:(({ c with m:=m' }:Ce)).n=c.n:=by simp[Ce.n,hl]
 refine⟨⟨cs,hf.at_ c1 (h.mm.own.nb c1 (by decide)),c2⟩,h.pg.keep hf (h.mm.own.nb h.pg.blk (by decide)) (h.pg.own.ne h.mm.own (by decide)),hm,?_,by simp only;rw[hl];exact h.ml,h.cl,h.cr⟩;rw[hn];exact h.tk.keep hf (h.mm.own.nb t1 (by decide))
def Cw.setTk{w':wd}{s':Bs}(h:Cw A w c)(hf:Fr [A.tk] w w')(hb:CZ w' A.tk c.n s'):Cw A w' { c with tk:=s' }:=by
 obtain⟨cs,c1,c2⟩:=h.blk;obtain⟨ts,t1,t2⟩:=h.tk.blk;have no:∀ {v:wc} {e:TypeId} {sz:Nat} {xs:List (List wc)},BO w v e sz xs->255≠e->∀g∈BM v,g∉[A.tk]:=λho hne g hg e=>by
  simp only[yZ]at e;subst e;exact ho.nb t1 (vk hne) hg
 exact⟨⟨cs,hf.at_ c1 (by simp;exact CY c1 t1 (by simp)),c2⟩,h.pg.keep hf (by simp;exact CY h.pg.blk t1 (by simp)) (no h.pg.own (by decide)),h.mm.keep hf (by simp;exact CY h.mm.blk t1 (by simp)) (no h.mm.own (by decide)),hb,h.ml,h.cl,h.cr⟩
def Cw.setKs{w':wd}{ks':List Int}(h:Cw A w c)(hf:Fr (BM A.kv) w w')(hp:Df w' A.tab A.kv ks')(hl:ks'.length=c.ks.length):Cw A w' { c with ks:=ks' }:=by obtain⟨cs,c1,c2⟩:=h.blk;obtain⟨ts,t1,t2⟩:=h.tk.blk;exact⟨⟨cs,hf.at_ c1 (h.pg.own.nb c1 (by decide)),c2⟩,hp,h.mm.keep hf (h.pg.own.nb h.mm.blk (by decide)) (h.mm.own.ne h.pg.own (by decide)),h.tk.keep hf (h.pg.own.nb t1 (by decide)),by simp only;rw[hl];exact h.ml,h.cl,h.cr⟩
def Cw.setCh{p:Nat}{l:Int × Int}{F:wd->Prop}(h:Cw A w c)(hp:p<64)(hl:0<=l.2/\l.2<=16)(hk:∀w',Fr [A.cel] w w'->Cw A w' { c with ch:=c.ch.set p l }->F w'):
  Aj 2 (vr (vz ⟨A.cel,2+p*2,v6⟩)) (Ez l) w F:=by
 obtain⟨cs,c1,c2,c3,c4,c5,c6⟩:=h.blk;obtain⟨ts,t1,t2⟩:=h.tk.blk;have cl:=h.cl;refine Bq c1 rfl Eg (by omega) λw' hu=>hk w' hu.fr ?_;have no:∀ {v:wc} {e:TypeId} {sz:Nat} {xs:List (List wc)},BO w v e sz xs->244≠e->∀g∈BM v,g∉[A.cel]:=λho hne g hg e=>by
  simp only[yZ]at e;subst e;exact ho.nb c1 (vk hne) hg
 have gt:∀i:Nat,(CD cs.toList (2+p*2) [vq vy l.1,vq vy l.2]).toArray[i]?=if i=2+p*2 then vz (vq vy l.1) else if i=2+p*2+1 then vz (vq vy l.2) else cs[i]?:=λi=>by
  unfold CD;have e1:(cs.toList.take (2+p*2)).length=2+p*2:=by rw[b7];simp;omega
  rw[yD,yL];by_cases b1:i<2+p*2+2
  ·rw[vn (by rw[yY,e1];exact b1),yL,e1];by_cases b2:i<2+p*2
   ·rw[vn b2,yX,vn b2,vm (by omega),vm (by omega),yB]
   ·rw[vm b2];by_cases b3:i=2+p*2
    ·subst b3;simp
    ·have:i=2+p*2+1:=by omega
     subst this;rw[show 2+p*2+1-(2+p*2)=1 by omega];simp
  ·rw[vm (by rw[yY,e1];exact b1),yW,vm (by omega),vm (by omega),yY,e1];simp only[zY,i7];rw[show 2+p*2+(0+1+1)+(i-(2+p*2+(0+1+1)))=i by omega,yB]
 have hsz:(CD cs.toList (2+p*2) (Ez l).cells.toList).toArray.size=131:=by simp[CD,Ez,wc.cells];omega
 refine⟨⟨_,hu.at_,hsz,?_,?_,?_,λq hq=>?_⟩,h.pg.keep hu.fr (by simp;exact CY h.pg.blk c1 (by simp)) (no h.pg.own (by decide)),h.mm.keep hu.fr (by simp;exact CY h.mm.blk c1 (by simp)) (no h.mm.own (by decide)),h.tk.keep hu.fr (by simp;exact CY t1 c1 (by simp)),h.ml,by simpa using cl,λq=>?_⟩
 ·exact (gt 0).trans (by rw[vm (by omega),vm (by omega)];exact c3)
 ·exact (gt 1).trans (by rw[vm (by omega),vm (by omega)];exact c4)
 ·exact (gt 130).trans (by rw[vm (by omega),vm (by omega)];exact c5)
 ·have e:(c.ch.set p l).getD q (0,0)=if q=p then l else c.ch.getD q (0,0):=by
   rw[xC,xC,zI];by_cases e:p=q
   ·subst e;rw[vn rfl,vn (by omega),vn rfl];rfl
   ·rw[vm e,vm (vk e)]
  simp only;rw[e];by_cases e2:q=p
  ·subst e2;rw[vn rfl];exact⟨(gt _).trans (by rw[vn rfl]),(gt _).trans (by rw[vm (by omega),vn rfl])⟩
  ·rw[vm e2];exact⟨(gt _).trans (by rw[vm (by omega),vm (by omega)];exact (c6 q hq).1),(gt _).trans (by rw[vm (by omega),vm (by omega)];exact (c6 q hq).2)⟩
 ·have e:(c.ch.set p l).getD q (0,0)=if q=p then l else c.ch.getD q (0,0):=by
   rw[xC,xC,zI];by_cases e:p=q
   ·subst e;rw[vn rfl,vn (by omega),vn rfl];rfl
   ·rw[vm e,vm (vk e)]
  simp only;rw[e];split
  ·exact hl
  ·exact h.cr q
def Hx(h:Cw A w c)(hk:K (vw v7) w):I vp 173 #[vr (vz ⟨A.cel,0,v6⟩)] w K:=by obtain⟨cs,c1,c2,c3,c4,c5,c6⟩:=h.blk;refine F173.sh ⟨_,CN _ _ _ Tryz.underlying166,?_⟩;simp only[zv];refine Ac (v:=vr (vz ⟨A.mem,0,v6⟩)) c1 c4 ⟨_,CN _ _ _ Tryz.underlying238,?_⟩;simp only[];exact hk
def GT{p:Int}(h:Cw A w c)(hk:∀w',Fr [] w w'->K (vq vy (BS c.ks p)) w'):I vp 186 #[vr (vz ⟨A.cel,0,v6⟩),vq vy p] w K:=by
 obtain⟨cs,c1,c2,c3,c4,c5,c6⟩:=h.blk;refine F186.sh (Hx h ?_);simp only[zv];refine F186.k3.to ?_;simp only[zv];refine AY (n:=1) (vs:=[vr (vz ⟨A.tab,0,v6⟩)]) c1 (by omega) ?_ ?_
 ·rw[List.drop_zero];have:0<cs.toList.length:=by simp;omega
  rw[List.take_one];simp only[List.head?_eq_getElem?,yB,c3,zB]
 ·refine F250.sh (Ay λx2 w1 hn1=>?_);simp only[zv];exact Ac (v:=vr (vz ⟨A.tab,0,v6⟩)) hn1.at_ rfl (FO (h.keep0 hn1.fr).pg (hk w1 hn1.fr))
def NT(h:Cw A w c)(hk:∀w',Fr [] w w'->K (vq vy (D4 c.ks)) w'):I vp 114 #[vr (vz ⟨A.cel,0,v6⟩)] w K:=by
 obtain⟨cs,c1,c2,c3,c4,c5,c6⟩:=h.blk;refine F114.sh (Hx h ?_);simp only[zv];refine F114.k3.to ?_;simp only[zv];refine AY (n:=1) (vs:=[vr (vz ⟨A.tab,0,v6⟩)]) c1 (by omega) ?_ ?_
 ·rw[List.drop_zero,List.take_one];simp only[List.head?_eq_getElem?,yB,c3,zB]
 ·refine F174.sh (Ay λx2 w1 hn1=>?_);simp only[zv];exact Ac (v:=vr (vz ⟨A.tab,0,v6⟩)) hn1.at_ rfl (TU (h.keep0 hn1.fr).pg λw2 hf2=>hk w2 (hn1.fr.trans hf2))
def OK{p:Int}(h:Cw A w c)(hk:∀w',Fr [] w w'->K (vw (c.small p)) w'):I vp 251 #[vr (vz ⟨A.cel,0,v6⟩),vq vy p] w K:=by refine F251.sh (GT h λw1 hf1=>DV ?_);simp only[AL];exact hk w1 hf1
def LY(h:Cw A w c){p:Int}(hs:c.small p=v7):0<=p/\p<c.ks.length/\p<64:=by have hle:=h.pg.le;have:=GU hle (p:=p) (by intro e;simp[Ce.small,e]at hs;revert hs;decide);omega
def My{p:Int}(h:Cw A w c)(hk:∀w',Fr [] w w'->K (vq vy (c.left p)) w'):I vp 187 #[vr (vz ⟨A.cel,0,v6⟩),vq vy p] w K:=by
 refine F187.sh (OK h λw1 hf1=>?_);have hk:=hk w1 hf1;unfold Ce.left at hk;cases hs:c.small p with
 | false=>
  rw[hs]at hk;simp only[zv]at hk ⊢;exact hk
 | true=>
  rw[hs]at hk;obtain⟨p0,p1,p2⟩:=LY h hs;obtain⟨cs,c1,c2,c3,c4,c5,c6⟩:=(h.keep0 hf1).blk;obtain⟨p,rfl⟩:=xQ p0;simp only[zv];refine F187.k3.to ?_;simp only[zv];refine AU (by omega) (by omega) ?_;simp only[Ah,zE];refine Ac (v:=vq vy (c.ch.getD p (0,0)).2) c1 ?_ ?_
  ·exact (c6 p (by omega)).2
  ·simpa[Ce.chain] using hk
def RY{a:Int}(h:Cw A w c)(hk:K (vw (c.isIt a)) w):I vp 197 #[vr (vz ⟨A.cel,0,v6⟩),vq vy a] w K:=by obtain⟨cs,c1,c2,c3,c4,c5,c6⟩:=h.blk;refine F197.sh (Hx h ?_);simp only[zv];refine Ac (v:=vr (vz ⟨A.tk,0,v6⟩)) c1 c5 (Mk h.tk ?_);exact hk
def NV{a:Int}(h:Cw A w c)(hk:∀ok,K (vu #[vq vy (Cs c.m a),vw ok]) w):I vp 198 #[vr (vz ⟨A.cel,0,v6⟩),vq vy a] w K:=by obtain⟨cs,c1,c2,c3,c4,c5,c6⟩:=h.blk;refine F198.sh (Hx h ?_);simp only[zv];refine F198.k3.to ?_;simp only[zv];refine Ac (v:=vr (vz ⟨A.mem,0,v6⟩)) c1 c4 (PW h.mm λok=>?_);simp only[zv];exact hk ok
def Vo(h:Cw A w c)(hT:F0 w)(hk:∀v w',Fr [] w w'->Cc w v->BO w' v 3 1 (Ca (HY c.n c.tk))->K v w'):I vp 130 #[vr (vz ⟨A.cel,0,v6⟩)] w K:=by obtain⟨cs,c1,c2,c3,c4,c5,c6⟩:=h.blk;refine F130.sh (Hx h ?_);simp only[zv];refine F130.k3.to ?_;simp only[zv];exact Ac (v:=vr (vz ⟨A.tk,0,v6⟩)) c1 c5 (Vl h.tk hT hk)
def P1(hle:c.ks.length<=64)(p:Int)(h:0<=Fj c.ks p):Fj c.ks p<64:=by
 unfold Fj at h ⊢;have key:∀q:Int,0<=(if Cu c.ks q=0 then -1 else q)->(if Cu c.ks q=0 then -1 else q)<64:=λq hq=>by
  rcases IU hle q with e|⟨e1,e2⟩
  ·rw[vn e]at hq;omega
  ·by_cases e:Cu c.ks q=0
   ·rw[vn e]at hq;omega
   ·rw[vm e];omega
 by_cases hp:0<=p
 ·simp only[hp,vj]at h ⊢;exact key _ h
 ·simp only[hp,vg]at h ⊢;exact key _ h
def Vn{a:Int}(h:Cw A w c)(hk:∀w',Fr [] w w'->K (vq vy (c.base a)) w'):I vp 246 #[vr (vz ⟨A.cel,0,v6⟩),vq vy a] w K:=by
 refine F246.sh (Hx h ?_);simp only[zv];refine F246.k3.to (FW (GT h λw1 hf1=>NZ ?_));have h1:=h.keep0 hf1;obtain⟨cs,c1,c2,c3,c4,c5,c6⟩:=h1.blk;simp only[zv];refine Ac (v:=vr (vz ⟨A.tab,0,v6⟩)) c1 c3 (TY h1.pg ?_);have hk:=hk w1 hf1;unfold Ce.base at hk;simp only at hk
 have fin:∀d:Int,d=(if Ei (BS c.ks (Ct a)) a<0/\0<=Fj c.ks (Ct a) then (Gh (Fj c.ks (Ct a)) 1).1 else Ei (BS c.ks (Ct a)) a)->F246.k8 K (vr (vz ⟨A.cel,0,v6⟩)) (vq vy d) w1:=λd e=>by
  rw[<-e]at hk;refine F246.k8.to (RY h1 ?_);cases hi:c.isIt d with
  | true=>
   rw[hi,vn rfl]at hk;simp only[zv];exact F246.k10.to hk
  | false=>
   rw[hi]at hk;simp only[zv,yT,vg]at hk ⊢;exact hk
 by_cases d1:Ei (BS c.ks (Ct a)) a<0
 ·simp only[zv,d1];by_cases d2:Fj c.ks (Ct a)≥0
  ·simp only[zv,d2];have hr:=P1 h.pg.le (Ct a) d2;refine Jn ⟨d2,hr⟩ (by omega) ?_;simp only[zv];refine fin _ ?_;rw[vn ⟨d1,d2⟩];unfold Gh;rw[vn (by omega)]
  ·simp only[zv,d2];refine fin _ ?_;rw[vm (by omega)]
 ·simp only[zv,d1];refine fin _ ?_;rw[vm (by omega)]
def Ms{a v:Int}(h:Cw A w c)(hv : -9223372036854775808<=v/\v<=9223372036854775807)(hk:∀w',Fr (BM A.mv) w w'->Cw A w' (c.store a v).1->K (vw (c.store a v).2) w'):I vp 181 #[vr (vz ⟨A.cel,0,v6⟩),vq vy a,vq vy v] w K:=by
 refine F181.sh (Vn h λw1 hf1=>?_);have h1:=h.keep0 hf1;unfold Ce.store at hk;by_cases d:c.base a≥0
 ·obtain⟨cs,c1,c2,c3,c4,c5,c6⟩:=h1.blk;simp only[zv,d];refine Ac (v:=vr (vz ⟨A.mem,0,v6⟩)) c1 c4 (Ot h1.mm hv λw2 hf2 h2=>?_);by_cases e:EC c.m a 1
  ·rw[vn ⟨d,e⟩]at hk;rw[o8 e];exact hk w2 (hf1.w.trans hf2) (h1.setMem hf2 h2 (El _ _ _))
  ·rw[vm (λx=>e x.2)]at hk;rw[m8 e];have:DA c.m a v=c.m:=by unfold DA CV;rw[vm e]
   rw[this]at h2;exact hk w2 (hf1.w.trans hf2) (h1.setMem hf2 h2 rfl)
 ·simp only[zv,d];rw[vm (λx=>d x.1)]at hk;exact hk w1 hf1.w h1
end
section
variable{K:VK}{w:wd}{A:Ew}{c:Ce}
def Py(m:List Int)(p k:Int):0<=(D9 m p k).2.2/\(D9 m p k).2.2<=16:=by
 have:=Ee k;unfold D9;split
 ·simp only;omega
 ·simp only;omega
def Px(m:List Int)(p k:Int):(D9 m p k).1.length=m.length:=by
 unfold D9;split
 ·simp only;rw[K2,Dm]
 ·rfl
def Rd{m:List Int}{p k:Int}{l:Int × Int}(hl:0<=l.2/\l.2<=16):(0<=(DN m p k l).2.2/\(DN m p k l).2.2<=16)/\(0<BQ k->0<=(DN m p k l).1/\(DN m p k l).1<BQ k):=by
 unfold DN;split
 ·rename_i h;split
  ·exact⟨by simp only;omega,λ_=>h.2.2⟩
  ·exact⟨by simp only;omega,λhc=>by simp only;omega⟩
 ·exact⟨by simp only;omega,λhc=>by simp only;omega⟩
def Rb{m:List Int}{p k i:Int}{l:Int × Int}:(0<=(EM m p k l i).2.2/\(EM m p k l i).2.2<=16)/\(EM m p k l i).1.length=m.length:=by
 have:=Ee k;unfold EM;split
 ·rename_i h;exact⟨by simp only;omega,El _ _ _⟩
 ·exact⟨by simp only;omega,rfl⟩
def LL(hle:c.ks.length<=64)(p:Int):(H7 c.ks p).length=c.ks.length:=by
 unfold H7;split
 ·rfl
 ·rename_i h;rcases IU hle p with e|⟨e1,e2⟩
  ·exact absurd e h
  ·exact Dw (by omega)
def Fr.kv{w w':wd}(h:Fr (BM A.kv) w w'):Fr A.S w w':=h.mono λx hx=>by simp[Ew.S,hx]
def Fr.mv{w w':wd}(h:Fr (BM A.mv) w w'):Fr A.S w w':=h.mono λx hx=>by simp[Ew.S,hx]
def Fr.cel{w w':wd}(h:Fr [A.cel] w w'):Fr A.S w w':=h.mono λx hx=>by simp only[yZ]at hx;simp[Ew.S,hx]
def Fr.tk{w w':wd}(h:Fr [A.tk] w w'):Fr A.S w w':=h.mono λx hx=>by simp only[yZ]at hx;simp[Ew.S,hx]
def TR{k:Int}(h:Cw A w c)(hk:∀w',Fr A.S w w'->Cw A w' (c.carve k).1->K (match (c.carve k).2 with | vz p=>vu #[vq vy (p:Int),vw v7] | v6=>vu #[vq vy 0,vw v8]) w'):
  I vp 188 #[vr (vz ⟨A.cel,0,v6⟩),vq vy k] w K:=by
 obtain⟨cs,c1,c2,c3,c4,c5,c6⟩:=h.blk;refine F188.sh (Hx h ?_);simp only[zv];refine F188.k3.to ?_;simp only[zv];unfold Ce.carve at hk;refine Ac (v:=vr (vz ⟨A.tab,0,v6⟩)) c1 c3 (Uk h.pg (λhn=>?_) λp w1 hp hpl hf1 hp1=>?_)
 ·rw[hn]at hk;simp only[zv];exact F188.k6.to (hk w (Fr.refl _ _) h)
 ·rw[hp]at hk;have hle:=h.pg.le;have h1:=h.setKs hf1 hp1 (by simp);obtain⟨ds,d1,d2,d3,d4,d5,d6⟩:=h1.blk;simp only[zv];refine A8 (λ_=>True) λw2 hf2 _=>⟨trivial,?_⟩;have h2:=h1.keep0 hf2;simp only[];refine⟨Ac (v:=vr (vz ⟨A.mem,0,v6⟩)) (hf2.at_ d1 (by simp)) d4 ⟨trivial,?_⟩,trivial⟩;refine⟨TQ h2.mm (p:=(p:Int)) (by omega) λw3 ok hf3 h3m=>⟨trivial,?_⟩,trivial⟩
  have h3:=h2.setMem hf3 h3m (Px _ _ _);simp only[zv];refine AU (by omega) (by omega) ?_;rw[zE];refine⟨h3.setCh (l:=(D9 c.m p k).2) (by omega) (Py _ _ _) λw4 hf4 h4=>⟨trivial,F188.k6.to ?_⟩,trivial⟩;exact hk w4 ((hf1.kv.trans hf2.w).trans (hf3.mv.trans hf4.cel)) h4
def NK{p:Int}(h:c.small p=v7):0<BQ (BS c.ks p):=by unfold Ce.small at h;rcases Eh (BS c.ks p) with⟨_,e,f⟩|⟨_,e,f⟩|⟨_,e,f⟩|⟨_,e,f⟩|⟨_,e,f⟩<;>rw[f]<;>simp[e]at h ⊢
def VX{p:Int}(h:Cw A w c)(hk:∀w',Fr A.S w w'->Cw A w' (c.take p).1->K (match (c.take p).2 with | vz a=>vu #[vq vy a,vw v7] | v6=>vu #[vq vy 0,vw v8]) w'):
  I vp 183 #[vr (vz ⟨A.cel,0,v6⟩),vq vy p] w K:=by
 refine F183.sh (My h λw1 hf1=>?_);have h1:=h.keep0 hf1;unfold Ce.take at hk;by_cases z:c.left p=0
 ·rw[vn z]at hk;simp only[zv,vl,z];exact hk w1 hf1.w h1
 rw[vm z]at hk;have hs:c.small p=v7:=by
  cases e:c.small p with
  | true=>rfl
  | false=>exact absurd (by unfold Ce.left;rw[e];rfl) z
 obtain⟨p0,p1,p2⟩:=LY h hs;have hcc:=NK hs;have hsz:=IL (BS c.ks p);obtain⟨p,rfl⟩:=xQ p0;simp only[zv,z];refine F183.k3.to (GT h1 λw2 hf2=>?_);have h2:=h1.keep0 hf2;have f2:=hf1.trans hf2;refine A8 (λw'=>Fr [] w2 w') λw3 hf3 _=>⟨hf3,?_⟩;obtain⟨cs,c1,c2,c3,c4,c5,c6⟩:=h2.blk;simp only[zv];refine AU (by omega) (by omega) ?_;rw[zE]
 refine Aq (v:=vr (vz ⟨A.mem,0,v6⟩)) (λw' hw=>⟨cs,_,_,hw.at_ c1 (by simp),c4⟩) ?_;have hch:(cs.toList.drop (2+p*2)).take 2=[vq vy (c.ch.getD p (0,0)).1,vq vy (c.ch.getD p (0,0)).2]:=by
  have q1:=(c6 p (by omega)).1;have q2:=(c6 p (by omega)).2;apply zF;intro i;rw[yX,yW]
  match i with
  | 0=>simpa using q1
  | 1=>simpa using q2
  | i+2=>rw[vm (by omega)];rfl
 refine AR (vs:=[vq vy (c.ch.getD p (0,0)).1,vq vy (c.ch.getD p (0,0)).2]) (λw' hw=>⟨cs,_,_,hw.at_ c1 (by simp),by omega,hch⟩) ?_;have hcr:=h.cr p;have hmm:∀w',Fr [] w2 w'->CF w' A.mem A.mv c.m:=λw' hf=>(h2.keep0 hf).mm;have eT:∀(x:Nat),c.chain ((p:Nat):Int)=c.ch.getD p (0,0):=λ_=>by simp[Ce.chain]
 simp only[eT 0]at hk;generalize hl:c.ch.getD p (0,0)=l at *;obtain⟨tr1,tr2⟩:=Rd (m:=c.m) (p:=(p:Int)) (k:=BS c.ks (p:Int)) (l:=l) hcr;have tr2:=tr2 hcc;have fin:∀w4 x8,Fr [] w2 w4->w2.heap.size<=x8->w4.heap[x8]?=vz (wj (Ez (DN c.m p (BS c.ks p) l).2).cells 241 (0,0))->
   F183.k5 K (vr (vz ⟨A.cel,0,v6⟩)) (vq vy (p:Int)) (vq vy (BS c.ks p)) (vq vy (DN c.m p (BS c.ks p) l).1) (vr (vz ⟨x8,0,v6⟩)) w4:=λw4 x8 hf4 hx8 e8=>by
  have h4:=h2.keep0 hf4;refine F183.k5.to (OX (by omega) tr2 ?_);simp only[zv];have n8:x8≠A.cel:=by have:=BP c1;omega
  refine A8 (λw'=>w'.heap[x8]?=vz (wj (Ez (DN c.m p (BS c.ks p) l).2).cells 241 (0,0))) λw5 hf5 _=>⟨hf5.at_ e8 (by simp),?_⟩;have h5:=h4.keep0 hf5;simp only[];refine AR (vs:=[vq vy (DN c.m p (BS c.ks p) l).2.1,vq vy (DN c.m p (BS c.ks p) l).2.2]) (λw' hw=>⟨_,_,_,hw,by simp[Ez,wc.cells],rfl⟩) ?_;refine AU (by omega) (by omega) ?_;rw[zE]
  refine⟨h5.setCh (l:=(DN c.m p (BS c.ks p) l).2) (by omega) tr1 λw6 hf6 h6=>⟨hf6.at_ (hf5.at_ e8 (by simp)) (by simpa using n8),?_⟩,trivial⟩;obtain⟨ds,d1,d2,d3,d4,d5,d6⟩:=h6.blk;refine Ac (v:=vr (vz ⟨A.tk,0,v6⟩)) d1 d5 (OV h6.tk λw7 hf7 h7b=>?_);have h7:=h6.setTk hf7 h7b;obtain⟨es,e1,e2,e3,e4,e5,e6⟩:=h7.blk
  refine A8 (λw'=>w'.heap[A.cel]?=vz (wj es 244 (0,0))) λw8 hf8 _=>⟨hf8.at_ e1 (by simp),?_⟩;have h8:=h7.keep0 hf8;simp only[];refine Aq (v:=vr (vz ⟨A.mem,0,v6⟩)) (λw' hw=>⟨_,_,_,hw,e4⟩) ⟨DV ⟨hf8.at_ e1 (by simp),?_⟩,trivial⟩;have e18:=hf8.at_ e1 (by simp);refine⟨Ki h8.mm (by omega) λw9 hf9 h9m=>⟨hf9.at_ e18 (h8.mm.own.nb e18 (by decide)),?_⟩,trivial⟩
  have h9:=h8.setMem hf9 h9m (Dm _ _ _ _);refine hk w9 ?_ h9;exact ((((f2.trans hf4).trans hf5).w.trans hf6.cel).trans (hf7.tk.trans hf8.w)).trans hf9.mv
 refine⟨NW (l:=l) (hmm w3 hf3) (by omega) (by omega) λw4 ok hf4=>⟨hf3.trans hf4,?_⟩,⟨?_,trivial⟩⟩
 ·simp only[zv];refine⟨Ay λx8 w5 hn5=>⟨(hf3.trans hf4).trans hn5.fr,AB (x:=Ez (DN c.m p (BS c.ks p) l).2) hn5.at_ rfl Eg rfl λw6 hu6=>⟨?_,?_⟩,trivial⟩,trivial⟩
  ·have:=((hf3.trans hf4).trans hn5.fr).size;have:=hn5.is;have:=(hf3.trans hf4).size;exact ((hf3.trans hf4).trans hn5.fr).then hu6.fr λz hz=>wh (by simp only[yZ]at hz;omega)
  ·have:=hn5.is;have:=(hf3.trans hf4).size;exact fin w6 x8 (((hf3.trans hf4).trans hn5.fr).then hu6.fr λz hz=>wh (by simp only[yZ]at hz;omega)) (by omega) hu6.at_
 ·refine Ay λx8 w4 hn4=>⟨hf3.trans hn4.fr,NW (l:=l) (hmm w4 (hf3.trans hn4.fr)) (by omega) (by omega) λw5 ok hf5=>⟨(hf3.trans hn4.fr).trans hf5,?_⟩,trivial⟩;simp only[zv];have i4:=hn4.is;have s3:=hf3.size;refine⟨AB (x:=Ez (DN c.m p (BS c.ks p) l).2) (hf5.at_ hn4.at_ (by simp)) rfl Eg rfl λw6 hu6=>⟨?_,?_⟩,trivial⟩
  ·exact ((hf3.trans hn4.fr).trans hf5).then hu6.fr λz hz=>wh (by simp only[yZ]at hz;omega)
  ·exact fin w6 x8 (((hf3.trans hn4.fr).trans hf5).then hu6.fr λz hz=>wh (by simp only[yZ]at hz;omega)) (by omega) hu6.at_
def Ue{n:Int}(h:Cw A w c)(hn:n<=64)(hk:∀w',Fr A.S w w'->Cw A w' (c.large n).1->K (match (c.large n).2 with | vz a=>vu #[vq vy a,vw v7] | v6=>vu #[vq vy 0,vw v8]) w'):
  I vp 119 #[vr (vz ⟨A.cel,0,v6⟩),vq vy n] w K:=by
 obtain⟨cs,c1,c2,c3,c4,c5,c6⟩:=h.blk;have hle:=h.pg.le;refine F119.sh (Hx h ?_);simp only[zv];refine F119.k3.to ?_;simp only[zv];unfold Ce.large at hk;refine Ac (v:=vr (vz ⟨A.tab,0,v6⟩)) c1 c3 (VV h.pg hn (λhs w1 hf1=>?_) λp w1 hs hn1 hl hf1 hp1=>?_)
 ·rw[hs]at hk;simp only[zv];exact hk w1 hf1.w (h.keep0 hf1)
 ·rw[hs]at hk;simp only at hk;have h1:=h.setKs hf1 hp1 (by rw[i8,Dw hl]);simp only[zv];have eg:(Gh (p:Int) n).1=(p:Int)*32:=by unfold Gh;rw[vn (by omega)]
  rw[eg]at hk;refine F119.k6.to (Jn (by omega) (by omega) ?_);obtain⟨ds,d1,d2,d3,d4,d5,d6⟩:=h1.blk;simp only[zv];refine Ac (v:=vr (vz ⟨A.tk,0,v6⟩)) d1 d5 (OV h1.tk λw2 hf2 h2b=>?_);have h2:=h1.setTk hf2 h2b;obtain⟨es,e1,e2,e3,e4,e5,e6⟩:=h2.blk;refine Ac (v:=vr (vz ⟨A.mem,0,v6⟩)) e1 e4 ?_;rw[BN (n:=n*32) (by omega)];refine Ki h2.mm (by omega) λw3 hf3 h3m=>?_
  exact hk w3 ((hf1.kv.trans hf2.tk).trans hf3.mv) (h2.setMem hf3 h3m (Dm _ _ _ _))
def Vx{a:Int}(h:Cw A w c)(hk:∀w',Fr A.S w w'->Cw A w' (c.give a).1->K (vw (c.give a).2) w'):
  I vp 338 #[vr (vz ⟨A.cel,0,v6⟩),vq vy a] w K:=by
 obtain⟨cs,c1,c2,c3,c4,c5,c6⟩:=h.blk;have hle:=h.pg.le;refine F338.sh (RY h ?_);unfold Ce.give at hk;cases hi:c.isIt a with
 | false=>
  rw[hi]at hk;simp only[yT,vg]at hk;simp only[zv];exact hk w (Fr.refl _ _) h
 | true=>
  rw[hi]at hk;simp only[vj]at hk;have ha:0<=a/\a<c.n:=by simp[Ce.isIt,EY]at hi;exact hi.1
  have hml:=h.ml;have hmle:=h.mm.le;have han:a<c.m.length:=ha.2;have hpg:Ct a=a / 32:=by unfold Ct;rw[vn (by omega)]
  simp only[zv];refine F338.k3.to ?_;simp only[zv];refine Ac (v:=vr (vz ⟨A.tk,0,v6⟩)) c1 c5 (M2 h.tk λw1 hf1 h1b=>?_);have h1:=h.setTk hf1 h1b;refine FW (GT h1 λw2 hf2=>?_);have h2:=h1.keep0 hf2;obtain⟨ds,d1,d2,d3,d4,d5,d6⟩:=h2.blk;by_cases k5:BS c.ks (Ct a)=5
  ·rw[vn k5]at hk;simp only[zv,vl,k5];refine Ac (v:=vr (vz ⟨A.tab,0,v6⟩)) d1 d3 (Oe h2.pg λw3 hf3 h3p=>?_);exact hk w3 ((hf1.tk.trans hf2.w).trans hf3.kv) (h2.setKs hf3 h3p (LL hle _))
  ·rw[vm k5]at hk;simp only[zv,k5];refine F338.k9.to (TZ ?_);simp only[zv];refine A8 (λ_=>True) λw3 hf3 _=>⟨trivial,?_⟩;have h3:=h2.keep0 hf3;have d13:=hf3.at_ d1 (by simp);have hp0:0<=Ct a/\Ct a<64:=by rw[hpg];omega
   obtain⟨p,hp⟩:=xQ hp0.1;rw[hp]at hk hp0 ⊢;simp only[];refine AU (by omega) (by omega) ?_;rw[zE];have hch:(ds.toList.drop (2+p*2)).take 2=[vq vy (c.ch.getD p (0,0)).1,vq vy (c.ch.getD p (0,0)).2]:=by
    have q1:=(d6 p (by omega)).1;have q2:=(d6 p (by omega)).2;apply zF;intro i;rw[yX,yW]
    match i with
    | 0=>simpa using q1
    | 1=>simpa using q2
    | i+2=>rw[vm (by omega)];rfl
   have eT:c.chain ((p:Nat):Int)=c.ch.getD p (0,0):=by simp[Ce.chain]
   rw[eT]at hk;obtain⟨g1,g2⟩:=Rb (m:=c.m) (p:=(p:Int)) (k:=BS c.ks (p:Int)) (i:=(Gg (BS c.ks (p:Int)) a).1) (l:=c.ch.getD p (0,0))
   have fin:∀w4 ok,Fr (BM A.mv) w3 w4->CF w4 A.mem A.mv (EM c.m p (BS c.ks p) (c.ch.getD p (0,0)) (Gg (BS c.ks (p:Int)) a).1).1->True/\Av 0 (vu #[Ez (EM c.m p (BS c.ks p) (c.ch.getD p (0,0)) (Gg (BS c.ks (p:Int)) a).1).2,vw ok]) w4 λx56_22 w22=>Av 1 (vu #[Ez (EM c.m p (BS c.ks p) (c.ch.getD p (0,0)) (Gg (BS c.ks (p:Int)) a).1).2,vw ok]) w22 λx57_23 w23=>AP 64 2 (vr (vz ⟨A.cel,2,v6⟩)) (vq vy (p:Int)) w23 λx60_24 w24=>(Aj 2 x60_24 x56_22 w24 λw25=>(True/\F338.k11 K w25))/\True:=λw4 ok hf4 hm4=>by
    have h4:=h3.setMem hf4 hm4 g2;refine⟨trivial,?_⟩;simp only[zv];refine AU (by omega) (by omega) ?_;rw[zE];refine⟨h4.setCh (by omega) g1 λw5 hf5 h5=>⟨trivial,F338.k11.to ?_⟩,trivial⟩;exact hk w5 ((hf1.tk.trans (hf2.trans hf3).w).trans (hf4.mv.trans hf5.cel)) h5
   refine⟨Ac (v:=vr (vz ⟨A.mem,0,v6⟩)) d13 d4 ⟨trivial,?_⟩,?_,trivial⟩
   ·exact⟨AY (n:=2) d13 (by omega) hch ⟨trivial,NU (l:=c.ch.getD p (0,0)) h3.mm (by omega) fin,trivial⟩,trivial⟩
   ·exact AY (n:=2) d13 (by omega) hch ⟨trivial,Ac (v:=vr (vz ⟨A.mem,0,v6⟩)) d13 d4 ⟨trivial,NU (l:=c.ch.getD p (0,0)) h3.mm (by omega) fin,trivial⟩,trivial⟩
def NS{p:Int}(h:Cw A w c)(hk:∀w',Fr A.S w w'->Cw A w' (c.drop p).1->K (vw (c.drop p).2) w'):
  I vp 212 #[vr (vz ⟨A.cel,0,v6⟩),vq vy p] w K:=by
 have hle:=h.pg.le;refine F212.sh (OK h λw1 hf1=>?_);have h1:=h.keep0 hf1;unfold Ce.drop at hk;cases hs:c.small p with
 | false=>
  rw[hs]at hk;simp only[yT,false_and,vg]at hk;simp only[zv];exact hk w1 hf1.w h1
 | true=>
  rw[hs]at hk;simp only[true_and]at hk;simp only[zv];refine My h1 λw2 hf2=>GT (h1.keep0 hf2) λw3 hf3=>KS ?_;have h3:=(h1.keep0 hf2).keep0 hf3;have f3:=hf1.trans (hf2.trans hf3);by_cases d:c.left p<BQ (BS c.ks p)
  ·simp only[zv,d];rw[vm (by omega)]at hk;exact hk w3 f3.w h3
  ·simp only[zv,d];rw[vn (by omega)]at hk;refine F212.k3.to ?_;obtain⟨ds,d1,d2,d3,d4,d5,d6⟩:=h3.blk;simp only[zv];refine Ac (v:=vr (vz ⟨A.tab,0,v6⟩)) d1 d3 (Oe h3.pg λw4 hf4 h4p=>?_);exact hk w4 (f3.w.trans hf4.kv) (h3.setKs hf4 h4p (LL hle _))
end
structure GA(w:wd)(b m:Nat)(n:Int)(l:List ((Int × Int) × wc × Nat))(c:Nat):Prop where
 blk:w.heap[b]?=vz (wj #[vq vy n,.map (vz m)] 247 (0,0))
 map:Ev DO w m l c
 int:∀x∈l,∃p:Int,x.2.1=vq vy p
def GA.keep{S:List Nat}{w w':wd}{b m c:Nat}{n:Int}{l:List ((Int × Int) × wc × Nat)}(h:GA w b m n l c)(hf:Fr S w w')(hb:b∉S)(hm:m∉S):GA w' b m n l c:=
 ⟨hf.at_ h.blk hb,h.map.keep hf hm,h.int⟩
def T5:wc->Int
 | vq _ p=>p
 | _ => -1
def EU(l:List ((Int × Int) × wc × Nat))(a:Int × Int):Int:=match ET a l 0 with
 | some (_,v)=>T5 v
 | none => -1
section
variable{K:VK}{w:wd}
def We(n:Int)(m:Nat):(Instr.build 247 #[(0,vq vy n),(1,.map (vz m))]).run vp w=.ok (.agg #[vq vy n,.map (vz m)]) w:=by kernel_rfl
def Pn(t k:Int):(Instr.build 265 #[(0,vq vy t),(1,vq vy k)]).run vp w=.ok (DO (t,k)) w:=by kernel_rfl
def WT{t:Int}(h:∀b m w',Fr [] w w'->w.heap.size<=b->w.heap.size<=m->b≠m->GA w' b m (if t<0 then 0 else if t>9 then 9 else t) [] 0->K (vr (vz ⟨b,0,v6⟩)) w'):I vp 113 #[vq vy t] w K:=by refine F113.sh (Ex ?_);generalize (if t<0 then 0 else if t>9 then 9 else t)=n at h ⊢;refine BG (kv:=DO) λw1 hf1 hm1 hs1=>A7 (We n _) ?_;refine Ay λb w2 hn2=>?_;have hi:=hn2.is;exact h b w.heap.size w2 (hf1.trans hn2.fr) (by have:=hf1.size;omega) (va _) (by omega) ⟨hn2.at_,hm1.keep hn2.fr (by simp),by simp⟩
def Qf{b m c:Nat}{n t k:Int}{l:List ((Int × Int) × wc × Nat)}(hC:GA w b m n l c)(h:K (vq vy (EU l (t,k))) w):I vp 184 #[vr (vz ⟨b,0,v6⟩),vq vy t,vq vy k] w K:=by
 refine F184.sh ⟨_,Cj _ _ _ Tryz.underlying168,?_⟩;simp only[Ae];refine F184.k3.to ?_;simp only[zv];refine Ac (v := .map (vz m)) hC.blk rfl (A7 (Pn t k) ?_);have hx:∀ {j:Nat} {v:wc},ET (t,k) l 0=vz (j,v)->∃p:Int,v=vq vy p:=fun {j v} e=>by
  have hex:∃x∈l,x.1=(t,k):=by apply xF;intro hc;rw[FZ λx hx he=>hc ⟨x,hx,he⟩]at e;cases e
  obtain⟨j',x,h1,_,_,h4⟩:=IQ (i:=0) hex;rw[e]at h4;simp only[zM,uq]at h4;obtain⟨p,hp⟩:=hC.int x (yN h1);exact⟨p,by rw[h4.2,hp]⟩
 cases e:ET (t,k) l 0 with
 | none=>
  refine B8 HP Tryz.underlying245 (z := .int vy 0) (by kernel_rfl) hC.map (t,k) (.inl ⟨e,rfl,rfl⟩) ?_;simp only[zv,vl,vj];refine F184.k6.to ?_;simpa[EU,e] using h
 | some p=>
  obtain⟨j,v⟩:=p;obtain⟨p,rfl⟩:=hx e;refine B8 HP Tryz.underlying245 (z := .int vy 0) (by kernel_rfl) hC.map (t,k) (wh ⟨j,e,rfl⟩) ?_;simp only[zv,vl,vj];simpa[EU,e,T5] using h
end
end
section
open Go.RowKit
open Go.ChangeMaps (setBlock)
def P0(p:Int):wc->Bool
 | vq vy q=>decide (q=p)
 | _=>v8
def JW{p:Int}{v:wc}:P0 p v=v7↔v=vq vy p:=by
 unfold P0;split
 ·simp
 ·rename_i h;simp only[yT,false_iff];exact λe=>h p e
def Dl(l:List ((Int × Int) × wc × Nat))(p:Int):Int × Int:=match l.find? (λx=>P0 p x.2.1) with
 | some x=>x.1
 | none=>(-1,0)
def Hp{l:List ((Int × Int) × wc × Nat)}{p:Int}(h:∀x∈l,x.2.1≠vq vy p):Dl l p=(-1,0):=by unfold Dl;rw[yV.2 λx hx=>λe=>h x hx (JW.1 e)]
def Jb{l:List ((Int × Int) × wc × Nat)}{p:Int}{x:(Int × Int) × wc × Nat}(hx:x∈l)(hp:x.2.1=vq vy p)(hu:∀x∈l,∀y∈l,x.2.1=y.2.1->x=y):Dl l p=x.1:=by
 unfold Dl;cases e:l.find? (λx=>P0 p x.2.1) with
 | none=>exact absurd (JW.2 hp) (yV.1 e x hx)
 | some y=>
  have h1:=List.mem_of_find?_eq_some e;have h2:y.2.1=vq vy p:=JW.1 (by have:=List.find?_some e;exact this);rw[hu x hx y h1 (by rw[hp,h2])]
structure EE(l:List ((Int × Int) × wc × Nat))(c:Nat):Prop where
 born:∀x∈l,x.2.2<c
 once:(l.map λx=>x.2.2).Nodup
 uni:∀x∈l,∀y∈l,x.2.1=y.2.1->x=y
section
variable{K:VK}{w:wd}
def N1{r:Nat}{o o':Obj}(hr:w.heap[r]?=vz o):GB w r o' (setBlock w r o'):=GQ hr o'
def P7{W:wd}{b m c r:Nat}{n p:Int}{l:List ((Int × Int) × wc × Nat)}(hC:GA W b m n l c)(hg:EE l c)(hr0:W.heap.size<=r)(h:∀w',Fr [] W w'->K (vu #[vq vy (Dl l p).1,vq vy (Dl l p).2]) w'):
  ∀(d:Nat) (seen:Array Nat) (w:wd),(leftOf (l.map (ent DO)).toArray seen).size<=d->Fr [] W w->w.heap[r]?=vz (.mapIter (vz m) c seen c)->(∀x∈l,seen.contains x.2.2=v7->x.2.1≠vq vy p)->
   F185.l4 K (vq vy p) (vr (vz ⟨r,0,v6⟩)) w:=by
 have hmW:=BP hC.map;intro d;induction d with
 | zero=>
  intro seen w hd hf hr hs;have hm:=hC.map.keep hf (by simp);rcases run_next_at (P:=vp) w 0 r m c c seen _ c hr hm (λx hx=>by
   simp only[uu]at hx;obtain⟨y,hy,rfl⟩:=hx;exact hg.born y hy) (va _) with⟨h0,hrun⟩ | ⟨e,he,w1,hal,hrun⟩
  ·refine F185.l4.to (A7 hrun ⟨#[vw v8],vw v8,rfl,rfl,?_⟩);simp only[Ae];refine F185.k8.to ?_;have:=h w hf
   rwa [Hp λx hx=>hs x hx (all_seen _ _ h0 _ (uu.2 ⟨x,hx,rfl⟩))]at this
  ·have:=Array.size_pos_of_mem (Array.mem_toList_iff.1 he);omega
 | succ d ih=>
  intro seen w hd hf hr hs;have hm:=hC.map.keep hf (by simp);rcases run_next_at (P:=vp) w 0 r m c c seen _ c hr hm (λx hx=>by
   simp only[uu]at hx;obtain⟨y,hy,rfl⟩:=hx;exact hg.born y hy) (va _) with⟨h0,hrun⟩ | ⟨e,he,w1,hal,hrun⟩
  ·refine F185.l4.to (A7 hrun ⟨#[vw v8],vw v8,rfl,rfl,?_⟩);simp only[Ae];refine F185.k8.to ?_;have:=h w hf
   rwa [Hp λx hx=>hs x hx (all_seen _ _ h0 _ (uu.2 ⟨x,hx,rfl⟩))]at this
  ·have hsh:=left_shrinks _ _ _ he;obtain⟨hem,hes⟩:=mem_left he;obtain⟨x,hx,rfl⟩:=uu.1 hem;have f1:Fr [] w w1/\w1.heap=w.heap:=by
    rcases hal with rfl|rfl
    ·exact⟨Fr.refl _ _,rfl⟩
    ·exact⟨Fr.drew w,rfl⟩
   have hr1:w1.heap[r]?=vz (.mapIter (vz m) c seen c):=by rw[f1.2];exact hr
   have hu:=N1 (o' := .mapIter (vz m) c (seen.push x.2.2) c) hr1;have ff:Fr [] W (setBlock w1 r (.mapIter (vz m) c (seen.push x.2.2) c)):=(hf.trans f1.1).then hu.fr λz hz=>wh (by simp only[yZ]at hz;omega);refine F185.l4.to (A7 hrun ?_);simp only[zv];have hrun2:=run_entry_at (P:=vp) _ r m c seen _ c (ent DO x) hu.at_ (hC.map.keep ff (by simp)) hem (by simpa[ent,Function.comp_def] using hg.once)
   refine F185.k5.to (A7 hrun2 ?_);obtain⟨q,hq⟩:=hC.int x hx;simp only[zv,ent,hq];refine Ay λg w2 hn2=>AB (x:=DO x.1) hn2.at_ rfl (by simp[DO,wc.cells,wc.oneCell']) rfl λw3 hu3=>?_;have i2:=hn2.is;have s2:=ff.size;have f2:Fr [] W w3:=(ff.trans hn2.fr).then hu3.fr λz hz=>wh (by simp only[yZ]at hz;omega);by_cases c1:q=p
   ·subst c1;simp only[zv,vl];refine A8 (λw'=>Fr [] w3 w') λw4 hf4 _=>⟨hf4,?_⟩;refine Aq (v:=vq vy x.1.1) (λw' hw=>⟨_,_,_,hw.at_ hu3.at_ (by simp),rfl⟩) ?_;refine Aq (v:=vq vy x.1.2) (λw' hw=>⟨_,_,_,hw.at_ hu3.at_ (by simp),rfl⟩) ?_;have:=h w4 (f2.trans hf4)
    rwa [Jb hx hq hg.uni]at this
   ·simp only[zv,c1];refine ih (seen.push x.2.2) w3 (by have:(ent DO x).born=x.2.2:=rfl;rw[this]at hsh;omega) f2 ?_ λy hy hc=>?_
    ·refine hu3.fr.at_ (hn2.fr.at_ hu.at_ (by simp)) ?_;have:=BP hu.at_;simp only[yZ];omega
    ·rw[Array.contains_push,Bool.or_eq_true]at hc;rcases hc with hc|hc
     ·exact hs y hy hc
     ·have e2:y.2.2=x.2.2:=by simpa using hc
      intro hyp;have:x=y:=by
       obtain⟨i,hi,rfl⟩:=yS hx;obtain⟨j,hj,rfl⟩:=yS hy;by_cases eij:i=j
       ·subst eij;rfl
       ·rcases Nat.lt_or_gt_of_ne eij with hlt|hlt
        ·have q:=xL.1 hg.once i j (by simpa using hi) (by simpa using hj) hlt;simp only[zV]at q;exact absurd e2.symm q
        ·have q:=xL.1 hg.once j i (by simpa using hj) (by simpa using hi) hlt;simp only[zV]at q;exact absurd e2 q
      subst this;rw[hq]at hyp;simp only[wc.int.injEq,true_and]at hyp;exact c1 hyp
def Od{b m c:Nat}{n p:Int}{l:List ((Int × Int) × wc × Nat)}(hC:GA w b m n l c)(hg:EE l c)(h:∀w',Fr [] w w'->K (vu #[vq vy (Dl l p).1,vq vy (Dl l p).2]) w'):I vp 185 #[vr (vz ⟨b,0,v6⟩),vq vy p] w K:=by refine F185.sh ⟨_,Cj _ _ _ Tryz.underlying168,?_⟩;simp only[Ae];refine F185.k3.to ?_;simp only[zv];refine Ac (v := .map (vz m)) hC.blk rfl (A7 (run_range_map w 245 265 3 m _ c Tryz.underlying245 hC.map) ?_);have hn:=Dz.mk' w (.mapIter (vz m) c #[] c);exact P7 hC hg (va _) h _ #[] _ (va _) hn.fr hn.at_ λx _ hx=>by simp at hx
end
end
section
open Go.RowKit
def setL(l:List ((Int × Int) × wc × Nat))(a:Int × Int)(p:Int)(c:Nat):List ((Int × Int) × wc × Nat) × Nat:=match ET a l 0 with
 | none=>(l++[(a,vq vy p,c)],c+1)
 | some (j,_)=>(l.set j (a,vq vy p,(l[j]?.map λx=>x.2.2).getD 0),c)
def SB{k:Int}:BT k=0↔k<1∨k≥5:=by
 unfold BT;by_cases h1:k=1
 ·simp[h1]
 by_cases h2:k=2
 ·simp[h2]
 by_cases h3:k=3
 ·simp[h3]
 by_cases h4:k=4
 ·simp[h4]
 simp only[h1,h2,h3,h4,vg,true_iff];omega
section
variable{K:VK}{w:wd}
def Pu(x y:Operand)(m:Nat):(do eqGuard .eql 245 x y (.map (vz m)) (.map v6);binOp .eql 245 (.map (vz m)) (.map v6):Sem wc).run vp w=.ok (vw v8) w:=by
 have h:∀d,(Op.equalIn (d+1) 245 (.map (vz m)) (.map v6)).run vp w=.ok v8 w:=λd=>by simp[Op.equalIn,o9 Tryz.underlying245]
 exact Jt (by simp[eqGuard]) rfl (h 9999)
def Xa{b m c:Nat}{n t k p:Int}{l:List ((Int × Int) × wc × Nat)}(hC:GA w b m n l c)(hg:EE l c)(h0:¬(0<=t/\t<n/\BT k≠0/\0<=p/\p<64/\(Dl l p).1<0)->∀w',Fr [] w w'->K (vw v8) w')(h1:(0<=t/\t<n/\BT k≠0/\0<=p/\p<64/\(Dl l p).1<0)->∀w',Fr [m] w w'->GA w' b m n (setL l (t,k) p c).1 (setL l (t,k) p c).2->K (vw v7) w'):
  I vp 124 #[vr (vz ⟨b,0,v6⟩),vq vy t,vq vy k,vq vy p] w K:=by
 have hbm:b≠m:=λe=>by subst e;have h1:=hC.blk;have h2:=hC.map;unfold Ev at h2;rw[h1]at h2;cases h2
 refine F124.sh ⟨_,Cj _ _ _ Tryz.underlying168,?_⟩;simp only[zv];refine Ac (v := .map (vz m)) hC.blk rfl ⟨_,Pu _ _ m,?_⟩;simp only[zv];by_cases c1:t<0
 ·simp only[zv,c1];exact h0 (by omega) w (Fr.refl _ _)
 simp only[zv,c1];refine Ac (v:=vq vy n) hC.blk rfl ?_;by_cases c2:t≥n
 ·simp only[zv,c2];exact h0 (by omega) w (Fr.refl _ _)
 simp only[zv,c2];refine DV ?_;by_cases c3:BT k=0
 ·simp only[zv,vl,c3];exact h0 (λe=>e.2.2.1 c3) w (Fr.refl _ _)
 simp only[zv,c3];by_cases c4:p<0
 ·simp only[zv,c4];exact h0 (by omega) w (Fr.refl _ _)
 simp only[zv,c4];by_cases c5:p≥64
 ·simp only[zv,c5];exact h0 (by omega) w (Fr.refl _ _)
 simp only[zv,c5];refine F124.k3.to (Od hC hg λw1 hf1=>?_);by_cases c6:(Dl l p).1≥0
 ·simp only[zv,c6];exact h0 (by omega) w1 hf1
 simp only[zv,c6];have hC1:=hC.keep hf1 (by simp) (by simp);refine F124.k6.to ?_;simp only[zv];refine Ac (v := .map (vz m)) hC1.blk rfl (A7 (Pn t k) ?_);have hlt:=BP hC.map;have fin:∀w' l' c',setL l (t,k) p c=(l',c')->Fr [m] w1 w'->Ev DO w' m l' c'->(∀x∈l',∃q:Int,x.2.1=vq vy q)->K (vw v7) w':=λw' l' c' e hf hm hi=>by
  refine h1 ⟨by omega,by omega,c3,by omega,by omega,by omega⟩ w' ((hf1.mono (by simp)).trans hf) ?_;rw[e];exact⟨hf.at_ hC1.blk (by simpa using hbm),hm,hi⟩
 cases e:ET (t,k) l 0 with
 | none=>
  refine BI HP Tryz.underlying245 hC1.map (t,k) (.int vy p) e λw' hf hs hm=>fin w' _ _ (by simp[setL,e]) hf hm λx hx=>?_;rcases j4.1 hx with hx|hx
  ·exact hC.int x hx
  ·rw[yZ.1 hx];exact⟨p,rfl⟩
 | some jv=>
  obtain⟨j,v⟩:=jv;have hex:∃x∈l,x.1=(t,k):=by apply xF;intro hc;rw[FZ λx hx he=>hc ⟨x,hx,he⟩]at e;cases e
  obtain⟨j',x,g1,g2,_,g4⟩:=IQ (i:=0) hex;rw[uy]at g4;have ej:j=j':=by rw[e]at g4;simp only[zM,uq]at g4;exact g4.1
  subst ej;refine BB HP Tryz.underlying245 hC1.map (t,k) (.int vy p) g1 g2 g4 λw' hf hs hm=>fin w' _ _ (by simp[setL,e,g1]) hf hm λy hy=>?_;rcases xK hy with hy|hy
  ·exact hC.int y hy
  ·rw[hy];exact⟨p,rfl⟩
end
def SN:EE [] 0:=⟨by simp,by simp,by simp⟩
def SO{l:List ((Int × Int) × wc × Nat)}{c:Nat}{a:Int × Int}{p:Int}(hg:EE l c)(hp:∀x∈l,x.2.1≠vq vy p):EE (setL l a p c).1 (setL l a p c).2:=by
 unfold setL;cases e:ET a l 0 with
 | none=>
  refine⟨λx hx=>?_,?_,λx hx y hy he=>?_⟩
  ·rcases j4.1 hx with hx|hx
   ·have:=hg.born x hx;simp only;omega
   ·rw[yZ.1 hx];simp
  ·simp only[i9,q9,ut];rw[zK];refine⟨hg.once,by simp,λx hx y hy=>?_⟩;obtain⟨z,hz,rfl⟩:=uu.1 hx;have:=hg.born z hz;rw[yZ.1 hy];omega
  ·rcases j4.1 hx with hx|hx<;>rcases j4.1 hy with hy|hy
   ·exact hg.uni x hx y hy he
   ·rw[yZ.1 hy]at he;exact absurd he (hp x hx)
   ·rw[yZ.1 hx]at he;exact absurd he.symm (hp y hy)
   ·rw[yZ.1 hx,yZ.1 hy]
 | some jv=>
  obtain⟨j,v⟩:=jv;have hex:∃x∈l,x.1=a:=by apply xF;intro hc;rw[FZ λx hx he=>hc ⟨x,hx,he⟩]at e;cases e
  obtain⟨j',x0,g1,g2,_,g4⟩:=IQ (i:=0) hex;rw[uy,e]at g4;simp only[zM,uq]at g4;obtain⟨rfl,_⟩:=g4;have hjl:j<l.length:=(xI.1 g1).1;have hxj:l[j]=x0:=(xI.1 g1).2;simp only[g1,j8,d8];refine⟨λx hx=>?_,?_,λx hx y hy he=>?_⟩
  ·rcases xK hx with hx|hx
   ·exact hg.born x hx
   ·rw[hx];exact hg.born x0 (yN g1)
  ·rw[u6];have:(l.map λx=>x.2.2).set j x0.2.2=l.map λx=>x.2.2:=by
    apply List.ext_getElem
    ·simp
    ·intro i h1 h2;rw[zX];split
     ·rename_i e;subst e;simp[hxj]
     ·rfl
   rw[this];exact hg.once
  ·rcases xK hx with hx|hx<;>rcases xK hy with hy|hy
   ·exact hg.uni x hx y hy he
   ·rw[hy]at he;exact absurd he (hp x hx)
   ·rw[hx]at he;exact absurd he.symm (hp y hy)
   ·rw[hx,hy]
abbrev DJ:=List ((Int × Int) × wc × Nat)
structure DU(n:Int)(l:DJ):Prop where
 ks:∀x∈l,0<=x.1.1/\x.1.1<n/\1<=x.1.2/\x.1.2<5/\∃p:Int,x.2.1=vq vy p/\0<=p/\p<64
 kn:(l.map λx=>x.1).Nodup
def On(l:DJ)(a:Int × Int)(p:Int):Prop:=∃x∈l,x.1=a/\x.2.1=vq vy p
def Ig(a:Int × Int)(l:DJ):(ET a l 0=v6/\∀x∈l,x.1≠a)∨∃j x,l[j]?=vz x/\x.1=a/\ET a l 0=vz (j,x.2.1):=by
 by_cases h:∃x∈l,x.1=a
 ·obtain⟨j,x,h1,h2,_,h4⟩:=IQ (i:=0) h;rw[uy]at h4;exact wh ⟨j,x,h1,h2,h4⟩
 ·have h':∀x∈l,x.1≠a:=λx hx e=>h ⟨x,hx,e⟩;exact .inl ⟨FZ h',h'⟩
def Lj{l:DJ}(h:(l.map λx=>x.1).Nodup){i j:Nat}{x y:(Int × Int) × wc × Nat}(hi:l[i]?=vz x)(hj:l[j]?=vz y)(e:x.1=y.1):i=j:=by
 obtain⟨i1,i2⟩:=xI.1 hi;obtain⟨j1,j2⟩:=xI.1 hj;apply xF;intro hne;have hp:=xL.1 (List.nodup_iff_pairwise_ne.1 h);rcases Nat.lt_or_gt_of_ne hne with c|c
 ·have:=hp i j (by simpa using i1) (by simpa using j1) c;simp only[zV,i2,j2]at this;exact this e
 ·have:=hp j i (by simpa using j1) (by simpa using i1) c;simp only[zV,i2,j2]at this;exact this e.symm
def UO{l:DJ}(h:(l.map λx=>x.1).Nodup){x y:(Int × Int) × wc × Nat}(hx:x∈l)(hy:y∈l)(e:x.1=y.1):x=y:=by obtain⟨i,hi⟩:=yG.1 hx;obtain⟨j,hj⟩:=yG.1 hy;have:=Lj h hi hj e;subst this;rw[hi]at hj;exact j9 hj
def On.one{n:Int}{l:DJ}(hk:DU n l){a:Int × Int}{p q:Int}(h1:On l a p)(h2:On l a q):p=q:=by obtain⟨x,a1,a2,a3⟩:=h1;obtain⟨y,b1,b2,b3⟩:=h2;have:=UO hk.kn a1 b1 (a2.trans b2.symm);subst this;rw[a3]at b3;simpa using b3
def On.whose{c:Nat}{l:DJ}(hg:EE l c){a b:Int × Int}{p:Int}(h1:On l a p)(h2:On l b p):a=b:=by obtain⟨x,a1,a2,a3⟩:=h1;obtain⟨y,b1,b2,b3⟩:=h2;have:=hg.uni x a1 y b1 (a3.trans b3.symm);subst this;exact a2.symm.trans b2
def On.in{n:Int}{l:DJ}(hk:DU n l){a:Int × Int}{p:Int}(h:On l a p):0<=a.1/\a.1<n/\1<=a.2/\a.2<5/\0<=p/\p<64:=by obtain⟨x,a1,rfl,a3⟩:=h;obtain⟨h1,h2,h3,h4,q,h5,h6,h7⟩:=hk.ks x a1;rw[a3]at h5;simp only[wc.int.injEq,true_and]at h5;subst h5;exact⟨h1,h2,h3,h4,h6,h7⟩
def US{n:Int}{l:DJ}(hk:DU n l){a:Int × Int}(h:∀p,¬On l a p):∀x∈l,x.1≠a:=λx hx e=>by
 obtain⟨_,_,_,_,q,h5,_⟩:=hk.ks x hx;exact h q ⟨x,hx,e,h5⟩
def UU{n:Int}{l:DJ}(hk:DU n l){a:Int × Int}{p:Int}(h:On l a p):EU l a=p:=by
 unfold EU;rcases Ig a l with⟨h1,h2⟩|⟨j,x,h1,h2,h3⟩
 ·obtain⟨x,a1,a2,_⟩:=h;exact absurd a2 (h2 x a1)
 ·rw[h3];obtain⟨_,_,_,_,q,h5,_⟩:=hk.ks x (yN h1);have:=On.one hk h ⟨x,yN h1,h2,h5⟩;simp[h5,T5,this]
def Tk{n:Int}{l:DJ}(hk:DU n l){a:Int × Int}(h:∀p,¬On l a p):EU l a = -1:=by unfold EU;rw[FZ (US hk h)]
def OD{n:Int}{l:DJ}(hk:DU n l)(a:Int × Int):(0<=EU l a/\On l a (EU l a))∨(EU l a = -1/\∀p,¬On l a p):=by
 by_cases h:∃p,On l a p
 ·obtain⟨p,h⟩:=h;rw[UU hk h];exact .inl ⟨(h.in hk).2.2.2.2.1,h⟩
 ·have h':∀p,¬On l a p:=λp hp=>h ⟨p,hp⟩;exact wh ⟨Tk hk h',h'⟩
def Nk{c:Nat}{l:DJ}(hg:EE l c){a:Int × Int}{p:Int}(h:On l a p):Dl l p=a:=by obtain⟨x,a1,a2,a3⟩:=h;rw[Jb a1 a3 hg.uni,a2]
def Rx{l:DJ}{p:Int}(h:∀a,¬On l a p):Dl l p=(-1,0):=Hp λx hx e=>h x.1 ⟨x,hx,rfl,e⟩
def Nj{n:Int}{c:Nat}{l:DJ}(hg:EE l c)(hk:DU n l)(p:Int):(0<=(Dl l p).1/\On l (Dl l p) p)∨(Dl l p=(-1,0)/\∀a,¬On l a p):=by
 by_cases h:∃a,On l a p
 ·obtain⟨a,h⟩:=h;rw[Nk hg h];exact .inl ⟨(h.in hk).1,h⟩
 ·have h':∀a,¬On l a p:=λp hp=>h ⟨p,hp⟩;exact wh ⟨Rx h',h'⟩
def W6{n:Int}{l:DJ}(hk:DU n l){a:Int × Int}{p:Int}{c:Nat}(b:Int × Int)(q:Int):On (setL l a p c).1 b q↔(b=a/\q=p)∨(b≠a/\On l b q):=by
 unfold setL;rcases Ig a l with⟨h1,h2⟩|⟨j,x,h1,h2,h3⟩
 ·rw[h1];constructor
  ·rintro⟨x,a1,a2,a3⟩;rcases j4.1 a1 with d|d
   ·exact wh ⟨a2 ▸ h2 x d,x,d,a2,a3⟩
   ·rw[yZ.1 d]at a2 a3;simp only[wc.int.injEq,true_and]at a3;exact .inl ⟨a2.symm,a3.symm⟩
  ·rintro (⟨rfl,rfl⟩|⟨_,x,d,a2,a3⟩)
   ·exact⟨_,j4.2 (wh (yZ.2 rfl)),rfl,rfl⟩
   ·exact⟨x,j4.2 (.inl d),a2,a3⟩
 ·rw[h3];simp only[h1,j8,d8];have hjl:j<l.length:=(xI.1 h1).1;constructor
  ·rintro⟨y,a1,a2,a3⟩;obtain⟨i,hi⟩:=yG.1 a1;by_cases e:i=j
   ·subst e;rw[List.getElem?_set_self hjl]at hi;have:=j9 hi;subst this;simp only[wc.int.injEq,true_and]at a3;exact .inl ⟨a2.symm,a3.symm⟩
   ·rw[List.getElem?_set_ne (vk e)]at hi;exact wh ⟨λd=>e (Lj hk.kn hi h1 (by rw[a2,d,h2])),y,yN hi,a2,a3⟩
  ·rintro (⟨rfl,rfl⟩|⟨hb,y,d,a2,a3⟩)
   ·exact⟨_,yG.2 ⟨j,List.getElem?_set_self hjl⟩,rfl,rfl⟩
   ·obtain⟨i,hi⟩:=yG.1 d;by_cases e:i=j
    ·subst e;rw[h1]at hi;have:=j9 hi;subst this;exact absurd (a2.symm.trans h2) hb
    ·exact⟨y,yG.2 ⟨i,by rw[List.getElem?_set_ne (vk e)];exact hi⟩,a2,a3⟩
def SV{n t k p:Int}{l:DJ}(hk:DU n l){c:Nat}(h1:0<=t)(h2:t<n)(h3:1<=k)(h4:k<5)(h5:0<=p)(h6:p<64):DU n (setL l (t,k) p c).1:=by
 unfold setL;rcases Ig (t,k) l with⟨g1,g2⟩|⟨j,x,g1,g2,g3⟩
 ·rw[g1];refine⟨λx hx=>?_,?_⟩
  ·rcases j4.1 hx with d|d
   ·exact hk.ks x d
   ·rw[yZ.1 d];exact⟨h1,h2,h3,h4,p,rfl,h5,h6⟩
  ·simp only[i9,q9,ut];rw[zK];refine⟨hk.kn,by simp,λx hx y hy=>?_⟩;obtain⟨z,hz,rfl⟩:=uu.1 hx;rw[yZ.1 hy];exact g2 z hz
 ·rw[g3];simp only[g1,j8,d8];refine⟨λx hx=>?_,?_⟩
  ·rcases xK hx with d|d
   ·exact hk.ks x d
   ·rw[d];exact⟨h1,h2,h3,h4,p,rfl,h5,h6⟩
  ·rw[u6];have:(l.map λx=>x.1).set j (t,k)=l.map λx=>x.1:=by
    obtain⟨e1,e2⟩:=xI.1 g1;apply List.ext_getElem
    ·simp
    ·intro i h1 h2;rw[zX];split
     ·rename_i e;subst e;simp[e2,g2]
     ·rfl
   rw[this];exact hk.kn
def JS(l:DJ)(a:Int × Int):DJ:=match ET a l 0 with
 | some (j,_)=>l.eraseIdx j
 | none=>l
def O2(l:DJ)(a:Int × Int):List.Sublist (JS l a) l:=by
 unfold JS;split
 ·exact List.eraseIdx_sublist _ _
 ·exact List.Sublist.refl _
def EE.sub{l l':DJ}{c:Nat}(hg:EE l c)(h:List.Sublist l' l):EE l' c:=
 ⟨λx hx=>hg.born x (h.subset hx),(h.map _).nodup hg.once,λx hx y hy=>hg.uni x (h.subset hx) y (h.subset hy)⟩
def DU.sub{n:Int}{l l':DJ}(hk:DU n l)(h:List.Sublist l' l):DU n l':=
 ⟨λx hx=>hk.ks x (h.subset hx),(h.map _).nodup hk.kn⟩
def W5{n:Int}{l:DJ}(hk:DU n l){a:Int × Int}(b:Int × Int)(q:Int):On (JS l a) b q↔b≠a/\On l b q:=by
 unfold JS;rcases Ig a l with⟨h1,h2⟩|⟨j,x,h1,h2,h3⟩
 ·rw[h1];constructor
  ·rintro⟨x,a1,a2,a3⟩;exact⟨a2 ▸ h2 x a1,x,a1,a2,a3⟩
  ·exact λh=>h.2
 ·rw[h3];simp only;constructor
  ·rintro⟨y,a1,a2,a3⟩;obtain⟨i,hi,e⟩:=List.mem_eraseIdx_iff_getElem?.1 a1;exact⟨λd=>hi (Lj hk.kn e h1 (by rw[a2,d,h2])),y,yN e,a2,a3⟩
  ·rintro⟨hb,y,d,a2,a3⟩;obtain⟨i,hi⟩:=yG.1 d;refine⟨y,List.mem_eraseIdx_iff_getElem?.2 ⟨i,λe=>?_,hi⟩,a2,a3⟩;subst e;rw[h1]at hi;have:=j9 hi;subst this;exact hb (a2.symm.trans h2)
theorem IY:∀(n:Nat) (l:List Int),l.Nodup->(∀x∈l,0<=x/\x<(n:Int))->l.length<=n
 | 0,l,_,h=>by
  cases l with
  | nil=>simp
  | cons x l=>have:=h x (by simp);omega
 | n+1,l,hd,h=>by
  by_cases hn:(n:Int)∈l
  ·have ih:=IY n (l.erase n) (hd.erase _) λx hx=>by
    have h1:=h x (List.mem_of_mem_erase hx);have h2:x≠n:=λe=>by subst e;exact absurd hx hd.not_mem_erase
    omega
   have:=List.length_erase_of_mem hn;omega
  ·have ih:=IY n l hd λx hx=>by
    have h1:=h x hx;have h2:x≠n:=λe=>by subst e;exact hn hx
    omega
   omega
structure Fo(n t:Int)(l:DJ)(c:Nat)(k:Int)(l':DJ)(out:List Int):Prop where
 good0:EE l c
 good:EE l' c
 kept:DU n l'
 on:∀b q,On l' b q↔On l b q/\¬(b.1=t/\b.2<k)
 mem:∀q,q∈out↔∃j,j<k/\On l (t,j) q
 nd:out.Nodup
 len:(out.length:Int)<k
section
variable{n t k:Int}{l l':DJ}{c:Nat}{out:List Int}
def Fo.start(hg:EE l c)(hk:DU n l):Fo n t l c 1 l []:=by
 refine⟨hg,hg,hk,λb q=>⟨λh=>⟨h,λe=>?_⟩,λh=>h.1⟩,λq=>⟨λh=>(by cases h),?_⟩,by simp,by simp⟩
 ·have:=h.in hk;omega
 ·rintro⟨j,hj,h⟩;have:=h.in hk;simp only at this;omega
def Fo.take{p:Int}(h:Fo n t l c k l' out)(hp:On l' (t,k) p):Fo n t l c (k+1) (JS l' (t,k)) (out++[p]):=by
 have hs:=O2 l' (t,k);have h0:=(h.on _ _).1 hp;refine⟨h.good0,h.good.sub hs,h.kept.sub hs,λb q=>?_,λq=>?_,?_,?_⟩
 ·rw[W5 h.kept,h.on];constructor
  ·rintro⟨h1,h2,h3⟩;refine⟨h2,λe=>?_⟩;by_cases e2:b.2=k
   ·exact h1 (Prod.ext e.1 e2)
   ·exact h3 ⟨e.1,by omega⟩
  ·rintro⟨h2,h3⟩;refine⟨λe=>?_,h2,λe=>h3 ⟨e.1,by omega⟩⟩;subst e;exact h3 ⟨rfl,by simp only;omega⟩
 ·rw[j4,h.mem,yZ];constructor
  ·rintro (⟨j,hj,hq⟩|rfl)
   ·exact⟨j,by omega,hq⟩
   ·exact⟨k,by omega,h0.1⟩
  ·rintro⟨j,hj,hq⟩;by_cases e:j=k
   ·subst e;exact wh (On.one h.kept ((h.on _ _).2 ⟨hq,λd=>h0.2 ⟨rfl,d.2⟩⟩) hp)
   ·exact .inl ⟨j,by omega,hq⟩
 ·rw[zK];refine⟨h.nd,by simp,λx hx y hy=>?_⟩;rw[yZ.1 hy];rintro rfl;obtain⟨j,hj,hq⟩:=(h.mem _).1 hx;have:=On.whose h.good0 hq h0.1;simp only[uq,true_and]at this;omega
 ·have:=h.len;simp only[yY,zY,i7];omega
def Fo.skip(h:Fo n t l c k l' out)(hp:∀p,¬On l' (t,k) p):Fo n t l c (k+1) l' out:=by
 have hno:∀p,¬On l (t,k) p:=λp hq=>hp p ((h.on _ _).2 ⟨hq,λd=>by have:=d.2;simp only at this;omega⟩);refine⟨h.good0,h.good,h.kept,λb q=>?_,λq=>?_,h.nd,by have:=h.len;omega⟩
 ·rw[h.on];constructor
  ·rintro⟨h2,h3⟩;refine⟨h2,λe=>?_⟩;by_cases e2:b.2=k
   ·have:b=(t,k):=Prod.ext e.1 e2;subst this;exact hno q h2
   ·exact h3 ⟨e.1,by omega⟩
  ·rintro⟨h2,h3⟩;exact⟨h2,λe=>h3 ⟨e.1,by omega⟩⟩
 ·rw[h.mem];constructor
  ·rintro⟨j,hj,hq⟩;exact⟨j,by omega,hq⟩
  ·rintro⟨j,hj,hq⟩;by_cases e:j=k
   ·subst e;exact absurd hq (hno q)
   ·exact⟨j,by omega,hq⟩
def Fo.fin(hk:DU n l)(h:Fo n t l c 5 l' out):(∀b q,On l' b q↔On l b q/\b.1≠t)/\∀q,q∈out↔∃j,On l (t,j) q:=by
 refine⟨λb q=>?_,λq=>?_⟩
 ·rw[h.on];refine⟨λ⟨a,b⟩=>⟨a,λe=>b ⟨e,(a.in hk).2.2.2.1⟩⟩,λ⟨a,b⟩=>⟨a,λe=>b e.1⟩⟩
 ·rw[h.mem];exact⟨λ⟨j,_,a⟩=>⟨j,a⟩,λ⟨j,a⟩=>⟨j,(a.in hk).2.2.2.1,a⟩⟩
end
end
section
open Go.Shelf
def RC:Go.Shelf.Ren:=⟨fun | 5=>262 | 8=>94 | 7=>294 | 19=>140 | 20=>141 | 10=>310 | 11=>311 | 12=>312 | 13=>313 | 14=>314 | 15=>315 | 16=>316 | 17=>317 | 18=>318 | 30=>330 | 31=>204 | 32=>205 | 33=>331 | 34=>332 | 35=>333 | 40=>340 | n=>n,fun | 23=>54 | 25=>3 | 3=>3 | 32=>157 | 22=>54 | 0=>0 | 44=>208 | 46=>210 | 4=>4 | 36=>201 | 35=>200 | 41=>68 | 5=>5 | 9=>9 | 53=>275 | 57=>109 | 63=>306 | 64=>262 | n=>n,λn=>n⟩
def TL:SlLaysM.n5 vp RC:={
 mixed:=by kernel_rfl,
 f5:=⟨f262.name,by decide,func262.trans (vh vz (by kernel_rfl))⟩,
 f7:=⟨f294.name,by decide,func294.trans (vh vz (by kernel_rfl))⟩,
 f8:=func94.trans (vh vz (by kernel_rfl)),
 f10:=⟨f310.name,by decide,func310.trans (vh vz (by kernel_rfl))⟩,
 f11:=⟨f311.name,by decide,func311.trans (vh vz (by kernel_rfl))⟩,
 f12:=⟨f312.name,by decide,func312.trans (vh vz (by kernel_rfl))⟩,
 f13:=⟨f313.name,by decide,func313.trans (vh vz (by kernel_rfl))⟩,
 f14:=⟨f314.name,by decide,func314.trans (vh vz (by kernel_rfl))⟩,
 f15:=⟨f315.name,by decide,func315.trans (vh vz (by kernel_rfl))⟩,
 f16:=⟨f316.name,by decide,func316.trans (vh vz (by kernel_rfl))⟩,
 f17:=⟨f317.name,by decide,func317.trans (vh vz (by kernel_rfl))⟩,
 f18:=⟨f318.name,by decide,func318.trans (vh vz (by kernel_rfl))⟩,
 f19:=func140.trans (vh vz (by kernel_rfl)),
 f20:=func141.trans (vh vz (by kernel_rfl)),
 f30:=⟨f330.name,by decide,func330.trans (vh vz (by kernel_rfl))⟩,
 f31:=func204.trans (vh vz (by kernel_rfl)),
 f32:=func205.trans (vh vz (by kernel_rfl)),
 f33:=⟨f331.name,by decide,func331.trans (vh vz (by kernel_rfl))⟩,
 f34:=⟨f332.name,by decide,func332.trans (vh vz (by kernel_rfl))⟩,
 f35:=⟨f333.name,by decide,func333.trans (vh vz (by kernel_rfl))⟩,
 f40:=⟨f340.name,by decide,func340.trans (vh vz (by kernel_rfl))⟩,
 t0:=Tryz.underlying0,
 a0:=Tryz.isAgg0,
 z0:=Tryz.sizeOf0,
 v0:=Tryz.zeroValue0,
 t3:=Tryz.underlying3,
 a3:=Tryz.isAgg3,
 z3:=Tryz.sizeOf3,
 v3:=Tryz.zeroValue3,
 t4:=Tryz.underlying4,
 a4:=Tryz.isAgg4,
 z4:=Tryz.sizeOf4,
 v4:=Tryz.zeroValue4,
 t5:=Tryz.underlying5,
 a5:=Tryz.isAgg5,
 z5:=Tryz.sizeOf5,
 v5:=Tryz.zeroValue5,
 t9:=Tryz.underlying9,
 a9:=Tryz.isAgg9,
 z9:=Tryz.sizeOf9,
 v9:=Tryz.zeroValue9,
 t22:=Tryz.underlying54,
 a22:=Tryz.isAgg54,
 z22:=Tryz.sizeOf54,
 v22:=Tryz.zeroValue54,
 t23:=Tryz.underlying54,
 a23:=Tryz.isAgg54,
 z23:=Tryz.sizeOf54,
 v23:=Tryz.zeroValue54,
 t25:=Tryz.underlying3,
 a25:=Tryz.isAgg3,
 z25:=Tryz.sizeOf3,
 v25:=Tryz.zeroValue3,
 t32:=Tryz.underlying157,
 a32:=Tryz.isAgg157,
 z32:=Tryz.sizeOf157,
 v32:=Tryz.zeroValue157,
 t35:=Tryz.underlying200,
 a35:=Tryz.isAgg200,
 z35:=Tryz.sizeOf200,
 v35:=Tryz.zeroValue200,
 t36:=Tryz.underlying201,
 a36:=Tryz.isAgg201,
 z36:=Tryz.sizeOf201,
 v36:=Tryz.zeroValue201,
 t41:=Tryz.underlying68,
 a41:=Tryz.isAgg68,
 z41:=Tryz.sizeOf68,
 v41:=Tryz.zeroValue68,
 t44:=Tryz.underlying208,
 a44:=Tryz.isAgg208,
 z44:=Tryz.sizeOf208,
 v44:=Tryz.zeroValue208,
 t46:=Tryz.underlying210,
 a46:=Tryz.isAgg210,
 z46:=Tryz.sizeOf210,
 v46:=Tryz.zeroValue210,
 t53:=Tryz.underlying275,
 a53:=Tryz.isAgg275,
 z53:=Tryz.sizeOf275,
 v53:=Tryz.zeroValue275,
 t57:=Tryz.underlying109,
 a57:=Tryz.isAgg109,
 z57:=Tryz.sizeOf109,
 v57:=Tryz.zeroValue109,
 t63:=Tryz.underlying306,
 a63:=Tryz.isAgg306,
 z63:=Tryz.sizeOf306,
 v63:=Tryz.zeroValue306,
 t64:=Tryz.underlying262,
 a64:=Tryz.isAgg262,
 z64:=Tryz.sizeOf262,
 v64:=Tryz.zeroValue262 }
end
section
open Go.RowKit
def Hu(l:List Int):List Int:=l.mergeSort λx y=>decide (x<=y)
def Iz(l:List Int):(Hu l).Perm l:=List.mergeSort_perm l _
def OL(l:List Int):(Hu l).length=l.length:=(Iz l).length_eq
def WG(l:List Int):(Hu l).Pairwise (· <= ·):=by have:=List.pairwise_mergeSort (le:=λ(x y:Int)=>decide (x<=y)) (λa b c h1 h2=>by simp at *;omega) (λa b=>by simp;omega) l;exact this.imp λh=>by simpa using h
def RD{l:List Int}(h:l.Nodup):(Hu l).Pairwise (· < ·):=by have h1:=WG l;have h2:(Hu l).Nodup:=(Iz l).nodup_iff.2 h;exact (h1.and h2).imp λ⟨a,b⟩=>by omega
def WF{l k:List Int}(hk:k.Pairwise (· < ·))(hp:k.Perm l):Hu l=k:=by
 have hl:l.Nodup:=hp.nodup_iff.1 (hk.imp λh=>by omega);have h1:=RD hl;have hm:∀x,x∈Hu l↔x∈k:=λx=>(Iz l).mem_iff.trans hp.mem_iff.symm;generalize Hu l=s at h1 hm;clear hp hl;induction s generalizing k with
 | nil=>
  cases k with
  | nil=>rfl
  | cons y k=>have:=(hm y).2 (by simp);cases this
 | cons x s ih=>
  cases k with
  | nil=>have:=(hm x).1 (by simp);cases this
  | cons y k=>
   obtain⟨a1,a2⟩:=zC.1 h1;obtain⟨b1,b2⟩:=zC.1 hk;have e:x=y:=by
    rcases un.1 ((hm x).1 (by simp))with c|c
    ·exact c
    ·rcases un.1 ((hm y).2 (by simp))with d|d
     ·exact d.symm
     ·have:=b1 x c;have:=a1 y d;omega
   subst e;refine vh (x::·) (ih b2 a2 λz=>?_);constructor
   ·intro hz;rcases un.1 ((hm z).1 (by simp[hz]))with c|c
    ·subst c;have:=a1 z hz;omega
    ·exact c
   ·intro hz;rcases un.1 ((hm z).2 (by simp[hz]))with c|c
    ·subst c;have:=b1 z hz;omega
    ·exact c
def GK(l:List Int):(Ca l).flatten=l.map (wc.int vy):=by
 induction l with
 | nil=>rfl
 | cons x l ih=>simp only[Ca,q9,zG,List.cons_append,j5] at *;rw[ih]
def IS{l:List Int}:∀y∈Ca l,∀u∈y,u.oneCell'=v7:=by intro y hy u hu;simp only[Ca,uu]at hy;obtain⟨x,_,rfl⟩:=hy;simp only[un,b8,vi]at hu;subst hu;rfl
section
variable{K:VK}{w:wd}
def U0{v:wc}{l:List Int}(ho:BO w v 3 1 (Ca l))(hl:l.length<=4000000000000000)(h:∀w',Fr (BM v) w w'->BO w' v 3 1 (Ca (Hu l))->K (vu #[]) w'):I vp 262 #[v] w K:=by
 obtain⟨⟨h1,h2⟩,h3⟩:=ho;rw[Cm]at h1 h2;rcases h2 with⟨rfl,h2⟩|⟨g,cap,cur,rfl,hb,hg,h4,h5,h6,h7⟩
 ·have e:l=[]:=wW h2;subst e;refine (AnyM.slices_Sort_int_none TL v6 0 w).mono ?_;rintro e w' ⟨rfl,rfl⟩;exact⟨_,rfl,h w' (Fr.refl _ _) (by
   have:Hu []=[]:=by simp[Hu]
   rw[this];exact BO.nil _ _ _)⟩
 ·rw[GK,vb]at h7;have hH:=holds_of_blockI hg h7;refine (AnyM.slices_Sort_int TL g 0 cap l w hH (BP hg) (by omega)).mono ?_;rintro e w' ⟨rfl,n,os,rfl⟩;refine⟨_,rfl,h _ (I6 (v := .slice (vz ⟨g,0,v6⟩) l.length cap) (grownBy_sortedI _)) ?_⟩;have hr:=ownsRow_sortedI (n:=n) (os:=os) (base:=0) (ts:=Hu l) (OL l) (Nat.zero_le _) hg h4 h5 h6;refine⟨?_,λx hx=>⟨?_,IS x hx⟩⟩
  ·rw[Cm,GK,OL];exact hr
  ·simp only[Ca,uu]at hx;obtain⟨y,_,rfl⟩:=hx;rfl
end
section
variable{K:VK}{w:wd}
def GA.mb{b m c:Nat}{n:Int}{l:DJ}(h:GA w b m n l c):b≠m:=λe=>by
 subst e;have h1:=h.blk;have h2:=h.map;unfold Ev at h2;rw[h1]at h2;cases h2
def QR{W:wd}{b m c:Nat}{n t:Int}{l:DJ}(hm0:m<W.heap.size)(hb0:b<W.heap.size)(h:∀v w' l' out,Fr [m] W w'->GA w' b m n l' c->Fo n t l c 5 l' out->Cc W v->BO w' v 3 1 (Ca (Hu out))->K v w'):
  ∀(d:Nat) (k:Int) (w:wd) (v:wc) (l':DJ) (out:List Int),k+d=5->1<=k->Fr [m] W w->GA w b m n l' c->Fo n t l c k l' out->Cc W v->BO w v 3 1 (Ca out)->
   F211.l5 K (vr (vz ⟨b,0,v6⟩)) (vq vy t) v (vq vy k) w:=by
 intro d;induction d with
 | zero=>
  intro k w v l' out hk hk1 hf hC hD hn ho;have e:k=5:=by omega
  subst e;have hlen:=hD.len;refine F211.l5.to (DV ?_);simp only[zv,show BT 5=0 by decide,show ¬((0:Int)>0) by omega];refine F211.k11.to (U0 ho (by omega) λw1 hf1 ho1=>?_);have hb:b∉BM v:=λhg=>by have:=hn.blk b hg;omega
  have hm:m∉BM v:=λhg=>by have:=hn.blk m hg;omega
  exact h v w1 l' out (hf.then hf1 λz hz=>wh (hn.blk z hz)) (hC.keep hf1 hb hm) hD hn ho1
 | succ d ih=>
  intro k w v l' out hk hk1 hf hC hD hn ho;have k5:k<5:=by omega
  have hlen:=hD.len;refine F211.l5.to (DV ?_);simp only[zv,O1 hk1 k5];refine F211.k7.to (Qf hC ?_);rcases OD hD.kept (t,k) with⟨p0,pon⟩|⟨pm,pno⟩
  ·simp only[zv,p0];generalize EU l' (t,k)=p at *;refine B3 ho (by omega) λv1 w1 ho1 hf1 hg1=>?_;have hb:b∉BM v:=λhg=>by have:=hn.blk b hg;omega
   have hm:m∉BM v:=λhg=>by have:=hn.blk m hg;omega
   have hC1:=hC.keep hf1 hb hm;have hn1:Cc W v1:=Ln hn hf.size hg1;refine Ac (v := .map (vz m)) hC1.blk rfl (A7 (Pn t k) ?_);refine BF HP Tryz.underlying245 hC1.map (t,k) (l':=JS l' (t,k)) rfl λw2 hf2 _ hm2=>?_;have hm1:m∉BM v1:=λhg=>by have:=hn1.blk m hg;omega
   refine F211.k6.to ?_;simp only[AC];rw[BN (n:=k+1) (by omega)];refine ih (k+1) w2 v1 (JS l' (t,k)) (out++[p]) (by omega) (by omega) ((hf.then hf1 λz hz=>wh (hn.blk z hz)).trans hf2) ⟨hf2.at_ hC1.blk (by simpa using hC.mb),hm2,λx hx=>hC.int x ((O2 _ _).subset hx)⟩ (hD.take pon) hn1
    (ho1.keep' hf2 λg hg e=>by simp only[yZ]at e;subst e;exact hm1 hg)
  ·simp only[zv,pm,show ¬((-1:Int)≥0) by omega];refine F211.k6.to ?_;simp only[AC];rw[BN (n:=k+1) (by omega)];exact ih (k+1) w v l' out (by omega) (by omega) hf hC (hD.skip pno) hn ho
def Vq{b m c:Nat}{n t:Int}{l:DJ}(hC:GA w b m n l c)(hg:EE l c)(hk:DU n l)(h:∀v w' l' out,Fr [m] w w'->GA w' b m n l' c->EE l' c->DU n l'->(∀b q,On l' b q↔On l b q/\b.1≠t)->(∀q,q∈out↔∃j,On l (t,j) q)->out.Nodup->Cc w v->BO w' v 3 1 (Ca (Hu out))->K v w'):
  I vp 211 #[vr (vz ⟨b,0,v6⟩),vq vy t] w K:=by refine F211.sh ⟨_,Cj _ _ _ Tryz.underlying168,?_⟩;simp only[Ae];refine F211.k3.to (QR (l:=l) (BP hC.map) (BP hC.blk) (λv w' l' out hf hC' hD hn ho=>?_) 4 1 w _ l [] rfl (by omega) (Fr.refl _ _) hC (Fo.start hg hk) (Cc.nil _) (BO.nil _ _ _));obtain⟨h1,h2⟩:=hD.fin hk;exact h v w' l' out hf hC' hD.good hD.kept h1 h2 hD.nd hn ho
end
def EG(w:wd)(b m:Nat)(n:Int)(f:Om):Prop:=n<=9/\∃l c,GA w b m n l c/\EE l c/\DU n l/\∀a p,On l a p↔f a=vz p
def EG.keep{S:List Nat}{w w':wd}{b m:Nat}{n:Int}{f:Om}(h:EG w b m n f)(hf:Fr S w w')(hb:b∉S)(hm:m∉S):EG w' b m n f:=by obtain⟨h9,l,c,h1,h2⟩:=h;exact⟨h9,l,c,h1.keep hf hb hm,h2⟩
def Rp{a:Int × Int}:a∈FA↔0<=a.1/\a.1<9/\1<=a.2/\a.2<=4:=by
 obtain⟨t,k⟩:=a;simp only[FA,List.mem_flatMap,n9,un,b8,vi,uq];constructor
 ·rintro⟨x,hx,h|h|h|h⟩<;>simp only[Int.ofNat_eq_natCast]at h<;>omega
 ·rintro⟨h1,h2,h3,h4⟩;refine⟨t.toNat,by omega,?_⟩;simp only[Int.ofNat_eq_natCast];omega
section
variable{K:VK}{w:wd}{b m:Nat}{n:Int}{f:Om}
def Th{l:DJ}(hk:DU n l)(ho:∀a p,On l a p↔f a=vz p)(a:Int × Int):EU l a=EQ f a:=by
 unfold EQ;rcases OD hk a with⟨h1,h2⟩|⟨h1,h2⟩
 ·rw[(ho _ _).1 h2];rfl
 ·cases e:f a with
  | none=>simpa using h1
  | some p=>exact absurd ((ho _ _).2 e) (h2 p)
def LR{c:Nat}{l:DJ}(h9:n<=9)(hg:EE l c)(hk:DU n l)(ho:∀a p,On l a p↔f a=vz p)(p:Int):Dl l p=Dn f p:=by
 unfold Dn;rcases Nj hg hk p with⟨h1,h2⟩|⟨h1,h2⟩
 ·cases e:FA.find? (λa=>decide (f a=vz p)) with
  | none=>
   have:=yV.1 e (Dl l p) (by
    obtain⟨i1,i2,i3,i4,_⟩:=h2.in hk;exact Rp.2 ⟨i1,by omega,i3,by omega⟩)
   simp[(ho _ _).1 h2]at this
  | some a=>
   have e1:=List.find?_some e;simp only[zP]at e1;exact Nk hg ((ho _ _).2 e1)
 ·cases e:FA.find? (λa=>decide (f a=vz p)) with
  | none=>exact h1
  | some a=>
   have e1:=List.find?_some e;simp only[zP]at e1;exact absurd ((ho _ _).2 e1) (h2 a)
def Ui{t k:Int}(h:EG w b m n f)(hk:K (vq vy (EQ f (t,k))) w):I vp 184 #[vr (vz ⟨b,0,v6⟩),vq vy t,vq vy k] w K:=by obtain⟨h9,l,c,h1,h2,h3,h4⟩:=h;refine Qf h1 ?_;rw[Th h3 h4];exact hk
def M0{p:Int}(h:EG w b m n f)(hk:∀w',Fr [] w w'->K (vu #[vq vy (Dn f p).1,vq vy (Dn f p).2]) w'):I vp 185 #[vr (vz ⟨b,0,v6⟩),vq vy p] w K:=by obtain⟨h9,l,c,h1,h2,h3,h4⟩:=h;refine Od h1 h2 λw' hf=>?_;rw[LR h9 h2 h3 h4];exact hk w' hf
def V3{t k p:Int}(h:EG w b m n f)(h0:¬(0<=t/\t<n/\BT k≠0/\0<=p/\p<64/\(Dn f p).1<0)->∀w',Fr [] w w'->K (vw v8) w')(h1:(0<=t/\t<n/\BT k≠0/\0<=p/\p<64/\(Dn f p).1<0)->∀w',Fr [m] w w'->EG w' b m n (Kb f (t,k) p)->K (vw v7) w'):
  I vp 124 #[vr (vz ⟨b,0,v6⟩),vq vy t,vq vy k,vq vy p] w K:=by
 obtain⟨h9,l,c,a1,a2,a3,a4⟩:=h;rw[<-LR h9 a2 a3 a4]at h0 h1;refine Xa a1 a2 h0 λhc w' hf hi=>h1 hc w' hf ⟨h9,_,_,hi,?_,?_,?_⟩
 ·obtain⟨c1,c2,c3,c4,c5,c6⟩:=hc;refine SO a2 λx hx e=>?_;rcases Nj a2 a3 p with⟨q1,_⟩|⟨_,q2⟩
  ·omega
  ·exact q2 x.1 ⟨x,hx,rfl,e⟩
 ·obtain⟨c1,c2,c3,c4,c5,c6⟩:=hc;have c3:¬(k<1∨k≥5):=λe=>c3 (SB.2 e);exact SV a3 c1 c2 (by omega) (by omega) c4 c5
 ·intro a q;rw[W6 a3,a4];unfold Kb;by_cases e:a=(t,k)
  ·rw[vn e];simp only[e,vo,not_true,false_and,vi,true_and,zM];exact eq_comm
  ·rw[vm e];simp[e]
def UK{l:DJ}{t:Int}{out:List Int}(hk:DU n l)(ho:∀a p,On l a p↔f a=vz p)(hs:∀q,q∈out↔∃j,On l (t,j) q)(hn:out.Nodup)(hu:∀a c p,On l a p->On l c p->a=c):Hu out=(Ff f t).mergeSort λx y=>decide (x<=y):=by
 have hg:(Ff f t).Nodup:=by
  unfold Ff;have key:∀i j p,f (t,i)=vz p->f (t,j)=vz p->i=j:=λi j p e1 e2=>by
   have:=hu _ _ _ ((ho _ _).2 e1) ((ho _ _).2 e2);simpa using this
  have hN:∀l:List Int,l.Nodup->(l.filterMap λk=>f (t,k)).Nodup:=by
   intro l;induction l with
   | nil=>simp
   | cons x l ih=>
    intro hl;rw[j6]at hl;rw[List.filterMap_cons];cases e:f (t,x) with
    | none=>exact ih hl.2
    | some p=>
     simp only;rw[j6];refine⟨λhm=>?_,ih hl.2⟩;obtain⟨j,hj,e2⟩:=List.mem_filterMap.1 hm;exact hl.1 (key x j p e e2 ▸ hj)
  exact hN _ (by decide)
 have hp:(Ff f t).Perm out:=by
  rw[List.perm_iff_count];intro x;have hm:x∈Ff f t↔x∈out:=by
   rw[hs];unfold Ff;rw[List.mem_filterMap];constructor
   ·rintro⟨k,_,e⟩;exact⟨k,(ho _ _).2 e⟩
   ·rintro⟨j,hj⟩;obtain⟨_,_,i3,i4,_⟩:=hj.in hk;simp only at i3 i4;refine⟨j,?_,(ho _ _).1 hj⟩;simp only[un,b8,vi];omega
  rw[hg.count,hn.count];simp only[hm]
 exact WF (RD hg) ((Iz _).trans hp)
def Uh{t:Int}(h:EG w b m n f)(hk:∀v w',Fr [m] w w'->EG w' b m n (Iq f t)->Cc w v->BO w' v 3 1 (Ca ((Ff f t).mergeSort λx y=>decide (x<=y)))->K v w'):
  I vp 211 #[vr (vz ⟨b,0,v6⟩),vq vy t] w K:=by
 obtain⟨h9,l,c,a1,a2,a3,a4⟩:=h;refine Vq a1 a2 a3 λv w' l' out hf hi hg' hk' ho hq hn hv hs=>hk v w' hf ⟨h9,l',c,hi,hg',hk',λa p=>?_⟩ hv ?_
 ·rw[ho,a4];unfold Iq;by_cases e:a.1=t<;>simp[e]
 ·rw[UK a3 a4 hq hn λa c p h1 h2=>h1.whose a2 h2]at hs;exact hs
def V1{t:Int}(h:∀b m w',Fr [] w w'->w.heap.size<=b->w.heap.size<=m->b≠m->EG w' b m (if t<0 then 0 else if t>9 then 9 else t) (λ_=>v6)->K (vr (vz ⟨b,0,v6⟩)) w'):I vp 113 #[vq vy t] w K:=
 WT λb m w' hf h1 h2 h3 hi=>h b m w' hf h1 h2 h3 ⟨by repeat' split<;>omega,[],0,hi,SN,⟨by simp,by simp⟩,λa p=>by simp[On]⟩
end
end
noncomputable section
variable{K:VK}{w:wd}{x0 x1 x2 x3 y0 y1 y2 y3 y4 y5 y7 y9 y19 y20 y21:wc}
def F153.sh(h:(Aw (wj #[vq vy 0,vq vy 0] 60) w λa b=>Am vp (Instr.build 60 #[(0,(vq vy 2)),(1,x0)]) b λc d=>I vp 224 #[c] d λf g=>Aj 2 a f g λi=>Ak 2 a i λr5 _=>K r5 i)):I vp 153 #[x0] w K:=BK (A:=A0) (args:=[x0]) (qq h)
namespace F201
def ann:=a1 [(6,[2,4]),(8,[2,4])]
def code:=cd f201
def BL:=tp f201
variable(K:VK)(y2 y4:wc)(w:wd)
def k6:=nk ann 24 [(2,y2),(4,y4)] w [1,1,1] code (BL K)
def k8:=nk ann 24 [(2,y2),(4,y4)] w [1,1,1,1] code (BL K)
attribute [irreducible] k6 k8
end F201
def F201.k6.to(h:(Ak 2 y4 w λa b=>I vp 227 #[a] b λc d=>U .neq c (vq vy 0) d λf g=>Af f (Am vp (Instr.build 60 #[]) g λi j=>Aj 2 y2 i j λk=>Ak 2 y2 k λr6 _=>K (vu #[r6,(vw v8)]) k) (F201.k8 K y2 y4 g))):F201.k6 K y2 y4 w:=qq h
def F201.k8.to(h:(Ak 2 y4 w λa b=>Aj 2 y2 a b λc=>Ak 2 y2 c λr3 _=>K (vu #[r3,(vw v7)]) c)):F201.k8 K y2 y4 w:=qq h
def F201.sh(h:(Aw (wj #[vq vy 0,vq vy 0] 60) w λa b=>Aw (wj #[vq vy 0,vq vy 0] 60) b λc d=>AG vp .and 2 (.tmp 6) (.const (vq vy 1)) x0 (vq vy 1) d λf g=>U .eql f (vq vy 1) g λi j=>Af i (AG vp .shr 2 (.tmp 9) (.const (vq .u64 1)) x0 (vq .u64 1) j λk m=>Am vp (Instr.build 60 #[(0,(vq vy 1)),(1,k)]) m λo p=>Aj 2 c o p λq=>F201.k6 K a c q) (U .neq x0 (vq vy 0) j λr s=>Af r (AG vp .quo 2 (.tmp 15) (.const (vq vy 2)) x0 (vq vy 2) s λt u=>U .sub t (vq vy 1) u λv x=>Am vp (Instr.build 60 #[(0,(vq vy 2)),(1,v)]) x λy z=>Aj 2 c y z λaa=>F201.k6 K a c aa) (F201.k6 K a c s)))):I vp 201 #[x0] w K:=BK (A:=F201.ann) (args:=[x0]) (qq h)
namespace F224
def ann:=a1 [(3,[1,2])]
def code:=cd f224
def BL:=tp f224
variable(K:VK)(y1 y2:wc)(w:wd)
@[irreducible]def k3:=nk ann 8 [(1,y1),(2,y2)] w [1,1] code (BL K)
end F224
def F224.k3.to(h:(Ak 2 y1 w λa b=>Aj 2 y2 a b λc=>Ak 2 y2 c λr3 _=>K r3 c)):F224.k3 K y1 y2 w:=qq h
def F224.sh(h:(Aw (wj (wc.cells x0) 60) w λa b=>Aw (wj #[vq vy 0,vq vy 0] 60) b λc d=>Ak 2 a d λf g=>I vp 227 #[f] g λi j=>U .neq i (vq vy 0) j λk m=>Af k (Am vp (Instr.build 60 #[]) m λo p=>Aj 2 c o p λq=>Ak 2 c q λr8 _=>K r8 q) (F224.k3 K a c m))):I vp 224 #[x0] w K:=BK (A:=F224.ann) (args:=[x0]) (qq h)
namespace F227
def ann:=a1 [(10,[3]),(12,[])]
def code:=cd f227
def BL:=tp f227
variable(K:VK)(y3:wc)(w:wd)
def k10:=nk ann 33 [(3,y3)] w [1,1,1] code (BL K)
def k12:=nk ann 33 [] w [1,1,1,1] code (BL K)
attribute [irreducible] k10 k12
end F227
def F227.k10.to(h:(AE y3 w λa b=>Af a (K (vq vy 4) b) (F227.k12 K b))):F227.k10 K y3 w:=qq h
def F227.k12.to(h:(K (vq vy 0) w)):F227.k12 K w:=qq h
def F227.sh(h:(Aw (wj (wc.cells x0) 60) w λa b=>Ab 0 a b λc d=>Ad c d λf g=>U .eql f (vq vy 0) g λi j=>Af i (Ab 1 a j λk m=>Ad k m λo p=>U .eql o (vq vy 0) p λq r=>F227.k10 K q r) (U .eql f (vq vy 1) j λs t=>Af s (Ab 1 a t λu v=>Ad u v λx y=>U .geq x (vq vy (-1099511627776)) y λz aa=>Aa v7 z (Ab 1 a aa) aa λab ac=>Aa v7 z (Ad ab ac) ac λad ae=>Aa v7 z (U .lss ad (vq vy 1099511627776) ae) ae λaf ag=>Ar (vz z) (vz af) (vz (vw v8)) ag λah ai=>F227.k10 K ah ai) (U .eql f (vq vy 2) t λaj ak=>Af aj (Ab 1 a ak λal am=>Ad al am λan ao=>U .geq an (vq vy 0) ao λap aq=>Aa v7 ap (Ab 1 a aq) aq λar au=>Aa v7 ap (Ad ar au) au λav aw=>Aa v7 ap (U .lss av (vq vy 2048) aw) aw λax ay=>Ar (vz ap) (vz ax) (vz (vw v8)) ay λaz ba=>F227.k10 K az ba) (K (vq vy 12) ak))))):I vp 227 #[x0] w K:=BK (A:=F227.ann) (args:=[x0]) (qq h)
namespace F279
def ann:=a1 [(3,[1]),(6,[1,4,9]),(7,[1]),(8,[1,4]),(9,[4])]
def code:=cd f279
def BL:=tp f279
variable(K:VK)(y1 y4 y9:wc)(w:wd)
def k3:=nk ann 21 [(1,y1)] w [1,1] code (BL K)
def k9:=nk ann 21 [(4,y4)] w [1,1,1,1] code (BL K)
def k8:=nk ann 21 [(1,y1),(4,y4)] w [1,1,1,0,1,0,1] code (BL K)
def k7:=nk ann 21 [(1,y1)] w [1,1,1,0,1,0,0,0,1] code (BL K)
def k6:=nk ann 21 [(1,y1),(4,y4),(9,y9)] w [1,1,1,0,1,0,0,0,0,0,0,1] code (BL K)
attribute [irreducible] k3 k9 k8 k7 k6
end F279
def F279.k3.to(h:(Ab 0 y1 w λa b=>Ad a b λc d=>U .eql c (vq vy 2) d λf g=>Af f (F279.k7 K y1 g) (F279.k6 K y1 (vq vy 0) c g))):F279.k3 K y1 w:=qq h
def F279.k9.to(h:(K (vu #[y4,(vw v7)]) w)):F279.k9 K y4 w:=qq h
def F279.k8.to(h:(Ab 1 y1 w λa b=>Ad a b λc d=>U .mul (vq vy 2) c d λf g=>U .add f (vq vy 1) g λi j=>U .add y4 i j λk m=>F279.k9 K k m)):F279.k8 K y1 y4 w:=qq h
def F279.k7.to(h:(F279.k8 K y1 (vq vy 1) w)):F279.k7 K y1 w:=qq h
def F279.k6.to(h:(U .eql y9 (vq vy 1) w λa b=>Af a (F279.k8 K y1 y4 b) (F279.k9 K y4 b))):F279.k6 K y1 y4 y9 w:=qq h
def F279.sh(h:(Aw (wj (wc.cells x0) 60) w λa b=>Ak 2 a b λc d=>I vp 227 #[c] d λf g=>U .neq f (vq vy 0) g λi j=>Af i (K (vu #[(vq vy 0),(vw v8)]) j) (F279.k3 K a j))):I vp 279 #[x0] w K:=BK (A:=F279.ann) (args:=[x0]) (qq h)
def F42.sh(h:(I vp 66 #[x1,(vq vy 1),(vq vy 64)] w λa b=>I vp 66 #[x2,(vq vy 0),a] b λc d=>I vp 66 #[x0,(vq vy 0),(vq vy 8)] d λf g=>Am vp (Instr.makeSlice 139 f f) g λi j=>Am vp (Instr.build 141 #[(0,a),(1,c),(2,i)]) j λk m=>Aw (wj (wc.cells k) 141) m λo p=>K o p)):I vp 42 #[x0,x1,x2] w K:=BK (A:=A0) (args:=[x0,x1,x2]) (qq h)
namespace F107
def ann:=a1 [(4,[0,2,7])]
def code:=cd f107
def BL:=tp f107
variable(K:VK)(y0 y2 y7:wc)(w:wd)
@[irreducible]def k4:=nk ann 33 [(0,y0),(2,y2),(7,y7)] w [1,1,1] code (BL K)
end F107
def F107.k4.to(h:(I vp 167 #[y0,y7,y2,(vw v8)] w λa b=>Ag y7 b λc d=>Ab 1 c d λf g=>Ad f g λi j=>U .add i y2 j λk m=>Ag y7 m λo p=>Ab 1 o p λq r=>Aj 1 q k r λs=>K (vw v7) s)):F107.k4 K y0 y2 y7 w:=qq h
def F107.sh(h:(I vp 166 #[x0,x1] w λa b=>AG vp .eql 227 (.tmp 11) (.const (vr v6)) a (vr v6) b λc d=>Aa v8 c (λK=>K x2 d) d λf g=>Aa v8 c (U .lss f (vq vy 0) g) g λi j=>Ar (vz c) (vz (vw v7)) (vz i) j λk m=>Aa v8 k (λK=>K x2 m) m λo p=>Aa v8 k (U .gtr o (vq vy 64) p) p λq r=>Ar (vz k) (vz (vw v7)) (vz q) r λs t=>Af s (K (vw v8) t) (F107.k4 K x0 x2 a t))):I vp 107 #[x0,x1,x2] w K:=BK (A:=F107.ann) (args:=[x0,x1,x2]) (qq h)
namespace F164
def ann:Cd:=⟨[(4,[0,2,7])],[],[],[(4,(tk [0,1,2,3,6,8,9,10,15,17,18,19,4,5,7,11,12,13,20] (.go 14 (tk [16,21,22] .fin) .fin)))],v6⟩
def code:=cd f164
def BL:=tp f164
variable(K:VK)(y0 y2 y7:wc)(w:wd)
@[irreducible]def k4:=nk ann 47 [(0,y0),(2,y2),(7,y7)] w [1,1,1] code (BL K)
end F164
def F164.k4.to(h:(A4 w λS a=>Ag y7 a λb c=>Ab 0 b c λd f=>Ag y0 f λg i=>Ab 0 g i λj k=>Ag y0 k λm o=>Ab 1 m o λp q=>Al S d q λr s=>AH r s λt u=>U .add t y2 u λv x=>Al S j x λy z=>U .sub v y z λaa ab=>∃ac,(∀w',S w'->(builtin .max #[3,3] 3 #[v8,v7] #[aa,(vq vy 0)]).run vp w'=.ok (.value ac) w')/\(Al S p ab λad ae=>(I vp 236 #[y7,ac] ae λaf ag=>(S ag/\
 U .add af y2 ag λah ai=>U .leq ah ad ai λaj ak=>K aj ak))/\True))):F164.k4 K y0 y2 y7 w:=qq h
def F164.sh(h:(I vp 166 #[x0,x1] w λa b=>AG vp .eql 227 (.tmp 11) (.const (vr v6)) a (vr v6) b λc d=>Aa v8 c (λK=>K x2 d) d λf g=>Aa v8 c (U .lss f (vq vy 0) g) g λi j=>Ar (vz c) (vz (vw v7)) (vz i) j λk m=>Aa v8 k (λK=>K x2 m) m λo p=>Aa v8 k (λK=>K x0 p) p λq r=>Aa v8 k (Ag q r) r λs t=>Aa v8 k (Ab 1 s t) t λu v=>Aa v8 k (Ad u v) v λx y=>Aa v8 k (U .gtr o x y) y λz aa=>Ar (vz k) (vz (vw v7)) (vz z) aa λab ac=>Af ab (K (vw v8) ac) (F164.k4 K x0 x2 a ac))):I vp 164 #[x0,x1,x2] w K:=BK (A:=F164.ann) (args:=[x0,x1,x2]) (qq h)
namespace F166
def ann:=a1 [(3,[0,1])]
def code:=cd f166
def BL:=tp f166
variable(K:VK)(y0 y1:wc)(w:wd)
@[irreducible]def k3:=nk ann 26 [(0,y0),(1,y1)] w [1,1] code (BL K)
end F166
def F166.k3.to(h:(Ag y0 w λa b=>Ab 2 a b λc d=>Ad c d λf g=>A6 3 f y1 g λi j=>K i j)):F166.k3 K y0 y1 w:=qq h
def F166.sh(h:(AG vp .eql 89 (.tmp 5) (.const (vr v6)) x0 (vr v6) w λa b=>Aa v8 a (λK=>K x1 b) b λc d=>Aa v8 a (U .lss c (vq vy 0) d) d λf g=>Ar (vz a) (vz (vw v7)) (vz f) g λi j=>Aa v8 i (λK=>K x1 j) j λk m=>Aa v8 i (λK=>K x0 m) m λo p=>Aa v8 i (Ag o p) p λq r=>Aa v8 i (Ab 2 q r) r λs t=>Aa v8 i (Ad s t) t λu v=>Aa v8 i (AH u v) v λx y=>Aa v8 i (U .geq k x y) y λz aa=>Ar (vz i) (vz (vw v7)) (vz z) aa λab ac=>Af ab (K (vr v6) ac) (F166.k3 K x0 x1 ac))):I vp 166 #[x0,x1] w K:=BK (A:=F166.ann) (args:=[x0,x1]) (qq h)
namespace F167
def ann:Cd:=⟨[(1,[0,1])],[],[],[(0,(tk [0,1,2,3,5,7,8,9,10,11,12] (.go 4 (.go 6 (.go 13 (.go 14 (tk [15,16] (.go 17 .fin .fin)) .fin) .fin) .fin) (.go 6 (.go 4 (.go 13 (.go 14 (tk [15,16] (.go 17 .fin .fin)) .fin) .fin) (.go 13 (.go 4 (.go 14 (tk [15,16] (.go 17 .fin .fin)) .fin) .fin) .fin)) .fin)))),(1,(tk [0,1,2,3,5,6,7,10,11,12,13] (.go 4 (.go 8 (tk [9,14,15,16] (.go 17 (tk [18,19] (.go 20 .fin .fin)) .fin)) .fin) (.go 8 (tk [9,14,15] (.go 4 (.take 16 (.go 17 (tk [18,19] (.go 20 .fin .fin)) .fin)) .fin)) .fin))))],v6⟩
def code:=cd f167
def BL:=tp f167
variable(K:VK)(y0 y1:wc)(w:wd)
@[irreducible]def k1:=nk ann 45 [(0,y0),(1,y1)] w [1] code (BL K)
end F167
def F167.k1.to(h:(A4 w λS a=>Ag y1 a λb c=>Ab 0 b c λd f=>Ag y1 f λg i=>Ab 0 g i λj k=>Ag y0 k λm o=>Ab 0 m o λp q=>Al S p q λr s=>(Ad d s λt u=>(S u/\
 (Ad j u λv x=>(S x/\
 AH v x λy z=>U .sub y r z λaa ab=>∃ac,(∀w',S w'->(builtin .max #[3,3] 3 #[v8,v7] #[aa,(vq vy 0)]).run vp w'=.ok (.value ac) w')/\(∃ad,(∀w',S w'->(Instr.sliceAt 84 t (vz ac) v6 v6).run vp w'=.ok ad w')/\((I vp 239 #[ad] ab λae af=>(S af/\
 Ag y1 af λag ah=>Ab 0 ag ah λai aj=>(Aj 1 ai ae aj λak=>(S ak/\
 K (vu #[]) ak))/\True))/\True))))/\True))/\((Ad j s λal am=>(S am/\
 AH al am λan ao=>U .sub an r ao λap aq=>∃ar,(∀w',S w'->(builtin .max #[3,3] 3 #[v8,v7] #[ap,(vq vy 0)]).run vp w'=.ok (.value ar) w')/\((Ad d aq λau av=>(S av/\
 ∃aw,(∀w',S w'->(Instr.sliceAt 84 au (vz ar) v6 v6).run vp w'=.ok aw w')/\((I vp 239 #[aw] av λax ay=>(S ay/\
 Ag y1 ay λaz ba=>Ab 0 az ba λbb bc=>(Aj 1 bb ax bc λbd=>(S bd/\
 K (vu #[]) bd))/\True))/\True)))/\True)))/\True))):F167.k1 K y0 y1 w:=qq h
def F167.sh(h:(A4 w λS a=>Ag x1 a λb c=>Ab 0 b c λd f=>Ag x0 f λg i=>Ab 0 g i λj k=>Al S j k λm o=>∃p,(∀w',S w'->(builtin .min #[3,3] 3 #[v8,v8] #[x2,m]).run vp w'=.ok (.value p) w')/\((Ad d o λq r=>(S r/\
 (Am vp (Instr.buildSlice 84 1 #[(0,x3)]) r λs t=>(S t/\
 (I vp 238 #[s,p] t λu v=>(S v/\
 (Am vp (Builtin.append_ #[84,84] 84 #[q,u]) v λx y=>(S y/\
 Ag x1 y λz aa=>Ab 0 z aa λab ac=>(Aj 1 ab x ac λad=>(S ad/\
 F167.k1 K x0 x1 ad))/\True))/\True))/\True))/\True))/\((Am vp (Instr.buildSlice 84 1 #[(0,x3)]) o λae af=>(S af/\
 (Ad d af λag ah=>(S ah/\
 (I vp 238 #[ae,p] ah λai aj=>(S aj/\
 (Am vp (Builtin.append_ #[84,84] 84 #[ag,ai]) aj λak al=>(S al/\
 Ag x1 al λam an=>Ab 0 am an λao ap=>(Aj 1 ao ak ap λaq=>(S aq/\
 F167.k1 K x0 x1 aq))/\True))/\True))/\True))/\((I vp 238 #[ae,p] af λar au=>(S au/\
 (Ad d au λav aw=>(S aw/\
 (Am vp (Builtin.append_ #[84,84] 84 #[av,ar]) aw λax ay=>(S ay/\
 Ag x1 ay λaz ba=>Ab 0 az ba λbb bc=>(Aj 1 bb ax bc λbd=>(S bd/\
 F167.k1 K x0 x1 bd))/\True))/\True))/\True))/\True)))/\True)))):I vp 167 #[x0,x1,x2,x3] w K:=BK (A:=F167.ann) (args:=[x0,x1,x2,x3]) (qq h)
namespace F236
def ann:Cd:=⟨[(4,[5,19,20,21]),(7,[5,19,20,21]),(8,[5])],[(3,[5,19,20,21])],[],[(2,(tk [0,1,2,4,5,6,7,13,3,8,9,10,11,12] .fin))],v6⟩
def code:=cd f236
def BL:=tp f236
variable(K:VK)(y5 y19 y20 y21:wc)(w:wd)
def k8:=nk ann 30 [(5,y5)] w [1,1,1] code (BL K)
def l3:=nl ann 30 [(5,y5),(19,y19),(20,y20),(21,y21)] w [1,1,0,1,0] code (BL K)
def k4:=nk ann 30 [(5,y5),(19,y19),(20,y20),(21,y21)] w [1,1,0,1,0,0,1,1] code (BL K)
def k7:=nk ann 30 [(5,y5),(19,y19),(20,y20),(21,y21)] w [1,1,0,1,0,0,1,1,1] code (BL K)
attribute [irreducible] k8 l3 k4 k7
end F236
def F236.k8.to(h:(K y5 w)):F236.k8 K y5 w:=qq h
def F236.l3.to(h:(U .lss y21 y20 w λa b=>Af a (F236.k4 K y5 y19 y20 y21 b) (F236.k8 K y5 b))):F236.l3 K y5 y19 y20 y21 w:=by unfold F236.l3 nl;exact BW (qq h)
def F236.k4.to(h:(A6 1 y19 y21 w λa b=>Ad a b λc d=>Af c (U .add y5 (vq vy 1) d λf g=>F236.k7 K f y19 y20 y21 g) (F236.k7 K y5 y19 y20 y21 d))):F236.k4 K y5 y19 y20 y21 w:=qq h
def F236.k7.to(h:(U .add y21 (vq vy 1) w λa b=>F236.l3 K y5 y19 y20 a b)):F236.k7 K y5 y19 y20 y21 w:=qq h
def F236.sh(h:(A4 w λS a=>Ag x0 a λb c=>Ab 0 b c λd f=>Ag x0 f λg i=>Ab 0 g i λj k=>Al S d k λm o=>Al S j o λp q=>AH p q λr s=>∃t,(∀w',S w'->(builtin .min #[3,3] 3 #[v8,v8] #[x1,r]).run vp w'=.ok (.value t) w')/\(∃u,(∀w',S w'->(Instr.sliceAt 84 m (vz t) v6 v6).run vp w'=.ok u w')/\(AH u s λv x=>F236.l3 K (vq vy 0) u v (vq vy 0) x)))):I vp 236 #[x0,x1] w K:=BK (A:=F236.ann) (args:=[x0,x1]) (qq h)
namespace F237
def ann:=a1 [(3,[0,1,2])]
def code:=cd f237
def BL:=tp f237
variable(K:VK)(y0 y1 y2:wc)(w:wd)
@[irreducible]def k3:=nk ann 28 [(0,y0),(1,y1),(2,y2)] w [1,1] code (BL K)
end F237
def F237.k3.to(h:(I vp 166 #[y0,y1] w λa b=>I vp 167 #[y0,a,y2,(vw v7)] b λc d=>Ag a d λf g=>Ab 2 f g λi j=>Ad i j λk m=>U .add k y2 m λo p=>Ag a p λq r=>Ab 2 q r λs t=>Aj 1 s o t λu=>K (vw v7) u)):F237.k3 K y0 y1 y2 w:=qq h
def F237.sh(h:(I vp 164 #[x0,x1,x2] w λa b=>AE a b λc d=>Af c (K (vw v8) d) (F237.k3 K x0 x1 x2 d))):I vp 237 #[x0,x1,x2] w K:=BK (A:=F237.ann) (args:=[x0,x1,x2]) (qq h)
namespace F239
def ann:=a1 [(3,[0])]
def code:=cd f239
def BL:=tp f239
variable(K:VK)(y0:wc)(w:wd)
@[irreducible]def k3:=nk ann 8 [(0,y0)] w [1,1] code (BL K)
end F239
def F239.k3.to(h:(Am vp (Instr.buildSlice 84 0 #[]) w λa b=>Am vp (Builtin.append_ #[84,84] 84 #[a,y0]) b λc d=>K c d)):F239.k3 K y0 w:=qq h
def F239.sh(h:(AG vp .eql 84 (.tmp 3) (.const (.slice v6 0 0)) x0 (.slice v6 0 0) w λa b=>Af a (K (.slice v6 0 0) b) (F239.k3 K x0 b))):I vp 239 #[x0] w K:=BK (A:=F239.ann) (args:=[x0]) (qq h)
def F44.sh(h:(I vp 66 #[x0,(vq vy 0),(vq vy 65535)] w λa b=>Am vp (Instr.build 145 #[(1,(vw v7)),(2,a)]) b λc d=>Aw (wj (wc.cells c) 145) d λf g=>K f g)):I vp 44 #[x0] w K:=BK (A:=A0) (args:=[x0]) (qq h)
namespace F235
def ann:Cd:=⟨[(3,[0,1])],[],[],[(4,(tk [0,1,2,3,5,4] (.go 6 (tk [7,8,9] .fin) .fin)))],v6⟩
def code:=cd f235
def BL:=tp f235
variable(K:VK)(y0 y1:wc)(w:wd)
@[irreducible]def k3:=nk ann 43 [(0,y0),(1,y1)] w [1,1] code (BL K)
end F235
def F235.k3.to(h:(I vp 66 #[y1,(vq vy 0),(vq vy 2147483648)] w λa b=>A4 b λS c=>Ag y0 c λd f=>Ab 4 d f λg i=>Al S g i λj k=>(I vp 274 #[y0] k λm o=>(S o/\
 U .sub j m o λp q=>∃r,(∀w',S w'->(builtin .min #[3,3] 3 #[v8,v8] #[a,p]).run vp w'=.ok (.value r) w')/\(Ag y0 q λs t=>Ab 0 s t λu v=>Ab 0 u v λx y=>Ad x y λz aa=>U .add z r aa λab ac=>Ag y0 ac λad ae=>Ab 0 ad ae λaf ag=>Ab 0 af ag λah ai=>Aj 1 ah ab ai λaj=>Ag y0 aj λak al=>Ab 0 ak al λam an=>Ab 2 am an λao ap=>Ad ao ap λaq ar=>U .sub a r ar λau av=>U .add aq au av λaw ax=>Ag y0 ax λay az=>Ab 0 ay az λba bb=>Ab 2 ba bb λbc bd=>Aj 1 bc aw bd λbe=>K r be)))/\True)):F235.k3 K y0 y1 w:=qq h
def F235.sh(h:(I vp 281 #[x0] w λa b=>AE a b λc d=>Af c (K (vq vy 0) d) (F235.k3 K x0 x1 d))):I vp 235 #[x0,x1] w K:=BK (A:=F235.ann) (args:=[x0,x1]) (qq h)
def F274.sh(h:(I vp 301 #[x0] w λa b=>I vp 302 #[a] b λc d=>K c d)):I vp 274 #[x0] w K:=BK (A:=A0) (args:=[x0]) (qq h)
namespace F275
def ann:=a1 [(3,[0,1])]
def code:=cd f275
def BL:=tp f275
variable(K:VK)(y0 y1:wc)(w:wd)
@[irreducible]def k3:=nk ann 23 [(0,y0),(1,y1)] w [1,1] code (BL K)
end F275
def F275.k3.to(h:(I vp 274 #[y0] w λa b=>I vp 66 #[y1,(vq vy 0),a] b λc d=>Ag y0 d λf g=>Ab 0 f g λi j=>Ab 1 i j λk m=>Ad k m λo p=>U .add o c p λq r=>Ag y0 r λs t=>Ab 0 s t λu v=>Ab 1 u v λx y=>Aj 1 x q y λz=>K c z)):F275.k3 K y0 y1 w:=qq h
def F275.sh(h:(I vp 281 #[x0] w λa b=>AE a b λc d=>Af c (K (vq vy 0) d) (F275.k3 K x0 x1 d))):I vp 275 #[x0,x1] w K:=BK (A:=F275.ann) (args:=[x0,x1]) (qq h)
def F281.sh(h:(AG vp .neq 91 (.tmp 3) (.const (vr v6)) x0 (vr v6) w λa b=>Aa v7 a (λK=>K x0 b) b λc d=>Aa v7 a (Ag c d) d λf g=>Aa v7 a (Ab 3 f g) g λi j=>Aa v7 a (Ad i j) j λk m=>Ar (vz a) (vz k) (vz (vw v8)) m λo p=>K o p)):I vp 281 #[x0] w K:=BK (A:=A0) (args:=[x0]) (qq h)
namespace F301
def ann:=a1 [(3,[0])]
def code:=cd f301
def BL:=tp f301
variable(K:VK)(y0:wc)(w:wd)
@[irreducible]def k3:=nk ann 11 [(0,y0)] w [1,1] code (BL K)
end F301
def F301.k3.to(h:(Ag y0 w λa b=>Ab 0 a b λc d=>K c d)):F301.k3 K y0 w:=qq h
def F301.sh(h:(I vp 281 #[x0] w λa b=>AE a b λc d=>Af c (Am vp (Instr.build 143 #[]) d λf g=>Aw (wj (wc.cells f) 143) g λi j=>K i j) (F301.k3 K x0 d))):I vp 301 #[x0] w K:=BK (A:=F301.ann) (args:=[x0]) (qq h)
namespace F302
def ann:Cd:=⟨[],[],[],[(1,(tk [0,1,2,4,5,6,3,7,8,9] .fin))],v6⟩
end F302
def F302.sh(h:(A4 w λS a=>Ag x0 a λb c=>Ab 0 b c λd f=>Ag x0 f λg i=>Ab 1 g i λj k=>Al S d k λm o=>Al S j o λp q=>U .sub m p q λr s=>K r s)):I vp 302 #[x0] w K:=BK (A:=F302.ann) (args:=[x0]) (qq h)
end
def V(k n:Int):wc := .agg #[vq vy k,vq vy n]
def vB(k n:Int):Obj:=wj #[vq vy k,vq vy n] 60 (0,0)
def Xw(a:Int)(h:a % 2=0):a.tdiv 2=a / 2:=Int.tdiv_eq_ediv_of_dvd (Int.dvd_of_emod_eq_zero h)
def Cb{k n:Int}:∀v∈(V k n).cells.toList,v.oneCell'=v7:=by intro v hv;simp only[V,wc.cells,un,b8,vi]at hv;rcases hv with rfl|rfl<;>rfl
section
variable{K:VK}{w:wd}
def YI(x y:Operand)(a b c d:Int):(do eqGuard .eql 60 x y (V a b) (V c d);binOp .eql 60 (V a b) (V c d):Sem wc).run vp w=.ok (vw (decide (a=c/\b=d))) w:=by
 have h:=Ld (w:=w) (ks:=[vy,vy]) x y Tryz.underlying60 (by kernel_rfl) (by kernel_rfl) (by kernel_rfl) [a,b] [c,d] rfl rfl;have e:([a,b] == [c,d])=decide (a=c/\b=d):=by rw[f9];simp
 rw[e]at h;exact h
def Kw(a b:Int):(Instr.build 60 #[(0,vq vy a),(1,vq vy b)]).run vp w=.ok (V a b) w:=by kernel_rfl
def EI:(Instr.build 60 #[]).run vp w=.ok (V 0 0) w:=by kernel_rfl
def FV(k n:Int)(h:∀w',Fr [] w w'->K (vq vy (D8 k n)) w'):I vp 227 #[V k n] w K:=by
 refine F227.sh (Ay λb w1 hn=>?_);have hb:w1.heap[b]?=vz (vB k n):=hn.at_;have h:=h w1 hn.fr;unfold D8 at h
 try simp only[zv]
 refine Ac (v:=vq vy k) hb rfl ?_;by_cases k0:k=0
 ·simp only[zv,vl,k0];refine Ac (v:=vq vy n) hb rfl ?_;rw[vn k0]at h;refine (Ap ..).2 (F227.k10.to ?_);by_cases n0:n=0
  ·rw[vn n0]at h;simp only[zv,vl,n0];exact F227.k12.to h
  ·rw[vm n0]at h;simp only[zv,n0];exact h
 ·rw[vm k0]at h;by_cases k1:k=1
  ·rw[vn k1]at h;simp only[zv,vl,k1,show ¬(1:Int)=0 by decide];refine Ac (v:=vq vy n) hb rfl ?_
   try simp only[AF]
   by_cases h1:n ≥ -1099511627776
   ·simp only[zv,h1];refine Ac (v:=vq vy n) hb rfl ?_
    try simp only[Au]
    refine F227.k10.to ?_;by_cases h2:n<1099511627776
    ·rw[vn ⟨h1,h2⟩]at h;simp only[zv,h2];exact F227.k12.to h
    ·rw[vm (by omega)]at h;simp only[zv,h2];exact h
   ·rw[vm (by omega)]at h;simp only[zv,h1];refine F227.k10.to ?_
    try simp only[zv]
    exact h
  ·rw[vm k1]at h;by_cases k2:k=2
   ·rw[vn k2]at h;simp only[zv,vl,k2,show ¬(2:Int)=0 by decide,show ¬(2:Int)=1 by decide];refine Ac (v:=vq vy n) hb rfl ?_
    try simp only[AF]
    by_cases h1:n≥0
    ·simp only[zv,h1];refine Ac (v:=vq vy n) hb rfl ?_
     try simp only[Au]
     refine F227.k10.to ?_;by_cases h2:n<2048
     ·rw[vn ⟨h1,h2⟩]at h;simp only[zv,h2];exact F227.k12.to h
     ·rw[vm (by omega)]at h;simp only[zv,h2];exact h
    ·rw[vm (by omega)]at h;simp only[zv,h1];refine F227.k10.to ?_
     try simp only[zv]
     exact h
   ·rw[vm k2]at h;simp only[zv,k0,k1,k2];exact h
def N6{k n:Int}(h:D8 k n=0)(hk:k=1∨k=2) : -1099511627776<=n/\n<1099511627776:=by
 unfold D8 at h;rcases hk with rfl|rfl
 ·simp at h;omega
 ·simp at h;omega
def V7(k n:Int)(hc:D8 k n≠0)(h:∀w',Fr [] w w'->K (vu #[vq vy 0,vw v8]) w'):I vp 279 #[V k n] w K:=by refine F279.sh (Ay λb w1 hn=>A5 hn.at_ rfl (FV k n λw2 hf2=>?_));simp only[zv,vo,hc,zR];exact h w2 (hn.fr.trans hf2)
def Uo(k n:Int)(hc:D8 k n=0)(h:∀w',Fr [] w w'->K (vu #[vq vy (Kd k n),vw v7]) w'):I vp 279 #[V k n] w K:=by
 refine F279.sh (Ay λb w1 hn=>A5 hn.at_ rfl (FV k n λw2 hf2=>?_));have hb:w2.heap[b]?=vz (vB k n):=hf2.at_ hn.at_ (by simp);have h:=h w2 (hn.fr.trans hf2);simp only[zv,vl,vo,hc,zQ];refine F279.k3.to ?_
 try simp only[zv]
 refine Ac (v:=vq vy k) hb rfl ?_;unfold Kd at h;by_cases k2:k=2
 ·have hn:=N6 hc (wh k2);rw[vn k2]at h;simp only[zv,vl,k2];refine F279.k7.to (F279.k8.to ?_)
  try simp only[zv]
  refine Ac (v:=vq vy n) hb rfl ?_
  try simp only[zv]
  rw[BN (n:=2*n) (by omega),BN (n:=2*n+1) (by omega),BN (n:=1+(2*n+1)) (by omega)];refine F279.k9.to ?_;rw[show 1+(2*n+1)=2*n+2 by omega];exact h
 ·rw[vm k2]at h;simp only[zv,k2];refine F279.k6.to ?_;by_cases k1:k=1
  ·have hn:=N6 hc (.inl k1);rw[vn k1]at h;simp only[zv,vl,k1];refine F279.k8.to ?_
   try simp only[zv]
   refine Ac (v:=vq vy n) hb rfl ?_
   try simp only[zv]
   rw[BN (n:=2*n) (by omega),BN (n:=2*n+1) (by omega),BN (n:=0+(2*n+1)) (by omega)];refine F279.k9.to ?_;rw[show 0+(2*n+1)=2*n+1 by omega];exact h
  ·rw[vm k1]at h;simp only[zv,k1];exact F279.k9.to h
def IE{b r:Nat}{k n:Int}(hb:w.heap[b]?=vz (vB k n))(hr:w.heap[r]?=vz (vB 0 0))(h1:D8 k n=0->∀w',Fr [r] w w'->K (vu #[V k n,vw v7]) w')(h2:D8 k n≠0->∀w',Fr [r] w w'->K (vu #[V 0 0,vw v8]) w'):
  F201.k6 K (vr (vz ⟨r,0,v6⟩)) (vr (vz ⟨b,0,v6⟩)) w:=by
 refine F201.k6.to (A5 hb rfl (FV k n λw1 hf1=>?_));have hr1:=hf1.at_ hr (by simp);by_cases hc:D8 k n=0
 ·simp only[zv,vl,vo,hc,zQ];refine F201.k8.to (A5 (hf1.at_ hb (by simp)) rfl (AB hr1 rfl Cb rfl λw2 hu=>A5 hu.at_ rfl ?_));exact h1 hc w2 (hf1.w.trans hu.fr)
 ·simp only[zv,vo,hc,zR];refine A7 EI (AB hr1 rfl Cb rfl λw2 hu=>A5 hu.at_ rfl ?_);exact h2 hc w2 (hf1.w.trans hu.fr)
def VM(a:Int)(ha : -9223372036854775808<=a/\a<=9223372036854775807)(h1:D8 (KE a) (KF a)=0->∀w',Fr [] w w'->K (vu #[V (KE a) (KF a),vw v7]) w')(h2:D8 (KE a) (KF a)≠0->∀w',Fr [] w w'->K (vu #[V 0 0,vw v8]) w'):
  I vp 201 #[vq vy a] w K:=by
 refine F201.sh (Ay λr w1 hn1=>Ay λb w2 hn2=>⟨_,M7 _ _ _,?_⟩);have hr:w2.heap[r]?=vz (vB 0 0):=hn2.fr.at_ hn1.at_ (by simp);have hb:w2.heap[b]?=vz (vB 0 0):=hn2.at_;have hrb:r≠b:=hn2.ne (BP hn1.at_);have lr:w.heap.size<=r:=by have:=hn1.is;omega
 have lb:w.heap.size<=b:=by have:=hn2.is;have:=hn1.fr.size;omega
 have hf:Fr [] w w2:=hn1.fr.trans hn2.fr;unfold KE KF at h1 h2;by_cases o:a % 2=1
 ·simp only[vn o]at h1 h2;simp only[zv,vl,o];refine⟨_,Tu _ _ _,A7 (Kw _ _) (AB hb rfl Cb rfl λw3 hu=>?_)⟩;have hf3:Fr [] w w3:=hf.then hu.fr (by simp;omega);exact IE hu.at_ (hu.fr.at_ hr (by simp;omega)) (λhc w' hf'=>h1 hc w' (hf3.then hf' (by simp;omega))) (λhc w' hf'=>h2 hc w' (hf3.then hf' (by simp;omega)))
 ·simp only[vm o]at h1 h2;simp only[zv,o];by_cases z:a=0
  ·simp only[vn z]at h1 h2;simp only[z,vo,zQ,Ae,vl,u4];exact IE hb hr (λhc w' hf'=>h1 hc w' (hf.then hf' (by simp;omega))) (λhc w' hf'=>h2 hc w' (hf.then hf' (by simp;omega)))
  ·simp only[vm z]at h1 h2;simp only[z,vo,zR,Ai,decide_true];have e2:=Xw a (by omega);refine⟨_,DT _ _ _ _ (by decide),?_⟩;rw[BN (n:=a.tdiv 2) (by omega)]
   try simp only[AO]
   rw[BN (n:=a.tdiv 2-1) (by omega)];refine A7 (Kw _ _) (AB hb rfl Cb rfl λw3 hu=>?_);have hf3:Fr [] w w3:=hf.then hu.fr (by simp;omega);exact IE hu.at_ (hu.fr.at_ hr (by simp;omega)) (λhc w' hf'=>h1 hc w' (hf3.then hf' (by simp;omega))) (λhc w' hf'=>h2 hc w' (hf3.then hf' (by simp;omega)))
def S6{k n:Int}(h:D8 k n=0):(k=0/\n=0)∨(k=1 /\ -1099511627776<=n/\n<1099511627776)∨(k=2/\0<=n/\n<2048):=by
 unfold D8 at h;split at h
 ·split at h<;>omega
 ·split at h
  ·split at h<;>omega
  ·split at h
   ·split at h<;>omega
   ·omega
end
noncomputable section
variable{K:VK}{w:wd}{x0 x1 x2 x3 y0 y1 y2 y5 y6 y8 y9 y10 y11 y12 y13 y16 y17 y18:wc}
def F73.sh(h:(I vp 112 #[x0] w λa b=>I vp 113 #[x1] b λc d=>Am vp (Instr.build 171 #[(0,a),(1,c)]) d λf g=>Aw (wj (wc.cells f) 171) g λi j=>Ag i j λk m=>Ab 0 k m λo p=>Ad o p λq r=>I vp 114 #[q] r λs t=>Ag i t λu v=>Ab 3 u v λx y=>Aj 1 x s y λz=>Am vp (Builtin.max_ #[3,3] 3 #[x1,(vq vy 0)]) z λaa ab=>Am vp (Builtin.min_ #[3,3] 3 #[aa,(vq vy 9)]) ab λac ad=>Ag i ad λae af=>Ab 2 ae af λag ah=>Aj 1 ag ac ah λai=>K i ai)):I vp 73 #[x0,x1] w K:=BK (A:=A0) (args:=[x0,x1]) (qq h)
namespace F79
def ann:Cd:=⟨[(10,[0,2,9]),(11,[0,1,2,8]),(14,[0,1,2,8]),(17,[0,1,2,8,13])],[],[],[(7,(tk [0,1,2,4,3] (.go 5 (.go 6 (tk [7,8,9,10,11] .fin) .fin) .fin)))],v6⟩
def code:=cd f79
def BL:=tp f79
variable(K:VK)(y0 y1 y2 y8 y9 y13:wc)(w:wd)
def k11:=nk ann 90 [(0,y0),(1,y1),(2,y2),(8,y8)] w [1,1,1] code (BL K)
def k10:=nk ann 90 [(0,y0),(2,y2),(9,y9)] w [1,1,0,0,1,1,1,1,1,0,1,1] code (BL K)
def k14:=nk ann 90 [(0,y0),(1,y1),(2,y2),(8,y8)] w [1,1,1,1] code (BL K)
def k17:=nk ann 90 [(0,y0),(1,y1),(2,y2),(8,y8),(13,y13)] w [1,1,1,1,1,1] code (BL K)
attribute [irreducible] k11 k10 k14 k17
end F79
def F79.k11.to(h:(I vp 122 #[y0,y1,y2] w λa b=>Av 0 a b λc d=>Av 1 a d λf g=>Af f (K (vu #[c,(vq vy 0)]) g) (F79.k14 K y0 y1 y2 y8 g))):F79.k11 K y0 y1 y2 y8 w:=qq h
def F79.k10.to(h:(I vp 121 #[y0,y9,y2] w λa b=>K (vu #[a,(vq vy 0)]) b)):F79.k10 K y0 y2 y9 w:=qq h
def F79.k14.to(h:(I vp 123 #[y0,y8] w λa b=>Av 0 a b λc d=>Av 1 a d λf g=>AE f g λi j=>Af i (K (vu #[(vq vy 0),(vq vy 10)]) j) (F79.k17 K y0 y1 y2 y8 c j))):F79.k14 K y0 y1 y2 y8 w:=qq h
def F79.k17.to(h:(Ag y0 w λa b=>Ab 1 a b λc d=>Ad c d λf g=>I vp 124 #[f,y1,y8,y13] g λi j=>I vp 122 #[y0,y1,y2] j λk m=>Av 0 k m λo p=>Av 1 k p λq r=>K (vu #[o,(vq vy 0)]) r)):F79.k17 K y0 y1 y2 y8 y13 w:=qq h
def F79.sh(h:(I vp 117 #[x2] w λa b=>I vp 118 #[x0] b λc d=>AE c d λf g=>Af f (K (vu #[(vq vy 0),(vq vy 9)]) g) (U .eql a (vq vy 0) g λi j=>Aa v8 i (λK=>K x1 j) j λk m=>Aa v8 i (U .lss k (vq vy 0) m) m λo p=>Ar (vz i) (vz (vw v7)) (vz o) p λq r=>Aa v8 q (λK=>K x1 r) r λs t=>Aa v8 q (λK=>K x0 t) t λu v=>Aa v8 q (Ag u v) v λx y=>Aa v8 q (Ab 2 x y) y λz aa=>Aa v8 q (Ad z aa) aa λab ac=>Aa v8 q (U .geq s ab ac) ac λad ae=>Ar (vz q) (vz (vw v7)) (vz ad) ae λaf ag=>Af af (K (vu #[(vq vy 0),(vq vy 4)]) ag) (U .eql a (vq vy 5) ag λah ai=>Af ah (A4 ai λS aj=>Ag x0 aj λak al=>Ab 0 ak al λam an=>Al S am an λao ap=>(I vp 120 #[x2] ap λaq ar=>(S ar/\
 (I vp 119 #[ao,aq] ar λau av=>(S av/\
 Av 0 au av λaw ax=>Av 1 au ax λay az=>AE ay az λba bb=>Af ba (K (vu #[(vq vy 0),(vq vy 10)]) bb) (F79.k10 K x0 x2 aw bb)))/\True))/\True) (F79.k11 K x0 x1 x2 a ai))))):I vp 79 #[x0,x1,x2] w K:=BK (A:=F79.ann) (args:=[x0,x1,x2]) (qq h)
def F89.sh(h:(I vp 127 #[x0,x1] w λa b=>Av 0 a b λc d=>Av 1 a d λf g=>K c g)):I vp 89 #[x0,x1] w K:=BK (A:=A0) (args:=[x0,x1]) (qq h)
namespace F92
def ann:=a1 [(3,[0])]
def code:=cd f92
def BL:=tp f92
variable(K:VK)(y0:wc)(w:wd)
@[irreducible]def k3:=nk ann 11 [(0,y0)] w [1,1] code (BL K)
end F92
def F92.k3.to(h:(Ag y0 w λa b=>Ab 0 a b λc d=>Ad c d λf g=>I vp 130 #[f] g λi j=>K i j)):F92.k3 K y0 w:=qq h
def F92.sh(h:(I vp 118 #[x0] w λa b=>AE a b λc d=>Af c (K (.slice v6 0 0) d) (F92.k3 K x0 d))):I vp 92 #[x0] w K:=BK (A:=F92.ann) (args:=[x0]) (qq h)
def F118.sh(h:(AG vp .neq 118 (.tmp 3) (.const (vr v6)) x0 (vr v6) w λa b=>Aa v7 a (λK=>K x0 b) b λc d=>Aa v7 a (Ag c d) d λf g=>Aa v7 a (Ab 0 f g) g λi j=>Aa v7 a (Ad i j) j λk m=>Aa v7 a (λK=>AG vp .neq 166 (.tmp 9) (.const (vr v6)) k (vr v6) m K) m λo p=>Ar (vz a) (vz o) (vz (vw v8)) p λq r=>K q r)):I vp 118 #[x0] w K:=BK (A:=A0) (args:=[x0]) (qq h)
def F121.sh(h:(Ag x0 w λa b=>Ab 4 a b λc d=>Ad c d λf g=>I vp 180 #[f,x2] g λi j=>Av 0 i j λk m=>Av 1 i m λo p=>Ag x0 p λq r=>Ab 0 q r λs t=>Ad s t λu v=>I vp 181 #[u,x1,k] v λx y=>Ag x0 y λz aa=>Ab 4 z aa λab ac=>Ad ab ac λad ae=>U .add ad (vq vy 1) ae λaf ag=>Ag x0 ag λah ai=>Ab 4 ah ai λaj ak=>Aj 1 aj af ak λal=>K x1 al)):I vp 121 #[x0,x1,x2] w K:=BK (A:=A0) (args:=[x0,x1,x2]) (qq h)
namespace F122
def ann:Cd:=⟨[(3,[0,1,2]),(6,[0,2,8])],[],[],[(3,(tk [0,1,2,4,5,6,8,9,3,7] (.go 10 (.go 11 (.go 12 (tk [13,14,15,16,17] .fin) .fin) .fin) .fin)))],v6⟩
def code:=cd f122
def BL:=tp f122
variable(K:VK)(y0 y1 y2 y8:wc)(w:wd)
def k3:=nk ann 40 [(0,y0),(1,y1),(2,y2)] w [1,1] code (BL K)
def k6:=nk ann 40 [(0,y0),(2,y2),(8,y8)] w [1,1,1,1] code (BL K)
attribute [irreducible] k3 k6
end F122
def F122.k3.to(h:(A4 w λS a=>Ag y0 a λb c=>Ab 0 b c λd f=>Ag y0 f λg i=>Ab 1 g i λj k=>Al S d k λm o=>Al S j o λp q=>(I vp 117 #[y2] q λr s=>(S s/\
 (I vp 184 #[p,y1,r] s λt u=>(S u/\
 (I vp 183 #[m,t] u λv x=>(S x/\
 Av 0 v x λy z=>Av 1 v z λaa ab=>AE aa ab λac ad=>Af ac (K (vu #[(vq vy 0),(vw v8)]) ad) (F122.k6 K y0 y2 y ad)))/\True))/\True))/\True)):F122.k3 K y0 y1 y2 w:=qq h
def F122.k6.to(h:(I vp 121 #[y0,y8,y2] w λa b=>K (vu #[a,(vw v7)]) b)):F122.k6 K y0 y2 y8 w:=qq h
def F122.sh(h:(I vp 118 #[x0] w λa b=>AE a b λc d=>Aa v8 c (λK=>K x2 d) d λf g=>Aa v8 c (λK=>I vp 182 #[f] g K) g λi j=>Aa v8 c (AE i j) j λk m=>Ar (vz c) (vz (vw v7)) (vz k) m λo p=>Af o (K (vu #[(vq vy 0),(vw v8)]) p) (F122.k3 K x0 x1 x2 p))):I vp 122 #[x0,x1,x2] w K:=BK (A:=F122.ann) (args:=[x0,x1,x2]) (qq h)
namespace F123
def ann:Cd:=⟨[(3,[0,1,12,13]),(7,[0,1,12,13]),(8,[0,1])],[(2,[0,1,12,13])],[],[],v6⟩
def code:=cd f123
def BL:=tp f123
variable(K:VK)(y0 y1 y12 y13:wc)(w:wd)
def k8:=nk ann 56 [(0,y0),(1,y1)] w [1,1] code (BL K)
def l2:=nl ann 56 [(0,y0),(1,y1),(12,y12),(13,y13)] w [1,0,1,0] code (BL K)
def k3:=nk ann 56 [(0,y0),(1,y1),(12,y12),(13,y13)] w [1,0,1,0,0,1,1] code (BL K)
def k7:=nk ann 56 [(0,y0),(1,y1),(12,y12),(13,y13)] w [1,0,1,0,0,1,1,1] code (BL K)
attribute [irreducible] k8 l2 k3 k7
end F123
def F123.k8.to(h:(Ag y0 w λa b=>Ab 0 a b λc d=>Ad c d λf g=>I vp 188 #[f,y1] g λi j=>Av 0 i j λk m=>Av 1 i m λo p=>K (vu #[k,o]) p)):F123.k8 K y0 y1 w:=qq h
def F123.l2.to(h:(U .lss y13 y12 w λa b=>Af a (F123.k3 K y0 y1 y12 y13 b) (F123.k8 K y0 y1 b))):F123.l2 K y0 y1 y12 y13 w:=by unfold F123.l2 nl;exact BW (qq h)
def F123.k3.to(h:(Ag y0 w λa b=>Ab 1 a b λc d=>Ad c d λf g=>I vp 185 #[f,y13] g λi j=>Av 0 i j λk m=>Av 1 i m λo p=>U .lss k (vq vy 0) p λq r=>Aa v7 q (λK=>K y0 r) r λs t=>Aa v7 q (Ag s t) t λu v=>Aa v7 q (Ab 0 u v) v λx y=>Aa v7 q (Ad x y) y λz aa=>Aa v7 q (λK=>K y13 aa) aa λab ac=>Aa v7 q (λK=>I vp 186 #[z,ab] ac K) ac λad ae=>Aa v7 q (λK=>K y1 ae) ae λaf ag=>Aa v7 q (U .eql ad af ag) ag λah ai=>Ar (vz q) (vz ah) (vz (vw v8)) ai λaj ak=>Aa v7 aj (λK=>K y0 ak) ak λal am=>Aa v7 aj (Ag al am) am λan ao=>Aa v7 aj (Ab 0 an ao) ao λap aq=>Aa v7 aj (Ad ap aq) aq λar au=>Aa v7 aj (λK=>K y13 au) au λav aw=>Aa v7 aj (λK=>I vp 187 #[ar,av] aw K) aw λax ay=>Aa v7 aj (U .gtr ax (vq vy 0) ay) ay λaz ba=>Ar (vz aj) (vz az) (vz (vw v8)) ba λbb bc=>Af bb (K (vu #[y13,(vw v7)]) bc) (F123.k7 K y0 y1 y12 y13 bc))):F123.k3 K y0 y1 y12 y13 w:=qq h
def F123.k7.to(h:(U .add y13 (vq vy 1) w λa b=>F123.l2 K y0 y1 y12 a b)):F123.k7 K y0 y1 y12 y13 w:=qq h
def F123.sh(h:(Ag x0 w λa b=>Ab 3 a b λc d=>Ad c d λf g=>F123.l2 K x0 x1 f (vq vy 0) g)):I vp 123 #[x0,x1] w K:=BK (A:=F123.ann) (args:=[x0,x1]) (qq h)
namespace F127
def ann:=a1 [(3,[0,1])]
def code:=cd f127
def BL:=tp f127
variable(K:VK)(y0 y1:wc)(w:wd)
@[irreducible]def k3:=nk ann 40 [(0,y0),(1,y1)] w [1,1] code (BL K)
end F127
def F127.k3.to(h:(Ag y0 w λa b=>Ab 0 a b λc d=>Ad c d λf g=>I vp 198 #[f,y1] g λi j=>Av 0 i j λk m=>Av 1 i m λo p=>I vp 199 #[k] p λq r=>Av 0 q r λs t=>Av 1 q t λu v=>Av 2 q v λx y=>K (vu #[s,u]) y)):F127.k3 K y0 y1 w:=qq h
def F127.sh(h:(I vp 118 #[x0] w λa b=>AE a b λc d=>Aa v8 c (λK=>K x0 d) d λf g=>Aa v8 c (Ag f g) g λi j=>Aa v8 c (Ab 0 i j) j λk m=>Aa v8 c (Ad k m) m λo p=>Aa v8 c (λK=>K x1 p) p λq r=>Aa v8 c (λK=>I vp 197 #[o,q] r K) r λs t=>Aa v8 c (AE s t) t λu v=>Ar (vz c) (vz (vw v7)) (vz u) v λx y=>Af x (K (vu #[(vq vy (-1)),(vq vy (-1))]) y) (F127.k3 K x0 x1 y))):I vp 127 #[x0,x1] w K:=BK (A:=F127.ann) (args:=[x0,x1]) (qq h)
def F128.sh(h:(I vp 127 #[x0,x1] w λa b=>Av 0 a b λc d=>Av 1 a d λf g=>K f g)):I vp 128 #[x0,x1] w K:=BK (A:=A0) (args:=[x0,x1]) (qq h)
namespace F129
def ann:=a1 [(3,[0,1,2,6])]
def code:=cd f129
def BL:=tp f129
variable(K:VK)(y0 y1 y2 y6:wc)(w:wd)
@[irreducible]def k3:=nk ann 32 [(0,y0),(1,y1),(2,y2),(6,y6)] w [1,1] code (BL K)
end F129
def F129.k3.to(h:(Ag y0 w λa b=>Ab 0 a b λc d=>Ad c d λf g=>U .add y1 (vq vy 1) g λi j=>U .add i y2 j λk m=>I vp 198 #[f,k] m λo p=>Av 0 o p λq r=>Av 1 o r λs t=>I vp 201 #[q] t λu v=>Av 0 u v λx y=>Av 1 u y λz aa=>Aj 2 y6 x aa λab=>Ak 2 y6 ab λr13 _=>K (vu #[r13,z]) ab)):F129.k3 K y0 y1 y2 y6 w:=qq h
def F129.sh(h:(Aw (wj #[vq vy 0,vq vy 0] 60) w λa b=>I vp 200 #[x0,x1,x2] b λc d=>AE c d λf g=>Af f (Am vp (Instr.build 60 #[]) g λi j=>Aj 2 a i j λk=>Ak 2 a k λr6 _=>K (vu #[r6,(vw v8)]) k) (F129.k3 K x0 x1 x2 a g))):I vp 129 #[x0,x1,x2] w K:=BK (A:=F129.ann) (args:=[x0,x1,x2]) (qq h)
namespace F147
def ann:Cd:=⟨[(3,[0,1]),(6,[0,5,16,17,18]),(9,[0,5,16,17,18]),(10,[5])],[(5,[0,5,16,17,18])],[],[],v6⟩
def code:=cd f147
def BL:=tp f147
variable(K:VK)(y0 y1 y5 y16 y17 y18:wc)(w:wd)
def k3:=nk ann 32 [(0,y0),(1,y1)] w [1,1] code (BL K)
def k10:=nk ann 32 [(5,y5)] w [1,1,1,1] code (BL K)
def l5:=nl ann 32 [(0,y0),(5,y5),(16,y16),(17,y17),(18,y18)] w [1,1,1,0,1,0] code (BL K)
def k6:=nk ann 32 [(0,y0),(5,y5),(16,y16),(17,y17),(18,y18)] w [1,1,1,0,1,0,0,1,1] code (BL K)
def k9:=nk ann 32 [(0,y0),(5,y5),(16,y16),(17,y17),(18,y18)] w [1,1,1,0,1,0,0,1,1,1] code (BL K)
attribute [irreducible] k3 k10 l5 k6 k9
end F147
def F147.k3.to(h:(Ag y0 w λa b=>Ab 1 a b λc d=>Ad c d λf g=>I vp 211 #[f,y1] g λi j=>AH i j λk m=>F147.l5 K y0 (vq vy 0) i k (vq vy 0) m)):F147.k3 K y0 y1 w:=qq h
def F147.k10.to(h:(K y5 w)):F147.k10 K y5 w:=qq h
def F147.l5.to(h:(U .lss y18 y17 w λa b=>Af a (F147.k6 K y0 y5 y16 y17 y18 b) (F147.k10 K y5 b))):F147.l5 K y0 y5 y16 y17 y18 w:=by unfold F147.l5 nl;exact BW (qq h)
def F147.k6.to(h:(A6 1 y16 y18 w λa b=>Ad a b λc d=>Ag y0 d λf g=>Ab 0 f g λi j=>Ad i j λk m=>I vp 212 #[k,c] m λo p=>Af o (U .add y5 (vq vy 1) p λq r=>F147.k9 K y0 q y16 y17 y18 r) (F147.k9 K y0 y5 y16 y17 y18 p))):F147.k6 K y0 y5 y16 y17 y18 w:=qq h
def F147.k9.to(h:(U .add y18 (vq vy 1) w λa b=>F147.l5 K y0 y5 y16 y17 a b)):F147.k9 K y0 y5 y16 y17 y18 w:=qq h
def F147.sh(h:(I vp 118 #[x0] w λa b=>AE a b λc d=>Af c (K (vq vy 0) d) (F147.k3 K x0 x1 d))):I vp 147 #[x0,x1] w K:=BK (A:=F147.ann) (args:=[x0,x1]) (qq h)
def F182.sh(h:(I vp 117 #[x0] w λa b=>I vp 175 #[a] b λc d=>U .gtr c (vq vy 0) d λf g=>K f g)):I vp 182 #[x0] w K:=BK (A:=A0) (args:=[x0]) (qq h)
def F200.sh(h:(U .geq x2 (vq vy 0) w λa b=>Aa v7 a (λK=>K x2 b) b λc d=>Aa v7 a (λK=>K x0 d) d λf g=>Aa v7 a (λK=>K x1 g) g λi j=>Aa v7 a (λK=>I vp 128 #[f,i] j K) j λk m=>Aa v7 a (U .lss c k m) m λo p=>Ar (vz a) (vz o) (vz (vw v8)) p λq r=>K q r)):I vp 200 #[x0,x1,x2] w K:=BK (A:=A0) (args:=[x0,x1,x2]) (qq h)
def F233.sh(h:(Aw (wj (wc.cells x3) 60) w λa b=>Ak 2 a b λc d=>I vp 279 #[c] d λf g=>Av 0 f g λi j=>Av 1 f j λk m=>Aa v7 k (λK=>K x0 m) m λo p=>Aa v7 k (λK=>K x1 p) p λq r=>Aa v7 k (λK=>K x2 r) r λs t=>Aa v7 k (λK=>I vp 200 #[o,q,s] t K) t λu v=>Ar (vz k) (vz u) (vz (vw v8)) v λx y=>Aa v7 x (λK=>K x0 y) y λz aa=>Aa v7 x (Ag z aa) aa λab ac=>Aa v7 x (Ab 0 ab ac) ac λad ae=>Aa v7 x (Ad ad ae) ae λaf ag=>Aa v7 x (λK=>K x1 ag) ag λah ai=>Aa v7 x (U .add ah (vq vy 1) ai) ai λaj ak=>Aa v7 x (λK=>K x2 ak) ak λal am=>Aa v7 x (U .add aj al am) am λan ao=>Aa v7 x (λK=>K i ao) ao λap aq=>Aa v7 x (λK=>I vp 181 #[af,an,ap] aq K) aq λar au=>Ar (vz x) (vz ar) (vz (vw v8)) au λav aw=>K av aw)):I vp 233 #[x0,x1,x2,x3] w K:=BK (A:=A0) (args:=[x0,x1,x2,x3]) (qq h)
namespace F273
def ann:=a1 [(3,[0])]
def code:=cd f273
def BL:=tp f273
variable(K:VK)(y0:wc)(w:wd)
@[irreducible]def k3:=nk ann 11 [(0,y0)] w [1,1] code (BL K)
end F273
def F273.k3.to(h:(Ag y0 w λa b=>Ab 0 a b λc d=>Ad c d λf g=>I vp 114 #[f] g λi j=>K i j)):F273.k3 K y0 w:=qq h
def F273.sh(h:(I vp 118 #[x0] w λa b=>AE a b λc d=>Af c (K (vq vy 0) d) (F273.k3 K x0 d))):I vp 273 #[x0] w K:=BK (A:=F273.ann) (args:=[x0]) (qq h)
namespace F325
def ann:Cd:=⟨[(4,[1,5,9,10,11]),(7,[1,5,9,10,11]),(8,[5])],[(3,[1,5,9,10,11])],[],[],v6⟩
def code:=cd f325
def BL:=tp f325
variable(K:VK)(y1 y5 y9 y10 y11:wc)(w:wd)
def k8:=nk ann 25 [(5,y5)] w [1,1,1] code (BL K)
def l3:=nl ann 25 [(1,y1),(5,y5),(9,y9),(10,y10),(11,y11)] w [1,1,0,1,0] code (BL K)
def k4:=nk ann 25 [(1,y1),(5,y5),(9,y9),(10,y10),(11,y11)] w [1,1,0,1,0,0,1,1] code (BL K)
def k7:=nk ann 25 [(1,y1),(5,y5),(9,y9),(10,y10),(11,y11)] w [1,1,0,1,0,0,1,1,1] code (BL K)
attribute [irreducible] k8 l3 k4 k7
end F325
def F325.k8.to(h:(K y5 w)):F325.k8 K y5 w:=qq h
def F325.l3.to(h:(U .lss y11 y10 w λa b=>Af a (F325.k4 K y1 y5 y9 y10 y11 b) (F325.k8 K y5 b))):F325.l3 K y1 y5 y9 y10 y11 w:=by unfold F325.l3 nl;exact BW (qq h)
def F325.k4.to(h:(A6 1 y9 y11 w λa b=>Ad a b λc d=>I vp 272 #[c] d λf g=>U .eql f y1 g λi j=>Af i (Am vp (Instr.buildSlice 54 1 #[(0,c)]) j λk m=>Am vp (Builtin.append_ #[54,54] 54 #[y5,k]) m λo p=>F325.k7 K y1 o y9 y10 y11 p) (F325.k7 K y1 y5 y9 y10 y11 j))):F325.k4 K y1 y5 y9 y10 y11 w:=qq h
def F325.k7.to(h:(U .add y11 (vq vy 1) w λa b=>F325.l3 K y1 y5 y9 y10 a b)):F325.k7 K y1 y5 y9 y10 y11 w:=qq h
def F325.sh(h:(I vp 92 #[x0] w λa b=>AH a b λc d=>F325.l3 K x1 (.slice v6 0 0) a c (vq vy 0) d)):I vp 325 #[x0,x1] w K:=BK (A:=F325.ann) (args:=[x0,x1]) (qq h)
def F327.sh(h:(I vp 118 #[x0] w λa b=>Aa v7 a (λK=>K x0 b) b λc d=>Aa v7 a (Ag c d) d λf g=>Aa v7 a (Ab 0 f g) g λi j=>Aa v7 a (Ad i j) j λk m=>Aa v7 a (λK=>K x1 m) m λo p=>Aa v7 a (λK=>I vp 338 #[k,o] p K) p λq r=>Ar (vz a) (vz q) (vz (vw v8)) r λs t=>K s t)):I vp 327 #[x0,x1] w K:=BK (A:=A0) (args:=[x0,x1]) (qq h)
def F328.sh(h:(I vp 118 #[x0] w λa b=>Aa v7 a (λK=>K x0 b) b λc d=>Aa v7 a (λK=>K x1 d) d λf g=>Aa v7 a (λK=>I vp 339 #[c,f] g K) g λi j=>Aa v7 a (U .lss i (vq vy 0) j) j λk m=>Ar (vz a) (vz k) (vz (vw v8)) m λo p=>Aa v7 o (λK=>K x0 p) p λq r=>Aa v7 o (Ag q r) r λs t=>Aa v7 o (Ab 0 s t) t λu v=>Aa v7 o (Ad u v) v λx y=>Aa v7 o (λK=>K x1 y) y λz aa=>Aa v7 o (λK=>I vp 212 #[x,z] aa K) aa λab ac=>Ar (vz o) (vz ab) (vz (vw v8)) ac λad ae=>K ad ae)):I vp 328 #[x0,x1] w K:=BK (A:=A0) (args:=[x0,x1]) (qq h)
namespace F339
def ann:=a1 [(3,[0,1])]
def code:=cd f339
def BL:=tp f339
variable(K:VK)(y0 y1:wc)(w:wd)
@[irreducible]def k3:=nk ann 20 [(0,y0),(1,y1)] w [1,1] code (BL K)
end F339
def F339.k3.to(h:(Ag y0 w λa b=>Ab 1 a b λc d=>Ad c d λf g=>I vp 185 #[f,y1] g λi j=>Av 0 i j λk m=>Av 1 i m λo p=>K k p)):F339.k3 K y0 y1 w:=qq h
def F339.sh(h:(I vp 118 #[x0] w λa b=>AE a b λc d=>Af c (K (vq vy (-1)) d) (F339.k3 K x0 x1 d))):I vp 339 #[x0,x1] w K:=BK (A:=F339.ann) (args:=[x0,x1]) (qq h)
end
end Go.Proofs.QV
