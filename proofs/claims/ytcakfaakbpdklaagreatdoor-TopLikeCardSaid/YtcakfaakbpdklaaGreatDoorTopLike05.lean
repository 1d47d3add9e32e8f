/- Part 5 of what the law needs: own lemmas, in the order in which they build. -/
import Derived.Test.YtcakfaakbpdklaaGreatDoorProg
import Derived.Test.YtcakfaakbpdklaaGreatDoorTopLike04
set_option linter.defProp false
set_option linter.unusedSimpArgs false
set_option linter.unusedVariables false
set_option maxRecDepth 100000
namespace Go.Proofs.QV
open Go Go.Proofs Go.Proofs.Tryz
open Go.Proofs.Tryz renaming prog->vp
open Go.IntKind renaming i64->vy
open Go.Value renaming int->vq,pointer->vr,slice->vt,bool->vw
open Option renaming some->vz
open Option renaming none->v6
open Bool renaming true->v7
open Bool renaming false->v8
open Go renaming Value->wc
open Go renaming World->wd
open Or renaming inl->wg
open Or renaming inr->wh
open Go.Obj renaming cells->wj
section
open Go.RowKit
def Md{f:FuncId}{cap:Array wc}{args:List wc}{w:wd}{K:VK}(hb:DX vp f=v7)(h:I vp f (args++cap.toList).toArray w K):DK vp (.func (.func f) #[] cap) args w K:=by simp only[DK,hb,vf,j5];exact h
def BO.spot{K:VK}{w:wd}{v:wc}{e:TypeId}{sz:Nat}{xs:List (List wc)}{k:IntKind}{j:Nat}(ho:BO w v e sz xs)(hj:j<xs.length)(hk:∀g o cs,w.heap[g]?=vz (wj cs e (0,0))->BM v=[g]->o+sz<=cs.size->(∀i,i<sz->cs[o+i]?=xs[j][i]?)->
   (∀(y:List wc) w',y.length=sz->(∀u∈y,u.oneCell'=v7)->w'.heap[g]?=vz (wj (CD cs.toList o y).toArray e (0,0))->BO w' v e sz (xs.set j y))->K (vr (vz ⟨g,o,v6⟩)) w):A6 sz v (vq k (j:Int)) w K:=by
 obtain⟨⟨h2,h3⟩,h4⟩:=ho;rcases h3 with⟨rfl,h3⟩|⟨g,cap,cur,rfl,hb,hh,h5,h6,h7,h8⟩
 ·omega
 ·rw[Bo];have hle:(j+1)*sz<=cap*sz:=yP _ (by omega);have hle2:(j+1)*sz<=xs.length*sz:=yP _ hj;have hle3:xs.length*sz<=cap*sz:=yP _ h5;rw[u9]at hle hle2;refine⟨⟨by omega,by omega⟩,?_⟩;rw[zE,uy];have ht:(cur.toList.take (xs.length*sz)).length=xs.length*sz:=List.length_take_of_le (by simp;omega);refine hk g (j*sz) cur hh (by simp[BM,wc.ownBlock]) (by omega) (λi hi=>?_) λy w' hy h1 hw=>?_
  ·have:=Ep xs (λx hx=>(h4 x hx).1) j xs[j] (xO hj) i hi;rw[<-h8,yX,vn (by omega)]at this;rw[<-this,yB]
  ·have hsz:(CD cur.toList (j*sz) y).length=cur.toList.length:=E4 (by rw[hy];simp;omega);refine BO.of_block (n:=xs.length) hw (by simp) h5 (by unfold maxLen at h6;omega) (by rw[List.size_toArray,hsz];simpa using h7) (λz hz=>?_) ?_
   ·rcases xK hz with hz|rfl
    ·exact h4 z hz
    ·exact⟨hy,h1⟩
   ·rw[Gf hy xs (λz hz=>(h4 z hz).1) _ hj, <-h8];show (CD cur.toList (j*sz) y).take (xs.length*sz)=CD (cur.toList.take (xs.length*sz)) (j*sz) y;generalize hT:cur.toList.take (xs.length*sz)=T at *;have hc:cur.toList=T++cur.toList.drop (xs.length*sz):=by rw[<-hT];exact (yH _ _).symm
    rw[hc,Hr (by rw[hy,ht];omega)];exact List.take_left' (by rw[E4 (by rw[hy,ht];omega),ht])
def Jf{cs:Array wc}{o:Nat}{a x:wc}(h0:cs[o]?=vz a)(hn:o+2<=cs.size):(CD cs.toList o [a,x]).toArray=cs.setIfInBounds (o+1) x:=by
 apply Array.ext_getElem?;intro i;rw[wX,yD];unfold CD;have e1:(cs.toList.take o).length=o:=by rw[b7];simp;omega
 rw[yL];by_cases b1:i<o+2
 ·rw[vn (by rw[yY,e1];exact b1),yL,e1];by_cases b2:i<o
  ·rw[vn b2,yX,vn b2,vm (by omega),yB]
  ·rw[vm b2];by_cases b3:i=o
   ·subst b3;simp[h0]
   ·have:i=o+1:=by omega
    subst this;rw[vn rfl,vn (by omega),show o+1-o=1 by omega];rfl
 ·rw[vm (by rw[yY,e1];exact b1),yW,vm (by omega),yY,e1];simp only[zY,i7];rw[yB];congr 1;omega
def Hl(l:List (Bool × Int)):List (List wc):=l.map λm=>[vw m.1,vq vy m.2]
def Io(l:List (Bool × Int)):(Hl l).length=l.length:=by simp[Hl]
def Td(l:List (Bool × Int))(j:Nat)(m:Bool × Int):Hl (l.set j m)=(Hl l).set j [vw m.1,vq vy m.2]:=by simp[Hl]
structure Dv(re:Nat)(rv:wc)(w:wd)(r:Rg):Prop where
 blk:w.heap[re]?=vz (wj #[vw v7,vq vy r.ep,rv] 183 (0,0))
 own:BO w rv 212 2 (Hl r.l)
 le:r.l.length<=8
section
variable{K:VK}{w w':wd}{re:Nat}{rv:wc}{r:Rg}
def Dv.keep{S:List Nat}(h:Dv re rv w r)(hf:Fr S w w')(h1:re∉S)(h2:∀g∈BM rv,g∉S):Dv re rv w' r:=⟨hf.at_ h.blk h1,h.own.keep' hf h2,h.le⟩
def Dv.keep0(h:Dv re rv w r)(hf:Fr [] w w'):Dv re rv w' r:=h.keep hf (by simp) (by simp)
def Dv.setL{l:List (Bool × Int)}(h:Dv re rv w r)(hf:Fr (BM rv) w w')(ho:BO w' rv 212 2 (Hl l))(hl:l.length=r.l.length):Dv re rv w' { r with l:=l }:=
 ⟨hf.at_ h.blk (h.own.nb h.blk (by decide)),ho,by have:=h.le;simp only;omega⟩
def Bj{k:IntKind}{j:Nat}(h:Dv re rv w r)(hj:j<r.l.length)(hk:∀g o cs,w.heap[g]?=vz (wj cs 212 (0,0))->BM rv=[g]->o+2<=cs.size->cs[o]?=vz (vw r.l[j].1)->cs[o+1]?=vz (vq vy r.l[j].2)->
   (∀(m:Bool × Int) w',Fr [g] w w'->w'.heap[g]?=vz (wj (CD cs.toList o [vw m.1,vq vy m.2]).toArray 212 (0,0))->Dv re rv w' { r with l:=r.l.set j m })->K (vr (vz ⟨g,o,v6⟩)) w):A6 2 rv (vq k (j:Int)) w K:=by
 refine h.own.spot (by rw[Io];exact hj) λg o cs hg hb ho hc hs=>hk g o cs hg hb ho ?_ ?_ λm w' hf hw=>h.setL (hb ▸ hf) (by rw[Td];exact hs _ w' rfl (by simp[wc.oneCell']) hw) (by simp)
 ·have:=hc 0 (by omega);simpa[Hl] using this
 ·have:=hc 1 (by omega);simpa[Hl] using this
def live_eq{t:Int}:r.live t=v7↔0<=t/\t<r.l.length/\(r.l.getD t.toNat (v8,0)).1=v7:=by unfold Rg.live;simp[and_assoc]
def Kl{t:Int}(h:Dv re rv w r)(hk:K (vw (r.live t)) w):I vp 95 #[vr (vz ⟨re,0,v6⟩),vq vy t] w K:=by
 refine F95.sh ⟨_,CN _ _ _ Tryz.underlying124,?_⟩
 try simp only[zv]
 unfold Rg.live at hk;by_cases z1:t≥0
 ·simp only[zv,z1];refine Ac (v:=rv) h.blk rfl (AK h.own.rd ?_);rw[Io];rw[o8 (show 0<=t from z1)]at hk;by_cases z2:t<(r.l.length:Int)
  ·simp only[zv,z2];rw[o8 z2]at hk;refine Ac (v:=rv) h.blk rfl ?_;obtain⟨j,rfl⟩:=xQ z1;have hj:j<r.l.length:=by omega
   refine Bj h hj λg o cs hg _ ho c0 c1 _=>?_
   try simp only[Ah]
   refine Ac (v:=vw r.l[j].1) hg c0 ?_;simpa[hj] using hk
  ·simp only[zv,z2];rw[m8 z2]at hk;simpa using hk
 ·simp only[zv,z1];rw[m8 (show ¬ 0<=t from z1)]at hk;simpa using hk
def Qj{t:Int}(h:Dv re rv w r)(hk:∀w',Fr (re::BM rv) w w'->Dv re rv w' (r.attach t).1->K (vw (r.attach t).2) w'):I vp 142 #[vr (vz ⟨re,0,v6⟩),vq vy t] w K:=by
 refine F142.sh ⟨_,Cj _ _ _ Tryz.underlying124,?_⟩
 try simp only[zv]
 unfold Rg.attach at hk;by_cases z1:t<0
 ·simp only[zv,z1];rw[vm (by omega)]at hk;exact hk w (Fr.refl _ _) h
 simp only[zv,z1];refine Ac (v:=rv) h.blk rfl (AK h.own.rd ?_);rw[Io];by_cases z2:t≥(r.l.length:Int)
 ·simp only[zv,z2];rw[vm (by omega)]at hk;exact hk w (Fr.refl _ _) h
 simp only[zv,z2];refine Ac (v:=rv) h.blk rfl ?_;obtain⟨j,rfl⟩:=xQ (show 0<=t by omega);have hj:j<r.l.length:=by omega
 have hlive:r.live (j:Int)=r.l[j].1:=by unfold Rg.live;simp[hj]
 refine Bj h hj λg o cs hg _ ho c0 c1 _=>?_
 try simp only[Ah]
 refine Ac (v:=vw r.l[j].1) hg c0 ?_;rw[hlive]at hk;cases z3:r.l[j].1 with
 | true=>
  rw[z3]at hk;simp only[zQ,and_false,vg]at hk;simp only[Ai];exact hk w (Fr.refl _ _) h
 | false=>
  rw[z3]at hk;rw[vn ⟨by omega,by omega,by simp⟩]at hk;simp only[Ae];refine F142.k3.to (A8 (λw'=>w'.heap[re]?=vz (wj #[vw v7,vq vy r.ep,rv] 183 (0,0))) λw1 hf1 _=>⟨hf1.at_ h.blk (by simp),?_⟩);have h1:=h.keep0 hf1
  try simp only[zv]
  refine Aq (v:=rv) (λw' hw=>⟨_,_,_,hw,rfl⟩) (Aq (v:=vq vy r.ep) (λw' hw=>⟨_,_,_,hw,rfl⟩) ⟨.agg #[vw v7,vq vy r.ep],λw' _=>by kernel_rfl,?_⟩);refine Bj h1 hj λg o cs hg hb ho c0 c1 hset=>⟨Bq hg rfl (by simp[wc.cells,wc.oneCell']) ho λw2 hu=>?_,trivial⟩;have h2:=hset (v7,r.ep) w2 hu.fr hu.at_;exact⟨h2.blk,hk w2 (hf1.w.trans (hu.fr.mono λz hz=>by simp only[yZ]at hz;rw[hb];simp[hz])) h2⟩
def Jy{t:Int}(h:r.live t=v7):∃j:Nat,t=(j:Int)/\∃hj:j<r.l.length,r.l[j].1=v7:=by
 obtain⟨h1,h2,h3⟩:=live_eq.1 h;obtain⟨j,rfl⟩:=xQ h1;have hj:j<r.l.length:=by omega
 exact⟨j,rfl,hj,by simpa[hj] using h3⟩
def Qm{t:Int}(h:Dv re rv w r)(hk:∀b w',Fr (re::BM rv) w w'->Dv re rv w' (r.detach t)->K (vw b) w'):I vp 148 #[vr (vz ⟨re,0,v6⟩),vq vy t] w K:=by
 refine F148.sh (Kl h ?_);unfold Rg.detach at hk;cases z:r.live t with
 | false=>
  rw[z]at hk;simp only[yT,vg]at hk;simp only[zv];exact hk _ w (Fr.refl _ _) h
 | true=>
  rw[z]at hk;simp only[vj]at hk;obtain⟨j,rfl,hj,hl⟩:=Jy z;simp only[zv];refine F148.k3.to ?_
  try simp only[zv]
  refine Ac (v:=rv) h.blk rfl (A7 (w':=w) (v := .agg #[vw v8,vq vy 0]) (by kernel_rfl) ?_);refine Bj h hj λg o cs hg hb ho c0 c1 hset=>Bq hg rfl (by simp[wc.cells,wc.oneCell']) ho λw2 hu=>?_;exact hk _ w2 (hu.fr.mono λz hz=>by simp only[yZ]at hz;rw[hb];simp[hz]) (hset (v8,0) w2 hu.fr hu.at_)
def TX(h:Dv re rv w r)(hk:K (vq vy r.ep) w):I vp 278 #[vr (vz ⟨re,0,v6⟩)] w K:=by
 refine F278.sh ⟨_,Cj _ _ _ Tryz.underlying124,?_⟩
 try simp only[Ae]
 refine F278.k3.to ?_
 try simp only[zv]
 exact Ac (v:=vq vy r.ep) h.blk rfl hk
def Uu(h:Dv re rv w r)(hk:∀v w',Fr (re::BM rv) w w'->Dv re rv w' r.raise->K v w'):I vp 266 #[vr (vz ⟨re,0,v6⟩)] w K:=by
 refine F266.sh ⟨_,Cj _ _ _ Tryz.underlying124,?_⟩
 try simp only[zv]
 refine Ac (v:=vw v7) h.blk rfl ?_
 try simp only[zv]
 refine F266.k3.to ?_
 try simp only[zv]
 refine Ac (v:=vq vy r.ep) h.blk rfl ?_
 try simp only[AC]
 refine AM h.blk rfl rfl (by simp) λw1 hu=>?_;refine Ac (v:=vq vy (CJ (r.ep+1))) hu.at_ rfl ?_;exact hk _ w1 (hu.fr.mono (by simp)) ⟨by simpa[Rg.raise,CJ] using hu.at_,h.own.keep' hu.fr (λg hg e=>by simp only[yZ]at e;subst e;exact h.own.nb h.blk (by decide) hg),h.le⟩
def WW{t:Int}(h:Dv re rv w r)(hk:K (vq vy (r.ofT t)) w):I vp 277 #[vr (vz ⟨re,0,v6⟩),vq vy t] w K:=by
 refine F277.sh (Kl h ?_);unfold Rg.ofT at hk;cases z:r.live t with
 | false=>
  rw[z]at hk;simp only[yT,vg]at hk;simp only[zv];exact hk
 | true=>
  rw[z]at hk;simp only[vj]at hk;obtain⟨j,rfl,hj,hl⟩:=Jy z;simp only[zv];refine F277.k3.to ?_
  try simp only[zv]
  refine Ac (v:=rv) h.blk rfl (Bj h hj λg o cs hg hb ho c0 c1 hset=>?_)
  try simp only[Ah]
  refine Ac (v:=vq vy r.l[j].2) hg c1 ?_;simpa[hj] using hk
def PK{t:Int}(h:Dv re rv w r)(hk:∀w',Fr (re::BM rv) w w'->Dv re rv w' (r.confirm t).1->K (vw (r.confirm t).2) w'):I vp 160 #[vr (vz ⟨re,0,v6⟩),vq vy t] w K:=by
 refine F160.sh (A8 (λw'=>Dv re rv w' r) λw1 hf1 _=>⟨h.keep0 hf1,?_⟩);have h1:=h.keep0 hf1;refine⟨Kl h1 ⟨h1,?_⟩,trivial⟩;unfold Rg.confirm at hk;cases z:r.live t with
 | false=>
  rw[z]at hk;simp only[yT,false_and,vg]at hk;simp only[zv];exact⟨⟨h1,hk w1 hf1.w h1⟩,trivial⟩
 | true=>
  rw[z]at hk;obtain⟨j,rfl,hj,hl⟩:=Jy z;have eo:r.ofT (j:Int)=r.l[j].2:=by unfold Rg.ofT;rw[z];simp[hj]
  rw[eo]at hk;simp only[zv];refine Aq (v:=rv) (λw' hw=>⟨_,_,_,hw.blk,rfl⟩) (Bj h1 hj λg o cs hg hb ho c0 c1 hset=>?_)
  try simp only[Ah]
  refine Aq (v:=vq vy r.ep) (λw' hw=>⟨_,_,_,hw.blk,rfl⟩) ⟨Ac (v:=vq vy r.l[j].2) hg c1 ⟨h1,?_⟩,trivial⟩;by_cases y:r.l[j].2≥r.ep
  ·simp only[zv,y];rw[vm (by omega)]at hk;exact hk w1 hf1.w h1
  ·simp only[zv,y];rw[vn ⟨rfl,by omega⟩]at hk;refine F160.k3.to (A8 (λw'=>w'.heap[re]?=vz (wj #[vw v7,vq vy r.ep,rv] 183 (0,0))) λw2 hf2 _=>⟨hf2.at_ h1.blk (by simp),?_⟩);have h2:=h1.keep0 hf2
   try simp only[zv]
   refine Aq (v:=rv) (λw' hw=>⟨_,_,_,hw,rfl⟩) (Aq (v:=vq vy r.ep) (λw' hw=>⟨_,_,_,hw,rfl⟩) (Bj h2 hj λg o cs hg hb ho c0 c1 hset=>?_))
   try simp only[Ah]
   refine⟨AM hg rfl rfl (by omega) λw3 hu=>?_,trivial⟩;have h3:=hset (v7,r.ep) w3 hu.fr (by rw[Jf (by rw[c0,hl]) ho];exact hu.at_);exact⟨h3.blk,hk w3 ((hf1.trans hf2).w.trans (hu.fr.mono λz hz=>by simp only[yZ]at hz;rw[hb];simp[hz])) h3⟩
def Me:DX vp 297=v7:=by kernel_rfl
def SW(r:Rg):List Int:=((List.range r.l.length).filter λj=>(r.l.getD j (v8,0)).1 && decide ((r.l.getD j (v8,0)).2<r.ep)).map Int.ofNat
def Q0(r:Rg):decide (((SW r).length:Int)=0)=r.agreed:=by
 rw[f9];simp only[zP,SW,i6,Rg.agreed,zT];constructor
 ·intro h m hm;obtain⟨j,hj,rfl⟩:=yS hm;have hnil:=List.length_eq_zero_iff.1 (show _=0 by exact_mod_cast h);have:=List.filter_eq_nil_iff.1 hnil j (n9.2 hj);simp only[List.getD,xO hj,d8]at this;cases hh:(r.l[j].1 && decide (r.l[j].2<r.ep)) with
  | true=>rw[hh]at this;exact absurd rfl this
  | false=>rfl
 ·intro h;have:((List.range r.l.length).filter λj=>(r.l.getD j (v8,0)).1 && decide ((r.l.getD j (v8,0)).2<r.ep))=[]:=by rw[List.filter_eq_nil_iff];intro j hj;have hj:=n9.1 hj;have:=h r.l[j] (zW hj);simp only[List.getD,xO hj,d8];intro hc;rw[hc]at this;cases this
  rw[this];rfl
def Pi{W:wd}{x:Nat}(h0:Dv re rv W r)(hx0:W.heap[x]?=vz (wj #[vr (vz ⟨re,0,v6⟩)] 124 (0,0)))(hk:∀v w',Fr [] W w'->BO w' v 3 1 (Ca (SW r))->K v w'):
  ∀(d i:Nat) (w:wd) (v:wc),i+d=r.l.length->Fr [] W w->Cc W v->BO w v 3 1 (Ca (((List.range i).filter λj=>(r.l.getD j (v8,0)).1 && decide ((r.l.getD j (v8,0)).2<r.ep)).map Int.ofNat))->
   F296.l5 K (.func (.func 297) #[] #[vr (vz ⟨x,0,v6⟩)]) v rv (vq vy (r.l.length:Int)) (vq vy (i:Int)) w:=by
 have hle:=h0.le;intro d;induction d with
 | zero=>
  intro i w v hi hf hn hv;have e:i=r.l.length:=by omega
  subst e;refine F296.l5.to ?_;simp only[zv,show ¬((r.l.length:Int)<(r.l.length:Int)) by omega];exact F296.k10.to (hk v w hf hv)
 | succ d ih=>
  intro i w v hi hf hn hv;have hlt:i<r.l.length:=by omega
  have h:=h0.keep0 hf;refine F296.l5.to ?_;simp only[zv,show (i:Int)<(r.l.length:Int) by omega];have eg:r.l.getD i (v8,0)=r.l[i]:=by simp[List.getD,hlt]
  have step:∀w' v',Fr [] W w'->Cc W v'->BO w' v' 3 1 (Ca (((List.range i).filter λj=>(r.l.getD j (v8,0)).1 && decide ((r.l.getD j (v8,0)).2<r.ep)).map Int.ofNat++if r.l[i].1 && decide (r.l[i].2<r.ep) then[(i:Int)] else[]))->
    F296.k9 K (.func (.func 297) #[] #[vr (vz ⟨x,0,v6⟩)]) v' rv (vq vy (r.l.length:Int)) (vq vy (i:Int)) w':=λw' v' hf' hn' hv'=>by
   refine F296.k9.to ?_
   try simp only[AC]
   rw[BN (n:=(i:Int)+1) (by omega)];refine ih (i+1) w' v' (by omega) hf' hn' ?_;have e1:List.map Int.ofNat ((List.range (i+1)).filter λj=>(r.l.getD j (v8,0)).1 && decide ((r.l.getD j (v8,0)).2<r.ep))=((List.range i).filter λj=>(r.l.getD j (v8,0)).1 && decide ((r.l.getD j (v8,0)).2<r.ep)).map Int.ofNat++if r.l[i].1 && decide (r.l[i].2<r.ep) then[(i:Int)] else[]:=by rw[j7,yU,i9];congr 1;rw[List.filter_cons,eg];cases r.l[i].1 && decide (r.l[i].2<r.ep)<;>simp
   rw[e1];exact hv'
  have hl2:(((List.range i).filter λj=>(r.l.getD j (v8,0)).1 && decide ((r.l.getD j (v8,0)).2<r.ep)).map Int.ofNat).length<=8:=by rw[i6];exact uw (yE _ _) (by rw[zJ];omega)
  refine F296.k6.to (Bj h hlt λg o cs hg hb ho c0 c1 _=>?_);have hcs:(cs.toList.drop o).take 2=[vw r.l[i].1,vq vy r.l[i].2]:=by
   apply zF;intro q;rw[yX,yW]
   match q with
   | 0=>simpa using c0
   | 1=>simpa using c1
   | q+2=>rw[vm (by omega)];rfl
  refine AY hg ho hcs (Ay λy w1 hn1=>AB hn1.at_ rfl (by simp[wc.cells,wc.oneCell']) rfl λw2 hu2=>?_);have l1:=hn1.is;have f2:Fr [] w w2:=hn1.fr.then hu2.fr (by simp;omega);have h2:=h.keep0 f2;have y2:=hu2.at_
  try simp only[zv]
  refine Ac (v:=vw r.l[i].1) y2 rfl ?_;have hv2:=hv.keep f2 (by simp);cases z1:r.l[i].1 with
  | false=>
   simp only[zv];refine step w2 v (hf.trans f2) hn ?_;rw[z1];simpa using hv2
  | true=>
   simp only[zv];refine AY (vs:=[vw v7,vq vy r.l[i].2]) y2 (by simp[wc.cells]) (by simp[wc.cells,z1]) (Md Me (F297.sh (Ay λq w3 hn3=>A8 (λw'=>Dv re rv w' r/\w'.heap[q]?=vz (wj #[vw v7,vq vy r.l[i].2] 212 (0,0))/\w'.heap[x]?=vz (wj #[vr (vz ⟨re,0,v6⟩)] 124 (0,0))) λw4 hf4 _=>⟨⟨(h2.keep0 hn3.fr).keep0 hf4,hf4.at_ hn3.at_ (by simp),(((hf.trans f2).trans hn3.fr).trans hf4).at_ hx0 (by simp)⟩,?_⟩)))
   have f4:=hn3.fr.trans hf4
   try simp only[zv]
   refine Aq (v:=vq vy r.l[i].2) (λw' hw=>⟨_,_,_,hw.2.1,rfl⟩) (Aq (v:=vr (vz ⟨re,0,v6⟩)) (λw' hw=>⟨_,_,_,hw.2.2,rfl⟩) ?_)
   try simp only[zv]
   refine Aq (v:=vq vy r.ep) (λw' hw=>⟨_,_,_,hw.1.blk,rfl⟩) ?_;have hv4:=hv2.keep f4 (by simp);by_cases z2:r.l[i].2<r.ep
   ·simp only[zv,z2];refine Bz ((hf.trans f2).trans f4) hn hv4 (by omega) λv' w5 hf5 hn5 ho5 _ _=>step w5 v' hf5 hn5 ?_;rw[z1];simpa[z2] using ho5
   ·simp only[zv,z2];refine step w4 v ((hf.trans f2).trans f4) hn ?_;rw[z1];simpa[z2] using hv4
def RN(h:Dv re rv w r)(hk:∀w',Fr [] w w'->K (vw r.agreed) w'):I vp 213 #[vr (vz ⟨re,0,v6⟩)] w K:=by
 refine F213.sh (F265.sh (Ay λx w1 hn=>Ac (v:=vr (vz ⟨re,0,v6⟩)) hn.at_ rfl ?_));refine F296.sh ⟨_,Cj _ _ _ Tryz.underlying124,?_⟩;have h1:=h.keep0 hn.fr
 try simp only[zv]
 refine F296.k3.to ?_
 try simp only[zv]
 refine Ac (v:=rv) h1.blk rfl (AK h1.own.rd ?_);rw[Io];refine Pi (W:=w1) h1 hn.at_ (λv w2 hf2 hv2=>?_) r.l.length 0 w1 _ (by omega) (Fr.refl _ _) (Cc.nil _) (BO.nil _ _ _);refine AK hv2.rd ?_;rw[Cm]
 try simp only[Ap]
 rw[Q0];exact hk w2 (hn.fr.trans hf2)
end
end
noncomputable section
variable{K:VK}{w:wd}{x0 x1 y0 y1 y7 y8:wc}
namespace F298
def ann:Cd:=⟨[(3,[0,1,7,8]),(6,[0,1,7,8]),(7,[])],[(2,[0,1,7,8])],[],[],v6⟩
def code:=cd f298
def BL:=tp f298
variable(K:VK)(y0 y1 y7 y8:wc)(w:wd)
def k7:=nk ann 19 [] w [1,1] code (BL K)
def l2:=nl ann 19 [(0,y0),(1,y1),(7,y7),(8,y8)] w [1,0,1,0] code (BL K)
def k3:=nk ann 19 [(0,y0),(1,y1),(7,y7),(8,y8)] w [1,0,1,0,0,1,1] code (BL K)
def k6:=nk ann 19 [(0,y0),(1,y1),(7,y7),(8,y8)] w [1,0,1,0,0,1,1,1] code (BL K)
attribute [irreducible] k7 l2 k3 k6
end F298
def F298.k7.to(h:(K (vq vy (-1)) w)):F298.k7 K w:=qq h
def F298.l2.to(h:(U .lss y8 y7 w λa b=>Af a (F298.k3 K y0 y1 y7 y8 b) (F298.k7 K b))):F298.l2 K y0 y1 y7 y8 w:=by unfold F298.l2 nl;exact BW (qq h)
def F298.k3.to(h:(A6 1 y0 y8 w λa b=>Ad a b λc d=>DK vp y1 [c] d λf g=>Af f (K y8 g) (F298.k6 K y0 y1 y7 y8 g))):F298.k3 K y0 y1 y7 y8 w:=qq h
def F298.k6.to(h:(U .add y8 (vq vy 1) w λa b=>F298.l2 K y0 y1 y7 a b)):F298.k6 K y0 y1 y7 y8 w:=qq h
def F298.sh(h:(AH x0 w λa b=>F298.l2 K x0 x1 a (vq vy 0) b)):I vp 298 #[x0,x1] w K:=BK (A:=F298.ann) (args:=[x0,x1]) (qq h)
def F267.sh(h:(I vp 298 #[x0,x1] w λa b=>U .geq a (vq vy 0) b λc d=>K c d)):I vp 267 #[x0,x1] w K:=BK (A:=A0) (args:=[x0,x1]) (qq h)
namespace F80
def ann:=a1 [(3,[0])]
def code:=cd f80
def BL:=tp f80
variable(K:VK)(y0:wc)(w:wd)
@[irreducible]def k3:=nk ann 8 [(0,y0)] w [1,1] code (BL K)
end F80
def F80.k3.to(h:(Am vp (Instr.buildSlice 56 0 #[]) w λa b=>Am vp (Builtin.append_ #[56,56] 56 #[a,y0]) b λc d=>K c d)):F80.k3 K y0 w:=qq h
def F80.sh(h:(AG vp .eql 56 (.tmp 3) (.const (vt v6 0 0)) x0 (vt v6 0 0) w λa b=>Af a (K (vt v6 0 0) b) (F80.k3 K x0 b))):I vp 80 #[x0] w K:=BK (A:=F80.ann) (args:=[x0]) (qq h)
namespace F240
def ann:=a1 [(3,[0])]
def code:=cd f240
def BL:=tp f240
variable(K:VK)(y0:wc)(w:wd)
@[irreducible]def k3:=nk ann 8 [(0,y0)] w [1,1] code (BL K)
end F240
def F240.k3.to(h:(Am vp (Instr.buildSlice 54 0 #[]) w λa b=>Am vp (Builtin.append_ #[54,54] 54 #[a,y0]) b λc d=>K c d)):F240.k3 K y0 w:=qq h
def F240.sh(h:(AG vp .eql 54 (.tmp 3) (.const (vt v6 0 0)) x0 (vt v6 0 0) w λa b=>Af a (K (vt v6 0 0) b) (F240.k3 K x0 b))):I vp 240 #[x0] w K:=BK (A:=F240.ann) (args:=[x0]) (qq h)
end
section
open Go.RowKit
def JK{cs:Array wc}{o:Nat}{x:wc}(hn:o+1<=cs.size):(CD cs.toList o [x]).toArray=cs.setIfInBounds o x:=by
 apply Array.ext_getElem?;intro i;rw[wX,yD];unfold CD;have e1:(cs.toList.take o).length=o:=by rw[b7];simp;omega
 rw[yL];by_cases b1:i<o+1
 ·rw[vn (by rw[yY,e1];exact b1),yL,e1];by_cases b2:i<o
  ·rw[vn b2,yX,vn b2,vm (by omega),yB]
  ·have:i=o:=by omega
   subst this;rw[vm b2,vn rfl,vn (by omega),show i-i=0 by omega];rfl
 ·rw[vm (by rw[yY,e1];exact b1),yW,vm (by omega),yY,e1];simp only[zY,i7];rw[yB];congr 1;omega
def Gd(vs:List wc):List (List wc):=vs.map λv=>[v]
def Ht(vs:List wc):(Gd vs).length=vs.length:=by simp[Gd]
def Nv(vs:List wc)(j:Nat)(v:wc):Gd (vs.set j v)=(Gd vs).set j [v]:=by simp[Gd]
def CM(vs:List wc):List Nat:=vs.flatMap BM
def CR{vs:List wc}{x:Nat}:x∈CM vs↔∃v∈vs,x∈BM v:=by simp[CM]
def CH{vs:List wc}{j:Nat}(hj:j<vs.length){x:Nat}(hx:x∈BM vs[j]):x∈CM vs:=CR.2 ⟨_,zW hj,hx⟩
def DB{vs:List wc}{j:Nat}{v:wc}{x:Nat}(h:x∈CM (vs.set j v)):x∈CM vs∨x∈BM v:=by
 obtain⟨u,hu,hx⟩:=CR.1 h;rcases xK hu with c|c
 ·exact wg (CR.2 ⟨u,c,hx⟩)
 ·exact wh (c ▸ hx)
structure ER(w:wd)(e:TypeId)(sz:Nat)(vs:List wc)(xs:List (List (List wc))):Prop where
 len:vs.length=xs.length
 row:∀(i:Nat) (h:i<vs.length) (h':i<xs.length),BO w vs[i] e sz xs[i]
 dj:∀(i j:Nat) (h:i<vs.length) (h':j<vs.length),i≠j->∀x∈BM vs[i],x∉BM vs[j]
def ER.keep{w w':wd}{e:TypeId}{sz:Nat}{vs:List wc}{xs:List (List (List wc))}{S:List Nat}(h:ER w e sz vs xs)(hf:Fr S w w')(hS:∀x∈CM vs,x∉S):ER w' e sz vs xs:=
 ⟨h.len,λi h1 h2=>(h.row i h1 h2).keep' hf λg hg=>hS g (CH h1 hg),h.dj⟩
def ER.lt{w:wd}{e:TypeId}{sz:Nat}{vs:List wc}{xs:List (List (List wc))}(h:ER w e sz vs xs):∀x∈CM vs,x<w.heap.size:=λx hx=>by
 obtain⟨v,hv,hx⟩:=CR.1 hx;obtain⟨i,hi,rfl⟩:=yS hv;exact (h.row i hi (by have:=h.len;omega)).lt (Cl.1 hx)
def ER.set{w w':wd}{e:TypeId}{sz:Nat}{vs:List wc}{xs:List (List (List wc))}{j:Nat}{v:wc}{x:List (List wc)}{S:List Nat}(h:ER w e sz vs xs)(hj:j<vs.length)(hf:Fr S w w')(hS:∀i (h:i<vs.length),i≠j->∀y∈BM vs[i],y∉S)(ho:BO w' v e sz x)(hg:∀y∈BM v,y∈BM vs[j]∨w.heap.size<=y):ER w' e sz (vs.set j v) (xs.set j x):=by
 have hl:=h.len;refine⟨by simp[hl],λi h1 h2=>?_,λi k h1 h2 hne y hy hy'=>?_⟩
 ·rw[zX,zX];simp only[i8]at h1 h2;split
  ·exact ho
  ·rename_i hne;exact (h.row i h1 h2).keep' hf (hS i h1 (vk hne))
 ·simp only[i8]at h1 h2;rw[zX]at hy hy';have far:∀(i:Nat) (hi:i<vs.length),i≠j->∀y∈BM vs[i],y∉BM v:=λi hi hij y hy hv=>by
   rcases hg y hv with c|c
   ·exact h.dj i j hi hj hij y hy c
   ·have:=(h.row i hi (by omega)).lt (Cl.1 hy);omega
  split at hy
  ·rename_i e1;subst e1;split at hy'
   ·rename_i e2;exact hne e2
   ·rename_i e2;exact far k h2 (vk e2) y hy' hy
  ·rename_i e1;split at hy'
   ·exact far i h1 (vk e1) y hy hy'
   ·exact h.dj i k h1 h2 hne y hy hy'
structure Dt(bu:Nat)(bv:wc)(vs:List wc)(w:wd)(b:List (List Int)):Prop where
 blk:w.heap[bu]?=vz (wj #[vw v7,bv] 186 (0,0))
 own:BO w bv 54 1 (Gd vs)
 fam:ER w 3 1 vs (b.map Ca)
 le:b.length<=8
 fit:∀l∈b,l.Nodup/\∀a∈l,0<=a/\a<2048
structure FT(bv:wc)(vs:List wc)(w:wd)(vs':List wc)(w':wd):Prop where
 fr:Fr (BM bv++CM vs) w w'
 gr:∀x∈CM vs',x∈CM vs∨w.heap.size<=x
def FT.refl(bv:wc)(vs:List wc)(w:wd):FT bv vs w vs w:=⟨Fr.refl _ _,λx hx=>wg hx⟩
def FT.trans{bv:wc}{vs vs' vs'':List wc}{w w' w'':wd}(h:FT bv vs w vs' w')(k:FT bv vs' w' vs'' w''):FT bv vs w vs'' w'':=
 ⟨h.fr.then k.fr λx hx=>by
  rw[j4]at hx ⊢;rcases hx with c|c
  ·exact wg (wg c)
  ·rcases h.gr x c with d|d
   ·exact wg (wh d)
   ·exact wh d,λx hx=>by
  rcases k.gr x hx with c|c
  ·exact h.gr x c
  ·have:=h.fr.size;exact wh (by omega)⟩
section
variable{K:VK}{w w':wd}{bu:Nat}{bv:wc}{vs:List wc}{b:List (List Int)}
def Dt.keep{S:List Nat}(h:Dt bu bv vs w b)(hf:Fr S w w')(h1:bu∉S)(h2:∀x∈BM bv,x∉S)(h3:∀x∈CM vs,x∉S):Dt bu bv vs w' b:=⟨hf.at_ h.blk h1,h.own.keep' hf h2,h.fam.keep hf h3,h.le,h.fit⟩
def Dt.keep0(h:Dt bu bv vs w b)(hf:Fr [] w w'):Dt bu bv vs w' b:=h.keep hf (by simp) (by simp) (by simp)
def Dt.len(h:Dt bu bv vs w b):vs.length=b.length:=by have:=h.fam.len;simpa using this
def Dt.few(h:Dt bu bv vs w b){l:List Int}(hl:l∈b):l.length<=2048:=IY 2048 l (h.fit l hl).1 (h.fit l hl).2
def Dt.at_(h:Dt bu bv vs w b){j:Nat}(hj:j<b.length)(hj':j<vs.length):BO w vs[j] 3 1 (Ca b[j]):=by have:=h.fam.row j hj' (by simpa using hj);simpa using this
def B5{k:IntKind}{j:Nat}(h:Dt bu bv vs w b)(hj:j<vs.length)(hk:∀g o cs,w.heap[g]?=vz (wj cs 54 (0,0))->BM bv=[g]->o+1<=cs.size->cs[o]?=vz vs[j]->
   (∀(v:wc) w',v.oneCell'=v7->w'.heap[g]?=vz (wj (cs.setIfInBounds o v) 54 (0,0))->BO w' bv 54 1 (Gd (vs.set j v)))->K (vr (vz ⟨g,o,v6⟩)) w):A6 1 bv (vq k (j:Int)) w K:=by
 refine h.own.spot (by rw[Ht];exact hj) λg o cs hg hb ho hc hs=>hk g o cs hg hb ho ?_ λv w' hv hw=>?_
 ·have:=hc 0 (by omega);simpa[Gd] using this
 ·rw[Nv];exact hs [v] w' rfl (by simpa using hv) (by rw[JK ho];exact hw)
def W4{t:Int}(h:Dt bu bv vs w b)(h1:∀(j:Nat) (hj:j<vs.length),t=(j:Int)->K (.tuple #[vs[j],vw v7]) w)(h2:¬(0<=t/\t<b.length)->K (.tuple #[vt v6 0 0,vw v8]) w):
  I vp 209 #[vr (vz ⟨bu,0,v6⟩),vq vy t] w K:=by
 have hl:=h.len;refine F209.sh ⟨_,Cj _ _ _ Tryz.underlying125,?_⟩
 try simp only[zv]
 by_cases z1:t<0
 ·simp only[zv,z1];exact h2 (by omega)
 simp only[zv,z1];refine Ac (v:=bv) h.blk rfl (AK h.own.rd ?_);rw[Ht];by_cases z2:t≥(vs.length:Int)
 ·simp only[zv,z2];exact h2 (by omega)
 simp only[zv,z2];refine F209.k3.to ?_
 try simp only[zv]
 obtain⟨j,rfl⟩:=xQ (show 0<=t by omega);have hj:j<vs.length:=by omega
 refine Ac (v:=bv) h.blk rfl (B5 h hj λg o cs hg _ ho hc _=>Ac hg hc ?_);exact h1 j hj rfl
def Dt.set{j:Nat}{v:wc}{l:List Int}{S:List Nat}{w1:wd}(h:Dt bu bv vs w b)(hj:j<vs.length)(hf:Fr S w w1)(hS:∀x∈S,x∈BM vs[j]∨w.heap.size<=x)(ho:BO w1 v 3 1 (Ca l))(hg:∀y∈BM v,y∈BM vs[j]∨w.heap.size<=y)(hw:Fr (BM bv) w1 w')(hb:BO w' bv 54 1 (Gd (vs.set j v)))(hl:l.Nodup/\∀a∈l,0<=a/\a<2048):Dt bu bv (vs.set j v) w' (b.set j l):=by
 have hlen:=h.len;have nb:bu∉S:=λe=>by
  rcases hS bu e with c|c
  ·exact (h.at_ (j:=j) (by omega) hj).nb h.blk (by decide) c
  ·have:=BP h.blk;omega
 have h1:ER w1 3 1 (vs.set j v) ((b.map Ca).set j (Ca l)):=h.fam.set hj hf (λi hi hij y hy e=>by
  rcases hS y e with c|c
  ·exact h.fam.dj i j hi hj hij y hy c
  ·have:=h.fam.lt y (CH hi hy);omega) ho hg
 have e1:(b.map Ca).set j (Ca l)=(b.set j l).map Ca:=by simp
 refine⟨hw.at_ (hf.at_ h.blk nb) (h.own.nb h.blk (by decide)),hb,?_,by simp[h.le],λx hx=>?_⟩
 ·rw[<-e1];refine h1.keep hw λx hx e=>?_;have hlt:=h.own.lt (Cl.1 e);rcases DB hx with c|c
  ·obtain⟨u,hu,hx⟩:=CR.1 c;obtain⟨i,hi,rfl⟩:=yS hu;exact (h.at_ (j:=i) (by omega) hi).ne h.own (by decide) x hx e
  ·rcases hg x c with d|d
   ·exact (h.at_ (j:=j) (by omega) hj).ne h.own (by decide) x d e
   ·omega
 ·rcases xK hx with c|c
  ·exact h.fit x c
  ·exact c ▸ hl
def KW{t:Int}(h:Dt bu bv vs w b)(hk:∀v vs' w',FT bv vs w vs' w'->Dt bu bv vs' w' (DE b t)->BO w' v 3 1 (Ca (E0 b t))->(∀x∈BM v,x∈CM vs)->K v w'):
  I vp 143 #[vr (vz ⟨bu,0,v6⟩),vq vy t] w K:=by
 have hl:=h.len;refine F143.sh (W4 h (λj hj e=>?_) λhn=>?_)
 ·subst e
  try simp only[zv]
  have eo:E0 b (j:Int)=b[j]'(by omega):=by unfold E0;rw[vn (by omega)];simp[List.getD,show j<b.length by omega]
  have et:DE b (j:Int)=b.set j []:=by unfold DE;rw[vn (by omega)];simp
  rw[et,eo]at hk;refine Ac (v:=bv) h.blk rfl (B5 h hj λg o cs hg hb ho hc hs=>AM hg rfl rfl (by omega) λw1 hu=>?_);have hown:=h.at_ (j:=j) (by omega) hj;have hw:=hs (vt v6 0 0) w1 rfl hu.at_;have hf1:Fr (BM bv) w w1:=hb ▸ hu.fr;have h1:=h.set (S:=[]) (v:=vt v6 0 0) (l:=[]) hj (Fr.refl _ w) (by simp) (BO.nil _ _ _) (by simp[BM,wc.ownBlock]) hf1 hw (by simp)
  refine F143.k4.to (hk _ _ w1 ⟨hf1.mono λx hx=>by simp[hx],λx hx=>?_⟩ h1 (hown.keep' hf1 λx hx=>hown.ne h.own (by decide) x hx) λx hx=>CH hj hx);rcases DB hx with c|c
  ·exact wg c
  ·simp[BM,wc.ownBlock]at c
 ·try simp only[zv]
  have et:DE b t=b:=by unfold DE;rw[vm hn]
  have eo:E0 b t=[]:=by
   unfold E0;by_cases c:0<=t
   ·rw[vn c];simp[List.getD,show ¬t.toNat<b.length by omega]
   ·rw[vm c]
  rw[et,eo]at hk;exact F143.k4.to (hk _ vs w (FT.refl _ _ _) h (BO.nil _ _ _) (by simp[BM,wc.ownBlock]))
def OW{W:wd}{vs0:List wc}{b':List (List Int)}(hk:∀n vs' w',FT bv vs0 W vs' w'->Dt bu bv vs' w' b'->K (vq vy n) w'):
  ∀(d i:Nat) (n:Int) (w:wd) (vs:List wc) (b:List (List Int)),i+d=b.length->FT bv vs0 W vs w->Dt bu bv vs w b->(b.take i).map (λ_=>[])++(b.drop i).map (λ_=>[])=b'->(∀l∈b.take i,l=[])->
   F214.l5 K (vr (vz ⟨bu,0,v6⟩)) (vq vy n) (vq vy (b.length:Int)) (vq vy (i:Int)) w:=by
 intro d;induction d with
 | zero=>
  intro i n w vs b hi ht h he hz;have e:i=b.length:=by omega
  subst e;refine F214.l5.to ?_;simp only[zv,show ¬((b.length:Int)<(b.length:Int)) by omega];rw[d7]at hz he;have:b=b':=by
   rw[zU]at he;simp only[ut,List.append_nil]at he;rw[<-he]
   conv=>lhs;rw[<-List.map_id b]
   exact List.map_congr_left λl hl=>by rw[hz l hl];rfl
  subst this;exact F214.k9.to (hk n vs w ht h)
 | succ d ih=>
  intro i n w vs b hi ht h he hz;have hlt:i<b.length:=by omega
  refine F214.l5.to ?_;have hle:=h.le;simp only[zv,show (i:Int)<(b.length:Int) by omega];refine F214.k6.to (KW h λv vs' w1 ht1 h1 hv1 hb1=>AK hv1.rd ?_)
  try simp only[AC]
  refine F214.k8.to ?_
  try simp only[AC]
  rw[BN (n:=(i:Int)+1) (by omega)];have et:DE b (i:Int)=b.set i []:=by unfold DE;rw[vn (by omega)];simp
  rw[et]at h1;have el:(b.set i []).length=b.length:=by simp
  rw[<-el];refine ih (i+1) _ w1 vs' (b.set i []) (by omega) (ht.trans ht1) h1 ?_ λl hl=>?_
  ·rw[<-he, <-i9, <-i9,yH,yH];apply zF;intro q;simp only[zH,zI];split
   ·rename_i e1;subst e1;simp[hlt]
   ·rfl
  ·obtain⟨q,hq,rfl⟩:=yS hl;rw[List.getElem_take,zX];split
   ·rfl
   ·rename_i hne;rw[b7]at hq;refine hz _ ?_;have hqi:q<i:=by omega
    have:(b.take i)[q]'(by rw[b7];omega)=b[q]'(by omega):=List.getElem_take;rw[<-this];exact zW _
def RQ(h:Dt bu bv vs w b)(hk:∀n vs' w',FT bv vs w vs' w'->Dt bu bv vs' w' (b.map λ_=>[])->K (vq vy n) w'):
  I vp 214 #[vr (vz ⟨bu,0,v6⟩)] w K:=by
 refine F214.sh ⟨_,Cj _ _ _ Tryz.underlying125,?_⟩
 try simp only[Ae]
 refine F214.k3.to ?_
 try simp only[zv]
 refine Ac (v:=bv) h.blk rfl (AK h.own.rd ?_);rw[Ht,h.len];exact OW (W:=w) (vs0:=vs) hk b.length 0 0 w vs b (by omega) (FT.refl _ _ _) h (by simp) (by simp)
def MC:DX vp 268=v7:=by kernel_rfl
def N8(h:Dt bu bv vs w b)(h1:∀(j:Nat),F1 b=v8->K (vq vy (j:Int)) w)(h2:F1 b=v7->K (vq vy (-1)) w):
  ∀(d i:Nat),i+d=b.length->(∀l∈b.take i,l=[])->
   F298.l2 K bv (.func (.func 268) #[] #[]) (vq vy (b.length:Int)) (vq vy (i:Int)) w:=by
 have hl:=h.len;intro d;induction d with
 | zero=>
  intro i hi hz;have e:i=b.length:=by omega
  subst e;refine F298.l2.to ?_;simp only[zv,show ¬((b.length:Int)<(b.length:Int)) by omega];refine F298.k7.to (h2 ?_);rw[d7]at hz;unfold F1;rw[zT];intro l hl;rw[hz l hl];rfl
 | succ d ih=>
  intro i hi hz;have hlt:i<b.length:=by omega
  have hle:=h.le;refine F298.l2.to ?_;simp only[zv,show (i:Int)<(b.length:Int) by omega];refine F298.k3.to (B5 h (by omega) λg o cs hg _ ho hc _=>Ac hg hc (Md MC (F268.sh (AK (h.at_ hlt (by omega)).rd ?_))));rw[Cm];by_cases z:b[i].length>0
  ·simp only[zv,show ((b[i].length:Nat):Int)>0 by omega];refine h1 i ?_;unfold F1;cases hh:b.all (λl=>l.isEmpty) with
   | false=>rfl
   | true=>
    have:=zT.1 hh b[i] (zW hlt);rw[List.isEmpty_iff]at this;rw[this]at z;simp at z
  ·simp only[zv,show ¬((b[i].length:Nat):Int)>0 by omega];refine F298.k6.to ?_
   try simp only[AC]
   rw[BN (n:=(i:Int)+1) (by omega)];refine ih (i+1) (by omega) λl hl=>?_;rw[zL,j4]at hl;rcases hl with c|c
   ·exact hz l c
   ·rw[xO hlt]at c;simp only[zB,yZ]at c;rw[c];exact wW (by omega)
def TV(h:Dt bu bv vs w b)(hk:K (vw (F1 b)) w):I vp 216 #[vr (vz ⟨bu,0,v6⟩)] w K:=by
 refine F216.sh ⟨_,Cj _ _ _ Tryz.underlying125,?_⟩
 try simp only[zv]
 refine Ac (v:=bv) h.blk rfl (F267.sh (F298.sh (AK h.own.rd ?_)));rw[Ht,h.len];refine N8 h (λj he=>?_) (λhe=>?_) b.length 0 (by omega) (by simp)
 ·simp only[zv,show (j:Int)≥0 by omega];rw[he]at hk;exact hk
 ·simp only[zv,show ¬((-1:Int)≥0) by omega];rw[he]at hk;exact hk
def SK{a:Int}:0<=Ct a↔0<=a/\a<2048:=by
 unfold Ct;split
 ·rename_i h;constructor<;>intro<;>omega
 ·rename_i h;constructor<;>intro<;>omega
def Vm{t a:Int}(h:Dt bu bv vs w b)(hk:∀c vs' w',FT bv vs w vs' w'->Dt bu bv vs' w' (FB b t a)->K (vw c) w'):
  I vp 232 #[vr (vz ⟨bu,0,v6⟩),vq vy t,vq vy a] w K:=by
 have hl:=h.len;refine F232.sh (W4 h (λj hj e=>?_) λhn=>?_)
 ·subst e
  try simp only[zv]
  have hjb:j<b.length:=by omega
  have eo:E0 b (j:Int)=b[j]:=by unfold E0;rw[vn (by omega)];simp[List.getD,hjb]
  have hown:=h.at_ hjb hj;refine FW ?_;unfold FB at hk;rw[eo]at hk;by_cases z1:Ct a<0
  ·simp only[zv,z1];rw[vm (by omega)]at hk;exact hk v8 vs w (FT.refl _ _ _) h
  simp only[zv,z1];refine HX hown.rd ?_;by_cases z2:a∈b[j]
  ·simp only[zv,z2];rw[vm (λc=>c.2.2.2 z2)]at hk;exact hk v8 vs w (FT.refl _ _ _) h
  simp only[zv,z2];rw[vn ⟨by omega,by omega,by omega,z2⟩]at hk;simp only[zE]at hk;have hfew:=h.few (zW hjb);have ha:=SK.1 (show 0<=Ct a by omega);refine F232.k4.to (A8 (λw'=>w'.heap[bu]?=vz (wj #[vw v7,bv] 186 (0,0))) λw1 hf1 _=>⟨hf1.at_ h.blk (by simp),?_⟩);have h1:=h.keep0 hf1;have own1:=hown.keep hf1 (by simp)
  try simp only[zv]
  refine Aq (v:=bv) (λw' hw=>⟨_,_,_,hw,rfl⟩) ⟨A7 (Wo a) ?_,trivial⟩;have hw:=Dz.mk' w1 (wj #[vq vy a] 3);have h2:=h1.keep0 hw.fr
  refine⟨h2.blk,Bg (W0:=HZ _) (ys:=[[vq vy a]]) (z:=vq vy 0) (sz:=1) (bytes:=8) Tryz.underlying54 (by kernel_rfl) rfl (by decide) (HO _) (Ho _ _) (own1.keep hw.fr (by simp)) (Cq.of_block hw.at_ rfl (by simp) (by simp) (by simp) (by simp)) (MU (l:=[a])) (by rw[Cm];simp;omega) (by rw[Cm];simp;omega) λv' w3 _ _ o3 f3 g3=>?_,trivial⟩;have f2:=hf1.trans hw.fr;have s2:=f2.size
  have nb:bu∉BM vs[j]:=hown.nb h.blk (by decide);refine⟨f3.at_ h2.blk nb,?_⟩;have b3:BO w3 bv 54 1 (Gd vs):=h2.own.keep' f3 λx hx=>h.own.ne hown (by decide) x hx;have hg3:∀y∈BM v',y∈BM vs[j]∨w.heap.size<=y:=λy hy=>by
   rcases g3 y hy with c|c
   ·exact wg c
   ·exact wh (by omega)
  refine b3.spot (by rw[Ht];exact hj) λg o cs hg hb ho hc hs=>⟨AM hg o3.one.2 o3.one.1 (by omega) λw4 hu=>?_,trivial⟩;have own4:BO w4 bv 54 1 (Gd (vs.set j v')):=by rw[Nv];exact hs [v'] w4 rfl (by simpa using o3.one.1) (by rw[JK ho];exact hu.at_)
  have f03:Fr (BM vs[j]) w w3:=f2.w.trans f3;have f4:Fr (BM bv) w3 w4:=hb ▸ hu.fr;have nd:(b[j]++[a]).Nodup/\∀x∈b[j]++[a],0<=x/\x<2048:=by
   have:=h.fit b[j] (zW hjb);constructor
   ·rw[zK];refine⟨this.1,by simp,λx hx y hy=>?_⟩;simp only[yZ]at hy;subst hy;exact λe=>z2 (e ▸ hx)
   ·intro x hx;rw[j4,yZ]at hx;rcases hx with c|c
    ·exact this.2 x c
    ·subst c;exact ha
  have h4:=h.set (S:=BM vs[j]) (v:=v') (l:=b[j]++[a]) hj f03 (λx hx=>wg hx) (by rw[JU];exact o3) hg3 f4 own4 nd;refine⟨h4.blk,hk v7 _ w4 ⟨(f03.mono λx hx=>List.mem_append_right _ (CH hj hx)).trans (f4.mono λx hx=>List.mem_append_left _ hx),λx hx=>?_⟩ h4⟩;rcases DB hx with c|c
  ·exact wg c
  ·rcases hg3 x c with d|d
   ·exact wg (CH hj d)
   ·exact wh d
 ·try simp only[zv]
  have et:FB b t a=b:=by unfold FB;rw[vm (λc=>hn ⟨c.1,c.2.1⟩)]
  rw[et]at hk;exact hk v8 vs w (FT.refl _ _ _) h
end
def Ck(l:List V2):List (List wc):=l.map λv=>[vq vy v.1,vq vy v.2]
def Cr(l:List V2):(Ck l).length=l.length:=by simp[Ck]
def Lx(l k:List V2):Ck (l++k)=Ck l++Ck k:=by simp[Ck]
def OR{l:List V2}:∀y∈Ck l,∀u∈y,u.oneCell'=v7:=by intro y hy u hu;simp only[Ck,uu]at hy;obtain⟨x,_,rfl⟩:=hy;simp only[un,b8,vi]at hu;rcases hu with rfl|rfl<;>rfl
structure DG(w:wd)(b o:Nat)(T:TypeId)(cs:Array wc)(tv:wc)(l:List V2):Prop where
 blk:w.heap[b]?=vz (wj cs T (0,0))
 val:cs[o]?=vz tv
 own:BO w tv 60 2 (Ck l)
 ne:T≠60
 le:l.length<=16
section
variable{K:VK}{w w':wd}{b o:Nat}{T:TypeId}{cs:Array wc}{tv:wc}{l:List V2}
def DG.keep{S:List Nat}(h:DG w b o T cs tv l)(hf:Fr S w w')(h1:b∉S)(h2:∀x∈BM tv,x∉S):DG w' b o T cs tv l:=⟨hf.at_ h.blk h1,h.val,h.own.keep' hf h2,h.ne,h.le⟩
def DG.keep0(h:DG w b o T cs tv l)(hf:Fr [] w w'):DG w' b o T cs tv l:=h.keep hf (by simp) (by simp)
def DG.lt(h:DG w b o T cs tv l):o<cs.size:=(wY.1 h.val).1
def XL:(Instr.buildSlice 56 0 #[]).run vp w=.ok (vt (vz ⟨w.heap.size,0,v6⟩) 0 0) (w.alloc (wj #[] 60)):=by kernel_rfl
def Sz(v:V2):(Instr.buildSlice 56 1 #[(0,.agg #[vq vy v.1,vq vy v.2])]).run vp w=.ok (vt (vz ⟨w.heap.size,0,v6⟩) 1 1) (w.alloc (wj #[vq vy v.1,vq vy v.2] 60)):=by kernel_rfl
def Mu{v:wc}{l:List V2}(hv:Cq w v 2 (Ck l))(hl:l.length*16<=140737488355328)(h:∀v' w',Fr [] w w'->BO w' v' 60 2 (Ck l)->Cc w v'->K v' w'):I vp 80 #[v] w K:=by
 have hv':=hv;obtain⟨A,c,rfl,h1,h2,h3⟩:=hv;refine F80.sh ⟨_,Hd (e:=60) _ _ _ _ _ Tryz.underlying56,?_⟩;cases A with
 | none=>
  have:l=[]:=by
   cases l with
   | nil=>rfl
   | cons x l=>obtain⟨g,o,cs,e,fz,hA,_⟩:=h3 (by simp[Ck]);cases hA
  subst this;simp only[Option.isNone_none,Ai];exact h _ w (Fr.refl _ _) (BO.nil w 60 2) (Cc.nil w)
 | some a=>
  simp only[Option.isNone_some,Ae];refine F80.k3.to (A7 XL ?_);have hn:=Dz.mk' w (wj #[] 60);refine Bu (xs:=[]) (e:=60) (sz:=2) (bytes:=16) (z := .agg #[vq vy 0,vq vy 0]) Tryz.underlying56 (by kernel_rfl) rfl (by decide) (BO.of_block hn.at_ rfl (by simp) (by simp) rfl (by simp) (by simp)) (hv'.keep hn.fr) OR (by rw[Cr];simp;omega) (by rw[Cr];simp;omega) λv' w' ho hf hb _=>?_
  refine h v' w' (hn.fr.then hf λx hx=>?_) (by simpa using ho) λg hg=>?_
  ·rw[Cl]at hx;simp only[wc.ownBlock,zM]at hx;exact wh (by omega)
  ·rcases hb with hb|⟨g',hb,hle⟩
   ·rw[hb]at hg;simp only[wc.ownBlock,zM]at hg;omega
   ·rw[hg]at hb;simp only[zM]at hb;have:=hn.fr.size;omega
def Qn(h:DG w b o T cs tv l)(hk:K (vq vy (l.length:Int)) w):I vp 229 #[vr (vz ⟨b,o,v6⟩)] w K:=by
 refine F229.sh ⟨_,Cj _ _ _ Tryz.underlying194,?_⟩
 try simp only[Ae]
 refine F229.k3.to ?_
 try simp only[zv]
 refine Ac (v:=tv) h.blk (by simpa using h.val) (AK h.own.rd ?_);rw[Cr];exact hk
def Qi(h:DG w b o T cs tv l)(hk:∀v' w',Fr [] w w'->BO w' v' 60 2 (Ck l)->Cc w v'->K v' w'):I vp 82 #[vr (vz ⟨b,o,v6⟩)] w K:=by
 have hle:=h.le;refine F82.sh ⟨_,Cj _ _ _ Tryz.underlying194,?_⟩
 try simp only[Ae]
 refine F82.k3.to ?_
 try simp only[zv]
 exact Ac (v:=tv) h.blk (by simpa using h.val) (Mu h.own.rd (by omega) hk)
def Bw{k:IntKind}{i:Nat}{v:wc}(h:Cq w v 2 (Ck l))(hi:i<l.length)(hk:∀g o cs e fz,w.heap[g]?=vz (wj cs e fz)->(cs.toList.drop o).take 2=[vq vy l[i].1,vq vy l[i].2]->o+2<=cs.size->K (vr (vz ⟨g,o,v6⟩)) w):
  A6 2 v (vq k (i:Int)) w K:=by
 refine AS h (by omega) (x:=[vq vy l[i].1,vq vy l[i].2]) (by rw[zE];simp[Ck,hi]) λg o cs e fz hg _ hc=>?_;have c0:=hc 0 (by omega);have c1:=hc 1 (by omega);simp only[uv,xS,xR]at c0 c1;have hs:o+1<cs.size:=(wY.1 c1).1;refine hk g o cs e fz hg ?_ (by omega);apply zF;intro j;rw[yX,yW]
 match j with
 | 0=>simpa using c0
 | 1=>simpa using c1
 | j+2=>rw[vm (by omega)];rfl
def V9{i:Int}(h:DG w b o T cs tv l)(h1:∀(j:Nat) (hj:j<l.length),i=(j:Int)->∀w',Fr [] w w'->K (.tuple #[V l[j].1 l[j].2,vw v7]) w')(h2:¬(0<=i/\i<l.length)->∀w',Fr [] w w'->K (.tuple #[V 0 0,vw v8]) w'):
  I vp 228 #[vr (vz ⟨b,o,v6⟩),vq vy i] w K:=by
 refine F228.sh (Ay λx w1 hn=>?_);have ln:=hn.is;have h':=h.keep0 hn.fr;have no:∀w',Fr [] w w'->Fr [] w w':=λ_ h=>h
 try simp only[Au]
 have bad:¬(0<=i/\i<l.length)->Am vp (Instr.build 60 #[]) w1 λx14 w8=>Aj 2 (vr (vz ⟨x,0,v6⟩)) x14 w8 λw9=>Ak 2 (vr (vz ⟨x,0,v6⟩)) w9 λr10 _=>K (.tuple #[r10,vw v8]) w9:=λhn'=>A7 EI (AB hn.at_ rfl Cb rfl λw3 hu=>A5 hu.at_ rfl (h2 hn' w3 (hn.fr.then hu.fr (by simp;omega))));by_cases z1:i<0
 ·simp only[zv,z1];exact bad (by omega)
 simp only[zv,z1];refine Qn h' ?_;by_cases z2:i≥(l.length:Int)
 ·simp only[zv,z2];exact bad (by omega)
 simp only[zv,z2];obtain⟨j,rfl⟩:=xQ (show 0<=i by omega);have hj:j<l.length:=by omega
 refine F228.k3.to ?_
 try simp only[zv]
 refine Ac (v:=tv) h'.blk (by simpa using h.val) (Bw h'.own.rd hj λg o' cs' e fz hg hcs ho=>AY hg (by omega) hcs ?_);exact AB (x:=V l[j].1 l[j].2) hn.at_ rfl Cb rfl λw3 hu=>A5 hu.at_ rfl (h1 j hj rfl w3 (hn.fr.then hu.fr (by simp;omega)))
def DG.store{w1:wd}{tv':wc}{l':List V2}{F:wd->Prop}(hb:w1.heap[b]?=vz (wj cs T (0,0)))(ho:o<cs.size)(hne:T≠60)(hown:BO w1 tv' 60 2 (Ck l'))(hle:l'.length<=16)(hk:∀w',Fr [b] w1 w'->DG w' b o T (cs.setIfInBounds o tv') tv' l'->F w'):Aj 1 (vr (vz ⟨b,o,v6⟩)) tv' w1 F:=
 AM hb hown.one.2 hown.one.1 ho λw' hu=>hk w' hu.fr ⟨hu.at_,by simp[ho],hown.keep' hu.fr (λg hg e=>by
  simp only[yZ]at e;subst e;exact hown.nb hb (vk hne) hg),hne,hle⟩
def Sh(h:DG w b o T cs tv l)(hk:∀w',Fr [b] w w'->DG w' b o T (cs.setIfInBounds o (vt v6 0 0)) (vt v6 0 0) []->K (.tuple #[]) w'):I vp 146 #[vr (vz ⟨b,o,v6⟩)] w K:=by
 refine F146.sh ⟨_,CN _ _ _ Tryz.underlying194,?_⟩
 try simp only[zv]
 exact DG.store h.blk h.lt h.ne (BO.nil _ _ _) (by simp) hk
def Ur{v:V2}(h:DG w b o T cs tv l)(h1:(Dk v=v7/\l.length<16)->∀tv' w',Fr (b::BM tv) w w'->DG w' b o T (cs.setIfInBounds o tv') tv' (l++[v])->(∀x∈BM tv',x∈BM tv∨w.heap.size<=x)->K (vw v7) w')(h2:¬(Dk v=v7/\l.length<16)->∀w',Fr [] w w'->K (vw v8) w'):
  I vp 226 #[vr (vz ⟨b,o,v6⟩),V v.1 v.2] w K:=by
 have hv:Dk v=decide (D8 v.1 v.2=0):=rfl;refine F226.sh (Ay λx w1 hn=>⟨_,Cj _ _ _ Tryz.underlying194,?_⟩);have ln:=hn.is
 try simp only[zv]
 refine A5 hn.at_ rfl (FV v.1 v.2 λw2 hf2=>?_);have f2:=hn.fr.trans hf2;have h2':=h.keep0 f2;have x2:=hf2.at_ hn.at_ (by simp)
 try simp only[AD]
 by_cases z1:D8 v.1 v.2=0
 ·simp only[zv,vl,z1,vo,zQ];refine Ac (v:=tv) h2'.blk (by simpa using h.val) (AK h2'.own.rd ?_);rw[Cr];by_cases z2:(l.length:Int)≥16
  ·simp only[zv,z2];exact h2 (λc=>by omega) w2 f2
  ·simp only[zv,z2];have hlt:l.length<16:=by omega
   have hok:Dk v=v7/\l.length<16:=⟨by simpa[hv] using z1,hlt⟩;have hb:=BP h.blk;have nx:x∉b::BM tv:=λe=>by
    simp only[un]at e;rcases e with e|e
    ·omega
    ·have:=h.own.lt (Cl.1 e);omega
   have hxb:x≠b:=λe=>nx (by simp[e]);refine F226.k3.to (A8 (λw'=>w'.heap[x]?=vz (wj #[vq vy v.1,vq vy v.2] 60 (0,0))) λw3 hf3 _=>⟨hf3.at_ x2 (by simp),?_⟩);have f3:=f2.trans hf3;have h3:=h.keep0 f3;have x3:=hf3.at_ x2 (by simp)
   try simp only[zv]
   refine AR (vs:=[vq vy v.1,vq vy v.2]) (λw' hw=>⟨_,_,_,hw,by simp,rfl⟩) ?_;have nb:=h.own.nb h.blk (vk h.ne);have fin:∀w4 tv' w5,Fr [] w w4->BO w5 tv' 60 2 (Ck l++[[vq vy v.1,vq vy v.2]])->Fr (BM tv) w4 w5->(∀g∈BM tv',g∈BM tv∨w4.heap.size<=g)->w4.heap[b]?=vz (wj cs T (0,0))->w4.heap[x]?=vz (wj #[vq vy v.1,vq vy v.2] 60 (0,0))->
     w5.heap[x]?=vz (wj #[vq vy v.1,vq vy v.2] 60 (0,0))/\Aj 1 (vr (vz ⟨b,o,v6⟩)) tv' w5 λw6=>(w6.heap[x]?=vz (wj #[vq vy v.1,vq vy v.2] 60 (0,0))/\F226.k4 K w6):=by
    intro w4 tv' w5 f4 o5 f5 g5 b4 x4;have x5:=f5.at_ x4 (λe=>nx (by simp[e]));refine⟨x5,DG.store (l':=l++[v]) (f5.at_ b4 nb) h.lt h.ne (by rw[Lx];exact o5) (by simp;omega) λw6 f6 h6=>⟨f6.at_ x5 (by simpa using hxb),F226.k4.to (h1 hok tv' w6 ?_ h6 λg hg=>?_)⟩⟩
    ·exact (f4.w.trans (f5.mono λz hz=>by simp[hz])).trans (f6.mono λz hz=>by simp only[yZ]at hz;simp[hz])
    ·rcases g5 g hg with c|c
     ·exact wg c
     ·have:=f4.size;exact wh (by omega)
   have bld:∀w4,Fr [] w w4->w4.heap[x]?=vz (wj #[vq vy v.1,vq vy v.2] 60 (0,0))->∀(F:VK),(∀tv' w5,BO w5 tv' 60 2 (Ck l++[[vq vy v.1,vq vy v.2]])->Fr (BM tv) (w4.alloc (wj #[vq vy v.1,vq vy v.2] 60)) w5->(∀g∈BM tv',g∈BM tv∨(w4.alloc (wj #[vq vy v.1,vq vy v.2] 60)).heap.size<=g)->F tv' w5)->
     Am vp (Builtin.append_ #[56,56] 56 #[tv,vt (vz ⟨w4.heap.size,0,v6⟩) 1 1]) (w4.alloc (wj #[vq vy v.1,vq vy v.2] 60)) F:=by
    intro w4 f4 x4 F hF;have hw:=Dz.mk' w4 (wj #[vq vy v.1,vq vy v.2] 60)
    refine Bg (W0:=HZ _) (ys:=[[vq vy v.1,vq vy v.2]]) (z:=V 0 0) (sz:=2) (bytes:=16) Tryz.underlying56 (by kernel_rfl) rfl (by decide) (HO _) (Ho _ _) (h.own.keep (f4.trans hw.fr) (by simp)) (Cq.of_block hw.at_ rfl (by simp) (by simp) (by simp) (by simp)) (OR (l:=[v])) (by rw[Cr];simp;omega) (by rw[Cr];simp;omega) λv' w' _ _ c d e'=>hF v' w' c d e'
   refine⟨Ac h3.blk (by simpa using h.val) ⟨x3,A7 (Sz v) ?_,trivial⟩,A7 (Sz v) ?_,trivial⟩
   ·have hw:=Dz.mk' w3 (wj #[vq vy v.1,vq vy v.2] 60);refine⟨hw.fr.at_ x3 (by simp),bld w3 f3 x3 _ λtv' w5 o5 f5 g5=>?_,trivial⟩;have:=fin _ tv' w5 (f3.trans hw.fr) o5 f5 g5 (hw.fr.at_ h3.blk (by simp)) (hw.fr.at_ x3 (by simp));exact⟨this.1,this.2,trivial⟩
   ·have hw:=Dz.mk' w3 (wj #[vq vy v.1,vq vy v.2] 60);refine⟨hw.fr.at_ x3 (by simp),Ac (hw.fr.at_ h3.blk (by simp)) (by simpa using h.val) ⟨hw.fr.at_ x3 (by simp),bld w3 f3 x3 _ λtv' w5 o5 f5 g5=>?_,trivial⟩,trivial⟩;have:=fin _ tv' w5 (f3.trans hw.fr) o5 f5 g5 (hw.fr.at_ h3.blk (by simp)) (hw.fr.at_ x3 (by simp));exact⟨this.1,this.2,trivial⟩
 ·simp only[zv,z1,vo,zR];exact h2 (λc=>z1 (by simpa[hv] using c.1)) w2 f2
end
section
variable{K:VK}{w w':wd}{b o:Nat}{T:TypeId}{cs:Array wc}{tv:wc}{l:List V2}
def VE(h:DG w b o T cs tv l)(h1:∀v,l.getLast?=vz v->∀tv' w',Fr [b] w w'->DG w' b o T (cs.setIfInBounds o tv') tv' l.dropLast->BM tv'=BM tv->K (.tuple #[V v.1 v.2,vw v7]) w')(h2:l=[]->∀w',Fr [] w w'->K (.tuple #[V 0 0,vw v8]) w'):
  I vp 156 #[vr (vz ⟨b,o,v6⟩)] w K:=by
 have hle:=h.le;have hb:=BP h.blk;refine F156.sh (Ay λx w1 hn=>?_);have l1:=hn.is;have h':=h.keep0 hn.fr;refine Qn h' ?_
 try simp only[zv]
 rw[BN (n:=(l.length:Int)-1) (by omega)];have x1:=hn.at_;have tail:∀(v:V2) (c:Bool) y w2,y≠x->w2.heap[x]?=vz (wj #[vq vy 0,vq vy 0] 60 (0,0))->w2.heap[y]?=vz (wj (V v.1 v.2).cells 60 (0,0))->(∀w',Fr [x] w2 w'->K (.tuple #[V v.1 v.2,vw c]) w')->
   F156.k4 K (vr (vz ⟨x,0,v6⟩)) (vr (vz ⟨y,0,v6⟩)) (vw c) w2:=λv c y w2 hne hx hy hk=>F156.k4.to (A5 hy rfl (AB (x:=V v.1 v.2) hx rfl Cb rfl λw3 hu=>A5 hu.at_ rfl (hk w3 hu.fr)))
 refine V9 h' (λj hj e w2 hf2=>?_) (λhno w2 hf2=>?_)
 ·have hne:l≠[]:=by intro c;subst c;simp at hj
  have hlast:l.getLast?=vz l[j]:=by
   have:j=l.length-1:=by omega
   subst this;rw[List.getLast?_eq_getElem?,xO (by omega)]
  try simp only[zv]
  refine Ay λy w3 hn3=>AB (x:=V l[j].1 l[j].2) hn3.at_ rfl Cb rfl λw4 hu4=>?_;have l3:=hn3.is;have s2:=hf2.size;have sx:=BP hn.at_;have hyx:y≠x:=by omega
  have f3:=(hn.fr.trans hf2).trans hn3.fr;have f4:Fr [] w w4:=f3.then hu4.fr (by simp;omega);have h4:=h.keep0 f4;have x4:=hu4.fr.at_ ((hf2.trans hn3.fr).at_ x1 (by simp)) (by simp;omega);have y4:=hu4.at_;refine A8 (λ_=>True) λw5 hf5 _=>⟨trivial,?_⟩;have h5:=h4.keep0 hf5;have x5:=hf5.at_ x4 (by simp);have y5:=hf5.at_ y4 (by simp);obtain⟨A,cp,hA0,hcp,hA⟩:=h5.own.cap
  have hnn:A≠v6:=λe=>by have:=hA e;simp[Ck,hne]at this
  have hsl:∀w',(Instr.sliceAt 56 tv v6 (vz (vq vy ((l.length:Int)-1))) v6).run vp w'=.ok (vt A (l.length-1) cp) w':=λw'=>by
   rw[hA0];have:=F4 (P:=vp) (w:=w') (t:=56) (e:=60) (sz:=2) A (Ck l).length cp vy ((l.length:Int)-1) Tryz.underlying56 (by kernel_rfl) (by omega) (by rw[Cr]at hcp;omega);rw[this];congr 2;omega
  have o5:=h5.own;rw[hA0]at o5;have ot:=o5.take (l.length-1) (by rw[Cr];omega) (λe=>absurd e hnn);have ed:Ck l.dropLast=(Ck l).take (l.length-1):=by simp[Ck,List.dropLast_eq_take]
  rw[<-ed]at ot;have fin:Aj 1 (vr (vz ⟨b,o,v6⟩)) (vt A (l.length-1) cp) w5 λw6=>(True/\F156.k4 K (vr (vz ⟨x,0,v6⟩)) (vr (vz ⟨y,0,v6⟩)) (vw v7) w6):=by
   refine DG.store (l':=l.dropLast) h5.blk h.lt h.ne ot (by simp;omega) λw6 f6 h6=>⟨trivial,tail l[j] v7 y w6 hyx (f6.at_ x5 (by simp;omega)) (f6.at_ y5 (by simp;omega)) λw7 f7=>?_⟩;have fb:=IJ A (l.length-1) (Ck l).length cp cp;refine h1 l[j] hlast (vt A (l.length-1) cp) w7 (((f4.trans hf5).w.trans f6).then f7 (by simp;omega)) (h6.keep f7 (by simp;omega) (λz hz=>?_)) ?_
   ·rw[fb, <-hA0]at hz;have:=h.own.lt (Cl.1 hz);simp;omega
   ·rw[fb, <-hA0]
  have e1:IntKind.i64.wrap ((l.length:Int)-1)=(l.length:Int)-1:=BN (by omega);refine⟨Ac (v:=tv) h5.blk (by simpa using h.val) ⟨trivial,Ac (v:=tv) h5.blk (by simpa using h.val) ⟨trivial,AK h5.own.rd ?_⟩,trivial⟩,Ac (v:=tv) h5.blk (by simpa using h.val) ⟨trivial,AK h5.own.rd ?_⟩,trivial⟩
  ·rw[Cr]
   try simp only[AO]
   rw[e1];exact⟨_,λw' _=>hsl w',fin,trivial⟩
  ·rw[Cr]
   try simp only[AO]
   rw[e1];exact⟨Ac (v:=tv) h5.blk (by simpa using h.val) ⟨trivial,⟨_,λw' _=>hsl w',fin,trivial⟩⟩,trivial⟩
 ·have he:l=[]:=wW (by omega)
  try simp only[zv]
  refine Ay λy w3 hn3=>AB (x:=V 0 0) hn3.at_ rfl Cb rfl λw4 hu4=>?_;have l3:=hn3.is;have s2:=hf2.size;have sx:=BP hn.at_;have f4:Fr [] w w4:=((hn.fr.trans hf2).trans hn3.fr).then hu4.fr (by simp;omega);have x4:=hu4.fr.at_ ((hf2.trans hn3.fr).at_ x1 (by simp)) (by simp;omega);exact tail (0,0) v8 y w4 (by omega) x4 hu4.at_ λw5 hf5=>h2 he w5 (f4.then hf5 (by simp;omega))
def JI(l:List V2)(v:V2):DC (l++[v])=if v.1=2/\v.2∉DC l then DC l++[v.2] else DC l:=by unfold DC;rw[List.foldl_append];rfl
def KG:∀(n:Nat) (l:List V2),l.length=n->(DC l).length<=n:=by
 intro n;induction n with
 | zero=>intro l hl;rw[wW hl];simp[DC]
 | succ n ih=>
  intro l hl;have hne:l≠[]:=by intro c;subst c;simp at hl
  rw[<-List.dropLast_concat_getLast hne,JI];have:=ih l.dropLast (by simp;omega);split
  ·rw[yY];simp;omega
  ·omega
def Qr{W:wd}{u:wc}(hl:l.length<=16)(hk:∀v w',Fr [] W w'->Cc W v->BO w' v 3 1 (Ca (DC l))->K v w'):
  ∀(d i:Nat) (w:wd) (v:wc),i+d=l.length->Fr [] W w->BO w u 60 2 (Ck l)->Cc W v->BO w v 3 1 (Ca (DC (l.take i)))->
   F161.l3 K v u (vq vy (l.length:Int)) (vq vy (i:Int)) w:=by
 intro d;induction d with
 | zero=>
  intro i w v hi hf hu hn hv;have e:i=l.length:=by omega
  subst e;refine F161.l3.to ?_;simp only[zv,show ¬((l.length:Int)<(l.length:Int)) by omega];rw[d7]at hv;exact F161.k9.to (hk v w hf hn hv)
 | succ d ih=>
  intro i w v hi hf hu hn hv;have hlt:i<l.length:=by omega
  refine F161.l3.to ?_;simp only[zv,show (i:Int)<(l.length:Int) by omega];refine F161.k4.to (Bw hu.rd hlt λg o' cs' e fz hg hcs ho=>AY hg (by omega) hcs ?_);refine Ay λy w1 hn1=>AB (x:=V l[i].1 l[i].2) hn1.at_ rfl Cb rfl λw2 hu2=>?_;have l1:=hn1.is;have f2:Fr [] w w2:=hn1.fr.then hu2.fr (by simp;omega);have y2:=hu2.at_;have hv2:=hv.keep f2 (by simp);have hu2':=hu.keep f2 (by simp)
  have e1:l.take (i+1)=l.take i++[l[i]]:=by rw[zL,xO hlt];rfl
  have hlen:=KG i (l.take i) (by rw[b7];omega);have step:∀w' v',Fr [] W w'->BO w' u 60 2 (Ck l)->Cc W v'->BO w' v' 3 1 (Ca (DC (l.take (i+1))))->F161.k8 K v' u (vq vy (l.length:Int)) (vq vy (i:Int)) w':=λw' v' hf' hu' hn' hv'=>by
   refine F161.k8.to ?_
   try simp only[AC]
   rw[BN (n:=(i:Int)+1) (by omega)];exact ih (i+1) w' v' (by omega) hf' hu' hn' hv'
  rw[e1,JI]at step
  try simp only[zv]
  refine Ac (v:=vq vy l[i].2) y2 rfl ?_;refine Ac (v:=vq vy l[i].1) y2 rfl ?_;by_cases z1:l[i].1=2
  ·simp only[zv,vl,z1];refine HX hv2.rd ?_;by_cases z2:l[i].2∈DC (l.take i)
   ·simp only[zv,z2];rw[vm (λc=>c.2 z2)]at step;exact step w2 v (hf.trans f2) hu2' hn hv2
   ·simp only[zv,z2];rw[vn ⟨z1,z2⟩]at step;refine Bz (hf.trans f2) hn hv2 (by omega) λv' w3 hf3 hn3 ho3 fr3 _=>step w3 v' hf3 (hu2'.keep' fr3 (λx hx=>hu2'.ne hv2 (by decide) x hx)) hn3 ho3
  ·simp only[zv,z1];rw[vm (λc=>z1 c.1)]at step;exact step w2 v (hf.trans f2) hu2' hn hv2
def VN(h:DG w b o T cs tv l)(hk:∀v w',Fr [] w w'->Cc w v->BO w' v 3 1 (Ca (DC l))->K v w'):I vp 161 #[vr (vz ⟨b,o,v6⟩)] w K:=by refine F161.sh (Qi h λu w1 hf1 hu1 hn1=>AK hu1.rd ?_);rw[Cr];exact Qr (W:=w) h.le hk l.length 0 w1 _ (by omega) hf1 hu1 (Cc.nil _) (BO.nil _ _ _)
end
structure C3 where
 H:Cp
 co:Nat
 re:Nat
 bu:Nat
 rv:wc
 bv:wc
structure Mv where
 lv:wc
 vs:List wc
 ts:List wc
def Mv.all(m:Mv):List Nat:=BM m.lv++(CM m.vs++CM m.ts)
def C3.fix(C:C3):List Nat:=C.co::C.re::C.bu::(BM C.rv++BM C.bv)
structure C3.Ok(C:C3):Prop where
 dj:∀x∈C.fix,x∉C.H.fix++C.H.D.all
 lo:∀x∈C.fix,x<C.H.N
def C3.S(C:C3)(m:Mv):List Nat:=C.fix++(C.H.fix++(C.H.D.all.tail++m.all))
def C3.all(C:C3)(m:Mv):List Nat:=C.fix++(C.H.fix++(C.H.D.all++m.all))
structure Ch(C:C3)(m:Mv)(w:wd)(m':Mv)(w':wd):Prop where
 fr:Fr (C.S m) w w'
 gr:∀x∈m'.all,x∈m.all∨w.heap.size<=x
def Ch.refl(C:C3)(m:Mv)(w:wd):Ch C m w m w:=⟨Fr.refl _ _,λx hx=>wg hx⟩
def Ch.w{C:C3}{m:Mv}{a b:wd}(h:Fr [] a b):Ch C m a m b:=⟨h.w,λx hx=>wg hx⟩
def Ch.trans{C:C3}{m m' m'':Mv}{w w' w'':wd}(h:Ch C m w m' w')(k:Ch C m' w' m'' w''):Ch C m w m'' w'':=
 ⟨h.fr.then k.fr λx hx=>by
  simp only[C3.S,j4]at hx ⊢;rcases hx with c|c|c|c
  ·exact wg (wg c)
  ·exact wg (wh (wg c))
  ·exact wg (wh (wh (wg c)))
  ·rcases h.gr x c with d|d
   ·exact wg (wh (wh (wh d)))
   ·exact wh d,λx hx=>by
  rcases k.gr x hx with c|c
  ·exact h.gr x c
  ·have:=h.fr.size;exact wh (by omega)⟩
def D6.subT(D:D6):∀x∈D.S,x∈D.all.tail:=λx hx=>by
 simp only[D6.S,D6.all,List.tail_cons,un]at hx ⊢;rcases hx with h|h|h
 ·simp[h]
 ·simp[h]
 ·exact wh (wh (wh (D.A.sub x h)))
def Ch.h{C:C3}{m:Mv}{lv':wc}{w w':wd}(h:C2 C.H m.lv w lv' w'):Ch C m w { m with lv:=lv' } w':=
 ⟨h.fr.mono λx hx=>by
  simp only[Cp.S,CS.S,un,j4]at hx;simp only[C3.S,Mv.all,j4];rcases hx with d|d|(d|d|d)|d
  ·exact wh (wg (by simp[Cp.fix,d]))
  ·exact wh (wg (by simp[Cp.fix,d]))
  ·exact wh (wg (by simp[Cp.fix,d]))
  ·exact wh (wg (by simp[Cp.fix,d]))
  ·exact wh (wh (wh (wg d)))
  ·exact wh (wh (wg (C.H.D.subT x d))),λx hx=>by
  simp only[Mv.all,j4]at hx ⊢;rcases hx with c|c
  ·rcases h.gr x c with d|d
   ·exact wg (wg d)
   ·exact wh d
  ·exact wg (wh c)⟩
def Ch.f{C:C3}{m:Mv}{vs':List wc}{w w':wd}(h:FT C.bv m.vs w vs' w'):Ch C m w { m with vs:=vs' } w':=
 ⟨h.fr.mono λx hx=>by
  rw[j4]at hx;simp only[C3.S,C3.fix,Mv.all,j4,un];rcases hx with d|d
  ·exact wg (wh (wh (wh (wh d))))
  ·exact wh (wh (wh (wh (wg d)))),λx hx=>by
  simp only[Mv.all,j4]at hx ⊢;rcases hx with c|c|c
  ·exact wg (wg c)
  ·rcases h.gr x c with d|d
   ·exact wg (wh (wg d))
   ·exact wh d
  ·exact wg (wh (wh c))⟩
def Ch.r{C:C3}{m:Mv}{w w':wd}(h:Fr (C.re::BM C.rv) w w'):Ch C m w m w':=
 ⟨h.mono λx hx=>by
  simp only[un]at hx;simp only[C3.S,C3.fix,j4,un];rcases hx with d|d
  ·exact wg (wh (wg d))
  ·exact wg (wh (wh (wh (wg d)))),λx hx=>wg hx⟩
def Ch.c{C:C3}{m:Mv}{w w':wd}(h:Fr [C.co] w w'):Ch C m w m w':=
 ⟨h.mono λx hx=>by simp only[yZ]at hx;simp[C3.S,C3.fix,hx],λx hx=>wg hx⟩
def Ch.t{C:C3}{m:Mv}{j:Nat}{tv':wc}{w w':wd}(hj:j<m.ts.length)(h:Fr (C.co::BM m.ts[j]) w w')(hg:∀x∈BM tv',x∈BM m.ts[j]∨w.heap.size<=x):Ch C m w { m with ts:=m.ts.set j tv' } w':=
 ⟨h.mono λx hx=>by
  simp only[un]at hx;simp only[C3.S,C3.fix,Mv.all,j4,un];rcases hx with d|d
  ·exact wg (wg d)
  ·exact wh (wh (wh (wh (wh (CH hj d))))),λx hx=>by
  simp only[Mv.all,j4]at hx ⊢;rcases hx with c|c|c
  ·exact wg (wg c)
  ·exact wg (wh (wg c))
  ·rcases DB c with d|d
   ·exact wg (wh (wh d))
   ·rcases hg x d with e|e
    ·exact wg (wh (wh (CH hj e)))
    ·exact wh e⟩
structure PJ(C:C3)(m:Mv)(c:Co)(cs:Array wc):Prop where
 sz:cs.size=28
 s0:cs[0]?=vz (vr (vz ⟨C.H.D.st,0,v6⟩))
 s1:cs[1]?=vz (vr (vz ⟨C.H.G.gr,0,v6⟩))
 s12:cs[12]?=vz (vr (vz ⟨C.re,0,v6⟩))
 s13:cs[13]?=vz (vr (vz ⟨C.bu,0,v6⟩))
 s14:cs[14]?=vz (vr (vz ⟨C.H.tr,0,v6⟩))
 s15:cs[15]?=vz (vr (vz ⟨C.H.sw,0,v6⟩))
 ts:∀j,j<8->cs[16+j]?=m.ts[j]?
 s24:cs[24]?=vz (vq vy c.global)
 s25:cs[25]?=vz (vq vy c.phase)
 s26:cs[26]?=vz (vq vy c.cycles)
 s27:cs[27]?=vz (vq vy c.units)
structure BX(C:C3)(m:Mv)(cf:Cf)(w:wd)(c:Co):Prop where
 ok:C.Ok
 hp:Cy C.H m.lv cf w c
 blk:∃cs:Array wc,w.heap[C.co]?=vz (wj cs 132 (0,0))/\PJ C m c cs
 rg:Dv C.re C.rv w c.r
 fb:Dt C.bu C.bv m.vs w c.b
 th:ER w 60 2 m.ts (c.th.map Ck)
 tl:c.th.length=8
 t16:∀l∈c.th,l.length<=16
 hv:∀x∈CM m.vs,C.H.N<=x
 ht:∀x∈CM m.ts,C.H.N<=x
section
variable{w w':wd}{C:C3}{m:Mv}{cf:Cf}{c:Co}
def ER.nb{e:TypeId}{sz:Nat}{vs:List wc}{xs:List (List (List wc))}{g:Nat}{cs:Array wc}{e':TypeId}{fz:Nat × Nat}(h:ER w e sz vs xs)(hg:w.heap[g]?=vz (wj cs e' fz))(he:e≠e'):g∉CM vs:=λhx=>by
 obtain⟨v,hv,hx⟩:=CR.1 hx;obtain⟨i,hi,rfl⟩:=yS hv;exact (h.row i hi (by have:=h.len;omega)).nb hg he hx
def ER.ne{e e':TypeId}{sz sz':Nat}{vs:List wc}{xs:List (List (List wc))}{v:wc}{ys:List (List wc)}(h:ER w e sz vs xs)(ho:BO w v e' sz' ys)(he:e≠e'):∀x∈CM vs,x∉BM v:=λx hx hv'=>by
 obtain⟨v,hv,hx⟩:=CR.1 hx;obtain⟨i,hi,rfl⟩:=yS hv;exact (h.row i hi (by have:=h.len;omega)).ne ho he x hx hv'
def ER.nf{e e':TypeId}{sz sz':Nat}{vs us:List wc}{xs ys:List (List (List wc))}(h:ER w e sz vs xs)(h':ER w e' sz' us ys)(he:e≠e'):∀x∈CM vs,x∉CM us:=λx hx hu=>by
 obtain⟨v,hv,hu⟩:=CR.1 hu;obtain⟨i,hi,rfl⟩:=yS hv;exact h.ne (h'.row i hi (by have:=h'.len;omega)) he x hx hu
def BX.low(h:BX C m cf w c){x:Nat}(hx:x∈C.fix++(C.H.fix++C.H.D.all)):x<C.H.N:=by
 rw[j4]at hx;rcases hx with d|d
 ·exact h.ok.lo x d
 ·exact h.hp.ok.lo x d
def BX.farH(h:BX C m cf w c){x:Nat}(hx:x∈C.fix∨x∈CM m.vs∨x∈CM m.ts):x∉C.H.S m.lv:=λe=>by
 have e':=C.H.subS m.lv x e;simp only[Cp.all,j4]at e';rcases hx with d|d|d
 ·have hlo:=h.ok.lo x d;rcases e' with f|f|f
  ·exact h.ok.dj x d (by simp[f])
  ·exact h.ok.dj x d (by simp[f])
  ·have:=h.hp.hi x f;omega
 ·have hhi:=h.hv x d;rcases e' with f|f|f
  ·have:=h.low (x:=x) (by simp[f]);omega
  ·have:=h.low (x:=x) (by simp[f]);omega
  ·exact h.fb.fam.ne h.hp.gy.stk.own (by decide) x d f
 ·have hhi:=h.ht x d;rcases e' with f|f|f
  ·have:=h.low (x:=x) (by simp[f]);omega
  ·have:=h.low (x:=x) (by simp[f]);omega
  ·exact h.th.ne h.hp.gy.stk.own (by decide) x d f
def BX.keep{S:List Nat}(h:BX C m cf w c)(hf:Fr S w w')(ha:∀x∈C.all m,x∉S):BX C m cf w' c:=by
 obtain⟨cs,b1,b2⟩:=h.blk
 refine⟨h.ok,h.hp.keep hf (λx hx=>ha x ?_),⟨cs,hf.at_ b1 (ha _ (by simp[C3.all,C3.fix])),b2⟩,h.rg.keep hf (ha _ (by simp[C3.all,C3.fix])) (λx hx=>ha x (by simp[C3.all,C3.fix,hx])),h.fb.keep hf (ha _ (by simp[C3.all,C3.fix])) (λx hx=>ha x (by simp[C3.all,C3.fix,hx])) (λx hx=>ha x (by simp[C3.all,Mv.all,hx])),h.th.keep hf (λx hx=>ha x (by simp[C3.all,Mv.all,hx])),h.tl,h.t16,h.hv,h.ht⟩
 simp only[Cp.all,j4]at hx;rcases hx with d|d|d<;>simp[C3.all,Mv.all,d]
def BX.keep0(h:BX C m cf w c)(hf:Fr [] w w'):BX C m cf w' c:=h.keep hf (by simp)
def BX.setH{lv':wc}{c':Co}(h:BX C m cf w c)(hf:C2 C.H m.lv w lv' w')(hh:Cy C.H lv' cf w' c')(er:c'.r=c.r)(eb:c'.b=c.b)(et:c'.th=c.th)(eg:c'.global=c.global)(ep:c'.phase=c.phase)(ey:c'.cycles=c.cycles)(eu:c'.units=c.units):
  BX C { m with lv:=lv' } cf w' c':=by
 obtain⟨cs,b1,b2⟩:=h.blk;have fx:∀x∈C.fix,x∉C.H.S m.lv:=λx hx=>h.farH (wg hx);refine⟨h.ok,hh,⟨cs,hf.fr.at_ b1 (fx _ (by simp[C3.fix])),b2.sz,b2.s0,b2.s1,b2.s12,b2.s13,b2.s14,b2.s15,b2.ts,by rw[eg];exact b2.s24,by rw[ep];exact b2.s25,by rw[ey];exact b2.s26,by rw[eu];exact b2.s27⟩,?_,?_,?_,by rw[et];exact h.tl,by rw[et];exact h.t16,h.hv,h.ht⟩
 ·rw[er];exact h.rg.keep hf.fr (fx _ (by simp[C3.fix])) (λx hx=>fx x (by simp[C3.fix,hx]))
 ·rw[eb];exact h.fb.keep hf.fr (fx _ (by simp[C3.fix])) (λx hx=>fx x (by simp[C3.fix,hx])) (λx hx=>h.farH (wh (wg hx)))
 ·rw[et];exact h.th.keep hf.fr (λx hx=>h.farH (wh (wh hx)))
def BX.len(h:BX C m cf w c):m.ts.length=8:=by have:=h.th.len;rw[i6,h.tl]at this;exact this
def BX.ro(h:BX C m cf w c){j:Nat}(hj:j<8):∃cs:Array wc,PJ C m c cs/\DG w C.co (16+j) 132 cs (m.ts[j]'(by rw[h.len];exact hj)) (c.th[j]'(by rw[h.tl];exact hj)):=by
 obtain⟨cs,b1,b2⟩:=h.blk;have hl:=h.len;refine⟨cs,b2,b1,?_,?_,by decide,h.t16 _ (zW _)⟩
 ·rw[b2.ts j hj,xO (by omega)]
 ·have:=h.th.row j (by omega) (by rw[i6,h.tl];exact hj);simpa using this
def Cy.other{lv:wc}{H:Cp}{c':Co}(h:Cy H lv cf w c)(es:c'.s=c.s)(eg:c'.g=c.g)(et:c'.tp=c.tp)(ea:c'.at_=c.at_)(ef:c'.freed=c.freed):Cy H lv cf w c':=
 ⟨h.ok,by rw[es];exact h.st,by rw[eg];exact h.gy,by rw[et];exact h.tb,by rw[ea,ef];exact h.sb,h.hi,h.le,h.pg,h.ck⟩
def BX.farA(h:BX C m cf w c){x:Nat}(hx:x∈C.fix∨x∈CM m.vs∨x∈CM m.ts):∀y∈C.H.all m.lv,y≠x:=λy hy e=>by
 subst e;simp only[Cp.all,j4]at hy;rcases hx with d|d|d
 ·have hlo:=h.ok.lo y d;rcases hy with f|f|f
  ·exact h.ok.dj y d (by simp[f])
  ·exact h.ok.dj y d (by simp[f])
  ·have:=h.hp.hi y f;omega
 ·have hhi:=h.hv y d;rcases hy with f|f|f
  ·have:=h.low (x:=y) (by simp[f]);omega
  ·have:=h.low (x:=y) (by simp[f]);omega
  ·exact h.fb.fam.ne h.hp.gy.stk.own (by decide) y d f
 ·have hhi:=h.ht y d;rcases hy with f|f|f
  ·have:=h.low (x:=y) (by simp[f]);omega
  ·have:=h.low (x:=y) (by simp[f]);omega
  ·exact h.th.ne h.hp.gy.stk.own (by decide) y d f
def BX.setC{cs:Array wc}{c':Co}(h:BX C m cf w c)(hf:Fr [C.co] w w')(hb:w'.heap[C.co]?=vz (wj cs 132 (0,0)))(hc:PJ C m c' cs)(es:c'.s=c.s)(eg:c'.g=c.g)(etp:c'.tp=c.tp)(ea:c'.at_=c.at_)(ef:c'.freed=c.freed)(er:c'.r=c.r)(eb:c'.b=c.b)(et:c'.th=c.th):
  BX C m cf w' c':=by
 obtain⟨cs0,b1,b2⟩:=h.blk;have n1:∀y∈C.H.all m.lv,y∉[C.co]:=λy hy e=>h.farA (x:=C.co) (wg (by simp[C3.fix])) y hy (by simpa using e);refine⟨h.ok,(h.hp.keep hf n1).other es eg etp ea ef,⟨cs,hb,hc⟩,?_,?_,?_,by rw[et];exact h.tl,by rw[et];exact h.t16,h.hv,h.ht⟩
 ·rw[er];exact h.rg.keep hf (by simp only[yZ];exact CY h.rg.blk b1 (by simp)) (λx hx e=>by simp only[yZ]at e;subst e;exact h.rg.own.nb b1 (by decide) hx)
 ·rw[eb];exact h.fb.keep hf (by simp only[yZ];exact CY h.fb.blk b1 (by simp)) (λx hx e=>by simp only[yZ]at e;subst e;exact h.fb.own.nb b1 (by decide) hx) (λx hx e=>by simp only[yZ]at e;subst e;exact h.fb.fam.nb b1 (by decide) hx)
 ·rw[et];exact h.th.keep hf (λx hx e=>by simp only[yZ]at e;subst e;exact h.th.nb b1 (by decide) hx)
def BX.setR{r:Rg}(h:BX C m cf w c)(hf:Fr (C.re::BM C.rv) w w')(hr:Dv C.re C.rv w' r):BX C m cf w' { c with r:=r }:=by
 obtain⟨cs,b1,b2⟩:=h.blk;have no:∀ {b:Nat} {cs:Array wc} {e:TypeId},w.heap[b]?=vz (wj cs e (0,0))->e≠183->e≠212->b∉C.re::BM C.rv:=λhb h1 h2 hx=>by
  simp only[un]at hx;rcases hx with c|c
  ·exact CY hb h.rg.blk (by simp[h1]) c
  ·exact h.rg.own.nb hb (vk h2) c
 have n1:∀y∈C.H.all m.lv,y∉C.re::BM C.rv:=λy hy e=>by
  refine h.farA (x:=y) (wg ?_) y hy rfl;simp only[un]at e;rcases e with e|e<;>simp[C3.fix,e]
 have n2:∀ {v:wc} {e:TypeId} {sz:Nat} {xs:List (List wc)},BO w v e sz xs->e≠183->e≠212->∀x∈BM v,x∉C.re::BM C.rv:=λho h1 h2 x hx e=>by
  simp only[un]at e;rcases e with e|e
  ·subst e;exact ho.nb h.rg.blk h1 hx
  ·exact ho.ne h.rg.own h2 x hx e
 refine⟨h.ok,(h.hp.keep hf n1).other rfl rfl rfl rfl rfl,⟨cs,hf.at_ b1 (no b1 (by decide) (by decide)),b2.sz,b2.s0,b2.s1,b2.s12,b2.s13,b2.s14,b2.s15,b2.ts,b2.s24,b2.s25,b2.s26,b2.s27⟩,hr,h.fb.keep hf (no h.fb.blk (by decide) (by decide)) (n2 h.fb.own (by decide) (by decide)) (λx hx e=>?_),h.th.keep hf (λx hx e=>?_),h.tl,h.t16,h.hv,h.ht⟩
 ·simp only[un]at e;rcases e with e|e
  ·subst e;exact h.fb.fam.nb h.rg.blk (by decide) hx
  ·exact h.fb.fam.ne h.rg.own (by decide) x hx e
 ·simp only[un]at e;rcases e with e|e
  ·subst e;exact h.th.nb h.rg.blk (by decide) hx
  ·exact h.th.ne h.rg.own (by decide) x hx e
def BX.setB{vs':List wc}{b:List (List Int)}(h:BX C m cf w c)(hf:FT C.bv m.vs w vs' w')(hr:Dt C.bu C.bv vs' w' b):BX C { m with vs:=vs' } cf w' { c with b:=b }:=by
 obtain⟨cs,b1,b2⟩:=h.blk;have no:∀ {b:Nat} {cs:Array wc} {e:TypeId},w.heap[b]?=vz (wj cs e (0,0))->e≠54->e≠3->b∉BM C.bv++CM m.vs:=λhb h1 h2 hx=>by
  rw[j4]at hx;rcases hx with c|c
  ·exact h.fb.own.nb hb (vk h1) c
  ·exact h.fb.fam.nb hb (vk h2) c
 have n1:∀y∈C.H.all m.lv,y∉BM C.bv++CM m.vs:=λy hy e=>by
  rw[j4]at e;rcases e with e|e
  ·exact h.farA (x:=y) (wg (by simp[C3.fix,e])) y hy rfl
  ·exact h.farA (x:=y) (wh (wg e)) y hy rfl
 refine⟨h.ok,(h.hp.keep hf.fr n1).other rfl rfl rfl rfl rfl,⟨cs,hf.fr.at_ b1 (no b1 (by decide) (by decide)),b2.sz,b2.s0,b2.s1,b2.s12,b2.s13,b2.s14,b2.s15,b2.ts,b2.s24,b2.s25,b2.s26,b2.s27⟩,h.rg.keep hf.fr (no h.rg.blk (by decide) (by decide)) (λx hx e=>?_),hr,h.th.keep hf.fr (λx hx e=>?_),h.tl,h.t16,λx hx=>?_,h.ht⟩
 ·rw[j4]at e;rcases e with e|e
  ·exact h.rg.own.ne h.fb.own (by decide) x hx e
  ·exact h.fb.fam.ne h.rg.own (by decide) x e hx
 ·rw[j4]at e;rcases e with e|e
  ·exact h.th.ne h.fb.own (by decide) x hx e
  ·exact h.th.nf h.fb.fam (by decide) x hx e
 ·rcases hf.gr x hx with d|d
  ·exact h.hv x d
  ·have:=h.hp.le;omega
def BX.setT{j:Nat}{cs:Array wc}{tv':wc}{l:List V2}(h:BX C m cf w c)(hj:j<8)(hf:Fr (C.co::BM (m.ts[j]'(by rw[h.len];exact hj))) w w')(hc:PJ C m c cs)(hr:DG w' C.co (16+j) 132 (cs.setIfInBounds (16+j) tv') tv' l)(hg:∀x∈BM tv',x∈BM (m.ts[j]'(by rw[h.len];exact hj))∨w.heap.size<=x):BX C { m with ts:=m.ts.set j tv' } cf w' { c with th:=c.th.set j l }:=by
 obtain⟨cs0,b1,b2⟩:=h.blk;have hl:=h.len;have hown:=h.th.row j (by omega) (by rw[i6,h.tl];exact hj);have no:∀ {b:Nat} {cs:Array wc} {e:TypeId},w.heap[b]?=vz (wj cs e (0,0))->e≠132->e≠60->b∉C.co::BM (m.ts[j]'(by omega)):=λhb h1 h2 hx=>by
  simp only[un]at hx;rcases hx with c|c
  ·exact CY hb b1 (by simp[h1]) c
  ·exact hown.nb hb (vk h2) c
 have n2:∀ {v:wc} {e:TypeId} {sz:Nat} {xs:List (List wc)},BO w v e sz xs->e≠132->e≠60->∀x∈BM v,x∉C.co::BM (m.ts[j]'(by omega)):=λho h1 h2 x hx e=>by
  simp only[un]at e;rcases e with e|e
  ·subst e;exact ho.nb b1 h1 hx
  ·exact ho.ne hown h2 x hx e
 have n1:∀y∈C.H.all m.lv,y∉C.co::BM (m.ts[j]'(by omega)):=λy hy e=>by
  simp only[un]at e;rcases e with e|e
  ·exact h.farA (x:=C.co) (wg (by simp[C3.fix])) y hy e
  ·exact h.farA (x:=y) (wh (wh (CH (by omega) e))) y hy rfl
 have e1:(c.th.map Ck).set j (Ck l)=(c.th.set j l).map Ck:=by simp
 refine⟨h.ok,(h.hp.keep hf n1).other rfl rfl rfl rfl rfl,⟨_,hr.blk,?_⟩,h.rg.keep hf (no h.rg.blk (by decide) (by decide)) (n2 h.rg.own (by decide) (by decide)),h.fb.keep hf (no h.fb.blk (by decide) (by decide)) (n2 h.fb.own (by decide) (by decide)) (λx hx e=>?_),?_,by simp[h.tl],λx hx=>?_,h.hv,λx hx=>?_⟩
 ·have far:∀i,i<16∨24<=i->(cs.setIfInBounds (16+j) tv')[i]?=cs[i]?:=λi hi=>by
   rw[wX,vm (by omega)]
  refine⟨by simp[hc.sz],by rw[far 0 (by omega)];exact hc.s0,by rw[far 1 (by omega)];exact hc.s1,by rw[far 12 (by omega)];exact hc.s12,by rw[far 13 (by omega)];exact hc.s13,by rw[far 14 (by omega)];exact hc.s14,by rw[far 15 (by omega)];exact hc.s15,λi hi=>?_,by rw[far 24 (by omega)];exact hc.s24,by rw[far 25 (by omega)];exact hc.s25,by rw[far 26 (by omega)];exact hc.s26,by rw[far 27 (by omega)];exact hc.s27⟩
  rw[wX];by_cases e:16+j=16+i
  ·have:j=i:=by omega
   subst this;rw[vn rfl,vn (by rw[hc.sz];omega)];simp[show j<m.ts.length by omega]
  ·rw[vm e,hc.ts i hi,List.getElem?_set_ne (by omega)]
 ·simp only[un]at e;rcases e with e|e
  ·subst e;exact h.fb.fam.nb b1 (by decide) hx
  ·exact h.fb.fam.ne hown (by decide) x hx e
 ·rw[<-e1];refine h.th.set (S:=C.co::BM (m.ts[j]'(by omega))) (by omega) hf (λi hi hij y hy e=>?_) hr.own hg;simp only[un]at e;rcases e with e|e
  ·subst e;exact h.th.nb b1 (by decide) (CH hi hy)
  ·exact h.th.dj i j hi (by omega) hij y hy e
 ·rcases xK hx with d|d
  ·exact h.t16 x d
  ·rw[d];exact hr.le
 ·rcases DB hx with d|d
  ·exact h.ht x d
  ·rcases hg x d with e|e
   ·exact h.ht x (CH (by omega) e)
   ·have:=h.hp.le;omega
end
def Gn(m:List Int)(p:Nat)(k:Int):Int->List Nat->Prop
 | f,[]=>f=BQ k
 | f,i::L=>f=i/\∃x,Cs m (32*p+i*BT k) = -1-x/\Gn m p k x L
theorem Gn.keep{m m':List Int}{p:Nat}{k:Int}:∀ {f:Int} {L:List Nat},Gn m p k f L->(∀i∈L,Cs m' (32*p+i*BT k)=Cs m (32*p+i*BT k))->Gn m' p k f L
 | _,[],h,_=>h
 | _,i::L,⟨h1,x,h2,h3⟩,h=>⟨h1,x,by rw[h i (by simp),h2],Gn.keep h3 λj hj=>h j (by simp[hj])⟩
structure Kj(c:Ce)(p:Nat)(k:Int)(L:List Nat):Prop where
 nd:L.Nodup
 mem:∀i:Nat,i∈L↔(i:Int)<BQ k/\c.tk (32*p+i*(BT k).toNat)=v8
 ch:Gn c.m p k (c.chain p).1 L
 n:(c.chain p).2=L.length
structure CI(c:Ce):Prop where
 np:c.ks.length<=64
 ml:c.m.length=c.ks.length*32
 cl:c.ch.length=64
 tk:∀a:Nat,c.tk a=v7->a / 32<c.ks.length/\((0<BT (BS c.ks ((a / 32:Nat):Int))/\(a:Int) % BT (BS c.ks ((a / 32:Nat):Int))=0)∨(BS c.ks ((a / 32:Nat):Int)=5/\a % 32=0))
 six:∀p:Nat,BS c.ks (p:Int)=6->1<=p/\(BS c.ks ((p-1:Nat):Int)=5∨BS c.ks ((p-1:Nat):Int)=6)
 fr:∀p:Nat,0<BT (BS c.ks (p:Int))->∃L,Kj c p (BS c.ks (p:Int)) L
def Ij(ks:List Int):∀(p:Nat),(BS ks (p:Int)≠6->Ek ks p=p)/\(BS ks ((p+1:Nat):Int)=6->Ek ks (p+1)=Ek ks p)
 | 0=>⟨λh=>by unfold Ek;rw[vm (by simpa using h)];rfl,λh=>by
  show (if BS ks ((0+1:Nat):Int)=6 then Ek ks 0 else _)=Ek ks 0;rw[vn h]⟩
 | p+1=>⟨λh=>by rw[Ek,vm h],λh=>by rw[Ek,vn h]⟩
theorem IT{ks:List Int}{p:Nat}(h:BS ks (p:Int)≠6):∀(d:Nat),(∀i,i<d->BS ks ((p+1+i:Nat):Int)=6)->Ek ks (p+d)=p
 | 0,_=>(Ij ks p).1 h
 | d+1,hd=>by
  have:=(Ij ks (p+d)).2 (by have:=hd d (by omega);rwa [show p+1+d=p+d+1 by omega]at this);rw[show p+(d+1)=p+d+1 by omega,this];exact IT h d λi hi=>hd i (by omega)
def Hi{ks:List Int}{p:Nat}(h:BS ks (p:Int) ≠ -1):p<ks.length:=by apply xF;intro hc;exact h (DR (by omega))
def DP{ks:List Int}{p:Nat}(h:BS ks (p:Int)=5):1<=Cu ks p/\p+Cu ks p<=ks.length/\(∀i,i+1<Cu ks p->BS ks ((p+1+i:Nat):Int)=6)/\BS ks ((p+Cu ks p:Nat):Int)≠6:=by
 have hp:=Hi (ks:=ks) (p:=p) (by rw[h];decide);have e:Cu ks p=D7 (ks.drop (p+1))+1:=by unfold Cu;rw[h,vm (by decide),vn rfl,zE]
 obtain⟨h1,h2,h3⟩:=GL (ks.drop (p+1));rw[zZ]at h1;rw[e];refine⟨by omega,by omega,λi hi=>?_,?_⟩
 ·have:=h2 i (by omega);rw[yW]at this;rw[Ii,this];rfl
 ·rw[yW]at h3;rw[Ii];intro hc;rw[show p+(D7 (ks.drop (p+1))+1)=p+1+D7 (ks.drop (p+1)) by omega]at hc;cases hx:ks[p+1+D7 (ks.drop (p+1))]? with
  | none=>rw[hx]at hc;simp at hc
  | some x=>rw[hx]at hc h3;simp at hc;subst hc;exact h3 rfl
def NH{ks:List Int}{p:Nat}(h:0<BT (BS ks (p:Int))):Cu ks p=1:=by unfold Cu;rw[vn h]
def Ib:BT 5=0:=rfl
def Xj:BT 6=0:=rfl
def Ce.rsz(c:Ce)(a:Nat):Nat:=if BS c.ks ((a / 32:Nat):Int)=5 then 32*Cu c.ks ((a / 32:Nat):Int) else (BT (BS c.ks ((a / 32:Nat):Int))).toNat
def MR(ks:List Int)(x:Nat):Int:=let q:=Ek ks (x / 32);if BS ks q=5 then 32*q else x-x % BT (BS ks q)
def Ih{ks:List Int}{x:Nat}(h:0<BT (BS ks ((x / 32:Nat):Int))):MR ks x=x-x % BT (BS ks ((x / 32:Nat):Int)):=by
 have h6:BS ks ((x / 32:Nat):Int)≠6:=λe=>by rw[e,Xj]at h;omega
 have h5:BS ks ((x / 32:Nat):Int)≠5:=λe=>by rw[e,Ib]at h;omega
 unfold MR;simp only[(Ij ks (x / 32)).1 h6,vm h5]
section
variable{c:Ce}
def Hh{k:Int}{a x:Nat}(hk:0<BT k)(ha:(a:Int) % BT k=0)(h1:a<=x)(h2:x<a+(BT k).toNat):x / 32=a / 32/\(x:Int)-x % BT k=a:=by rcases Eh k with⟨_,e,_⟩|⟨_,e,_⟩|⟨_,e,_⟩|⟨_,e,_⟩|⟨_,e,_⟩<;>rw[e]at hk ha h2 ⊢<;>omega
def CI.home_in(h:CI c){a x:Nat}(ha:c.tk a=v7)(h1:a<=x)(h2:x<a+c.rsz a):MR c.ks x=a:=by
 obtain⟨hp,hk⟩:=h.tk a ha;unfold Ce.rsz at h2;rcases hk with⟨hk,hm⟩|⟨hk,hm⟩
 ·have h5:BS c.ks ((a / 32:Nat):Int)≠5:=λe=>by rw[e,Ib]at hk;omega
  rw[vm h5]at h2;obtain⟨e1,e2⟩:=Hh hk hm h1 h2;rw[Ih (by rw[e1];exact hk),e1,e2]
 ·rw[vn hk]at h2;obtain⟨s1,s2,s3,s4⟩:=DP hk;generalize hs:Cu c.ks ((a / 32:Nat):Int)=z at *;have hd:x / 32=a / 32+(x / 32-a / 32):=by omega
  have:=IT (ks:=c.ks) (p:=a / 32) (by rw[hk];decide) (x / 32-a / 32) λi hi=>s3 i (by omega);unfold MR;rw[hd,this];simp only[hk,vj];omega
def CI.apart(h:CI c){a b x:Nat}(ha:c.tk a=v7)(hb:c.tk b=v7)(h1:a<=x)(h2:x<a+c.rsz a)(h3:b<=x)(h4:x<b+c.rsz b):a=b:=by have:=h.home_in ha h1 h2;have:=h.home_in hb h3 h4;omega
def CI.rsz_pos(h:CI c){a:Nat}(ha:c.tk a=v7):1<=c.rsz a/\a+c.rsz a<=c.m.length:=by
 obtain⟨hp,hk⟩:=h.tk a ha;have hml:=h.ml;unfold Ce.rsz;rcases hk with⟨hk,hm⟩|⟨hk,hm⟩
 ·have h5:BS c.ks ((a / 32:Nat):Int)≠5:=λe=>by rw[e,Ib]at hk;omega
  rw[vm h5];generalize BS c.ks ((a / 32:Nat):Int)=k at *;rcases Eh k with⟨_,e,_⟩|⟨_,e,_⟩|⟨_,e,_⟩|⟨_,e,_⟩|⟨_,e,_⟩<;>rw[e]at hk hm ⊢<;>omega
 ·rw[vn hk];obtain⟨s1,s2,s3,s4⟩:=DP hk;omega
def CL{ks:List Int}{p i:Nat}{k:Int}(hk:BS ks (p:Int)=k)(h0:0<BT k)(hi:(i:Int)<BQ k):
  (32*p+i*(BT k).toNat) / 32=p/\((32*p+i*(BT k).toNat:Nat):Int) % BT k=0/\MR ks (32*p+i*(BT k).toNat)=((32*p+i*(BT k).toNat:Nat):Int)/\((32*p+i*(BT k).toNat:Nat):Int)=32*p+i*BT k/\32*p+i*(BT k).toNat+(BT k).toNat<=32*p+32:=by
 have key:(32*p+i*(BT k).toNat) / 32=p/\((32*p+i*(BT k).toNat:Nat):Int) % BT k=0/\((32*p+i*(BT k).toNat:Nat):Int)=32*p+i*BT k/\32*p+i*(BT k).toNat+(BT k).toNat<=32*p+32:=by rcases Eh k with⟨_,e,f⟩|⟨_,e,f⟩|⟨_,e,f⟩|⟨_,e,f⟩|⟨_,e,f⟩<;>rw[e]at h0 ⊢<;>rw[f]at hi<;>simp only[Int.reduceToNat]<;>omega
 obtain⟨k1,k2,k3,k4⟩:=key;refine⟨k1,k2,?_,k3,k4⟩;rw[Ih (by rw[k1,hk];exact h0),k1,hk,k2];omega
def CI.free_apart(h:CI c){a x p i:Nat}{k:Int}(ha:c.tk a=v7)(h1:a<=x)(h2:x<a+c.rsz a)(hk:BS c.ks (p:Int)=k)(h0:0<BT k)(hi:(i:Int)<BQ k)(hf:c.tk (32*p+i*(BT k).toNat)=v8):(x:Int)≠32*p+i*BT k:=by
 obtain⟨_,_,e,e2,_⟩:=CL hk h0 hi;intro hx;have:x=32*p+i*(BT k).toNat:=by omega
 subst this;have:=h.home_in ha h1 h2;rw[e]at this;have:32*p+i*(BT k).toNat=a:=by omega
 rw[this,ha]at hf;cases hf
def CI.words(h:CI c){m':List Int}(hl:m'.length=c.m.length)(hw:∀x:Nat,x<c.m.length->Cs m' (x:Int)≠Cs c.m (x:Int)->∃a,c.tk a=v7/\a<=x/\x<a+c.rsz a):CI { c with m:=m' }:=by
 refine⟨h.np,by simp only;rw[hl];exact h.ml,h.cl,h.tk,h.six,λp hp=>?_⟩;obtain⟨L,hL⟩:=h.fr p hp;refine⟨L,hL.nd,hL.mem,hL.ch.keep λi hi=>?_,hL.n⟩;obtain⟨q1,q2⟩:=(hL.mem i).1 hi;obtain⟨e1,_,_,e4,e5⟩:=CL (ks:=c.ks) (p:=p) (i:=i) rfl hp q1;have hpl:=Hi (ks:=c.ks) (p:=p) (by intro e;rw[e]at hp;revert hp;decide);have hml:=h.ml;rw[<-e4];apply xF;intro hne;obtain⟨a,ha,h1,h2⟩:=hw _ (by omega) hne
 exact h.free_apart ha h1 h2 rfl hp q1 q2 e4
end
structure C7(c:Ce)(a:Nat)(ser:Int)(fs:List V2):Prop where
 tk:c.tk a=v7
 head:Cs c.m (a:Int)=ser*128+fs.length
 ser:0<=ser/\ser<1099511627776
 len:fs.length<=127/\fs.length+1<=c.rsz a
 fld:∀(i:Nat) (h:i<fs.length),Dk fs[i]=v7/\Cs c.m ((a+1+i:Nat):Int)=E7 fs[i]
structure HI(c:Ce)(made:Int):Prop where
 ci:CI c
 obj:∀a,c.tk a=v7->∃ser fs,C7 c a ser fs/\ser<made
 one:∀a b ser fs gs,C7 c a ser fs->C7 c b ser gs->a=b
def Gu{k n:Int}(h:D8 k n=0):(k=0/\n=0)∨(k=1 /\ -1099511627776<=n/\n<1099511627776)∨(k=2/\0<=n/\n<2048):=by
 unfold D8 at h;by_cases h0:k=0
 ·rw[vn h0]at h;by_cases h1:n=0
  ·exact wg ⟨h0,h1⟩
  ·rw[vm h1]at h;cases h
 ·rw[vm h0]at h;by_cases h1:k=1
  ·rw[vn h1]at h;by_cases h2 : -1099511627776<=n/\n<1099511627776
   ·exact wh (wg ⟨h1,h2⟩)
   ·rw[vm h2]at h;cases h
  ·rw[vm h1]at h;by_cases h2:k=2
   ·rw[vn h2]at h;by_cases h3:0<=n/\n<2048
    ·exact wh (wh ⟨h2,h3⟩)
    ·rw[vm h3]at h;cases h
   ·rw[vm h2]at h;cases h
def Jk{v:V2}(h:Dk v=v7):GS (E7 v)=(v,v7):=by
 obtain⟨k,n⟩:=v;have hc:D8 k n=0:=by simpa[Dk] using h
 have key:KE (E7 (k,n))=k/\KF (E7 (k,n))=n:=by
  rcases Gu hc with⟨rfl,rfl⟩|⟨rfl,h1,h2⟩|⟨rfl,h1,h2⟩
  ·exact⟨by decide,by decide⟩
  ·simp only[E7,Kd,KE,KF,show ¬((1:Int)=2) by decide,vg,vj];rw[vn (by omega),vn (by omega)];exact⟨rfl,by omega⟩
  ·simp only[E7,Kd,KE,KF,vj];rw[vm (by omega),vm (by omega),vm (by omega),vm (by omega)];refine⟨rfl,?_⟩;rw[xA (by omega)];omega
 unfold GS;rw[key.1,key.2,vn hc]
def T3:E7 (0,0)=0:=by decide
def OQ:Dk (0,0)=v7:=by decide
section
variable{c:Ce}{a:Nat}{ser:Int}{fs:List V2}
def F6{n:Int}(h : -9223372036854775808<=n/\n<=9223372036854775807):CJ n=n:=by unfold CJ;exact BN h
def CI.small_n(h:CI c):c.m.length<=2048:=by have:=h.np;have:=h.ml;omega
def CI.tk_lt(h:CI c)(ha:c.tk a=v7):a<c.m.length:=by have:=h.rsz_pos ha;omega
def CI.isIt(h:CI c)(ha:c.tk a=v7):c.isIt (a:Int)=v7:=by have:=h.tk_lt ha;simp[Ce.isIt,EY,Ce.n,ha,this]
def JV(h:CI c){x:Int}:c.isIt x=v7↔∃a:Nat,x=a/\c.tk a=v7:=by
 constructor
 ·intro hx;simp only[Ce.isIt,EY,zS,zP]at hx;exact⟨x.toNat,by omega,hx.2⟩
 ·rintro⟨a,rfl,ha⟩;exact h.isIt ha
def C7.split(h:C7 c a ser fs):Gz (Cs c.m (a:Int))=(ser,(fs.length:Int)):=by
 have h1:=h.ser;have h2:=h.len;unfold Gz;rw[h.head];have e1:(ser*128+(fs.length:Int)) / 128=ser:=by omega
 have e2:(ser*128+(fs.length:Int)) % 128=fs.length:=by omega
 rw[e1,e2,vn (by omega)]
def C7.same{ser':Int}{gs:List V2}(h:C7 c a ser fs)(h':C7 c a ser' gs):ser=ser'/\fs=gs:=by
 have h1:=h.split;rw[h'.split,uq]at h1;have hl:gs.length=fs.length:=by omega
 refine⟨h1.1.symm,List.ext_getElem hl.symm λi p q=>?_⟩;have e1:=(h.fld i p).2;have e2:=(h'.fld i q).2;rw[e1]at e2;have f1:=Jk (h.fld i p).1;have f2:=Jk (h'.fld i q).1;rw[e2,f2]at f1;exact (Prod.mk.inj f1).1.symm
def St.read_obj{s:St}(hc:CI s.c)(h:C7 s.c a ser fs):s.fields (a:Int)=fs.length/\s.serial (a:Int)=ser:=by unfold St.fields St.serial St.read;rw[vn (hc.isIt h.tk),h.split];exact⟨rfl,rfl⟩
def St.get_obj{s:St}(hc:CI s.c)(h:C7 s.c a ser fs)(x:Int):s.get (a:Int) x=match (if 0<=x then fs[x.toNat]? else v6) with
  | some v=>(v,v7)
  | none=>((0,0),v8):=by
 unfold St.get;rw[(St.read_obj hc h).1];have hb:=hc.tk_lt h.tk;have hn:=hc.small_n;have hl:=h.len;by_cases c1:0<=x/\x<fs.length
 ·obtain⟨i,rfl⟩:=xQ c1.1;have hi:i<fs.length:=by omega
  rw[vn c1,vn c1.1,zE,xO hi];rw[F6 (n:=(a:Int)+1) (by omega),F6 (by omega),show (a:Int)+1+i=((a+1+i:Nat):Int) by omega,(h.fld i hi).2,Jk (h.fld i hi).1]
 ·rw[vm c1];by_cases c2:0<=x
  ·rw[vn c2,yC (by omega)]
  ·rw[vm c2]
def CI.base(h:CI c){x:Nat}(ha:c.tk a=v7)(h1:a<=x)(h2:x<a+c.rsz a):c.base (x:Int)=a:=by
 obtain⟨hp,hk⟩:=h.tk a ha;have hr:=h.rsz_pos ha;have hn:=h.small_n;have hpg:Ct (x:Int)=((x / 32:Nat):Int):=by unfold Ct;rw[vn (by omega)];omega
 have hit:=h.isIt ha;unfold Ce.base;simp only[hpg];unfold Ce.rsz at h2;rcases hk with⟨hk,hm⟩|⟨hk,hm⟩
 ·have h5:BS c.ks ((a / 32:Nat):Int)≠5:=λe=>by rw[e,Ib]at hk;omega
  rw[vm h5]at h2;obtain⟨e1,e2⟩:=Hh hk hm h1 h2;have hb:Ei (BS c.ks ((x / 32:Nat):Int)) (x:Int)=a:=by unfold Ei;rw[e1,hpg,vm (by omega),e2]
  simp only[hb,show ¬((a:Int)<0) by omega,false_and,vg,hit,vj]
 ·rw[vn hk]at h2;obtain⟨s1,s2,s3,s4⟩:=DP hk;generalize hs:Cu c.ks ((a / 32:Nat):Int)=z at *;have hd:x / 32=a / 32+(x / 32-a / 32):=by omega
  have hdn:=IT (ks:=c.ks) (p:=a / 32) (by rw[hk];decide) (x / 32-a / 32) λi hi=>s3 i (by omega);rw[<-hd]at hdn;have hkx:BT (BS c.ks ((x / 32:Nat):Int))=0:=by
   by_cases e:x / 32=a / 32
   ·rw[e,hk];rfl
   ·have:=s3 (x / 32-a / 32-1) (by omega);rw[show a / 32+1+(x / 32-a / 32-1)=x / 32 by omega]at this;rw[this];rfl
  have hb:Ei (BS c.ks ((x / 32:Nat):Int)) (x:Int) = -1:=by unfold Ei;rw[vn (wg hkx)]
  have hf:Fj c.ks ((x / 32:Nat):Int)=((a / 32:Nat):Int):=by
   unfold Fj;have h0:(0:Int)<=((x / 32:Nat):Int):=by omega
   simp only[h0,vj,zE,hdn,hs,show ¬(z=0) by omega,vg]
  have hnp:=h.np;have he:(Gh ((a / 32:Nat):Int) 1).1=a:=by unfold Gh;rw[vn (by omega)];simp only;omega
  simp only[hb,hf,show (-1:Int)<0 by decide,show (0:Int)<=((a / 32:Nat):Int) by omega,and_self,vj,he,hit]
def CI.store_in(h:CI c){x:Nat}{w:Int}(ha:c.tk a=v7)(h1:a<=x)(h2:x<a+c.rsz a):c.store (x:Int) w=({ c with m:=DA c.m x w },v7):=by have hr:=h.rsz_pos ha;unfold Ce.store;rw[h.base ha h1 h2,vn ⟨by omega,by unfold EC;omega⟩]
def CI.stored(h:CI c){x:Nat}{w:Int}(ha:c.tk a=v7)(h1:a<=x)(h2:x<a+c.rsz a):CI { c with m:=DA c.m x w }:=by
 have hr:=h.rsz_pos ha;refine h.words (El _ _ _) λy hy hne=>⟨a,ha,?_⟩;rw[Gi (by omega) (by omega) (by omega) (by omega)]at hne;by_cases e:(y:Int)=x
 ·have:y=x:=by omega
  subst this;exact⟨h1,h2⟩
 ·rw[vm e]at hne;exact absurd rfl hne
end
def MO{p i:Nat}{k:Int}(hp:p<64)(hi:(i:Int)<BQ k):JC (p:Int) k (i:Int)=((p:Int)*32+i*BT k,v7):=by unfold JC;rw[vn (by omega)]
def Iy{k:Int}{p i j:Nat}(h0:0<BT k)(h:(p:Int)*32+i*BT k=(p:Int)*32+j*BT k):i=j:=by rcases Eh k with⟨_,e,_⟩|⟨_,e,_⟩|⟨_,e,_⟩|⟨_,e,_⟩|⟨_,e,_⟩<;>rw[e]at h h0<;>omega
def J0{k:Int}{p i:Nat}(hi:(i:Int)<BQ k):0<BT k/\32*(p:Int)<=(p:Int)*32+i*BT k/\(p:Int)*32+i*BT k+BT k<=32*p+32:=by rcases Eh k with⟨_,e,f⟩|⟨_,e,f⟩|⟨_,e,f⟩|⟨_,e,f⟩|⟨_,e,f⟩<;>rw[f]at hi<;>rw[e]<;>omega
def LJ(m:List Int)(p k i x:Int):(FQ m p k i x).length=m.length:=El _ _ _
def K1{m:List Int}{p i:Nat}{k x:Int}(hp:p<64)(hi:(i:Int)<BQ k)(hm:p*32+31<m.length){y:Int}(h0:0<=y)(hy:y<m.length):Cs (FQ m p k i x) y=if y=(p:Int)*32+i*BT k then -1-x else Cs m y:=by have hs:=J0 (p:=p) hi;unfold FQ;rw[MO hp hi];exact Gi (by simp only;omega) (by simp only;omega) h0 hy
theorem JD{m:List Int}{p:Nat}{k:Int}(hp:p<64)(hm:p*32+31<m.length):∀(n:Nat),(n:Int)<=BQ k->(Ej m p k n).length=m.length/\(∀j:Nat,j<n->Cs (Ej m p k n) ((p:Int)*32+j*BT k) = -1-((j+1:Nat):Int))/\∀y:Int,0<=y->y<m.length->(∀j:Nat,j<n->y≠(p:Int)*32+j*BT k)->Cs (Ej m p k n) y=Cs m y
 | 0,_=>⟨rfl,λj h=>by omega,λy _ _ _=>rfl⟩
 | n+1,hn=>by
  obtain⟨h1,h2,h3⟩:=JD (m:=m) (k:=k) hp hm n (by omega);have hi:(n:Int)<BQ k:=by omega
  have e:∀y:Int,0<=y->y<m.length->Cs (Ej m p k (n+1)) y=if y=(p:Int)*32+n*BT k then -1-((n+1:Nat):Int) else Cs (Ej m p k n) y:=λy a b=>K1 (x:=((n+1:Nat):Int)) hp hi (by omega) a (by omega);refine⟨(LJ _ _ _ _ _).trans h1,λj hj=>?_,λy a b c=>?_⟩
  ·have hs:=J0 (p:=p) (k:=k) (i:=j) (by omega);rw[e _ (by omega) (by omega)];by_cases q:j=n
   ·subst q;rw[vn rfl]
   ·rw[vm λq'=>q (Iy hs.1 q'),h2 j (by omega)]
  ·rw[e y a b,vm (c n (by omega)),h3 y a b λj hj=>c j (by omega)]
theorem LQ{m:List Int}{p:Nat}{k:Int}{n:Nat}(hn:(n:Int)=BQ k)(h:∀j:Nat,j<n->Cs m ((p:Int)*32+j*BT k) = -1-((j+1:Nat):Int)):∀(d i:Nat),i+d=n->Gn m p k i ((List.range d).map (i + ·))
 | 0,i,e=>by show (i:Int)=BQ k;omega
 | d+1,i,e=>by
  rw[List.range_succ_eq_map,q9,List.map_map];refine⟨by simp,((i+1:Nat):Int),?_,?_⟩
  ·have:=h i (by omega);simp only[uv];rw[<-this];congr 1;omega
  ·have:=LQ hn h d (i+1) (by omega);have e2:(λx=>i+x) ∘ Nat.succ=λx=>i+1+x:=by funext x;simp;omega
   rw[e2];exact this
def C4(c c':Ce)(b:Nat):Prop:=c'.tk b=c.tk b/\(c.tk b=v7->c'.rsz b=c.rsz b/\∀x:Nat,b<=x->x<b+c.rsz b->Cs c'.m (x:Int)=Cs c.m (x:Int))
def C4.refl(c:Ce)(b:Nat):C4 c c b:=⟨rfl,λ_=>⟨rfl,λ_ _ _=>rfl⟩⟩
def C4.trans{c c' c'':Ce}{b:Nat}(h:C4 c c' b)(g:C4 c' c'' b):C4 c c'' b:=
 ⟨g.1.trans h.1,λhb=>⟨(g.2 (by rw[h.1,hb])).1.trans (h.2 hb).1,λx a1 a2=>((g.2 (by rw[h.1,hb])).2 x a1 (by rw[(h.2 hb).1];exact a2)).trans ((h.2 hb).2 x a1 a2)⟩⟩
def C4.symm{c c':Ce}{b:Nat}(h:C4 c c' b):C4 c' c b:=
 ⟨h.1.symm,λhb=>⟨((h.2 (by rw[<-h.1,hb])).1).symm,λx a1 a2=>((h.2 (by rw[<-h.1,hb])).2 x a1 (by rw[<-(h.2 (by rw[<-h.1,hb])).1];exact a2)).symm⟩⟩
def C4.obj'{c c':Ce}{b:Nat}{ser:Int}{fs:List V2}(h:C4 c c' b)(o:C7 c b ser fs):C7 c' b ser fs:=by obtain⟨h1,h2⟩:=h.2 o.tk;have hl:=o.len;exact⟨by rw[h.1];exact o.tk,by rw[h2 b (by omega) (by omega)];exact o.head,o.ser,by rw[h1];exact hl,λi hi=>⟨(o.fld i hi).1,by rw[h2 _ (by omega) (by omega)];exact (o.fld i hi).2⟩⟩
def C4.obj{c c':Ce}{b:Nat}{ser:Int}{fs:List V2}(h:C4 c c' b):C7 c' b ser fs↔C7 c b ser fs:=⟨h.symm.obj',h.obj'⟩
section
variable{c:Ce}
def D0{c:Ce}{ks m:List Int}{tk:Bs}{p:Nat}{v:Int × Int}(hp:p<c.ch.length)(q:Nat):(⟨ks,m,c.ch.set p v,tk⟩:Ce).chain (q:Int)=if q=p then v else c.chain (q:Int):=by
 unfold Ce.chain;simp only[zE,xC,zI];by_cases e:p=q
 ·subst e;simp[hp]
 ·rw[vm e,vm (vk e)]
def P3{ks:List Int}{k:Int}{p:Nat}(h:Fw ks k=vz p):BT k≠0/\p<ks.length/\BS ks (p:Int)=0:=by
 unfold Fw at h;split at h
 ·cases h
 rename_i h0;obtain⟨h1,h2,_⟩:=List.findIdx?_eq_some_iff_getElem.1 h;exact⟨h0,h1,by rw[F2 h1];simpa using h2⟩
def Iw{c c':Ce}{b:Nat}(h5:BS c'.ks ((b / 32:Nat):Int)=BS c.ks ((b / 32:Nat):Int))(hs:BS c.ks ((b / 32:Nat):Int)=5->Cu c'.ks ((b / 32:Nat):Int)=Cu c.ks ((b / 32:Nat):Int)):c'.rsz b=c.rsz b:=by
 unfold Ce.rsz;rw[h5];by_cases e:BS c.ks ((b / 32:Nat):Int)=5
 ·rw[vn e,vn e,hs e]
 ·rw[vm e,vm e]
def Ik{ks:List Int}{p n:Nat}(h:BS ks (p:Int)=5)(h1:1<=n)(h2:∀i,i+1<n->BS ks ((p+1+i:Nat):Int)=6)(h3:BS ks ((p+n:Nat):Int)≠6):Cu ks (p:Int)=n:=by
 unfold Cu;rw[h,vm (by decide),vn rfl,zE,SR (ks.drop (p+1)) (n-1)]
 ·omega
 ·intro i hi;have:=h2 i (by omega);rw[yW];rw[Ii]at this;cases hx:ks[p+1+i]? with
  | none=>rw[hx]at this;simp at this
  | some x=>rw[hx]at this;simp at this;rw[this]
 ·intro hc;rw[yW,show p+1+(n-1)=p+n by omega]at hc;rw[Ii,hc]at h3;exact h3 rfl
def K3{ks ks':List Int}{p:Nat}(h:BS ks (p:Int)=5)(hk:∀q:Nat,BS ks (q:Int)≠0->BS ks' (q:Int)=BS ks (q:Int))(h6:∀q:Nat,BS ks' (q:Int)=6->BS ks (q:Int)≠6->1<=q/\BS ks ((q-1:Nat):Int)=0):Cu ks' (p:Int)=Cu ks (p:Int):=by
 obtain⟨s1,s2,s3,s4⟩:=DP h;refine Ik (by rw[hk p (by rw[h];decide),h]) s1 (λi hi=>by rw[hk _ (by rw[s3 i hi];decide),s3 i hi]) λhc=>?_;obtain⟨g1,g2⟩:=h6 _ hc s4;by_cases e:Cu ks (p:Int)=1
 ·rw[e,show p+1-1=p by omega,h]at g2;cases g2
 ·have:=s3 (Cu ks (p:Int)-2) (by omega);rw[show p+1+(Cu ks (p:Int)-2)=p+Cu ks (p:Int)-1 by omega,g2]at this;cases this
def CI.tk_kind(h:CI c){a:Nat}(ha:c.tk a=v7):BS c.ks ((a / 32:Nat):Int)≠0/\BS c.ks ((a / 32:Nat):Int)≠6:=by
 obtain⟨_,⟨hk,_⟩|⟨hk,_⟩⟩:=h.tk a ha
 ·exact⟨λe=>by rw[e]at hk;exact absurd hk (by decide),λe=>by rw[e]at hk;exact absurd hk (by decide)⟩
 ·rw[hk];exact⟨by decide,by decide⟩
def CI.end_small(h:CI c){a x:Nat}(ha:c.tk a=v7)(h0:0<BT (BS c.ks ((a / 32:Nat):Int)))(h1:a<=x)(h2:x<a+c.rsz a):x / 32=a / 32:=by
 obtain⟨_,⟨hk,hm⟩|⟨hk,_⟩⟩:=h.tk a ha
 ·unfold Ce.rsz at h2;rw[vm (λe=>by rw[e,Ib]at hk;omega)]at h2;exact (Hh hk hm h1 h2).1
 ·rw[hk]at h0;exact absurd h0 (by decide)
def CI.word_kind(h:CI c){a x:Nat}(ha:c.tk a=v7)(h1:a<=x)(h2:x<a+c.rsz a):BS c.ks ((x / 32:Nat):Int)=BS c.ks ((a / 32:Nat):Int)∨BS c.ks ((x / 32:Nat):Int)=6:=by
 obtain⟨_,⟨hk,hm⟩|⟨hk,hm⟩⟩:=h.tk a ha
 ·rw[h.end_small ha hk h1 h2];exact wg rfl
 ·unfold Ce.rsz at h2;rw[vn hk]at h2;obtain⟨s1,s2,s3,s4⟩:=DP hk;by_cases e:x / 32=a / 32
  ·rw[e];exact wg rfl
  ·right;have:=s3 (x / 32-a / 32-1) (by omega);rw[show a / 32+1+(x / 32-a / 32-1)=x / 32 by omega]at this;exact this
def CI.carve(h:CI c){k:Int}{p:Nat}(hk:Fw c.ks k=vz p):CI (c.carve k).1/\(c.carve k).2=vz p/\(∀b,C4 c (c.carve k).1 b)/\(c.carve k).1.ks=c.ks.set p k/\BS c.ks (p:Int)=0/\p<c.ks.length:=by
 obtain⟨h0,hp,hz⟩:=P3 hk;have hml:=h.ml;have hnp:=h.np;have hcl:=h.cl;have hcs:=Eh k;have hc0:0<BQ k/\0<BT k/\BQ k*BT k=32/\k≠5/\k≠6/\0<k:=by rcases hcs with⟨_,e,f⟩|⟨_,e,f⟩|⟨_,e,f⟩|⟨_,e,f⟩|⟨_,e,f⟩<;>rw[e]at h0 ⊢<;>rw[f]<;>omega
 have hopen:Fd c.m p k:=⟨by omega,by omega,hc0.1,by omega⟩;have hb:D9 c.m p k=(Ej (CV c.m ((p:Int)*32) 32 0) p k (BQ k).toNat,(0,BQ k)):=by unfold D9;rw[vn hopen]
 have ec:c.carve k=({ c with ks:=c.ks.set p k,m:=(D9 c.m p k).1,ch:=c.ch.set p (D9 c.m p k).2 },vz p):=by unfold Ce.carve;rw[hk]
 have hfl:=Dm c.m ((p:Int)*32) 32 0;obtain⟨l1,l2,l3⟩:=JD (m:=CV c.m ((p:Int)*32) 32 0) (p:=p) (k:=k) (by omega) (by omega) (BQ k).toNat (by omega);generalize hM:Ej (CV c.m ((p:Int)*32) 32 0) p k (BQ k).toNat=M at *;have hoff:∀x:Nat,x<c.m.length->x / 32≠p->Cs M (x:Int)=Cs c.m (x:Int):=λx hx hne=>by
  rw[l3 x (by omega) (by omega) λj hj=>?_,GN (by unfold EC;omega) (by omega) (by omega),vm (by omega)];have hs:=J0 (p:=p) (k:=k) (i:=j) (by omega);omega
 have hkq:∀q:Nat,BS (c.ks.set p k) (q:Int)=if q=p then k else BS c.ks (q:Int):=λq=>Li q hp;have hno:∀a,c.tk a=v7->a / 32≠p:=λa ha e=>(h.tk_kind ha).1 (by rw[e,hz]);rw[ec,hb];refine⟨⟨by simp[h.np],by simp only[i8];rw[l1,hfl];exact hml,by simp[hcl],λa ha=>?_,λq hq=>?_,λq hq=>?_⟩,rfl,λb=>⟨rfl,λhb=>⟨Iw ?_ λh5=>K3 h5 (λq hq=>?_) λq hq h6=>?_,λx h1 h2=>?_⟩⟩,rfl,hz,hp⟩
 ·simp only[i8];rw[hkq,vm (hno a ha)];exact h.tk a ha
 ·simp only at hq ⊢;rw[hkq]at hq;by_cases e:q=p
  ·rw[vn e]at hq;exact absurd hq hc0.2.2.2.2.1
  ·rw[vm e]at hq;have:=h.six q hq;refine⟨this.1,?_⟩;rw[hkq,vm]
   ·exact this.2
   ·intro e2;rw[e2,hz]at this;rcases this.2 with g | g<;>cases g
 ·simp only at hq ⊢;rw[hkq]at hq ⊢;by_cases e:q=p
  ·subst e;rw[vn rfl];refine⟨(List.range (BQ k).toNat).map (0 + ·),?_,λi=>?_,?_,?_⟩
   ·simpa using List.nodup_range
   ·simp only[uy,List.map_id',n9];constructor
    ·intro hi;refine⟨by omega,?_⟩;cases ht:c.tk (32*q+i*(BT k).toNat) with
     | false=>rfl
     | true=>
      exfalso;have hs:=J0 (p:=q) (k:=k) (i:=i) (by omega);have:((i*(BT k).toNat:Nat):Int)=i*BT k:=by rw[Int.natCast_mul,yR (by omega)]
      exact hno _ ht (by omega)
    ·rintro⟨hi,_⟩;omega
   ·rw[D0 (by omega),vn rfl];exact LQ (n:=(BQ k).toNat) (by omega) l2 _ 0 (by omega)
   ·rw[D0 (by omega),vn rfl];simp;omega
  ·rw[vm e]at hq ⊢;obtain⟨L,hL⟩:=h.fr q hq;have hql:=Hi (ks:=c.ks) (p:=q) (by intro e;rw[e]at hq;revert hq;decide);refine⟨L,hL.nd,hL.mem,?_,?_⟩
   ·rw[D0 (by omega),vm e];refine hL.ch.keep λi hi=>?_;obtain⟨q1,q2⟩:=(hL.mem i).1 hi;obtain⟨e1,_,_,e4,e5⟩:=CL (ks:=c.ks) (p:=q) (i:=i) rfl hq q1;rw[<-e4];exact hoff _ (by omega) (by omega)
   ·rw[D0 (by omega),vm e];exact hL.n
 ·simp only;rw[hkq,vm (hno b hb)]
 ·rw[hkq,vm];intro e;rw[e,hz]at hq;exact hq rfl
 ·rw[hkq]at hq;by_cases e:q=p
  ·rw[vn e]at hq;exact absurd hq hc0.2.2.2.2.1
  ·rw[vm e]at hq;exact absurd hq h6
 ·have:=(h.rsz_pos hb).2;refine hoff x (by omega) λe=>?_;rcases h.word_kind hb h1 h2 with g|g
  ·rw[e,hz]at g;exact (h.tk_kind hb).1 g.symm
  ·rw[e,hz]at g;cases g
end
structure Sd(c c':Ce)(a n:Nat):Prop where
 off:c.tk a=v8
 on:c'.tk a=v7
 kept:∀b,b≠a->C4 c c' b
 rsz:c'.rsz a=n
 zero:∀x:Nat,a<=x->x<a+n->Cs c'.m (x:Int)=0
section
variable{c:Ce}
def JE{m:List Int}{p:Nat}{k x:Int}{L:List Nat}(h:Gn m p k x L)(hL:∀i∈L,(i:Int)<BQ k)(h0:0<=BQ k):0<=x/\x<=BQ k:=by
 cases L with
 | nil=>have:x=BQ k:=h;omega
 | cons j L=>have e:x=j:=h.1;have:=hL j (by simp);omega
def CI.left_eq(h:CI c){p:Nat}(hs:0<BT (BS c.ks (p:Int))){L:List Nat}(hL:Kj c p (BS c.ks (p:Int)) L):c.left (p:Int)=L.length:=by unfold Ce.left Ce.small;rw[vn (by simpa using hs),hL.n]
def CI.take(h:CI c)(p:Int):(c.take p=(c,v6)/\c.left p=0)∨∃(q a:Nat) (c':Ce),p=q/\q<c.ks.length/\0<BT (BS c.ks (q:Int))/\c.take p=(c',vz (a:Int))/\CI c'/\Sd c c' a (BT (BS c.ks (q:Int))).toNat/\c'.ks=c.ks/\a / 32=q:=by
 by_cases h0:c.left p=0
 ·left;refine⟨?_,h0⟩;unfold Ce.take;rw[vn h0]
 right;have hsm:0<BT (BS c.ks p):=by apply xF;intro hc;apply h0;unfold Ce.left Ce.small;rw[vm (by simpa using hc)]
 have hp0:0<=p/\p<c.ks.length:=by apply xF;intro hc;rw[DR hc]at hsm;exact absurd hsm (by decide)
 obtain⟨q,rfl⟩:=xQ hp0.1;have hml:=h.ml;have hnp:=h.np;have hcl:=h.cl;obtain⟨L,hL⟩:=h.fr q hsm;rw[h.left_eq hsm hL]at h0;generalize hkd:BS c.ks (q:Int)=k at *;obtain⟨nd,mem,ch,hn⟩:=hL;cases L with
 | nil=>exact absurd rfl h0
 | cons i L=>
  obtain⟨c1,x,c2,c3⟩:=ch;obtain⟨m1,m2⟩:=(mem i).1 (by simp);have hc0:0<BQ k:=by omega
  have hx:=JE c3 (λj hj=>((mem j).1 (by simp[hj])).1) (by omega);obtain⟨e1,e2,e3,e4,e5⟩:=CL hkd hsm m1;have e4':(q:Int)*32+i*BT k=((32*q+i*(BT k).toNat:Nat):Int):=by omega
  have hop:Fd c.m (q:Int) k:=⟨by omega,by omega,hc0,by omega⟩;have hnx:Jw c.m (q:Int) k (i:Int)=vz x:=by unfold Jw;rw[MO (by omega) m1];simp only;rw[show (q:Int)*32+i*BT k=32*q+i*BT k by omega,c2,vm (by omega)];congr 1;omega
  have ht:DN c.m (q:Int) k (c.chain q)=((i:Int),(x,(c.chain q).2-1)):=by unfold DN;rw[c1,vn ⟨hop,by simp only[hn,zY];omega,by omega,m1⟩,hnx]
  generalize ha:32*q+i*(BT k).toNat=a at *;have hsz:0<=BT k/\((BT k).toNat:Int)=BT k:=by omega
  have hst:c.take (q:Int)=({ c with ch:=c.ch.set q (x,(c.chain q).2-1),tk:=CG c.tk a v7,m:=CV c.m (a:Int) (BT k) 0 },vz (a:Int)):=by
   have hne:¬c.left (q:Int)=0:=by unfold Ce.left Ce.small;rw[hkd,vn (by simpa using hsm),hn];simp only[zY];omega
   unfold Ce.take;rw[vm hne];simp only[hkd,ht,MO (p:=q) (by omega) m1,e4',zE];unfold II Ce.n;rw[vn (by omega),zE]
  have htk:∀b,(CG c.tk a v7) b=if b=a then v7 else c.tk b:=λb=>rfl;have hfill:∀y:Nat,y<c.m.length->Cs (CV c.m (a:Int) (BT k) 0) (y:Int)=if a<=y/\y<a+(BT k).toNat then 0 else Cs c.m (y:Int):=λy hy=>by
   rw[GN (by unfold EC;omega) (by omega) (by omega)];by_cases cc:a<=y/\y<a+(BT k).toNat
   ·rw[vn (by omega),vn cc]
   ·rw[vm (by omega),vm cc]
  refine⟨q,a,_,rfl,by omega,by rw[hkd];exact hsm,hst,⟨hnp,by simp only;rw[Dm];exact hml,by simp[hcl],λb hb=>?_,h.six,λp' hp'=>?_⟩,⟨m2,by simp only;rw[htk,vn rfl],λb hb=>⟨by simp only;rw[htk,vm hb],λtb=>⟨rfl,λy y1 y2=>?_⟩⟩,?_,λy y1 y2=>?_⟩,rfl,by omega⟩
  ·simp only at hb ⊢;rw[htk]at hb;by_cases e:b=a
   ·subst e;rw[e1,hkd];exact⟨by omega,wg ⟨hsm,e2⟩⟩
   ·rw[vm e]at hb;exact h.tk b hb
  ·simp only at hp' ⊢;by_cases e:p'=q
   ·subst e;rw[hkd];have hni:i∉L:=(j6.1 nd).1;refine⟨L,(j6.1 nd).2,λj=>?_,?_,?_⟩
    ·simp only[htk];constructor
     ·intro hj;obtain⟨g1,g2⟩:=(mem j).1 (by simp[hj]);refine⟨g1,?_⟩;rw[vm,g2];intro e;have:j=i:=Iy (k:=k) (p:=p') hsm (by
       have:=(CL hkd hsm g1).2.2.2.1;omega)
      subst this;exact hni hj
     ·rintro⟨g1,g2⟩;by_cases e:32*p'+j*(BT k).toNat=a
      ·rw[vn e]at g2;cases g2
      ·rw[vm e]at g2;have:=(mem j).2 ⟨g1,g2⟩;rcases un.1 this with rfl|g
       ·exact absurd ha e
       ·exact g
    ·rw[D0 (by omega),vn rfl];refine c3.keep λj hj=>?_;obtain⟨g1,g2⟩:=(mem j).1 (by simp[hj]);obtain⟨f1,f2,f3,f4,f5⟩:=CL hkd hsm g1;have hji:j≠i:=λe=>hni (e ▸ hj);rw[<-f4,hfill _ (by omega),vm];intro cc;obtain⟨_,z⟩:=Hh hsm e2 cc.1 cc.2;have:32*p'+j*(BT k).toNat=a:=by omega
     exact hji (Iy (k:=k) (p:=p') hsm (by omega))
    ·rw[D0 (by omega),vn rfl,hn];simp
   ·obtain⟨L',hL'⟩:=h.fr p' hp';have hql:=Hi (ks:=c.ks) (p:=p') (by intro e;rw[e]at hp';revert hp';decide);refine⟨L',hL'.nd,λj=>?_,?_,?_⟩
    ·rw[hL'.mem j];simp only[htk];constructor
     ·rintro⟨g1,g2⟩;have:=(CL rfl hp' g1).1;exact⟨g1,by rw[vm (λe=>by rw[e]at this;omega)];exact g2⟩
     ·rintro⟨g1,g2⟩;have:=(CL rfl hp' g1).1;rw[vm (λe=>by rw[e]at this;omega)]at g2;exact⟨g1,g2⟩
    ·rw[D0 (by omega),vm e];refine hL'.ch.keep λj hj=>?_;obtain⟨q1,q2⟩:=(hL'.mem j).1 hj;obtain⟨g1,_,_,g4,g5⟩:=CL rfl hp' q1;rw[<-g4,hfill _ (by omega),vm (by omega)]
    ·rw[D0 (by omega),vm e];exact hL'.n
  ·have:=(h.rsz_pos tb).2;rw[hfill y (by omega),vm];intro cc;obtain⟨z1,z⟩:=Hh hsm e2 cc.1 cc.2;have g:=h.home_in tb y1 y2;rw[Ih (by rw[z1,e1,hkd];exact hsm),z1,e1,hkd,z]at g;omega
  ·show Ce.rsz _ a=_;unfold Ce.rsz;simp only;rw[e1,hkd,vm (λe=>by rw[e,Ib]at hsm;omega)]
  ·rw[hkd]at y2;rw[hfill y (by omega),vn ⟨y1,y2⟩]
theorem Hj(n:Nat):∀(l:List Int) (p run s:Nat),E2 n l p run=vz s->run<=p->p-run<=s/\∀i,i<n->(p-run<=s+i/\s+i<p)∨(p<=s+i/\l[s+i-p]?=vz 0)
 | [],p,run,s,h,hr=>by
  unfold E2 at h;split at h
  ·cases h;exact⟨by omega,λi hi=>wg (by omega)⟩
  ·cases h
 | k::ks,p,run,s,h,hr=>by
  unfold E2 at h;split at h
  ·rename_i hk;obtain⟨g1,g2⟩:=Hj n ks (p+1) (run+1) s h (by omega);refine⟨by omega,λi hi=>?_⟩;rcases g2 i hi with g|⟨g,g'⟩
   ·by_cases e:s+i=p
    ·right;refine⟨by omega,?_⟩;rw[e,Nat.sub_self];simp[hk]
    ·left;omega
   ·right;refine⟨by omega,?_⟩;rw[show s+i-p=(s+i-(p+1))+1 by omega];simpa using g'
  ·split at h
   ·cases h;exact⟨by omega,λi hi=>wg (by omega)⟩
   ·obtain⟨g1,g2⟩:=Hj n ks (p+1) 0 s h (by omega);refine⟨by omega,λi hi=>?_⟩;rcases g2 i hi with g|⟨g,g'⟩
    ·omega
    ·right;refine⟨by omega,?_⟩;rw[show s+i-p=(s+i-(p+1))+1 by omega];simpa using g'
def P2{ks:List Int}{n:Int}{p:Nat}(h:Fe ks n=vz p):1<=n/\p+n.toNat<=ks.length/\∀q:Nat,p<=q->q<p+n.toNat->BS ks (q:Int)=0:=by
 unfold Fe at h;split at h
 ·cases h
 obtain⟨_,g⟩:=Hj _ _ _ _ _ h (by omega);have g':∀q:Nat,p<=q->q<p+n.toNat->ks[q]?=vz 0:=λq a b=>by
  rcases g (q-p) (by omega)with g|⟨_,g⟩
  ·omega
  ·rw[<-g];congr 1;omega
 refine⟨by omega,?_,λq a b=>by rw[Ii,g' q a b];rfl⟩;apply xF;intro hc;have:=g' (p+n.toNat-1) (by omega) (by omega);rw[yC (by omega)]at this;cases this
def CI.large(h:CI c){n:Int}{p:Nat}(hp:Fe c.ks n=vz p):∃c':Ce,c.large n=(c',vz ((32*p:Nat):Int))/\CI c'/\Sd c c' (32*p) (32*n.toNat)/\∀q:Nat,BS c.ks (q:Int)≠0->BS c'.ks (q:Int)=BS c.ks (q:Int):=by
 obtain⟨h1,h2,h3⟩:=P2 hp;have hml:=h.ml;have hnp:=h.np;have hcl:=h.cl;have hkl:(Dg c.ks p n.toNat 6).length=c.ks.length:=Dw h2;have e:Gh (p:Int) n=((p:Int)*32,((p:Int)+n)*32-1,v7):=by unfold Gh;rw[vn (by omega)]
 have hst:c.large n=({ c with ks:=(Dg c.ks p n.toNat 6).set p 5,tk:=CG c.tk (32*p) v7,m:=CV c.m ((32*p:Nat):Int) (n*32) 0 },vz ((32*p:Nat):Int)):=by unfold Ce.large;rw[hp];simp only[e,show (p:Int)*32=((32*p:Nat):Int) by omega];unfold II Ce.n;rw[vn (by omega),zE]
 have hk:∀q:Nat,BS ((Dg c.ks p n.toNat 6).set p 5) (q:Int)=if q=p then 5 else if p<=q/\q<p+n.toNat then 6 else BS c.ks (q:Int):=λq=>by
  rw[Li q (by omega),Lh q h2]
 have hkeep:∀q:Nat,BS c.ks (q:Int)≠0->¬(p<=q/\q<p+n.toNat):=λq hq cc=>hq (h3 q cc.1 cc.2);have hk0:∀q:Nat,BS c.ks (q:Int)≠0->BS ((Dg c.ks p n.toNat 6).set p 5) (q:Int)=BS c.ks (q:Int):=λq hq=>by
  have:=hkeep q hq;rw[hk,vm (by omega),vm this]
 have h6:∀q:Nat,BS ((Dg c.ks p n.toNat 6).set p 5) (q:Int)=6->BS c.ks (q:Int)≠6->1<=q/\BS c.ks ((q-1:Nat):Int)=0:=λq hq ho=>by
  rw[hk]at hq;by_cases e1:q=p
  ·rw[vn e1]at hq;cases hq
  ·rw[vm e1]at hq;by_cases e2:p<=q/\q<p+n.toNat
   ·exact⟨by omega,h3 _ (by omega) (by omega)⟩
   ·rw[vm e2]at hq;exact absurd hq ho
 have htk:∀b,(CG c.tk (32*p) v7) b=if b=32*p then v7 else c.tk b:=λb=>rfl;have hno:∀b,c.tk b=v7->¬(p<=b / 32/\b / 32<p+n.toNat):=λb hb=>hkeep _ (h.tk_kind hb).1;have hfill:∀y:Nat,y<c.m.length->Cs (CV c.m ((32*p:Nat):Int) (n*32) 0) (y:Int)=if 32*p<=y/\y<32*p+32*n.toNat then 0 else Cs c.m (y:Int):=λy hy=>by
  rw[GN (by unfold EC;omega) (by omega) (by omega)];by_cases cc:32*p<=y/\y<32*p+32*n.toNat
  ·rw[vn (by omega),vn cc]
  ·rw[vm (by omega),vm cc]
 refine⟨_,hst,⟨by simp only[i8];omega,by simp only[i8];rw[Dm];omega,hcl,λb hb=>?_,λq hq=>?_,λq hq=>?_⟩,⟨?_,by simp only;rw[htk,vn rfl],λb hb=>⟨by simp only;rw[htk,vm hb],λtb=>⟨Iw ?_ λh5=>K3 h5 hk0 h6,λy y1 y2=>?_⟩⟩,?_,λy y1 y2=>?_⟩,hk0⟩
 ·simp only[i8]at hb ⊢;rw[htk]at hb;by_cases e1:b=32*p
  ·subst e1;rw[show 32*p / 32=p by omega,hk,vn rfl];exact⟨by omega,wh ⟨rfl,by omega⟩⟩
  ·rw[vm e1]at hb;rw[hkl,hk0 _ (h.tk_kind hb).1];exact h.tk b hb
 ·simp only at hq ⊢;by_cases ho:BS c.ks (q:Int)=6
  ·have:=h.six q ho;refine⟨this.1,?_⟩;rw[hk0 _ (by rcases this.2 with g | g<;>rw[g]<;>decide)];exact this.2
  ·obtain⟨g1,g2⟩:=h6 q hq ho;rw[hk]at hq;by_cases e1:q=p
   ·rw[vn e1]at hq;cases hq
   ·rw[vm e1]at hq;by_cases e2:p<=q/\q<p+n.toNat
    ·refine⟨g1,?_⟩;rw[hk];by_cases e3:q-1=p
     ·left;rw[vn e3]
     ·right;rw[vm e3,vn (by omega)]
    ·rw[vm e2]at hq;exact absurd hq ho
 ·simp only at hq ⊢;have hq0:¬(p<=q/\q<p+n.toNat)/\BS ((Dg c.ks p n.toNat 6).set p 5) (q:Int)=BS c.ks (q:Int):=by
   rw[hk]at hq ⊢;by_cases e1:q=p
   ·rw[vn e1]at hq;exact absurd hq (by decide)
   ·rw[vm e1]at hq ⊢;by_cases e2:p<=q/\q<p+n.toNat
    ·rw[vn e2]at hq;exact absurd hq (by decide)
    ·exact⟨e2,by rw[vm e2]⟩
  rw[hq0.2]at hq ⊢;obtain⟨L,hL⟩:=h.fr q hq;have hql:=Hi (ks:=c.ks) (p:=q) (by intro e;rw[e]at hq;revert hq;decide);refine⟨L,hL.nd,λj=>?_,hL.ch.keep λj hj=>?_,hL.n⟩
  ·rw[hL.mem j];simp only[htk];constructor
   ·rintro⟨g1,g2⟩;have:=(CL rfl hq g1).1;exact⟨g1,by rw[vm (λe=>by rw[e]at this;omega)];exact g2⟩
   ·rintro⟨g1,g2⟩;have:=(CL rfl hq g1).1;rw[vm (λe=>by rw[e]at this;omega)]at g2;exact⟨g1,g2⟩
  ·obtain⟨q1,q2⟩:=(hL.mem j).1 hj;obtain⟨g1,_,_,g4,g5⟩:=CL rfl hq q1;rw[<-g4,hfill _ (by omega),vm (by omega)]
 ·cases ht:c.tk (32*p) with
  | false=>rfl
  | true=>exact absurd ⟨by omega,by omega⟩ (hno _ ht)
 ·simp only;exact hk0 _ (h.tk_kind tb).1
 ·have:=(h.rsz_pos tb).2;have hw:BS c.ks ((y / 32:Nat):Int)≠0:=by
   rcases h.word_kind tb y1 y2 with g|g
   ·rw[g];exact (h.tk_kind tb).1
   ·rw[g];decide
  have:=hkeep _ hw;rw[hfill y (by omega),vm (by omega)]
 ·show Ce.rsz _ (32*p)=_;unfold Ce.rsz;simp only;rw[show 32*p / 32=p by omega,hk,vn rfl,vn rfl,Ik (n:=n.toNat) (by rw[hk,vn rfl]) (by omega) (λi hi=>by rw[hk,vm (by omega),vn (by omega)]) ?_];rw[hk,vm (by omega),vm (by omega)];intro hc;obtain⟨g1,g2⟩:=h.six _ hc;rw[show p+n.toNat-1=p+(n.toNat-1) by omega,h3 _ (by omega) (by omega)]at g2;rcases g2 with g|g<;>cases g
 ·rw[hfill y (by omega),vn ⟨y1,y2⟩]
end
theorem K9:∀(n:Nat) (L:List Nat),L.Nodup->(∀x∈L,x<n)->L.length<=n
 | 0,L,_,h=>by
  cases L with
  | nil=>simp
  | cons a L=>exact absurd (h a (by simp)) (by omega)
 | n+1,L,hn,h=>by
  have h1:=K9 n (L.erase n) (hn.erase n) λx hx=>by
   have:=(hn.mem_erase_iff).1 hx;have:=h x this.2;omega
  have:(L.erase n).length=if n∈L then L.length-1 else L.length:=List.length_erase;split at this<;>omega
section
variable{c:Ce}
def Kj.few{p:Nat}{k:Int}{L:List Nat}(h:Kj c p k L){i:Nat}(hi:(i:Int)<BQ k)(ht:c.tk (32*p+i*(BT k).toNat)=v7):(L.length:Int)<BQ k:=by
 have hni:i∉L:=λhm=>by rw[((h.mem i).1 hm).2]at ht;cases ht
 have:=K9 (BQ k).toNat (i::L) (j6.2 ⟨hni,h.nd⟩) λx hx=>by
  rcases un.1 hx with rfl|g
  ·omega
  ·have:=((h.mem x).1 g).1;omega
 simp only[zY]at this;omega
def Ox{k:Int}{a:Nat}(h0:0<BT k)(hm:(a:Int) % BT k=0):∃i:Nat,(a:Int) % 32 / BT k=i/\(i:Int)<BQ k/\a=32*(a / 32)+i*(BT k).toNat:=by refine⟨((a:Int) % 32 / BT k).toNat,?_⟩;rcases Eh k with⟨_,e,f⟩|⟨_,e,f⟩|⟨_,e,f⟩|⟨_,e,f⟩|⟨_,e,f⟩<;>rw[e]at h0 hm ⊢<;>rw[f]<;>simp only[Int.reduceToNat]<;>omega
def CI.give(h:CI c){a:Nat}(ha:c.tk a=v7):(c.give (a:Int)).2=v7/\CI (c.give (a:Int)).1/\(c.give (a:Int)).1.tk a=v8/\(∀b,b≠a->C4 c (c.give (a:Int)).1 b)/\∀q:Nat,0<BT (BS c.ks (q:Int))->BS (c.give (a:Int)).1.ks (q:Int)=BS c.ks (q:Int):=by
 have hit:=h.isIt ha;have hlt:=h.tk_lt ha;have hsm:=h.small_n;have hml:=h.ml;have hnp:=h.np;have hcl:=h.cl;obtain⟨hpl,hk⟩:=h.tk a ha;have hpg:Ct (a:Int)=((a / 32:Nat):Int):=by unfold Ct;rw[vn (by omega)];omega
 have hrem:JR c.n c.tk (a:Int)=CG c.tk a v8:=by have hit':EY c.n c.tk (a:Int)=v7:=hit;unfold JR;rw[vn hit',zE]
 have htk:∀b,(CG c.tk a v8) b=if b=a then v8 else c.tk b:=λb=>rfl;rcases hk with⟨hk,hm⟩|⟨hk,hm⟩
 ·obtain⟨i,e1,hi,e2⟩:=Ox hk hm;generalize hp:a / 32=p at *;generalize hkd:BS c.ks (p:Int)=k at *;have hk5:k≠5:=λe=>by rw[e,Ib]at hk;omega
  obtain⟨L,nd,mem,ch,hn⟩:=h.fr p (by rw[hkd];exact hk);rw[hkd]at mem ch;have hfew:=Kj.few ⟨nd,mem,ch,hn⟩ hi (by rw[<-e2];exact ha);have hni:i∉L:=λhm=>by have:=((mem i).1 hm).2;rw[<-e2,ha]at this;cases this
  have hx:=JE ch (λj hj=>((mem j).1 hj).1) (by omega);have hcell:(Gg k (a:Int)).1=(i:Int):=by
   unfold Gg;have hb:Ei k (a:Int)=a:=by unfold Ei;rw[hpg,vm (by omega),hm];omega
   rw[hb,vm (by omega)];exact e1
  have hg:EM c.m (p:Int) k (c.chain p) (i:Int)=(FQ c.m p k i (c.chain p).1,((i:Int),(c.chain p).2+1)):=by unfold EM;rw[vn ⟨⟨by omega,by omega,by omega,by omega⟩,by omega,hi,by omega,by omega,hx.1,hx.2⟩]
  have hst:c.give (a:Int)=({ c with tk:=CG c.tk a v8,m:=FQ c.m p k i (c.chain p).1,ch:=c.ch.set p ((i:Int),(c.chain p).2+1) },v7):=by unfold Ce.give;rw[vn hit];simp only[hpg,hkd,vm hk5,hcell,hg,hrem,zE]
  obtain⟨f1,f2,f3,f4,f5⟩:=CL hkd hk hi;have hld:∀y:Nat,y<c.m.length->Cs (FQ c.m (p:Int) k i (c.chain p).1) (y:Int)=if y=a then -1-(c.chain p).1 else Cs c.m (y:Int):=λy hy=>by
   rw[K1 (by omega) hi (by omega) (by omega) (by omega)];by_cases cc:y=a
   ·rw[vn (by omega),vn cc]
   ·rw[vm (by omega),vm cc]
  rw[hst];refine⟨rfl,⟨hnp,by simp only;rw[LJ];exact hml,by simp[hcl],λb hb=>?_,h.six,λq hq=>?_⟩,by simp only;rw[htk,vn rfl],λb hb=>⟨by simp only;rw[htk,vm hb],λtb=>⟨rfl,λy y1 y2=>?_⟩⟩,λq _=>rfl⟩
  ·simp only at hb ⊢;rw[htk]at hb;by_cases e:b=a
   ·rw[vn e]at hb;cases hb
   ·rw[vm e]at hb;exact h.tk b hb
  ·simp only at hq ⊢;by_cases e:q=p
   ·subst e;rw[hkd];refine⟨i::L,j6.2 ⟨hni,nd⟩,λj=>?_,?_,?_⟩
    ·simp only[htk,un];constructor
     ·rintro (rfl|hj)
      ·exact⟨hi,by rw[vn e2.symm]⟩
      ·obtain⟨g1,g2⟩:=(mem j).1 hj;refine⟨g1,?_⟩;split
       ·rfl
       ·exact g2
     ·rintro⟨g1,g2⟩;by_cases e:32*q+j*(BT k).toNat=a
      ·left;have:=(CL hkd hk g1).2.2.2.1;exact Iy (k:=k) (p:=q) hk (by omega)
      ·rw[vm e]at g2;exact wh ((mem j).2 ⟨g1,g2⟩)
    ·rw[D0 (by omega),vn rfl];refine⟨rfl,(c.chain q).1,?_,ch.keep λj hj=>?_⟩
     ·rw[<-f4,hld _ (by omega),vn e2.symm]
     ·obtain⟨g1,g2⟩:=(mem j).1 hj;obtain⟨w1,w2,w3,w4,w5⟩:=CL hkd hk g1;rw[<-w4,hld _ (by omega),vm];intro e;rw[e,ha]at g2;cases g2
    ·rw[D0 (by omega),vn rfl,hn];simp only[zY];omega
   ·obtain⟨L',hL'⟩:=h.fr q hq;have hql:=Hi (ks:=c.ks) (p:=q) (by intro e;rw[e]at hq;revert hq;decide);refine⟨L',hL'.nd,λj=>?_,?_,?_⟩
    ·rw[hL'.mem j];simp only[htk];constructor
     ·rintro⟨g1,g2⟩;have:=(CL rfl hq g1).1;exact⟨g1,by rw[vm (λe=>by rw[e]at this;omega)];exact g2⟩
     ·rintro⟨g1,g2⟩;have:=(CL rfl hq g1).1;rw[vm (λe=>by rw[e]at this;omega)]at g2;exact⟨g1,g2⟩
    ·rw[D0 (by omega),vm e];refine hL'.ch.keep λj hj=>?_;obtain⟨q1,q2⟩:=(hL'.mem j).1 hj;obtain⟨g1,_,_,g4,g5⟩:=CL rfl hq q1;rw[<-g4,hld _ (by omega),vm (by omega)]
    ·rw[D0 (by omega),vm e];exact hL'.n
  ·have hrb:=(h.rsz_pos tb).2;rw[hld y (by omega),vm];rintro rfl;exact hb (h.apart ha tb (va _) (by have:=(h.rsz_pos ha).1;omega) y1 y2).symm
 ·obtain⟨s1,s2,s3,s4⟩:=DP hk;have hrs:c.rsz a=32*Cu c.ks ((a / 32:Nat):Int):=by unfold Ce.rsz;rw[vn hk]
  have hpage:∀b,c.tk b=v7->b≠a->¬(a / 32<=b / 32/\b / 32<a / 32+Cu c.ks ((a / 32:Nat):Int)):=λb tb hb cc=>hb (h.apart tb ha (va b) (by have:=(h.rsz_pos tb).1;omega) (by omega) (by rw[hrs];omega));generalize hp:a / 32=p at *;generalize hz:Cu c.ks (p:Int)=z at *;have hst:c.give (a:Int)=({ c with tk:=CG c.tk a v8,ks:=Dg c.ks p z 0 },v7):=by unfold Ce.give;rw[vn hit];simp only[hpg,vn hk,hrem];unfold H7;rw[hz,vm (by omega),zE]
  have hkp:∀q:Nat,BS (Dg c.ks p z 0) (q:Int)=if p<=q/\q<p+z then 0 else BS c.ks (q:Int):=λq=>Lh q s2;have hin:∀q:Nat,p<=q->q<p+z->BS c.ks (q:Int)=5∨BS c.ks (q:Int)=6:=λq q1 q2=>by
   by_cases e:q=p
   ·subst e;exact wg hk
   ·right;have:=s3 (q-p-1) (by omega)
    rwa [show p+1+(q-p-1)=q by omega]at this
  have hoff:∀q:Nat,0<BT (BS c.ks (q:Int))->¬(p<=q/\q<p+z):=λq hq cc=>by
   rcases hin q cc.1 cc.2 with g|g<;>rw[g]at hq<;>exact absurd hq (by decide)
  rw[hst];refine⟨rfl,⟨by simp only;rw[Dw s2];exact hnp,by simp only;rw[Dw s2];exact hml,hcl,λb hb=>?_,λq hq=>?_,λq hq=>?_⟩,by simp only;rw[htk,vn rfl],λb hb=>⟨by simp only;rw[htk,vm hb],λtb=>⟨Iw ?_ λh5=>?_,λy y1 y2=>rfl⟩⟩,λq hq=>?_⟩
  ·simp only at hb ⊢;rw[htk]at hb;by_cases e:b=a
   ·rw[vn e]at hb;cases hb
   ·rw[vm e]at hb;rw[Dw s2,hkp,vm (hpage b hb e)];exact h.tk b hb
  ·simp only at hq ⊢;rw[hkp]at hq;by_cases e:p<=q/\q<p+z
   ·rw[vn e]at hq;cases hq
   ·rw[vm e]at hq;obtain⟨g1,g2⟩:=h.six q hq;refine⟨g1,?_⟩;rw[hkp,vm]
    ·exact g2
    ·intro cc;have:q=p+z:=by omega
     subst this;exact s4 hq
  ·simp only at hq ⊢;have hnq:¬(p<=q/\q<p+z):=λcc=>by rw[hkp,vn cc]at hq;exact absurd hq (by decide)
   rw[hkp,vm hnq]at hq ⊢;obtain⟨L',hL'⟩:=h.fr q hq;refine⟨L',hL'.nd,λj=>?_,hL'.ch,hL'.n⟩;rw[hL'.mem j];simp only[htk];constructor
   ·rintro⟨g1,g2⟩;refine⟨g1,?_⟩;split
    ·rfl
    ·exact g2
   ·rintro⟨g1,g2⟩;have:=(CL rfl hq g1).1;rw[vm (λe=>by rw[e]at this;omega)]at g2;exact⟨g1,g2⟩
  ·simp only;rw[hkp,vm (hpage b tb hb)]
  ·obtain⟨t1,t2,t3,t4⟩:=DP h5;have hrb:c.rsz b=32*Cu c.ks ((b / 32:Nat):Int):=by unfold Ce.rsz;rw[vn h5]
   have hb32:b % 32=0:=by
    obtain⟨_,⟨g,_⟩|⟨_,g⟩⟩:=h.tk b tb
    ·rw[h5]at g;exact absurd g (by decide)
    ·exact g
   refine Ik (by simp only;rw[hkp,vm (hpage b tb hb),h5]) t1 (λj hj=>?_) ?_
   ·simp only;rw[hkp,vm,t3 j hj];intro cc;exact hb (h.apart tb ha (x:=32*(b / 32+1+j)) (by omega) (by rw[hrb];omega) (by omega) (by rw[hrs];omega))
   ·simp only;rw[hkp];by_cases cc:p<=b / 32+Cu c.ks ((b / 32:Nat):Int)/\b / 32+Cu c.ks ((b / 32:Nat):Int)<p+z
    ·rw[vn cc];decide
    ·rw[vm cc];exact t4
  ·simp only;rw[hkp,vm (hoff q hq)]
def CI.drop(h:CI c)(p:Int):CI (c.drop p).1/\(∀b,C4 c (c.drop p).1 b)/\(∀q:Nat,(q:Int)≠p->BS (c.drop p).1.ks (q:Int)=BS c.ks (q:Int)):=by
 by_cases hd:c.small p=v7/\BQ (BS c.ks p)<=c.left p
 rotate_left
 ·have:c.drop p=(c,v8):=by unfold Ce.drop;rw[vm hd]
  rw[this];exact⟨h,λb=>C4.refl c b,λ_ _=>rfl⟩
 obtain⟨d1,d2⟩:=hd;have hs:0<BT (BS c.ks p):=by simpa[Ce.small] using d1
 have hp0:0<=p/\p<c.ks.length:=by apply xF;intro hc;rw[DR hc]at hs;exact absurd hs (by decide)
 obtain⟨p,rfl⟩:=xQ hp0.1;have hnp:=h.np;have hml:=h.ml;obtain⟨L,hL⟩:=h.fr p hs;rw[h.left_eq hs hL]at d2;have hno:∀b,c.tk b=v7->b / 32≠p:=λb tb e=>by
  obtain⟨_,⟨g,gm⟩|⟨g,_⟩⟩:=h.tk b tb
  ·rw[e]at g gm;obtain⟨i,_,hi,e2⟩:=Ox g gm;rw[e]at e2;have:=hL.few hi (by rw[<-e2];exact tb);omega
  ·rw[e]at g;rw[g]at hs;exact absurd hs (by decide)
 have hst:c.drop (p:Int)=({ c with ks:=Dg c.ks p 1 0 },v7):=by unfold Ce.drop;rw[vn ⟨d1,by rw[h.left_eq hs hL];exact d2⟩];unfold H7;rw[NH hs,vm (by decide),zE]
 have hkp:∀q:Nat,BS (Dg c.ks p 1 0) (q:Int)=if q=p then 0 else BS c.ks (q:Int):=λq=>by
  rw[Lh q (by omega)];by_cases e:q=p
  ·rw[vn (by omega),vn e]
  ·rw[vm (by omega),vm e]
 have hnz:∀q:Nat,BT (BS c.ks (q:Int))=0->BS (Dg c.ks p 1 0) (q:Int)=BS c.ks (q:Int):=λq hq=>by
  rw[hkp,vm];rintro rfl;omega
 rw[hst];refine⟨⟨by simp only;rw[Dw (by omega)];exact hnp,by simp only;rw[Dw (by omega)];exact hml,h.cl,λb tb=>?_,λq hq=>?_,λq hq=>?_⟩,λb=>⟨rfl,λtb=>⟨Iw ?_ λh5=>?_,λy y1 y2=>rfl⟩⟩,λq hq=>?_⟩
 ·simp only at tb ⊢;rw[Dw (by omega),hkp,vm (hno b tb)];exact h.tk b tb
 ·simp only at hq ⊢;rw[hkp]at hq;by_cases e:q=p
  ·rw[vn e]at hq;cases hq
  ·rw[vm e]at hq;obtain⟨g1,g2⟩:=h.six q hq;refine⟨g1,?_⟩;rw[hnz]
   ·exact g2
   ·rcases g2 with g|g<;>rw[g]<;>decide
 ·simp only at hq ⊢;have hqp:q≠p:=λe=>by rw[hkp,vn e]at hq;exact absurd hq (by decide)
  rw[hkp,vm hqp]at hq ⊢;obtain⟨L',hL'⟩:=h.fr q hq;exact⟨L',hL'.nd,hL'.mem,hL'.ch,hL'.n⟩
 ·simp only;rw[hkp,vm (hno b tb)]
 ·obtain⟨t1,t2,t3,t4⟩:=DP h5;refine Ik (by simp only;rw[hnz _ (by rw[h5];decide),h5]) t1 (λj hj=>by simp only;rw[hnz _ (by rw[t3 j hj];decide),t3 j hj]) ?_;simp only;rw[hkp];by_cases e:b / 32+Cu c.ks ((b / 32:Nat):Int)=p
  ·rw[vn e];decide
  ·rw[vm e];exact t4
 ·simp only;rw[hkp,vm (by omega)]
end
structure SI(s:St):Prop where
 hi:HI s.c s.made
 m0:0<=s.made
 own:∀a p,s.own a=vz p->0<=p/\BS s.c.ks p=a.2/\0<BT a.2/\a∈FA
 inj:∀a b p,s.own a=vz p->s.own b=vz p->a=b
structure FP(s s':St)(a n:Nat):Prop where
 off:s.c.tk a=v8
 obj:C7 s'.c a s.made (List.replicate n (0,0))
 kept:∀b,b≠a->C4 s.c s'.c b
 made:s'.made=s.made+1
def HI.ser_lt{c:Ce}{made:Int}(h:HI c made){a:Nat}{ser:Int}{fs:List V2}(o:C7 c a ser fs):ser<made:=by obtain⟨ser',fs',o',hl⟩:=h.obj a o.tk;rw[(o.same o').1];exact hl
def M9{c c':Ce}{own:Om}{made:Int}{a m:Nat}{n:Int}(h:HI c made)(hm:Sd c c' a m)(hc:CI c')(hn:0<=n/\n<=127)(hnm:n+1<=m)(h0:0<=made)(h1:made<1099511627775)(s:St)(hs:s.c=c/\s.made=made):
  ∃s',(⟨c',own,made⟩:St).begin (a:Int) n=s'/\FP s s' a n.toNat/\HI s'.c s'.made/\s'.own=own/\s'.c.ks=c'.ks:=by
 obtain⟨rfl,rfl⟩:=hs;have hr:=hc.rsz_pos hm.on;have hrs:=hm.rsz;have hh:Ft s.made n=s.made*128+n:=by unfold Ft;rw[vn (by omega)]
 have hst:=hc.store_in (x:=a) (w:=Ft s.made n) hm.on (va _) (by omega);have hci:=hc.stored (x:=a) (w:=Ft s.made n) hm.on (va _) (by omega);have hld:∀y:Nat,y<c'.m.length->Cs (DA c'.m (a:Int) (Ft s.made n)) (y:Int)=if y=a then s.made*128+n else Cs c'.m (y:Int):=λy hy=>by
  rw[Gi (by omega) (by omega) (by omega) (by omega),hh];by_cases e:y=a
  ·rw[vn (by omega),vn e]
  ·rw[vm (by omega),vm e]
 have hk:∀b,b≠a->C4 s.c { c' with m:=DA c'.m (a:Int) (Ft s.made n) } b:=λb hb=>by
  refine⟨(hm.kept b hb).1,λtb=>⟨((hm.kept b hb).2 tb).1,λx x1 x2=>?_⟩⟩;have tb':c'.tk b=v7:=by rw[(hm.kept b hb).1,tb]
  have hrb:c'.rsz b=s.c.rsz b:=((hm.kept b hb).2 tb).1;have:=(hc.rsz_pos tb').2;simp only;rw[hld x (by omega),vm,((hm.kept b hb).2 tb).2 x x1 x2];rintro rfl;exact hb (hc.apart tb' hm.on x1 (by omega) (va _) (by omega))
 have ho:C7 { c' with m:=DA c'.m (a:Int) (Ft s.made n) } a s.made (List.replicate n.toNat (0,0)):=by
  refine⟨hm.on,?_,by omega,?_,λi hi=>?_⟩
  ·simp only[yF];rw[hld a (by omega),vn rfl];omega
  ·simp only[yF];refine⟨by omega,?_⟩;show n.toNat+1<=c'.rsz a;omega
  ·simp only[yF]at hi;simp only[xW];refine⟨OQ,?_⟩;rw[hld _ (by omega),vm (by omega),hm.zero _ (by omega) (by omega),T3]
 have hms:CJ (s.made+1)=s.made+1:=F6 (by omega);refine⟨_,rfl,⟨hm.off,?_,λb hb=>?_,?_⟩,?_,rfl,?_⟩
 ·unfold St.begin;simp only;rw[hst];exact ho
 ·unfold St.begin;simp only;rw[hst];exact hk b hb
 ·unfold St.begin;simp only;exact hms
 ·unfold St.begin;simp only;rw[hst,hms];refine⟨hci,λb hb=>?_,λb b' ser fs gs o1 o2=>?_⟩
  ·by_cases e:b=a
   ·subst e;exact⟨_,_,ho,by omega⟩
   ·rw[(hk b e).1]at hb;obtain⟨ser,fs,o,hl⟩:=h.obj b hb;exact⟨ser,fs,(hk b e).obj.2 o,by omega⟩
  ·by_cases e:b=a
   ·by_cases e':b'=a
    ·rw[e,e']
    ·subst e;have:=(ho.same o1).1;have:=h.ser_lt ((hk b' e').obj.1 o2);omega
   ·by_cases e':b'=a
    ·subst e';have:=(ho.same o2).1;have:=h.ser_lt ((hk b e).obj.1 o1);omega
    ·exact h.one b b' ser fs gs ((hk b e).obj.1 o1) ((hk b' e').obj.1 o2)
 ·unfold St.begin;simp only;rw[hst]
def UG{n:Int}(h:BT (CC n)≠0):0<=n/\n<=127/\n+1<=BT (CC n):=by
 unfold CC at *;by_cases c0:n<0∨n>127
 ·rw[vn c0]at h;exact absurd rfl h
 rw[vm c0]at h ⊢;by_cases c1:n<2
 ·rw[vn c1]at h ⊢;rw[show BT 1=2 from rfl];omega
 rw[vm c1]at h ⊢;by_cases c2:n<4
 ·rw[vn c2]at h ⊢;rw[show BT 2=4 from rfl];omega
 rw[vm c2]at h ⊢;by_cases c3:n<8
 ·rw[vn c3]at h ⊢;rw[show BT 3=8 from rfl];omega
 rw[vm c3]at h ⊢;by_cases c4:n<16
 ·rw[vn c4]at h ⊢;rw[show BT 4=16 from rfl];omega
 ·rw[vm c4]at h;exact absurd rfl h
def Xi{n:Int}(h:CC n=5):0<=n/\n<=127/\Ef n=(n+32) / 32:=by
 have h':=h;unfold CC at h;refine⟨?_,?_,by unfold Ef;rw[vn h']⟩
 all_goals
  by_cases c0:n<0∨n>127
  ·rw[vn c0]at h;cases h
  ·omega
def Wr(n:Int):CC n=0∨CC n=5∨(CC n≠5/\CC n≠0/\0<BT (CC n)/\1<=CC n/\CC n<=4):=by
 unfold CC
 repeat' split
 all_goals first | exact wg rfl | exact wh (wg rfl) | exact wh (wh (by decide))
section
variable{s:St}
def St.fast_ok(h:SI s)(hM:s.made<1099511627775)(t n:Int):(s.fast t n=(s,v6)/\(BT (CC n)=0∨s.c.left (EQ s.own (t,CC n))=0))∨∃(a:Nat) (s':St),s.fast t n=(s',vz (a:Int))/\FP s s' a n.toNat/\SI s'/\s'.own=s.own:=by
 unfold St.fast;by_cases h0:BT (CC n)=0
 ·rw[vn h0];exact wg ⟨rfl,wg h0⟩
 rw[vm h0];rcases h.hi.ci.take (EQ s.own (t,CC n)) with⟨e,e0⟩|⟨q,a,c',e1,e2,e3,e4,e5,e6,e7,e8⟩
 ·rw[e];exact wg ⟨rfl,wh e0⟩
 right;rw[e4];have hq:s.own (t,CC n)=vz (q:Int):=by
  unfold EQ at e1;cases ho:s.own (t,CC n) with
  | none=>rw[ho]at e1;simp only[Option.getD_none]at e1;omega
  | some p=>rw[ho]at e1;simp at e1;rw[e1]
 obtain⟨_,k2,_,_⟩:=h.own _ _ hq;simp only at k2;obtain⟨n1,n2,n3⟩:=UG h0;obtain⟨s',b1,b2,b3,b4,b5⟩:=M9 (own:=s.own) h.hi e6 e5 ⟨n1,n2⟩ (by rw[k2];omega) h.m0 hM s ⟨rfl,rfl⟩;refine⟨a,s',by simp only;rw[b1],b2,⟨b3,by rw[b2.made];have:=h.m0;omega,λx p hx=>?_,λx y p hx hy=>h.inj x y p (by rw[<-b4];exact hx) (by rw[<-b4];exact hy)⟩,b4⟩;rw[b4]at hx;rw[b5,e7];exact h.own x p hx
def Ir{f:Om}{p:Int}(h:(Dn f p).1<0):∀a∈FA,f a≠vz p:=by
 intro a ha e;unfold Dn at h;cases hf:FA.find? (λa=>decide (f a=vz p)) with
 | none=>exact absurd e (by simpa using yV.1 hf a ha)
 | some b=>
  rw[hf]at h;have hb:=List.mem_of_find?_eq_some hf;have:∀b∈FA,0<=b.1:=by decide
  have:=this b hb;simp only at h;omega
def P8{f:Om}{p:Int}(h:∀a∈FA,f a≠vz p):(Dn f p).1<0:=by unfold Dn;rw[yV.2 λa ha=>by simpa using h a ha];decide
def Tt{t k:Int}(ht:0<=t/\t<9)(hk:1<=k/\k<=4):(t,k)∈FA:=by
 have key:∀t:Fin 9,∀k:Fin 5,1<=k.val->((t.val:Int),(k.val:Int))∈FA:=by decide
 have:=key ⟨t.toNat,by omega⟩ ⟨k.toNat,by omega⟩ (by simp only;omega);simpa[show (t.toNat:Int)=t by omega,show (k.toNat:Int)=k by omega] using this
theorem LS{k:Int}:∀(d p:Nat) {q:Nat},s.openAt k d p=vz q->(Dn s.own q).1<0/\BS s.c.ks q=k/\0<s.c.left q
 | 0,_,_,h=>by cases h
 | d+1,p,q,h=>by
  unfold St.openAt at h;split at h
  ·rename_i hc;cases h;exact hc
  ·exact LS d (p+1) h
def Tj(h:SI s)(np:Nat){k:Int}(h0:0<BT k):((s.openP np k).2=v6)∨∃(p:Nat) (s':St),s.openP np k=(s',vz (p:Int))/\SI s'/\(Dn s'.own p).1<0/\BS s'.c.ks p=k/\0<s'.c.left p/\(∀b,C4 s.c s'.c b)/\s'.made=s.made/\s'.own=s.own:=by
 unfold St.openP;cases ho:s.openAt k np 0 with
 | some p=>
  obtain⟨o1,o2,o3⟩:=LS np 0 ho;exact wh ⟨p,s,rfl,h,o1,o2,o3,λb=>C4.refl _ _,rfl,rfl⟩
 | none=>
  simp only;cases hk:Fw s.c.ks k with
  | none=>left;unfold Ce.carve;rw[hk];rfl
  | some p=>
   right;obtain⟨c1,c2,c3,c4,c5,c6⟩:=h.hi.ci.carve hk;have hka:∀q:Nat,BS (s.c.carve k).1.ks (q:Int)=if q=p then k else BS s.c.ks (q:Int):=λq=>by rw[c4];exact Li q c6
   have hhi:HI (s.c.carve k).1 s.made:=by refine⟨c1,λb hb=>?_,λa b ser fs gs o1 o2=>h.hi.one a b ser fs gs ((c3 a).obj.1 o1) ((c3 b).obj.1 o2)⟩;rw[(c3 b).1]at hb;obtain⟨ser,fs,o,hl⟩:=h.hi.obj b hb;exact⟨ser,fs,(c3 b).obj.2 o,hl⟩
   refine⟨p,⟨(s.c.carve k).1,s.own,s.made⟩,by rw[c2];rfl,⟨hhi,h.m0,λa q ha=>?_,h.inj⟩,P8 λa ha e=>?_,?_,?_,c3,rfl,rfl⟩
   ·obtain⟨q0,q1,q2,q3⟩:=h.own a q ha;refine⟨q0,?_,q2,q3⟩;obtain⟨q,rfl⟩:=xQ q0;simp only;rw[hka,vm,q1];rintro rfl;rw[c5]at q1;rw[<-q1]at q2;exact absurd q2 (by decide)
   ·obtain⟨q0,q1,q2,q3⟩:=h.own a p e;rw[c5]at q1;rw[<-q1]at q2;exact absurd q2 (by decide)
   ·simp only;rw[hka,vn rfl]
   ·simp only;have hkp:BS (s.c.carve k).1.ks (p:Int)=k:=by rw[hka,vn rfl]
    obtain⟨L,hL⟩:=c1.fr p (by rw[hkp];exact h0);rw[c1.left_eq (by rw[hkp];exact h0) hL];have hc0:0<BQ k:=by rcases Eh k with⟨_,e,f⟩|⟨_,e,f⟩|⟨_,e,f⟩|⟨_,e,f⟩|⟨_,e,f⟩<;>rw[e]at h0<;>rw[f]<;>omega
    have:(0:Nat)∈L:=by
     refine (hL.mem 0).2 ⟨by rw[hkp];omega,?_⟩;rw[(c3 _).1];cases ht:s.c.tk (32*p+0*(BT (BS (s.c.carve k).1.ks (p:Int))).toNat) with
     | false=>rfl
     | true=>have:=(h.hi.ci.tk_kind ht).1;rw[show (32*p+0*(BT (BS (s.c.carve k).1.ks (p:Int))).toNat) / 32=p by omega]at this;exact absurd c5 this
    have:=List.length_pos_of_mem this;omega
def St.slow_ok(h:SI s)(hM:s.made<1099511627775)(np:Nat){nt:Int}(hnt:nt<=9)(t n:Int):(∃e,e≠0/\s.slow np nt t n=(s,0,e))∨∃(a:Nat) (s':St),s.slow np nt t n=(s',(a:Int),0)/\FP s s' a n.toNat/\SI s':=by
 unfold St.slow;simp only;by_cases c1:CC n=0∨t<0∨nt<=t
 ·rw[vn c1];exact wg ⟨4,by decide,rfl⟩
 rw[vm c1];by_cases c2:CC n=5
 ·rw[vn c2];obtain⟨n1,n2,n3⟩:=Xi c2;cases hp:Fe s.c.ks (Ef n) with
  | none=>
   left;refine⟨10,by decide,?_⟩;unfold Ce.large;rw[hp]
  | some p=>
   right;obtain⟨c',l1,l2,l3,l4⟩:=h.hi.ci.large hp;obtain⟨s',b1,b2,b3,b4,b5⟩:=M9 (own:=s.own) h.hi l3 l2 ⟨n1,n2⟩ (by omega) h.m0 hM s ⟨rfl,rfl⟩;refine⟨32*p,s',by rw[l1];simp only;rw[b1],b2,⟨b3,by rw[b2.made];have:=h.m0;omega,λx q hx=>?_,λx y p hx hy=>h.inj x y p (by rw[<-b4];exact hx) (by rw[<-b4];exact hy)⟩⟩;rw[b4]at hx;obtain⟨q0,q1,q2,q3⟩:=h.own x q hx;obtain⟨q,rfl⟩:=xQ q0
   refine⟨q0,?_,q2,q3⟩;rw[b5,l4,q1];intro e;rw[q1]at e;rw[e]at q2;exact absurd q2 (by decide)
 rw[vm c2];have hk:0<BT (CC n)/\1<=CC n/\CC n<=4:=by rcases Wr n with g | g | g<;>omega
 rcases St.fast_ok h hM t n with⟨e,_⟩|⟨a,s',e,e1,e2,e3⟩
 rotate_left
 ·rw[e];exact wh ⟨a,s',rfl,e1,e2⟩
 rw[e];simp only;rcases Tj h np hk.1 with g|⟨p,s',g1,g2,g3,g4,g5,g6,g7,g8⟩
 ·left;refine⟨10,by decide,?_⟩;generalize s.openP np (CC n)=z at g;obtain⟨z1,z2⟩:=z;simp only at g;subst g;rfl
 right;rw[g1];simp only;have hpl:p<s'.c.ks.length:=Hi (by rw[g4];omega);have hnp:=g2.hi.ci.np;have hmay:Lo nt s'.own t (CC n) p:=⟨by omega,by omega,by omega,by omega,by omega,g3⟩;rw[vn hmay];have hs2:SI ({ s' with own:=Kb s'.own (t,CC n) p }:St):=by
  refine⟨g2.hi,g2.m0,λa q ha=>?_,λa b q ha hb=>?_⟩
  ·simp only[Kb]at ha;by_cases e:a=(t,CC n)
   ·rw[vn e]at ha;cases ha;subst e;exact⟨by omega,g4,hk.1,Tt (by omega) ⟨hk.2.1,hk.2.2⟩⟩
   ·rw[vm e]at ha;exact g2.own a q ha
  ·simp only[Kb]at ha hb;by_cases e:a=(t,CC n)
   ·by_cases e':b=(t,CC n)
    ·rw[e,e']
    ·rw[vn e]at ha;rw[vm e']at hb;cases ha;exact absurd hb (Ir g3 b (g2.own b p hb).2.2.2)
   ·by_cases e':b=(t,CC n)
    ·rw[vm e]at ha;rw[vn e']at hb;cases hb;exact absurd ha (Ir g3 a (g2.own a p ha).2.2.2)
    ·rw[vm e]at ha;rw[vm e']at hb;exact g2.inj a b q ha hb
 rcases St.fast_ok hs2 (by simp only;omega) t n with⟨z1,z2⟩|⟨a,s2,f1,f2,f3,f4⟩
 ·exfalso;rcases z2 with z|z
  ·omega
  ·unfold EQ at z;simp only[Kb,vj,d8]at z;omega
 ·refine⟨a,s2,by rw[f1];rfl,⟨?_,?_,λb hb=>(g6 b).trans (f2.kept b hb),?_⟩,f3⟩
  ·rw[<-(g6 a).1];exact f2.off
  ·have:=f2.obj;simp only at this;rw[g7]at this;exact this
  ·have:=f2.made;simp only at this;rw[g7]at this;exact this
end
section
variable{s:St}
def HI.kept{c c':Ce}{made:Int}(h:HI c made)(hc:CI c')(hk:∀b,C4 c c' b):HI c' made:=by refine⟨hc,λb hb=>?_,λa b ser fs gs o1 o2=>h.one a b ser fs gs ((hk a).obj.1 o1) ((hk b).obj.1 o2)⟩;rw[(hk b).1]at hb;obtain⟨ser,fs,o,hl⟩:=h.obj b hb;exact⟨ser,fs,(hk b).obj.2 o,hl⟩
def SI.drop(h:SI s){p:Int}(hp:∀a q,s.own a=vz q->q≠p):SI { s with c:=(s.c.drop p).1 }/\∀b,C4 s.c (s.c.drop p).1 b:=by obtain⟨d1,d2,d3⟩:=h.hi.ci.drop p;refine⟨⟨h.hi.kept d1 d2,h.m0,λa q ha=>?_,h.inj⟩,d2⟩;obtain⟨q0,q1,q2,q3⟩:=h.own a q ha;obtain⟨q,rfl⟩:=xQ q0;exact⟨q0,by simp only;rw[d3 q (hp a q ha)];exact q1,q2,q3⟩
theorem Kz:∀(l:List Int) (s:St),SI s->(∀a q,s.own a=vz q->q∉l)->SI (s.dropAll l)/\(∀b,C4 s.c (s.dropAll l).c b)/\(s.dropAll l).made=s.made/\(s.dropAll l).own=s.own
 | [],s,h,_=>⟨h,λb=>C4.refl _ _,rfl,rfl⟩
 | p::l,s,h,hl=>by
  obtain⟨d1,d2⟩:=h.drop (p:=p) λa q ha e=>hl a q ha (by rw[e];simp);obtain⟨e1,e2,e3,e4⟩:=Kz l _ d1 λa q ha hq=>hl a q ha (by simp[hq]);exact⟨e1,λb=>(d2 b).trans (e2 b),e3,e4⟩
def St.quit_ok(h:SI s)(t:Int):SI (s.quit t)/\(∀b,C4 s.c (s.quit t).c b)/\(s.quit t).made=s.made:=by
 have h1:SI ({ s with own:=Iq s.own t }:St):=by
  refine⟨h.hi,h.m0,λa q ha=>?_,λa b p ha hb=>?_⟩
  ·simp only[Iq]at ha;split at ha
   ·cases ha
   ·exact h.own a q ha
  ·simp only[Iq]at ha hb;split at ha
   ·cases ha
   ·split at hb
    ·cases hb
    ·exact h.inj a b p ha hb
 obtain⟨d1,d2,d3,_⟩:=Kz ((Ff s.own t).mergeSort λx y=>decide (x<=y)) _ h1 λa q ha hq=>by
  rw[List.mem_mergeSort]at hq;simp only[Iq]at ha;split at ha
  ·cases ha
  ·rename_i hne;unfold Ff at hq;obtain⟨k,_,hk⟩:=List.mem_filterMap.1 hq;exact hne (by rw[h.inj a (t,k) q ha hk])
 exact⟨d1,d2,d3⟩
def St.trim_ok(h:SI s)(p:Int):SI (s.trim p)/\(∀b,C4 s.c (s.trim p).c b)/\(s.trim p).made=s.made/\(s.trim p).own=s.own:=by
 unfold St.trim;split
 ·rename_i ho;obtain⟨d1,d2⟩:=h.drop (p:=p) λa q ha e=>Ir ho a (h.own a q ha).2.2.2 (by rw[ha,e]);exact⟨d1,d2,rfl,rfl⟩
 ·exact⟨h,λb=>C4.refl _ _,rfl,rfl⟩
def St.give_ok(h:SI s){a:Nat}(ha:s.c.tk a=v7):(s.c.give (a:Int)).2=v7/\SI { s with c:=(s.c.give (a:Int)).1 }/\(s.c.give (a:Int)).1.tk a=v8/\∀b,b≠a->C4 s.c (s.c.give (a:Int)).1 b:=by
 obtain⟨g1,g2,g3,g4,g5⟩:=h.hi.ci.give ha;refine⟨g1,⟨⟨g2,λb hb=>?_,λx y ser fs gs o1 o2=>?_⟩,h.m0,λx q hx=>?_,h.inj⟩,g3,g4⟩
 ·by_cases e:b=a
  ·subst e;simp only at hb;rw[g3]at hb;cases hb
  ·simp only at hb;rw[(g4 b e).1]at hb;obtain⟨ser,fs,o,hl⟩:=h.hi.obj b hb;exact⟨ser,fs,(g4 b e).obj.2 o,hl⟩
 ·have hx:x≠a:=by rintro rfl;have:=o1.tk;simp only at this;rw[g3]at this;cases this
  have hy:y≠a:=by rintro rfl;have:=o2.tk;simp only at this;rw[g3]at this;cases this
  exact h.hi.one x y ser fs gs ((g4 x hx).obj.1 o1) ((g4 y hy).obj.1 o2)
 ·obtain⟨q0,q1,q2,q3⟩:=h.own x q hx;obtain⟨q,rfl⟩:=xQ q0;exact⟨q0,by simp only;rw[g5 q (by rw[q1];exact q2)];exact q1,q2,q3⟩
def St.set_ok(h:SI s){a:Nat}{ser:Int}{fs:List V2}(o:C7 s.c a ser fs){i:Int}{v:V2}(hv:Dk v=v7)(hi:0<=i/\i<fs.length):
  (s.set (a:Int) i v).2=v7/\C7 (s.set (a:Int) i v).1.c a ser (fs.set i.toNat v)/\(∀b,b≠a->C4 s.c (s.set (a:Int) i v).1.c b)/\(s.set (a:Int) i v).1.c.tk=s.c.tk/\SI (s.set (a:Int) i v).1/\(s.set (a:Int) i v).1.made=s.made:=by
 have hc:=h.hi.ci;have hn:=hc.small_n;have hr:=hc.rsz_pos o.tk;have hl:=o.len;obtain⟨i,rfl⟩:=xQ hi.1;have hx:CJ (CJ ((a:Int)+1)+i)=((a+1+i:Nat):Int):=by rw[F6 (n:=(a:Int)+1) (by omega),F6 (by omega)];omega
 have hst:=hc.store_in (x:=a+1+i) (w:=E7 v) o.tk (by omega) (by omega);have hci:=hc.stored (x:=a+1+i) (w:=E7 v) o.tk (by omega) (by omega);have hset:s.set (a:Int) (i:Int) v=({ s with c:={ s.c with m:=DA s.c.m ((a+1+i:Nat):Int) (E7 v) } },v7):=by unfold St.set;rw[(St.read_obj hc o).1,vn ⟨hv,by omega,by omega⟩,hx,hst]
 have hld:∀y:Nat,y<s.c.m.length->Cs (DA s.c.m ((a+1+i:Nat):Int) (E7 v)) (y:Int)=if y=a+1+i then E7 v else Cs s.c.m (y:Int):=λy hy=>by
  rw[Gi (by omega) (by omega) (by omega) (by omega)];by_cases e:y=a+1+i
  ·rw[vn (by omega),vn e]
  ·rw[vm (by omega),vm e]
 have ho:C7 { s.c with m:=DA s.c.m ((a+1+i:Nat):Int) (E7 v) } a ser (fs.set i v):=by
  refine⟨o.tk,?_,o.ser,by simp only[i8];exact o.len,λj hj=>?_⟩
  ·simp only[i8];rw[hld a (by omega),vm (by omega)];exact o.head
  ·simp only[i8]at hj;simp only;rw[hld _ (by omega),zX];by_cases e:i=j
   ·subst e;rw[vn rfl,vn rfl];exact⟨hv,rfl⟩
   ·rw[vm e,vm (by omega)];exact o.fld j hj
 have hk:∀b,b≠a->C4 s.c { s.c with m:=DA s.c.m ((a+1+i:Nat):Int) (E7 v) } b:=λb hb=>⟨rfl,λtb=>⟨rfl,λx x1 x2=>by
  have:=(hc.rsz_pos tb).2;simp only;rw[hld x (by omega),vm];rintro rfl;exact hb (hc.apart tb o.tk x1 x2 (by omega) (by omega))⟩⟩
 rw[hset];refine⟨rfl,by simpa using ho,hk,rfl,⟨⟨hci,λb hb=>?_,λx y se f g o1 o2=>?_⟩,h.m0,h.own,h.inj⟩,rfl⟩
 ·by_cases e:b=a
  ·subst e;exact⟨_,_,ho,h.hi.ser_lt o⟩
  ·obtain⟨se,f,o',hl'⟩:=h.hi.obj b hb;exact⟨se,f,(hk b e).obj.2 o',hl'⟩
 ·by_cases e:x=a
  ·by_cases e':y=a
   ·rw[e,e']
   ·subst e;obtain⟨rfl,rfl⟩:=o1.same ho;exact h.hi.one _ _ _ _ _ o ((hk y e').obj.1 o2)
  ·by_cases e':y=a
   ·subst e';obtain⟨rfl,rfl⟩:=o2.same ho;exact h.hi.one _ _ _ _ _ ((hk x e).obj.1 o1) o
   ·exact h.hi.one x y se f g ((hk x e).obj.1 o1) ((hk y e').obj.1 o2)
def St.set_none{x i:Int}{v:V2}(h:¬(Dk v=v7/\0<=i/\i<s.fields x)):s.set x i v=(s,v8):=by unfold St.set;rw[vm h]
end
def Ce.new_ok{n:Int}(hn:n<=64):CI (Ce.new n)/\∀a,(Ce.new n).tk a=v8:=by
 have hk:∀p:Nat,BS (List.replicate n.toNat (0:Int)) (p:Int)=0∨BS (List.replicate n.toNat (0:Int)) (p:Int) = -1:=λp=>by
  by_cases c:p<n.toNat
  ·left;rw[F2 (by simpa using c)];simp
  ·right;exact DR (by simp;omega)
 refine⟨⟨by simp[Ce.new];omega,by simp[Ce.new],by simp[Ce.new],λa ha=>by simp[Ce.new]at ha,λp hp=>?_,λp hp=>?_⟩,λa=>rfl⟩
 ·rcases hk p with g|g<;>simp only[Ce.new]at hp<;>rw[g]at hp<;>cases hp
 ·rcases hk p with g|g<;>simp only[Ce.new]at hp<;>rw[g]at hp<;>exact absurd hp (by decide)
def St.new_ok{n:Int}(hn:n<=64):SI ⟨Ce.new n,λ_=>v6,0⟩:=by
 obtain⟨h1,h2⟩:=Ce.new_ok hn;refine⟨⟨h1,λa ha=>?_,λa b ser fs gs o=>?_⟩,u7 0,λa p h=>(by cases h),λa b p h=>(by cases h)⟩
 ·simp only at ha;rw[h2]at ha;cases ha
 ·have:=o.tk;rw[h2]at this;cases this
def SS(d:Int)(s s':St):Prop:=SI s->s.made+d<=1099511627775->SI s'/\s.made<=s'.made/\s'.made<=s.made+d
def SS.refl(s:St){d:Int}(h:0<=d:=by decide):SS d s s:=λa _=>⟨a,by omega,by omega⟩
def SS.of{s s':St}(e:s'=s){d:Int}(h:0<=d:=by decide):SS d s s':=by subst e;exact SS.refl _ h
def SS.trans{d d':Int}{s s' s'':St}(h:SS d s s')(g:SS d' s' s'')(h0:0<=d:=by decide)(h1:0<=d':=by decide):SS (d+d') s s'':=λa b=>by
 obtain⟨p1,p2,p3⟩:=h a (by omega);obtain⟨q1,q2,q3⟩:=g p1 (by omega);exact⟨q1,by omega,by omega⟩
def SS.then0{d:Int}{s s' s'':St}(h:SS d s s')(g:SS 0 s' s'')(h0:0<=d:=by decide):SS d s s'':=by have:=h.trans g h0;rwa [Int.add_zero]at this
def SS.mk0{s s':St}(h:SI s->SI s'/\s'.made=s.made):SS 0 s s':=λa _=>by
 obtain⟨p,q⟩:=h a;exact⟨p,by omega,by omega⟩
def UJ(s:St)(a:Int):SS 0 s { s with c:=(s.c.give a).1 }:=SS.mk0 λh=>by
 by_cases hi:s.c.isIt a=v7
 ·obtain⟨a,rfl,ha⟩:=(JV h.hi.ci).1 hi;exact⟨(St.give_ok h ha).2.1,rfl⟩
 ·have:s.c.give a=(s.c,v8):=by unfold Ce.give;rw[vm hi]
  rw[this];exact⟨h,rfl⟩
def WD(s:St)(a i:Int)(v:V2):SS 0 s (s.set a i v).1:=SS.mk0 λh=>by
 by_cases hc:Dk v=v7/\0<=i/\i<s.fields a
 ·by_cases hi:s.c.isIt a=v7
  ·obtain⟨a,rfl,ha⟩:=(JV h.hi.ci).1 hi;obtain⟨ser,fs,o,_⟩:=h.hi.obj a ha;have:=(St.read_obj h.hi.ci o).1;obtain⟨_,_,_,_,h5,h6⟩:=St.set_ok h o hc.1 (i:=i) (by omega);exact⟨h5,h6⟩
  ·exfalso;unfold St.fields St.read at hc;rw[vm hi]at hc;simp only at hc;omega
 ·rw[St.set_none hc];exact⟨h,rfl⟩
section
variable(cf:Cf)
theorem GG:∀(d:Nat) (c:Co),(c.advance cf d).s=c.s
 | 0,_=>rfl
 | d+1,c=>by
  unfold Co.advance
  repeat' split
  all_goals first | rfl | (rw[GG];done) | (rw[GG];rfl)
def J1(c:Co):(c.tUnit cf).1.s=c.s:=by
 unfold Co.tUnit
 repeat' split
 all_goals first | rfl | (unfold Co.entry;simp only;split<;>rfl) | (split<;>rfl)
def NM(c:Co)(a:Int):SS 0 c.s (c.sweepOne a).s:=by
 unfold Co.sweepOne;split
 ·exact SS.refl _
 ·exact UJ _ _
theorem JL:∀(l:List Int) (c:Co),SS 0 c.s (c.sweepAll l).s
 | [],c=>SS.refl _
 | a::l,c=>(NM c a).then0 (JL l _)
def T6(c:Co):SS 0 c.s (c.wUnit cf).1.s:=by
 unfold Co.wUnit;split
 ·exact SS.refl _
 ·exact (JL _ c).then0 (SS.mk0 λh=>⟨(St.trim_ok h _).1,(St.trim_ok h _).2.2.1⟩)
def Ve(c:Co):SS 0 c.s (c.unit cf).1.s:=by
 have h1:∀(r:Co × Bool),SS 0 c.s r.1.s->SS 0 c.s (if r.2 then ({ r.1 with units:=CJ (r.1.units+1) }:Co) else r.1).s:=λr h=>by split<;>exact h
 unfold Co.unit;refine h1 _ ?_;split
 ·have ht:=J1 cf c;generalize c.tUnit cf=z at ht;obtain⟨d,b⟩:=z;simp only at ht;cases b with
  | true=>exact SS.of ht
  | false=>simp only;unfold Co.adv;rw[GG];exact SS.of ht
 ·split
  ·have hw:=T6 cf c;generalize c.wUnit cf=z at hw;obtain⟨d,b⟩:=z;simp only at hw ⊢;split<;>exact hw
  ·exact SS.refl _
def M8(c:Co):(c.beginC cf).1.s=c.s:=by
 unfold Co.beginC Co.adv;split
 ·simp only;rw[GG];rfl
 ·rfl
def QP(c:Co)(t:Int):SS 0 c.s (c.detach cf t).s:=by
 unfold Co.detach Co.adv;split
 ·simp only;rw[GG];exact SS.mk0 λh=>⟨(St.quit_ok h t).1,(St.quit_ok h t).2.2⟩
 ·exact SS.refl _
def Rz(c:Co)(t:Int):(c.poll cf t).s=c.s:=by
 unfold Co.poll Co.adv;split
 ·simp only;rw[GG];split
  ·rfl
  ·split<;>rfl
 ·rfl
def Jc(c:Co)(t:Int)(v:V2):(c.push t v).1.s=c.s:=by unfold Co.push;split<;>rfl
def PA(c:Co)(t:Int):(c.pop t).1.s=c.s:=by
 unfold Co.pop;split
 ·split<;>rfl
 ·rfl
def Jr(c:Co)(a:Int):(c.color cf a).s=c.s:=by
 unfold Co.color;split
 ·rfl
 ·split<;>rfl
def T7(c:Co)(t a i:Int)(v:V2):SS 0 c.s (c.write t a i v).1.s:=by
 unfold Co.write;split
 ·exact WD _ _ _ _
 ·exact SS.refl _
end
def Fl(s:St)(a j b:Nat):Prop:=∃ser fs,C7 s.c a ser fs/\fs[j]?=vz (2,(b:Int))
structure Fz(S:Nat->Prop)(g g':Gy):Prop where
 up:∀a,g.mks a=v7->g'.mks a=v7
 new:∀a,g'.mks a=v7->g.mks a=v7∨(S a/\a<2048/\(g'.over=v7∨((a:Int),0)∈g'.l))
 ov:g.over=v7->g'.over=v7
 li:∀e∈g.l,e∈g'.l
 ln:∀e∈g'.l,e∈g.l∨∃a:Nat,e=((a:Int),0)/\g'.mks a=v7
def Fz.refl(S:Nat->Prop)(g:Gy):Fz S g g:=⟨λ_ h=>h,λ_ h=>wg h,λh=>h,λ_ h=>h,λ_ h=>wg h⟩
def Fz.trans{S:Nat->Prop}{g g' g'':Gy}(h:Fz S g g')(k:Fz S g' g''):Fz S g g'':=by
 refine⟨λa x=>k.up a (h.up a x),λa x=>?_,λx=>k.ov (h.ov x),λe x=>k.li e (h.li e x),λe x=>?_⟩
 ·rcases k.new a x with y|y
  ·rcases h.new a y with z|⟨z1,z2,z3⟩
   ·exact wg z
   ·exact wh ⟨z1,z2,z3.imp k.ov (k.li _)⟩
  ·exact wh y
 ·rcases k.ln e x with y|y
  ·rcases h.ln e y with z|⟨a,z1,z2⟩
   ·exact wg z
   ·exact wh ⟨a,z1,k.up a z2⟩
  ·exact wh y
def G0(g:Gy){a:Nat}(h:a<2048):g.is (a:Int)=g.mks a:=by unfold Gy.is EY;rw[o8 (show (0:Int)<=(a:Int) by omega),o8 (show (a:Int)<2048 by omega)];rfl
def TJ(g:Gy){a:Int}(h:g.is a=v7):∃n:Nat,a=n/\n<2048/\g.mks n=v7:=by unfold Gy.is EY at h;simp only[zS,zP]at h;exact⟨a.toNat,by omega,by omega,h.2⟩
section
variable(room:Int)
def Hs(S:Nat->Prop)(g:Gy){a:Int}(hS:∀n:Nat,a=n->S n):Fz S g (g.shade room a):=by
 unfold Gy.shade;split
 rotate_left
 ·exact Fz.refl S g
 rename_i hc;obtain⟨h0,h1,h2⟩:=hc;obtain⟨n,rfl⟩:=xQ h0;have hb:g.black (n:Int)={ g with mks:=CG g.mks n v7 }:=by unfold Gy.black;rw[vn ⟨h0,h1⟩,zE]
 rw[hb];have hm:∀b,(CG g.mks n v7) b=v7↔b=n∨g.mks b=v7:=λb=>by
  unfold CG;by_cases e:b=n
  ·rw[vn e];simp[e]
  ·rw[vm e];simp[e]
 unfold Gy.push;simp only;split
 ·refine⟨λb x=>(hm b).2 (wh x),λb x=>?_,λ_=>rfl,λe x=>x,λe x=>wg x⟩;rcases (hm b).1 x with rfl|y
  ·exact wh ⟨hS _ rfl,by omega,wg rfl⟩
  ·exact wg y
 ·refine⟨λb x=>(hm b).2 (wh x),λb x=>?_,λx=>x,λe x=>by simp[x],λe x=>?_⟩
  ·rcases (hm b).1 x with rfl|y
   ·exact wh ⟨hS _ rfl,by omega,wh (by simp)⟩
   ·exact wg y
  ·rcases j4.1 x with y|y
   ·exact wg y
   ·simp only[yZ]at y;subst y;exact wh ⟨n,rfl,(hm n).2 (wg rfl)⟩
def Ix(g:Gy){n:Nat}(h:n<2048):(g.shade room (n:Int)).mks n=v7:=by
 by_cases hm:g.mks n=v7
 ·exact (Hs room (λ_=>True) g λ_ _=>trivial).up n hm
 ·unfold Gy.shade;rw[vn ⟨by omega,by omega,by rw[G0 g h];simpa using hm⟩];have hb:g.black (n:Int)={ g with mks:=CG g.mks n v7 }:=by unfold Gy.black;rw[vn ⟨by omega,by omega⟩,zE]
  rw[hb];unfold Gy.push;split<;>simp[CG]
theorem Gl(S:Nat->Prop):∀(l:List Int) (g:Gy),(∀n:Nat,(n:Int)∈l->S n)->Fz S g (g.shadeAll room l)
 | [],g,_=>Fz.refl S g
 | a::l,g,h=>(Hs room S g λn e=>h n (by simp[e])).trans (Gl S l _ λn x=>h n (by simp[x]))
theorem HJ:∀(l:List Int) (g:Gy) (n:Nat),(n:Int)∈l->n<2048->(g.shadeAll room l).mks n=v7
 | [],g,n,h,_=>by cases h
 | a::l,g,n,h,hn=>by
  rw[Gy.shadeAll];by_cases e:a=(n:Int)
  ·subst e;exact (Gl room (λ_=>True) l _ λ_ _=>trivial).up n (Ix room g hn)
  ·rcases un.1 h with rfl|x
   ·exact absurd rfl e
   ·exact HJ l _ n x hn
theorem Ge(cf:Cf)(S:Nat->Prop){s:St}{a:Int}:∀(d:Nat) (i:Int) (g:Gy),(∀(j:Int) (n:Nat),i<=j->j<i+d->(s.get a j).1=(2,(n:Int))->S n)->Fz S g (Fa cf s a d i g)
 | 0,_,g,_=>Fz.refl S g
 | d+1,i,g,h=>by
  rw[Fa];by_cases e:(s.get a i).1.1=2
  ·rw[vn e];exact (Hs cf.stack S g λn en=>h i n (by omega) (by omega) (Prod.ext e en)).trans (Ge cf S d (i+1) _ λj n a1 a2=>h j n (by omega) (by omega))
  ·rw[vm e];exact Ge cf S d (i+1) _ λj n a1 a2=>h j n (by omega) (by omega)
theorem Lw(cf:Cf){s:St}{a:Int}:∀(d:Nat) (i:Int) (g:Gy) (j:Int) (n:Nat),i<=j->j<i+d->(s.get a j).1=(2,(n:Int))->n<2048->(Fa cf s a d i g).mks n=v7
 | 0,i,g,j,n,a1,a2,_,_=>by omega
 | d+1,i,g,j,n,a1,a2,hg,hn=>by
  rw[Fa];by_cases e:j=i
  ·subst e;rw[hg,vn rfl];have:=Ix cf.stack g hn;generalize g.shade cf.stack (n:Int)=g1 at this;exact (Ge cf (λ_=>True) d (j+1) g1 λ_ _ _ _ _=>trivial).up n this
  ·exact Lw cf d (i+1) _ j n (by omega) (by omega) hg hn
theorem GM(cf:Cf)(S:Nat->Prop){s:St}:∀(l:List Int) (g:Gy),(∀a∈l,∀(j:Int) (n:Nat),0<=j->(s.get a j).1=(2,(n:Int))->(DF cf s l g).is a=v7->S n)->Fz S g (DF cf s l g)
 | [],g,_=>Fz.refl S g
 | a::l,g,h=>by
  rw[DF];rw[DF]at h;have h2:=GM cf (λ_=>True) (s:=s) l (if g.is a then Fa cf s a (s.fields a).toNat 0 g else g) λ_ _ _ _ _ _ _=>trivial;have h1:Fz S g (if g.is a then Fa cf s a (s.fields a).toNat 0 g else g):=by
   by_cases e:g.is a=v7
   ·rw[vn e];rw[vn e]at h h2;refine Ge cf S _ 0 g λj n a1 a2 hg=>h a (by simp) j n a1 hg ?_;obtain⟨m,rfl,hm,hk⟩:=TJ g e;rw[G0 _ hm];exact h2.up m ((Ge cf (λ_=>True) _ 0 g λ_ _ _ _ _=>trivial).up m hk)
   ·rw[vm e];exact Fz.refl S g
  exact h1.trans (GM cf S l _ λb hb j n a1 hg hi=>h b (by simp[hb]) j n a1 hg hi)
theorem K6(cf:Cf){s:St}:∀(l:List Int) (g:Gy) (a:Int),a∈l->g.is a=v7->∀(j:Int) (n:Nat),0<=j->j<s.fields a->(s.get a j).1=(2,(n:Int))->n<2048->(DF cf s l g).mks n=v7
 | [],g,a,h,_,_,_,_,_,_,_=>by cases h
 | b::l,g,a,h,hi,j,n,j0,j1,hg,hn=>by
  rw[DF];by_cases e:b=a
  ·subst e;rw[vn hi];exact (GM cf (λ_=>True) l _ λ_ _ _ _ _ _ _=>trivial).up n (Lw cf _ 0 g j n j0 (by omega) hg hn)
  ·rcases un.1 h with rfl|x
   ·exact absurd rfl e
   ·refine K6 cf l _ a x ?_ j n j0 j1 hg hn;split
    ·obtain⟨m,rfl,hm,hk⟩:=TJ g hi;rw[G0 _ hm];exact (Ge cf (λ_=>True) _ 0 g λ_ _ _ _ _=>trivial).up m hk
    ·exact hi
end
def Pd(c:Co)(a j:Nat):Prop:=c.g.over=v7∨(∃i:Int,((a:Int),i)∈c.g.l/\i<=j)∨(c.tp ≠ -1/\c.tp<=((a / 32:Nat):Int))
structure PC(c:Co)(Q:Nat->Prop):Prop where
 m1:∀a,c.g.mks a=v7->Q a
 bf:∀l∈c.b,∀b:Nat,(b:Int)∈l->Q b
 pd:∀a j b,c.g.mks a=v7->Fl c.s a j b->Pd c a j->Q b
 cl:∀a j b,Q a->c.g.mks a=v8->Fl c.s a j b->Q b
def PC.shaded{S Q:Nat->Prop}{c c':Co}(h:PC c' Q)(hg:Fz S c.g c'.g)(hs:c'.s=c.s)(hb:∀l∈c.b,∀b:Nat,(b:Int)∈l->Q b)(ht:c'.tp=c.tp):PC c Q:=by
 refine⟨λa x=>h.m1 a (hg.up a x),hb,λa j b x f p=>h.pd a j b (hg.up a x) (by rw[hs];exact f) ?_,λa j b q x f=>?_⟩
 ·rcases p with p|⟨i,p,q⟩|p
  ·exact wg (hg.ov p)
  ·exact wh (wg ⟨i,hg.li _ p,q⟩)
  ·exact wh (wh (by rw[ht];exact p))
 ·by_cases e:c'.g.mks a=v7
  ·rcases hg.new a e with y|⟨_,_,y⟩
   ·rw[x]at y;cases y
   ·refine h.pd a j b e (by rw[hs];exact f) ?_;rcases y with y|y
    ·exact wg y
    ·exact wh (wg ⟨0,y,by omega⟩)
  ·exact h.cl a j b q (by simpa using e) (by rw[hs];exact f)
end
end Go.Proofs.QV
