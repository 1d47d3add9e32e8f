/- Part 7 of what the law needs: own lemmas, in the order in which they build. -/
import Derived.Test.YtcakfaakbpdklaaGreatDoorProg
import Derived.Test.YtcakfaakbpdklaaGreatDoorTopLike06
set_option linter.defProp false
set_option linter.unusedSimpArgs false
set_option linter.unusedVariables false
set_option maxRecDepth 100000
namespace Go.Proofs.QV
open Go Go.Proofs Go.Proofs.Tryz
open Go.Proofs.Tryz renaming prog->vp
open Go.IntKind renaming i64->vy
open Go.Value renaming int->vq,pointer->vr,slice->vt,tuple->vu,bool->vw
open Option renaming some->vz
open Option renaming none->v6
open Bool renaming true->v7
open Bool renaming false->v8
open Go renaming Value->wc
open Go renaming World->wd
open Go.Obj renaming cells->wj
section
open Go.RowKit
section
variable{K:VK}{w w':wd}{Q:C3}{m:Mv}{cf:Cf}{c:Co}
def FN(h:BX Q m cf w c)(hk:K (vw v7) w):I vp 88 #[vr (vz ⟨Q.co,0,v6⟩)] w K:=by
 obtain⟨cs,b1,b2⟩:=h.blk;refine F88.sh ⟨_,CN _ _ _ Tryz.underlying86,?_⟩
 try simp only[zv]
 refine Ac (v:=vr (vz ⟨Q.H.D.st,0,v6⟩)) b1 b2.s0 ⟨_,CN _ _ _ Tryz.underlying118,?_⟩;exact hk
def Fp{t:Int}(h:BX Q m cf w c)(hk:K (vw (c.r.live t)) w):I vp 53 #[vr (vz ⟨Q.co,0,v6⟩),vq vy t] w K:=by
 obtain⟨cs,b1,b2⟩:=h.blk;refine F53.sh (FN h ?_)
 try simp only[zv]
 refine Ac (v:=vr (vz ⟨Q.re,0,v6⟩)) b1 b2.s12 (Kl h.rg ?_);exact hk
def Hy{a:Int}(h:BX Q m cf w c)(hk:K (vq vy (c.s.serial a)) w):I vp 49 #[vr (vz ⟨Q.co,0,v6⟩),vq vy a] w K:=by
 obtain⟨cs,b1,b2⟩:=h.blk;refine F49.sh (FN h ?_)
 try simp only[zv]
 refine F49.k3.to ?_
 try simp only[zv]
 exact Ac (v:=vr (vz ⟨Q.H.D.st,0,v6⟩)) b1 b2.s0 (Qs h.hp.st hk)
def L2{a:Int}(h:BX Q m cf w c)(hk:K (vq vy (c.s.fields a)) w):I vp 90 #[vr (vz ⟨Q.co,0,v6⟩),vq vy a] w K:=by
 obtain⟨cs,b1,b2⟩:=h.blk;refine F90.sh (FN h ?_)
 try simp only[zv]
 refine F90.k3.to ?_
 try simp only[zv]
 exact Ac (v:=vr (vz ⟨Q.H.D.st,0,v6⟩)) b1 b2.s0 (Gp h.hp.st hk)
def Oc{a i:Int}(h:BX Q m cf w c)(hk:∀w',Fr [] w w'->K (vu #[V (c.s.get a i).1.1 (c.s.get a i).1.2,vw (c.s.get a i).2]) w'):
  I vp 91 #[vr (vz ⟨Q.co,0,v6⟩),vq vy a,vq vy i] w K:=by
 refine F91.sh (Ay λx w1 hn=>?_);have h1:=h.keep0 hn.fr;have l1:=hn.is;obtain⟨cs,b1,b2⟩:=h1.blk;refine FN h1 ?_
 try simp only[zv]
 refine F91.k3.to ?_
 try simp only[zv]
 refine Ac (v:=vr (vz ⟨Q.H.D.st,0,v6⟩)) b1 b2.s0 (OZ h1.hp.st λw2 hf2=>?_)
 try simp only[zv]
 exact AB (x:=V (c.s.get a i).1.1 (c.s.get a i).1.2) (hf2.at_ hn.at_ (by simp)) rfl Cb rfl λw3 hu=>A5 hu.at_ rfl (hk w3 ((hn.fr.trans hf2).then hu.fr (by simp;omega)))
def JO(h:BX Q m cf w c)(hk:K (vq vy c.phase) w):I vp 59 #[vr (vz ⟨Q.co,0,v6⟩)] w K:=by
 obtain⟨cs,b1,b2⟩:=h.blk;refine F59.sh (FN h ?_)
 try simp only[zv]
 refine F59.k3.to ?_
 try simp only[zv]
 exact Ac b1 b2.s25 hk
def L3(h:BX Q m cf w c)(hk:K (vq vy c.global) w):I vp 83 #[vr (vz ⟨Q.co,0,v6⟩)] w K:=by
 obtain⟨cs,b1,b2⟩:=h.blk;refine F83.sh (FN h ?_)
 try simp only[zv]
 refine F83.k3.to ?_
 try simp only[zv]
 exact Ac b1 b2.s24 hk
def HQ(h:BX Q m cf w c){t:Int}(hl:c.r.live t=v7):∃j:Nat,t=(j:Int)/\j<8:=by obtain⟨j,e,hj,_⟩:=Jy hl;have:=h.rg.le;exact⟨j,e,by omega⟩
def GY{t:Int}(h:BX Q m cf w c)(hk:∀v w',Fr [] w w'->BO w' v 60 2 (Ck (c.roots t))->Cc w v->K v w'):I vp 47 #[vr (vz ⟨Q.co,0,v6⟩),vq vy t] w K:=by
 refine F47.sh (Fp h ?_);unfold Co.roots at hk;cases z:c.r.live t with
 | false=>
  rw[z]at hk;simp only[zv];exact hk _ w (Fr.refl _ _) (BO.nil _ _ _) (Cc.nil _)
 | true=>
  rw[z]at hk;obtain⟨j,rfl,hj⟩:=HQ h z;obtain⟨cs,b2,hr⟩:=h.ro hj;simp only[zv];refine F47.k3.to ?_
  try simp only[zv]
  refine AU (by omega) (by omega) ?_;rw[zE,vb];have e:c.th.getD j []=c.th[j]'(by rw[h.tl];exact hj):=by simp[List.getD,h.tl,hj]
  refine Qi hr λv w1 hf1 ho hn=>hk v w1 hf1 ?_ hn;simp only[vj,zE,e];exact ho
def L4(h:BX Q m cf w c)(hk:K (vw c.marking) w):I vp 144 #[vr (vz ⟨Q.co,0,v6⟩)] w K:=by
 obtain⟨cs,b1,b2⟩:=h.blk;refine F144.sh ?_;unfold Co.marking at hk
 try simp only[zv]
 refine Ac b1 b2.s25 ?_;by_cases z:c.phase≥2
 ·simp only[zv,z];refine Ac b1 b2.s25 ?_;rw[o8 (show 2<=c.phase from z)]at hk;by_cases y:c.phase<=4
  ·simp only[zv,y]at hk ⊢;exact hk
  ·simp only[zv,y]at hk ⊢;exact hk
 ·simp only[zv,z];rw[m8 (show ¬ 2<=c.phase from z)]at hk;exact hk
def PG{W:wd}{m0:Mv}{x:Nat}{v:wc}{l:List Int}(hl:l.length<=2048){gf:Gy}(hN:∀g∈BM v,Q.H.N<=g)(hx:Q.H.N<=x){e:TypeId}(he:e≠310)(hk:∀lv' w',Ch Q m0 W { m with lv:=lv' } w'->BX Q { m with lv:=lv' } cf w' { c with g:=gf }->K (vu #[]) w'):
  ∀(d i:Nat) (g:Gy) (lv:wc) (w:wd),i+d=l.length->Ch Q m0 W { m with lv:=lv } w->BX Q { m with lv:=lv } cf w { c with g:=g }->BO w v 3 1 (Ca l)->w.heap[x]?=vz (wj #[vr (vz ⟨Q.H.D.st,0,v6⟩),vr (vz ⟨Q.H.G.gr,0,v6⟩)] e (0,0))->g.shadeAll cf.stack (l.drop i)=gf->
   F145.l2 K (vr (vz ⟨x,0,v6⟩)) v (vq vy (l.length:Int)) (vq vy (i:Int)) w:=by
 intro d;induction d with
 | zero=>
  intro i g lv w hi ht h hv hb hg;have e:i=l.length:=by omega
  subst e;refine F145.l2.to ?_;simp only[zv,show ¬((l.length:Int)<(l.length:Int)) by omega];rw[zU]at hg;simp only[Gy.shadeAll]at hg;subst hg;exact hk lv w ht h
 | succ d ih=>
  intro i g lv w hi ht h hv hb hg;have hlt:i<l.length:=by omega
  refine F145.l2.to ?_;simp only[zv,show (i:Int)<(l.length:Int) by omega];rw[xG hlt,Gy.shadeAll]at hg;refine F145.k3.to (Bd hv.rd hlt λgg o cs e' fz hgg hc=>Ac hgg hc ?_)
  try simp only[zv]
  refine Ac (v:=vr (vz ⟨Q.H.G.gr,0,v6⟩)) hb rfl (KV h.hp.gy λb lv' w1 hf1 h1=>?_);have h1':=h.hp.setG hf1 h1;have hto:C2 Q.H lv w lv' w1:=C2.g hf1;have h2:=h.setH (c':={ c with g:=g.shade cf.stack l[i] }) hto h1' rfl rfl rfl rfl rfl rfl rfl;refine F145.k5.to ?_
  try simp only[AC]
  rw[BN (n:=(i:Int)+1) (by omega)];refine ih (i+1) _ lv' w1 (by omega) (ht.trans (Ch.h hto)) h2 (hv.keep' hto.fr (h.hp.far hv (by decide) hN)) (hto.fr.at_ hb λe1=>?_) hg;have e2:=Q.H.subS lv x e1;simp only[Cp.all,j4]at e2;rcases e2 with f|f|f
  ·have:=h.hp.ok.lo x (by simp[f]);omega
  ·have:=h.hp.ok.lo x (by simp[f]);omega
  ·exact h.hp.gy.stk.own.nb hb (vk he) f
def Mj{v:wc}{l:List Int}(h:BX Q m cf w c)(hl:l.length<=2048)(hv:BO w v 3 1 (Ca l))(hN:∀g∈BM v,Q.H.N<=g)(hk:∀lv' w',Ch Q m w { m with lv:=lv' } w'->BX Q { m with lv:=lv' } cf w' { c with g:=c.g.shadeAll cf.stack l }->K (vu #[]) w'):
  I vp 145 #[.agg #[vr (vz ⟨Q.H.D.st,0,v6⟩),vr (vz ⟨Q.H.G.gr,0,v6⟩)],v] w K:=by refine F145.sh (Ay λx w1 hn=>AK (hv.keep hn.fr (by simp)).rd ?_);rw[Cm];have l1:=hn.is;have:=h.hp.le;exact PG (Q:=Q) (m:=m) (c:=c) (W:=w) (m0:=m) hl hN (by omega) (by decide) hk l.length 0 c.g m.lv w1 (by omega) (Ch.w hn.fr) (h.keep0 hn.fr) (hv.keep hn.fr (by simp)) hn.at_ rfl
def JP{p:Int}(h:BX Q m cf w c)(hk:∀w',Ch Q m w m w'->BX Q m cf w' (c.raise p)->K (vu #[]) w'):I vp 215 #[vr (vz ⟨Q.co,0,v6⟩),vq vy p] w K:=by
 obtain⟨cs,b1,b2⟩:=h.blk;refine F215.sh ?_
 try simp only[zv]
 refine AM b1 rfl rfl (by rw[b2.sz];omega) λw1 hu=>?_;have far:∀i,i≠25->(cs.setIfInBounds 25 (vq vy p))[i]?=cs[i]?:=λi hi=>by rw[wX,vm (by omega)]
 have hc1:PJ Q m { c with phase:=p } (cs.setIfInBounds 25 (vq vy p)):=⟨by simp[b2.sz],by rw[far 0 (by omega)];exact b2.s0,by rw[far 1 (by omega)];exact b2.s1,by rw[far 12 (by omega)];exact b2.s12,by rw[far 13 (by omega)];exact b2.s13,by rw[far 14 (by omega)];exact b2.s14,by rw[far 15 (by omega)];exact b2.s15,λj hj=>by rw[far (16+j) (by omega)];exact b2.ts j hj,by rw[far 24 (by omega)];exact b2.s24,by rw[wX,vn rfl,vn (by rw[b2.sz];omega)],by rw[far 26 (by omega)];exact b2.s26,by rw[far 27 (by omega)];exact b2.s27⟩
 have h1:=h.setC (c':={ c with phase:=p }) hu.fr hu.at_ hc1 rfl rfl rfl rfl rfl rfl rfl rfl;refine Ac hu.at_ hc1.s12 (Uu h1.rg λv w2 hf2 h2=>?_);exact hk w2 ((Ch.c hu.fr).trans (Ch.r hf2)) (h1.setR hf2 h2)
def BX.setN{F:wd->Prop}{i:Nat}{n:Int}{c':Co}(h:BX Q m cf w c)(hi:24<=i)(hi':i<28)(hg:c'.global=if i=24 then n else c.global)(hp:c'.phase=if i=25 then n else c.phase)(hy:c'.cycles=if i=26 then n else c.cycles)(hu:c'.units=if i=27 then n else c.units)(es:c'.s=c.s)(eg:c'.g=c.g)(etp:c'.tp=c.tp)(ea:c'.at_=c.at_)(ef:c'.freed=c.freed)(er:c'.r=c.r)(eb:c'.b=c.b)(et:c'.th=c.th)(hk:∀w',Ch Q m w m w'->BX Q m cf w' c'->F w'):Aj 1 (vr (vz ⟨Q.co,i,v6⟩)) (vq vy n) w F:=by
 obtain⟨cs,b1,b2⟩:=h.blk;refine AM b1 rfl rfl (by rw[b2.sz];omega) λw1 hu1=>hk w1 (Ch.c hu1.fr) ?_;have get:∀k,(cs.setIfInBounds i (vq vy n))[k]?=if i=k then vz (vq vy n) else cs[k]?:=λk=>by
  rw[wX];split
  ·rename_i e;subst e;rw[vn (by rw[b2.sz];omega)]
  ·rfl
 have far:∀k,k<24->(cs.setIfInBounds i (vq vy n))[k]?=cs[k]?:=λk hk=>by rw[get,vm (by omega)]
 refine h.setC (c':=c') hu1.fr hu1.at_ ⟨by simp[b2.sz],by rw[far 0 (by omega)];exact b2.s0,by rw[far 1 (by omega)];exact b2.s1,by rw[far 12 (by omega)];exact b2.s12,by rw[far 13 (by omega)];exact b2.s13,by rw[far 14 (by omega)];exact b2.s14,by rw[far 15 (by omega)];exact b2.s15,λj hj=>by rw[far (16+j) (by omega)];exact b2.ts j hj,?_,?_,?_,?_⟩ es eg etp ea ef er eb et
 ·rw[get,hg];split;rfl;exact b2.s24
 ·rw[get,hp];split;rfl;exact b2.s25
 ·rw[get,hy];split;rfl;exact b2.s26
 ·rw[get,hu];split;rfl;exact b2.s27
def Ta{Kk:VK}(h:BX Q m cf w c)(hk:Kk (.agg #[vr (vz ⟨Q.H.D.st,0,v6⟩),vr (vz ⟨Q.H.G.gr,0,v6⟩)]) w):Ak 2 (vr (vz ⟨Q.co,0,v6⟩)) w Kk:=by
 obtain⟨cs,b1,b2⟩:=h.blk;refine AY (vs:=[vr (vz ⟨Q.H.D.st,0,v6⟩),vr (vz ⟨Q.H.G.gr,0,v6⟩)]) b1 (by rw[b2.sz];omega) ?_ hk;apply zF;intro q;rw[yX,yW]
 match q with
 | 0=>simpa using b2.s0
 | 1=>simpa using b2.s1
 | q+2=>rw[vm (by omega)];rfl
end
def KB(Q:C3)(p n:Int)(w:wd):Prop:=∃cs:Array wc,w.heap[Q.co]?=vz (wj cs 132 (0,0))/\cs.size=28/\cs[0]?=vz (vr (vz ⟨Q.H.D.st,0,v6⟩))/\cs[1]?=vz (vr (vz ⟨Q.H.G.gr,0,v6⟩))/\cs[12]?=vz (vr (vz ⟨Q.re,0,v6⟩))/\cs[13]?=vz (vr (vz ⟨Q.bu,0,v6⟩))/\cs[15]?=vz (vr (vz ⟨Q.H.sw,0,v6⟩))/\cs[25]?=vz (vq vy p)/\cs[24]?=vz (vq vy n)
section
variable{K:VK}{w w':wd}{Q:C3}{m:Mv}{cf:Cf}{c:Co}
def BX.kb(h:BX Q m cf w c):KB Q c.phase c.global w:=by obtain⟨cs,b1,b2⟩:=h.blk;exact⟨cs,b1,b2.sz,b2.s0,b2.s1,b2.s12,b2.s13,b2.s15,b2.s25,b2.s24⟩
def G1{Kk:VK}{S:wd->Prop}(hS:∀w',S w'->∃p n,KB Q p n w')(hk:Kk (.agg #[vr (vz ⟨Q.H.D.st,0,v6⟩),vr (vz ⟨Q.H.G.gr,0,v6⟩)]) w):AN S 2 (vr (vz ⟨Q.co,0,v6⟩)) w Kk:=by
 refine AR (vs:=[vr (vz ⟨Q.H.D.st,0,v6⟩),vr (vz ⟨Q.H.G.gr,0,v6⟩)]) (λw' hw=>?_) hk;obtain⟨p,n,cs,b1,hs,s0,s1,_⟩:=hS w' hw;refine⟨cs,_,_,b1,by rw[hs];omega,?_⟩;apply zF;intro q;rw[yX,yW]
 match q with
 | 0=>simpa using s0
 | 1=>simpa using s1
 | q+2=>rw[vm (by omega)];rfl
def BX.setSt{s:St}(h:BX Q m cf w c)(hf:Fr Q.H.D.S w w')(hs:C6 Q.H.D cf.pages.toNat (cf.threads+1) w' s):Ch Q m w m w'/\BX Q m cf w' { c with s:=s }:=by have h1:=h.setH (c':={ c with s:=s }) (C2.d hf) (h.hp.setS hf hs) rfl rfl rfl rfl rfl rfl rfl;exact⟨Ch.h (C2.d hf),h1⟩
def BX.setGy{lv':wc}{g:Gy}(h:BX Q m cf w c)(hf:DI Q.H.G m.lv w lv' w')(hg:CW Q.H.G lv' cf.stack w' g):Ch Q m w { m with lv:=lv' } w'/\BX Q { m with lv:=lv' } cf w' { c with g:=g }:=
 ⟨Ch.h (C2.g hf),h.setH (c':={ c with g:=g }) (C2.g hf) (h.hp.setG hf hg) rfl rfl rfl rfl rfl rfl rfl⟩
def GI(a:Int):(c.color cf a).phase=c.phase/\(c.color cf a).global=c.global:=by
 unfold Co.color;split
 ·exact⟨rfl,rfl⟩
 ·split<;>exact⟨rfl,rfl⟩
def NX{a:Int}(h:BX Q m cf w c)(hk:∀lv' w',Ch Q m w { m with lv:=lv' } w'->BX Q { m with lv:=lv' } cf w' (c.color cf a)->K (vu #[]) w'):
  I vp 219 #[.agg #[vr (vz ⟨Q.H.D.st,0,v6⟩),vr (vz ⟨Q.H.G.gr,0,v6⟩)],vq vy a,vq vy c.phase,vq vy c.at_] w K:=by
 refine F219.sh (Ay λx w1 hn=>?_);have h1:=h.keep0 hn.fr;have x1:=hn.at_;unfold Co.color at hk;have blk:(∀lv' w',Ch Q m w { m with lv:=lv' } w'->BX Q { m with lv:=lv' } cf w' { c with g:=c.g.black a }->K (vu #[]) w')->Ad (vr (vz ⟨x,1,v6⟩)) w1 λx29 w8=>I vp 260 #[x29,vq vy a] w8 λx31 w9=>K (vu #[]) w9:=λhk=>Ac (v:=vr (vz ⟨Q.H.G.gr,0,v6⟩)) x1 rfl (Mx h1.hp.gy λw2 hf2 h2=>by
   have h3:=h1.setGy (DI.m hf2) h2;exact hk m.lv w2 ((Ch.w hn.fr).trans h3.1) h3.2)
 by_cases p2:c.phase=2
 ·simp only[zv,vl,p2];rw[vn p2]at hk;refine Ac (v:=vr (vz ⟨Q.H.G.gr,0,v6⟩)) x1 rfl (KV h1.hp.gy λb lv' w2 hf2 h2=>?_);have h3:=h1.setGy hf2 h2;exact hk lv' w2 ((Ch.w hn.fr).trans h3.1) h3.2
 rw[vm p2]at hk;simp only[zv,p2];by_cases p3:c.phase=3
 ·simp only[zv,vl,p3];rw[vn (.inl p3)]at hk;exact blk hk
 simp only[zv,p3];by_cases p4:c.phase=4
 ·simp only[zv,vl,p4];rw[vn (.inr (.inl p4))]at hk;exact blk hk
 simp only[zv,p4];have stay:¬(c.phase=3∨c.phase=4∨c.phase=5/\c.at_<=Ct a)->K (vu #[]) w1:=λhn'=>by
  rw[vm hn']at hk;exact hk m.lv w1 (Ch.w hn.fr) h1
 by_cases p5:c.phase=5
 ·simp only[zv,vl,p5];refine FW ?_;by_cases z:c.at_<=Ct a
  ·simp only[zv,show Ct a≥c.at_ from z];rw[vn (.inr (.inr ⟨p5,z⟩))]at hk;exact blk hk
  ·simp only[zv,show ¬(Ct a≥c.at_) from z];exact stay (λe=>by rcases e with e | e | e;exact p3 e;exact p4 e;exact z e.2)
 ·simp only[zv,p5];exact stay (λe=>by rcases e with e | e | e;exact p3 e;exact p4 e;exact p5 e.1)
def KJ(p:Int):Nat:=if p=1 then 3 else if p=2∨p=4 then 2 else 1
def XI(a:Int):(Instr.buildSlice 54 1 #[(0,vq vy a)]).run vp w=.ok (vt (vz ⟨w.heap.size,0,v6⟩) 1 1) (w.alloc (wj #[vq vy a] 3)):=by kernel_rfl
def RM{W:wd}{m0:Mv}{ce:Co}(hk:∀m' w',Ch Q m0 W m' w'->BX Q m' cf w' ce->K (vu #[]) w'):
  ∀(d:Nat) (c:Co) (m:Mv) (w:wd),KJ c.phase<=d->Ch Q m0 W m w->BX Q m cf w c->Co.advance cf d c=ce->
   F149.l0 K (vr (vz ⟨Q.co,0,v6⟩)) w:=by
 intro d;induction d with
 | zero=>intro c m w hr;unfold KJ at hr;split at hr<;>(try split at hr)<;>omega
 | succ d ih=>
  intro c m w hr ht h he;obtain⟨cs,b1,b2⟩:=h.blk;refine F149.l0.to ?_
  try simp only[zv]
  refine Ac (v:=vr (vz ⟨Q.re,0,v6⟩)) b1 b2.s12 (RN h.rg λw1 hf1=>?_);have h1:=h.keep0 hf1;have ht1:=ht.trans (Ch.w hf1);obtain⟨cs1,d1,d2⟩:=h1.blk;rw[Co.advance]at he;cases za:c.r.agreed with
  | false=>
   rw[za]at he;simp only[yT,vg]at he;subst he;simp only[Ae];exact hk m w1 ht1 h1
  | true=>
   rw[za]at he;simp only[vj]at he;simp only[Ai];refine F149.k1.to ?_
   try simp only[zv]
   refine Ac d1 d2.s25 ?_;by_cases p1:c.phase=1
   ·simp only[zv,vl,p1];rw[vn p1]at he;refine Ac (v:=vr (vz ⟨Q.bu,0,v6⟩)) d1 d2.s13 (RQ h1.fb λn vs' w2 hf2 h2=>?_);have h2':=h1.setB hf2 h2;have ht2:=ht1.trans (Ch.f hf2);refine A8 (λw'=>KB Q c.phase c.global w') λw3 hf3 _=>⟨(h2'.keep0 hf3).kb,?_⟩;have h3:=h2'.keep0 hf3;have ht3:=ht2.trans (Ch.w hf3);refine G1 (λw' hw=>⟨_,_,hw⟩) ?_
    refine Aq (v:=vq vy c.global) (S:=λw'=>KB Q c.phase c.global w') (λw' hw=>?_) ⟨A7 (XI c.global) ?_,trivial⟩
    ·obtain⟨cs',q1,q2⟩:=hw;exact⟨cs',_,_,q1,q2.2.2.2.2.2.2.2⟩
    have hw:=Dz.mk' w3 (wj #[vq vy c.global] 3);have h4:=h3.keep0 hw.fr;have ht4:=ht3.trans (Ch.w hw.fr);have hle:=h3.hp.le;have ov:BO (w3.alloc (wj #[vq vy c.global] 3)) (vt (vz ⟨w3.heap.size,0,v6⟩) 1 1) 3 1 (Ca [c.global]):=BO.of_block hw.at_ rfl (by simp) (by simp) rfl (by simp[Ca,wc.oneCell']) (by simp[Ca])
    refine⟨h4.kb,Mj h4 (l:=[c.global]) (by simp) ov (λg hg=>by simp[BM,wc.ownBlock]at hg;omega) λlv' w5 ht5 h5=>⟨h5.kb,?_⟩,trivial⟩;refine JP h5 λw6 ht6 h6=>ih _ _ w6 ?_ ((ht4.trans ht5).trans ht6) h6 he;rw[p1]at hr;show KJ 2<=d;unfold KJ at hr ⊢;simp at hr ⊢;omega
   simp only[zv,p1];rw[vm p1]at he;refine Ac d1 d2.s25 ?_;by_cases p2:c.phase=2
   ·simp only[zv,vl,p2];rw[vn p2]at he;refine h1.setN (i:=25) (n:=3) (c':={ c with phase:=3 }) (by omega) (by omega) rfl rfl rfl rfl rfl rfl rfl rfl rfl rfl rfl rfl λw2 ht2 h2=>ih _ _ w2 ?_ (ht1.trans ht2) h2 he;rw[p2]at hr;show KJ 3<=d;unfold KJ at hr ⊢;simp at hr ⊢;omega
   simp only[zv,p2];rw[vm p2]at he;refine Ac d1 d2.s25 ?_;by_cases p4:c.phase=4
   ·have rk:∀p:Int,p=3∨p=5->KJ p<=d:=λp hp=>by
     rw[p4]at hr;unfold KJ at hr ⊢;rcases hp with rfl|rfl<;>simp at hr ⊢<;>omega
    have back:∀w2 ,BX Q m cf w2 c->Ch Q m0 W m w2->¬(c.phase=4/\F1 c.b/\c.tIdle)->Ad (vr (vz ⟨Q.co,25,v6⟩)) w2 λx71 w51=>U .eql x71 (vq vy 4) w51 λx72 w52=>Af x72 (Aj 1 (vr (vz ⟨Q.co,25,v6⟩)) (vq vy 3) w52 λw55=>F149.l0 K (vr (vz ⟨Q.co,0,v6⟩)) w55) (K (vu #[]) w52):=λw2 h2 ht2 hno=>by
     obtain⟨cs2,e1,e2⟩:=h2.blk;rw[vm hno,vn p4]at he;refine Ac e1 e2.s25 ?_;simp only[zv,vl,p4];exact h2.setN (i:=25) (n:=3) (c':={ c with phase:=3 }) (by omega) (by omega) rfl rfl rfl rfl rfl rfl rfl rfl rfl rfl rfl rfl λw3 ht3 h3=>ih _ _ w3 (rk 3 (.inl rfl)) (ht2.trans ht3) h3 he
    simp only[zv,vl,p4];refine Ac (v:=vr (vz ⟨Q.bu,0,v6⟩)) d1 d2.s13 (TV h1.fb ?_);cases ze:F1 c.b with
    | false=>
     simp only[zv];exact back w1 h1 ht1 (λe=>by rw[ze]at e;simp at e)
    | true=>
     simp only[zv];refine Ac (v:=vr (vz ⟨Q.H.tr,0,v6⟩)) d1 d2.s14 (PT h1.hp λw2 hf2=>?_);have h2:=h1.keep0 hf2;have ht2:=ht1.trans (Ch.w hf2);cases zi:c.tIdle with
     | false=>
      simp only[Ae];exact back w2 h2 ht2 (λe=>by rw[zi]at e;simp at e)
     | true=>
      simp only[Ai];rw[vn ⟨p4,ze,zi⟩]at he;refine h2.setN (i:=25) (n:=5) (c':={ c with phase:=5 }) (by omega) (by omega) rfl rfl rfl rfl rfl rfl rfl rfl rfl rfl rfl rfl λw3 ht3 h3=>?_;obtain⟨cs3,e1,e2⟩:=h3.blk;refine Ac (v:=vr (vz ⟨Q.H.sw,0,v6⟩)) e1 e2.s15 (U2 h3.hp λw4 ht4 h4=>?_);have h5:=h3.setH (c':={ c with phase:=5,at_:=0,freed:=0 }) ht4 h4 rfl rfl rfl rfl rfl rfl rfl
      exact ih _ _ w4 (rk 5 (.inr rfl)) ((ht2.trans ht3).trans (Ch.h ht4)) h5 he
   ·simp only[zv,p4];rw[vm (λe=>p4 e.1),vm p4]at he;subst he;refine Ac d1 d2.s25 ?_;simp only[zv,p4];exact hk m w1 ht1 h1
def Mi(h:BX Q m cf w c)(hk:∀m' w',Ch Q m w m' w'->BX Q m' cf w' (c.adv cf)->K (vu #[]) w'):I vp 149 #[vr (vz ⟨Q.co,0,v6⟩)] w K:=
 F149.sh (RM (W:=w) (m0:=m) hk 4 c m w (by unfold KJ;split<;>(try split)<;>omega) (Ch.refl _ _ _) h rfl)
def NR(h:BX Q m cf w c)(hk:∀m' w',Ch Q m w m' w'->BX Q m' cf w' (c.beginC cf).1->K (vw (c.beginC cf).2) w'):I vp 162 #[vr (vz ⟨Q.co,0,v6⟩)] w K:=by
 obtain⟨cs,b1,b2⟩:=h.blk;refine F162.sh (FN h ?_);unfold Co.beginC at hk
 try simp only[zv]
 refine Ac b1 b2.s25 ?_;by_cases z:c.phase=0
 ·rw[vn z]at hk;simp only[zv,vl,z,vo,zQ];refine F162.k3.to ?_
  try simp only[zv]
  refine h.setN (i:=27) (n:=0) (c':={ c with units:=0 }) (by omega) (by omega) rfl rfl rfl rfl rfl rfl rfl rfl rfl rfl rfl rfl λw1 ht1 h1=>?_;refine JP h1 λw2 ht2 h2=>Mi h2 λm' w3 ht3 h3=>?_;exact hk m' w3 ((ht1.trans ht2).trans ht3) h3
 ·rw[vm z]at hk;simp only[zv,z,vo,zR];exact hk m w (Ch.refl _ _ _) h
def RP{t:Int}(h:BX Q m cf w c)(hk:∀w',Ch Q m w m w'->BX Q m cf w' (c.attach t)->K (vw (c.r.attach t).2) w'):I vp 98 #[vr (vz ⟨Q.co,0,v6⟩),vq vy t] w K:=by
 obtain⟨cs,b1,b2⟩:=h.blk;refine F98.sh (FN h ?_)
 try simp only[zv]
 refine Ac (v:=vr (vz ⟨Q.re,0,v6⟩)) b1 b2.s12 (Qj h.rg λw1 hf1 h1=>?_);have:=hk w1 (Ch.r hf1) (h.setR hf1 h1);exact this
end
section
variable{K:VK}{w w':wd}{Q:C3}{m:Mv}{cf:Cf}{c:Co}
def O4(h:BX Q m cf w c)(t:Int):(E0 c.b t).length<=2048:=by
 unfold E0;split
 ·by_cases hj:t.toNat<c.b.length
  ·have:=h.fb.few (zW hj);simpa[List.getD,hj] using this
  ·simp[List.getD,hj]
 ·simp
def RU{t:Int}(h:BX Q m cf w c)(hk:∀m' w',Ch Q m w m' w'->BX Q m' cf w' (c.detach cf t)->K (vw (c.r.live t)) w'):I vp 99 #[vr (vz ⟨Q.co,0,v6⟩),vq vy t] w K:=by
 obtain⟨cs,b1,b2⟩:=h.blk;refine F99.sh (Fp h ?_);unfold Co.detach at hk;cases z:c.r.live t with
 | false=>
  rw[z]at hk;simp only[yT,vg]at hk;simp only[zv];exact hk m w (Ch.refl _ _ _) h
 | true=>
  rw[z]at hk;simp only[vj]at hk;obtain⟨j,rfl,hj⟩:=HQ h z;simp only[zv];refine F99.k3.to ?_
  try simp only[zv]
  refine Ac (v:=vr (vz ⟨Q.bu,0,v6⟩)) b1 b2.s13 (KW h.fb λv vs' w1 hf1 h1 hv1 hb1=>?_);have h1':=h.setB hf1 h1;have ht1:Ch Q m w { m with vs:=vs' } w1:=Ch.f hf1;have hN:∀g∈BM v,Q.H.N<=g:=λg hg=>h.hv g (hb1 g hg);refine L4 h1' ?_;have em:({ c with b:=DE c.b (j:Int) }:Co).marking=c.marking:=rfl;rw[em];have fin:∀g2 m2 w2,Ch Q m w m2 w2->BX Q m2 cf w2 { c with b:=DE c.b (j:Int),g:=g2 }->
    (∀m' w',Ch Q m w m' w'->BX Q m' cf w' (({ c with b:=DE c.b (j:Int),g:=g2,th:=c.th.set (j:Int).toNat [],s:=c.s.quit (j:Int),r:=c.r.detach (j:Int) }:Co).adv cf)->K (vw v7) w')->
    F99.k6 K (vr (vz ⟨Q.co,0,v6⟩)) (vq vy (j:Int)) w2:=λg2 m2 w2 ht2 h2 hk=>by
   refine F99.k6.to ?_
   try simp only[zv]
   refine AU (by omega) (by omega) ?_;rw[zE,vb];obtain⟨cs2,e2,hr⟩:=h2.ro hj;refine Sh hr λw3 hf3 h3=>?_;have hts:j<m2.ts.length:=by rw[h2.len];exact hj
   have hf3':Fr (Q.co::BM m2.ts[j]) w2 w3:=hf3.mono λx hx=>by simp only[yZ]at hx;simp[hx]
   have h3':=h2.setT (tv':=vt v6 0 0) (l:=[]) hj hf3' e2 h3 (by simp[BM,wc.ownBlock]);have ht3:=ht2.trans (Ch.t (tv':=vt v6 0 0) hts hf3' (by simp[BM,wc.ownBlock]));obtain⟨cs3,d1,d2⟩:=h3'.blk;refine Ac (v:=vr (vz ⟨Q.H.D.st,0,v6⟩)) d1 d2.s0 (V8 h3'.hp.st λn w4 hf4 h4=>?_);obtain⟨ht4,h4'⟩:=h3'.setSt hf4 h4;obtain⟨cs4,f1,f2⟩:=h4'.blk
   refine Ac (v:=vr (vz ⟨Q.re,0,v6⟩)) f1 f2.s12 (Qm h4'.rg λb w5 hf5 h5=>?_);have h5':=h4'.setR hf5 h5;refine Mi h5' λm6 w6 ht6 h6=>?_;refine hk m6 w6 (((ht3.trans ht4).trans (Ch.r hf5)).trans ht6) ?_;rw[zE];exact h6
  cases zm:c.marking with
  | true=>
   rw[zm]at hk;simp only[Ai];refine Ta h1' (Mj h1' (O4 h j) hv1 hN λlv' w2 ht2 h2=>?_);exact fin _ _ w2 (ht1.trans ht2) h2 hk
  | false=>
   rw[zm]at hk;simp only[Ae];exact fin c.g _ w1 ht1 h1' hk
def V5{t:Int}(h:BX Q m cf w c)(hk:∀b m' w',Ch Q m w m' w'->BX Q m' cf w' (c.poll cf t)->K (vw b) w'):I vp 105 #[vr (vz ⟨Q.co,0,v6⟩),vq vy t] w K:=by
 obtain⟨cs,b1,b2⟩:=h.blk;refine F105.sh (FN h ?_);unfold Co.poll at hk
 try simp only[zv]
 refine Ac (v:=vr (vz ⟨Q.re,0,v6⟩)) b1 b2.s12 (PK h.rg λw1 hf1 h1=>?_);have h1':=h.setR hf1 h1;have ht1:Ch Q m w m w1:=Ch.r hf1;cases z:(c.r.confirm t).2 with
 | false=>
  rw[z]at hk;have e:(c.r.confirm t).1=c.r:=by
   unfold Rg.confirm at z ⊢;split at z
   ·simp at z
   ·rename_i hh;rw[vm hh]
  rw[e]at h1';simp only[yT,vg]at hk;simp only[zv];exact hk _ m w1 ht1 h1'
 | true=>
  rw[z]at hk;simp only[vj]at hk;have hlive:c.r.live t=v7:=by
   unfold Rg.confirm at z;split at z
   ·rename_i hh;exact hh.1
   ·simp at z
  obtain⟨j,rfl,hj⟩:=HQ h hlive;obtain⟨cs1,d1,d2⟩:=h1'.blk;simp only[zv];refine F105.k3.to ?_
  try simp only[zv]
  refine Ac d1 d2.s25 ?_;have fin:∀c2 m2 w2,Ch Q m w m2 w2->BX Q m2 cf w2 c2->(∀m' w',Ch Q m w m' w'->BX Q m' cf w' (c2.adv cf)->K (vw v7) w')->F105.k8 K (vr (vz ⟨Q.co,0,v6⟩)) w2:=λc2 m2 w2 ht2 h2 hk=>F105.k8.to (Mi h2 λm' w3 ht3 h3=>hk m' w3 (ht2.trans ht3) h3);by_cases p2:c.phase=2
  ·simp only[zv,vl,p2];rw[vn p2]at hk;refine A8 (λw'=>KB Q c.phase c.global w') λw2 hf2 _=>⟨(h1'.keep0 hf2).kb,?_⟩;have h2:=h1'.keep0 hf2;have ht2:=ht1.trans (Ch.w hf2);refine AU (by omega) (by omega) ?_;rw[zE,vb];obtain⟨cs2,e2,hr⟩:=h2.ro hj;refine G1 (λw' hw=>⟨_,_,hw⟩) ⟨VN hr λv w3 hf3 hn3 hv3=>?_,trivial⟩;have h3:=h2.keep0 hf3;have hle:=h2.hp.le
   have hl16:(c.th[j]'(by rw[h.tl];exact hj)).length<=16:=h.t16 _ (zW _);have hrl:=KG _ (c.th[j]'(by rw[h.tl];exact hj)) rfl;refine⟨h3.kb,Mj h3 (uw hrl (by omega)) hv3 (λg hg=>by have:=hn3.blk g hg;omega) λlv' w4 ht4 h4=>⟨h4.kb,?_⟩,trivial⟩;have eg:c.th.getD (j:Int).toNat []=c.th[j]'(by rw[h.tl];exact hj):=by simp[List.getD,h.tl,hj]
   rw[eg]at hk;exact fin _ _ w4 ((ht2.trans (Ch.w hf3)).trans ht4) h4 (λm' w'=>hk v7 m' w')
  simp only[zv,p2];rw[vm p2]at hk;by_cases p4:c.phase=4
  ·simp only[zv,vl,p4];rw[vn p4]at hk;refine A8 (λw'=>KB Q c.phase c.global w') λw2 hf2 _=>⟨(h1'.keep0 hf2).kb,?_⟩;have h2:=h1'.keep0 hf2;have ht2:=ht1.trans (Ch.w hf2);refine G1 (λw' hw=>⟨_,_,hw⟩) (Aq (v:=vr (vz ⟨Q.bu,0,v6⟩)) (λw' hw=>?_) ⟨KW h2.fb λv vs' w3 hf3 h3 hv3 hb3=>?_,trivial⟩)
   ·obtain⟨cs',q1,q2⟩:=hw;exact⟨cs',_,_,q1,q2.2.2.2.2.1⟩
   have h3':=h2.setB hf3 h3;have ht3:=ht2.trans (Ch.f hf3);refine⟨h3'.kb,Mj h3' (O4 h j) hv3 (λg hg=>h2.hv g (hb3 g hg)) λlv' w4 ht4 h4=>⟨h4.kb,?_⟩,trivial⟩;exact fin _ _ w4 (ht3.trans ht4) h4 (λm' w'=>hk v7 m' w')
  ·simp only[zv,p4];rw[vm p4]at hk;exact fin _ m w1 ht1 h1' (λm' w'=>hk v7 m' w')
def Wa(h:BX Q m cf w c)(hk:∀m' w',Ch Q m w m' w'->BX Q m' cf w' (c.unit cf).1->K (vw (c.unit cf).2) w'):I vp 280 #[vr (vz ⟨Q.co,0,v6⟩)] w K:=by
 obtain⟨cs,b1,b2⟩:=h.blk;refine F280.sh (JO h ?_);unfold Co.unit at hk;simp only at hk;have fin:∀(r:Co × Bool) m2 w2,Ch Q m w m2 w2->BX Q m2 cf w2 r.1->(∀m' w',Ch Q m w m' w'->BX Q m' cf w' (if r.2 then { r.1 with units:=CJ (r.1.units+1) } else r.1)->K (vw r.2) w')->
   F280.k13 K (vr (vz ⟨Q.co,0,v6⟩)) (vw r.2) w2:=λr m2 w2 ht2 h2 hk=>by
  refine F280.k13.to ?_;cases z:r.2 with
  | false=>
   rw[z]at hk;simp only[zv];exact F280.k15.to (hk m2 w2 ht2 h2)
  | true=>
   rw[z]at hk;simp only[vj]at hk;obtain⟨cs2,d1,d2⟩:=h2.blk;simp only[zv];refine Ac d1 d2.s27 ?_
   try simp only[AC]
   refine h2.setN (i:=27) (n:=CJ (r.1.units+1)) (c':={ r.1 with units:=CJ (r.1.units+1) }) (by omega) (by omega) rfl rfl rfl rfl rfl rfl rfl rfl rfl rfl rfl rfl λw3 ht3 h3=>?_;exact F280.k15.to (hk m2 w3 (ht2.trans ht3) h3)
 by_cases p3:c.phase=3
 ·simp only[zv,vl,p3];rw[vn p3]at hk;refine Ac (v:=vr (vz ⟨Q.H.tr,0,v6⟩)) b1 b2.s14 (U3 h.hp λlv' w1 ht1 h1=>?_);have hsame:(c.tUnit cf).1.r=c.r/\(c.tUnit cf).1.b=c.b/\(c.tUnit cf).1.th=c.th/\(c.tUnit cf).1.global=c.global/\(c.tUnit cf).1.phase=c.phase/\(c.tUnit cf).1.cycles=c.cycles/\(c.tUnit cf).1.units=c.units:=by
   unfold Co.tUnit;split
   ·simp
   ·split
    ·unfold Co.entry;simp only;split<;>simp
    ·split<;>simp[Co.look]
  obtain⟨q1,q2,q3,q4,q5,q6,q7⟩:=hsame;have h1':=h.setH ht1 h1 q1 q2 q3 q4 q5 q6 q7;have ht1':Ch Q m w { m with lv:=lv' } w1:=Ch.h ht1;cases e:(c.tUnit cf).2 with
  | true=>
   have e0:c.tUnit cf=((c.tUnit cf).1,v7):=by rw[<-e]
   rw[e0]at hk;simp only[zv];exact fin ((c.tUnit cf).1,v7) _ w1 ht1' h1' hk
  | false=>
   have e0:c.tUnit cf=((c.tUnit cf).1,v8):=by rw[<-e]
   rw[e0]at hk;simp only[zv];refine JP h1' λw2 ht2 h2=>Mi h2 λm3 w3 ht3 h3=>?_;exact fin ((((c.tUnit cf).1.raise 4).adv cf),v8) m3 w3 ((ht1'.trans ht2).trans ht3) h3 hk
 simp only[zv,p3];rw[vm p3]at hk;by_cases p5:c.phase=5
 ·simp only[zv,vl,p5];rw[vn p5]at hk;refine Ac (v:=vr (vz ⟨Q.H.sw,0,v6⟩)) b1 b2.s15 (U7 h.hp λlv' w1 ht1 h1=>?_);have swa:∀(l:List Int) (c:Co),(c.sweepAll l).r=c.r/\(c.sweepAll l).b=c.b/\(c.sweepAll l).th=c.th/\(c.sweepAll l).global=c.global/\(c.sweepAll l).phase=c.phase/\(c.sweepAll l).cycles=c.cycles/\(c.sweepAll l).units=c.units:=by
   intro l;induction l with
   | nil=>intro c;simp[Co.sweepAll]
   | cons a l ih=>
    intro c;rw[Co.sweepAll];have:=ih (c.sweepOne a);have e:(c.sweepOne a).r=c.r/\(c.sweepOne a).b=c.b/\(c.sweepOne a).th=c.th/\(c.sweepOne a).global=c.global/\(c.sweepOne a).phase=c.phase/\(c.sweepOne a).cycles=c.cycles/\(c.sweepOne a).units=c.units:=by unfold Co.sweepOne;split<;>simp
    obtain⟨a1,a2,a3,a4,a5,a6,a7⟩:=e;rw[a1,a2,a3,a4,a5,a6,a7]at this;exact this
  have hsame:(c.wUnit cf).1.r=c.r/\(c.wUnit cf).1.b=c.b/\(c.wUnit cf).1.th=c.th/\(c.wUnit cf).1.global=c.global/\(c.wUnit cf).1.phase=c.phase/\(c.wUnit cf).1.cycles=c.cycles/\(c.wUnit cf).1.units=c.units:=by
   unfold Co.wUnit;split
   ·simp
   ·exact swa _ c
  obtain⟨q1,q2,q3,q4,q5,q6,q7⟩:=hsame;have h1':=h.setH ht1 h1 q1 q2 q3 q4 q5 q6 q7;have ht1':Ch Q m w { m with lv:=lv' } w1:=Ch.h ht1;obtain⟨cs1,d1,d2⟩:=h1'.blk;generalize hd:(c.wUnit cf).1=d at *;generalize hb:(c.wUnit cf).2=did at *
  try simp only at hk
  refine Ac (v:=vr (vz ⟨Q.H.sw,0,v6⟩)) d1 d2.s15 (PN h1'.hp λw2 hf2=>?_);have h2:=h1'.keep0 hf2;have ht2:=ht1'.trans (Ch.w hf2);by_cases z:cf.pages<=d.at_
  ·simp only[zv,z];rw[vn z]at hk;refine h2.setN (i:=25) (n:=0) (c':={ d with phase:=0 }) (by omega) (by omega) rfl rfl rfl rfl rfl rfl rfl rfl rfl rfl rfl rfl λw3 ht3 h3=>?_;obtain⟨cs3,f1,f2⟩:=h3.blk;refine Ac f1 f2.s26 ?_
   try simp only[AC]
   refine h3.setN (i:=26) (n:=CJ (d.cycles+1)) (c':={ d with phase:=0,cycles:=CJ (d.cycles+1) }) (by omega) (by omega) rfl rfl rfl rfl rfl rfl rfl rfl rfl rfl rfl rfl λw4 ht4 h4=>?_;exact fin ({ d with phase:=0,cycles:=CJ (d.cycles+1) },did) _ w4 ((ht2.trans ht3).trans ht4) h4 hk
  ·simp only[zv,z];rw[vm z]at hk;exact fin (d,did) _ w2 ht2 h2 hk
 ·simp only[zv,p5];rw[vm p5]at hk;exact fin (c,v8) m w (Ch.refl _ _ _) h hk
end
section
variable{K:VK}{w w':wd}{Q:C3}{m:Mv}{cf:Cf}{c:Co}
def TC{v:V2}(h:BX Q m cf w c)(hk:∀w',Fr [] w w'->K (vw (c.may v)) w'):I vp 225 #[vr (vz ⟨Q.co,0,v6⟩),V v.1 v.2] w K:=by
 refine F225.sh (Ay λx w1 hn=>A8 (λw'=>KB Q c.phase c.global w'/\w'.heap[x]?=vz (wj #[vq vy v.1,vq vy v.2] 60 (0,0))) λw2 hf2 _=>?_);have f2:=hn.fr.trans hf2;have h2:=h.keep0 f2;have x2:=hf2.at_ hn.at_ (by simp);refine⟨⟨h2.kb,x2⟩,?_⟩;unfold Co.may at hk;refine AR (vs:=[vq vy v.1,vq vy v.2]) (λw' hw=>⟨_,_,_,hw.2,by simp,rfl⟩) ⟨FV v.1 v.2 λw3 hf3=>?_,trivial⟩;have h3:=h2.keep0 hf3
 have x3:=hf3.at_ x2 (by simp);have f3:=f2.trans hf3;refine⟨⟨h3.kb,x3⟩,?_⟩;by_cases z1:D8 v.1 v.2=0
 ·have e1:Dk v=v7:=by simpa[Dk] using z1
  rw[e1]at hk;simp only[zv,vl,z1];refine Aq (v:=vq vy v.1) (λw' hw=>⟨_,_,_,hw.2,rfl⟩) ?_;by_cases z2:v.1=2
  ·rw[o8 z2]at hk;simp only[zv,vl,z2,vo,zQ];refine Aq (v:=vr (vz ⟨Q.H.D.st,0,v6⟩)) (λw' hw=>?_) (Aq (v:=vq vy v.2) (λw' hw=>⟨_,_,_,hw.2,rfl⟩) ⟨Gp h3.hp.st ⟨⟨h3.kb,by have:=x3;simp only[V,wc.cells,z2]at this;exact this⟩,?_⟩,trivial⟩)
   ·obtain⟨⟨cs',q1,q2⟩,_⟩:=hw;exact⟨cs',_,_,q1,q2.2.1⟩
   by_cases z3:c.s.fields v.2≥0
   ·have:=hk w3 f3;simp only[zv,z3];simpa[show 0<=c.s.fields v.2 from z3] using this
   ·have:=hk w3 f3;simp only[zv,z3];simpa[show ¬ 0<=c.s.fields v.2 from z3] using this
  ·rw[m8 z2]at hk;simp only[zv,z2,vo,zR];exact⟨⟨⟨h3.kb,x3⟩,by simpa using hk w3 f3⟩,trivial⟩
 ·have e1:Dk v=v8:=by simpa[Dk] using z1
  rw[e1]at hk;simp only[zv,z1];exact⟨⟨⟨h3.kb,x3⟩,by simpa using hk w3 f3⟩,trivial⟩
def Qg{t:Int}{v:V2}(h:BX Q m cf w c)(hk:∀m' w',Ch Q m w m' w'->BX Q m' cf w' (c.push t v).1->K (vw (c.push t v).2) w'):I vp 154 #[vr (vz ⟨Q.co,0,v6⟩),vq vy t,V v.1 v.2] w K:=by
 refine F154.sh (Ay λx w1 hn=>A8 (λw'=>w'.heap[x]?=vz (wj #[vq vy v.1,vq vy v.2] 60 (0,0))) λw2 hf2 _=>?_);have l1:=hn.is;have f2:=hn.fr.trans hf2;have h2:=h.keep0 f2;have x2:=hf2.at_ hn.at_ (by simp);unfold Co.push at hk;refine⟨x2,Fp h2 ⟨x2,?_⟩,trivial⟩;cases z:c.r.live t with
 | false=>
  rw[z]at hk;simp only[yT,false_and,vg]at hk;simp only[zv];exact⟨⟨x2,⟨⟨x2,hk m w2 (Ch.w f2) h2⟩,trivial⟩⟩,trivial⟩
 | true=>
  rw[z]at hk;obtain⟨j,rfl,hj⟩:=HQ h z;have e:c.th.getD (j:Int).toNat []=c.th[j]'(by rw[h.tl];exact hj):=by simp[List.getD,h.tl,hj]
  rw[e]at hk;simp only[zv];refine AR (vs:=[vq vy v.1,vq vy v.2]) (λw' hw=>⟨_,_,_,hw,by simp,rfl⟩) ⟨TC (v:=v) h2 λw3 hf3=>?_,trivial⟩;have h3:=h2.keep0 hf3;have x3:=hf3.at_ x2 (by simp);have f3:=f2.trans hf3;refine⟨x3,?_⟩;cases y:c.may v with
  | false=>
   rw[y]at hk;simp only[yT,false_and,and_false,vg]at hk;simp only[zv];exact⟨⟨x3,hk m w3 (Ch.w f3) h3⟩,trivial⟩
  | true=>
   rw[y]at hk;have hvok:Dk v=v7:=by unfold Co.may at y;simp only[zS]at y;exact y.1
   simp only[zv];refine AU (by omega) (by omega) ?_;rw[zE,vb];obtain⟨cs3,e3,hr⟩:=h3.ro hj;have hts:j<m.ts.length:=by rw[h.len];exact hj
   have nx:x∉Q.co::BM m.ts[j]:=λee=>by
    simp only[un]at ee;rcases ee with ee|ee
    ·obtain⟨cs0,b1,_⟩:=h.blk;have:=BP b1;omega
    ·have:=h.th.lt x (CH hts ee);omega
   refine AR (vs:=[vq vy v.1,vq vy v.2]) (λw' hw=>⟨_,_,_,hw,by simp,rfl⟩) ⟨Ur (v:=v) hr (λhc tv' w4 hf4 h4 hg4=>?_) (λhc w4 hf4=>?_),trivial⟩
   ·rw[vn ⟨rfl,rfl,hc.2⟩]at hk;refine⟨hf4.at_ x3 nx,?_⟩;have:=hk _ w4 ((Ch.w f3).trans (Ch.t hts hf4 hg4)) (by rw[zE];exact h3.setT hj hf4 e3 h4 hg4);exact this
   ·rw[vm (λee=>hc ⟨hvok,ee.2.2⟩)]at hk;refine⟨hf4.at_ x3 (by simp),?_⟩;exact hk m w4 (Ch.w (f3.trans hf4)) (h3.keep0 hf4)
def TE{t:Int}(h:BX Q m cf w c)(hk:∀m' w',Ch Q m w m' w'->BX Q m' cf w' (c.pop t).1->K (match (c.pop t).2 with | vz v=>vu #[V v.1 v.2,vw v7] | v6=>vu #[V 0 0,vw v8]) w'):
  I vp 102 #[vr (vz ⟨Q.co,0,v6⟩),vq vy t] w K:=by
 refine F102.sh (Ay λx w1 hn=>Fp (h.keep0 hn.fr) ?_);have l1:=hn.is;have h1:=h.keep0 hn.fr;unfold Co.pop at hk;cases z:c.r.live t with
 | false=>
  rw[z]at hk;simp only[yT,vg]at hk;simp only[zv];refine A7 EI (AB hn.at_ rfl Cb rfl λw3 hu=>A5 hu.at_ rfl ?_);have f3:Fr [] w w3:=hn.fr.then hu.fr (by simp;omega);exact hk m w3 (Ch.w f3) (h.keep0 f3)
 | true=>
  rw[z]at hk;simp only[vj]at hk;obtain⟨j,rfl,hj⟩:=HQ h z;have e:c.th.getD (j:Int).toNat []=c.th[j]'(by rw[h.tl];exact hj):=by simp[List.getD,h.tl,hj]
  rw[e]at hk;simp only[zv];refine F102.k3.to ?_
  try simp only[zv]
  refine AU (by omega) (by omega) ?_;rw[zE,vb];obtain⟨cs3,e3,hr⟩:=h1.ro hj;have hts:j<m.ts.length:=by rw[h.len];exact hj
  have hco:Q.co<w.heap.size:=by obtain⟨cs0,b1,_⟩:=h.blk;exact BP b1
  refine VE hr (λv hv tv' w2 hf2 h2 hb2=>?_) (λhnil w2 hf2=>?_)
  ·rw[hv]at hk;simp only at hk
   try simp only[zv]
   have hg2:∀y∈BM tv',y∈BM m.ts[j]∨w1.heap.size<=y:=λy hy => .inl (hb2 ▸ hy);have hf2':Fr (Q.co::BM m.ts[j]) w1 w2:=hf2.mono λy hy=>by simp only[yZ]at hy;simp[hy]
   have h2':=h1.setT hj hf2' e3 h2 hg2;have ht2:Ch Q m w _ w2:=(Ch.w hn.fr).trans (Ch.t hts hf2' hg2);refine AB (x:=V v.1 v.2) (hf2.at_ hn.at_ (by simp;omega)) rfl Cb rfl λw3 hu=>A5 hu.at_ rfl ?_;refine hk { m with ts:=m.ts.set j tv' } w3 ⟨ht2.fr.then hu.fr (by simp;omega),ht2.gr⟩ ?_;rw[zE];refine h2'.keep hu.fr λy hy ey=>?_;simp only[yZ]at ey;subst ey;simp only[C3.all,Mv.all,j4]at hy;have lo:=h.hp.le
   rcases hy with d|d|d|d|d|d
   ·have:=h.low (x:=y) (by simp[d]);omega
   ·have:=h.low (x:=y) (by simp[d]);omega
   ·have:=h.low (x:=y) (by simp[d]);omega
   ·have:=h.hp.gy.stk.own.lt (Cl.1 d);omega
   ·have:=h.fb.fam.lt y d;omega
   ·rcases DB d with q|q
    ·have:=h.th.lt y q;omega
    ·rw[hb2]at q;have:=h.th.lt y (CH hts q);omega
  ·rw[hnil]at hk;simp only[List.getLast?_nil]at hk
   try simp only[zv]
   refine AB (x:=V 0 0) (hf2.at_ hn.at_ (by simp)) rfl Cb rfl λw3 hu=>A5 hu.at_ rfl ?_;have f3:Fr [] w w3:=(hn.fr.trans hf2).then hu.fr (by simp;omega);exact hk m w3 (Ch.w f3) (h.keep0 f3)
def Vu{t n:Int}(h:BX Q m cf w c)(hk:∀m' w',Ch Q m w m' w'->BX Q m' cf w' (c.fast cf t n).1->K (match (c.fast cf t n).2 with | vz a=>vu #[vq vy a,vw v7] | v6=>vu #[vq vy 0,vw v8]) w'):
  I vp 151 #[vr (vz ⟨Q.co,0,v6⟩),vq vy t,vq vy n] w K:=by
 obtain⟨cs,b1,b2⟩:=h.blk;refine F151.sh (Fp h ?_);unfold Co.fast at hk;cases z:c.r.live t with
 | false=>
  rw[z]at hk;simp only[yT,vg]at hk;simp only[zv];exact hk m w (Ch.refl _ _ _) h
 | true=>
  rw[z]at hk;simp only[vj]at hk;simp only[zv];refine F151.k3.to ?_
  try simp only[zv]
  refine Ac (v:=vr (vz ⟨Q.H.D.st,0,v6⟩)) b1 b2.s0 (Mw h.hp.st λw1 hf1 h1=>?_);obtain⟨ht1,h1'⟩:=h.setSt hf1 h1;cases e:(c.s.fast t n).2 with
  | none=>
   have e0:c.s.fast t n=(c.s,v6):=by
    unfold St.fast at e ⊢;split at e
    ·rename_i y;rw[vn y]
    ·rename_i y;rw[vm y];split at e
     ·rfl
     ·simp at e
   rw[e0]at hk h1';simp only[zv];exact F151.k6.to (hk m w1 ht1 h1')
  | some a=>
   have e0:c.s.fast t n=((c.s.fast t n).1,vz a):=by rw[<-e]
   rw[e0]at hk;simp only at hk;simp only[zv];refine A8 (λw'=>KB Q c.phase c.global w') λw2 hf2 _=>⟨(h1'.keep0 hf2).kb,?_⟩;have h2:=h1'.keep0 hf2;refine G1 (λw' hw=>⟨_,_,hw⟩) (Aq (v:=vq vy c.phase) (λw' hw=>?_) (Aq (v:=vr (vz ⟨Q.H.sw,0,v6⟩)) (λw' hw=>?_) ⟨Vk h2.hp ⟨h2.kb,NX (c:={ c with s:=(c.s.fast t n).1 }) h2 λlv' w3 ht3 h3=>⟨?_,?_⟩,trivial⟩,trivial⟩))
   ·obtain⟨cs',q1,q2⟩:=hw;exact⟨cs',_,_,q1,q2.2.2.2.2.2.2.1⟩
   ·obtain⟨cs',q1,q2⟩:=hw;exact⟨cs',_,_,q1,q2.2.2.2.2.2.1⟩
   ·have:=h3.kb;rw[(GI a).1,(GI a).2]at this;exact this
   ·exact F151.k6.to (hk _ w3 ((ht1.trans (Ch.w hf2)).trans ht3) h3)
def VT{t n:Int}(h:BX Q m cf w c)(hk:∀m' w',Ch Q m w m' w'->BX Q m' cf w' (c.slow cf t n).1->K (vu #[vq vy (c.slow cf t n).2.1,vq vy (c.slow cf t n).2.2]) w'):
  I vp 223 #[vr (vz ⟨Q.co,0,v6⟩),vq vy t,vq vy n] w K:=by
 obtain⟨cs,b1,b2⟩:=h.blk;refine F223.sh (FN h ?_)
 try simp only[zv]
 refine Fp h ?_;unfold Co.slow at hk;cases z:c.r.live t with
 | false=>
  rw[z]at hk;simp only[yT,vg]at hk;simp only[zv];exact hk m w (Ch.refl _ _ _) h
 | true=>
  rw[z]at hk;simp only[vj]at hk;simp only[zv];refine F223.k5.to ?_
  try simp only[zv]
  refine Ac (v:=vr (vz ⟨Q.H.D.st,0,v6⟩)) b1 b2.s0 (Oo h.hp.st λw1 hf1 h1=>?_);obtain⟨ht1,h1'⟩:=h.setSt hf1 h1;generalize c.s.slow cf.pages.toNat (cf.threads+1) t n=r at *
  try simp only[zv]
  by_cases y:r.2.2=0
  ·simp only[y,vj]at hk;simp only[zv,vl,y];refine A8 (λw'=>KB Q c.phase c.global w') λw2 hf2 _=>⟨(h1'.keep0 hf2).kb,?_⟩;have h2:=h1'.keep0 hf2;refine G1 (λw' hw=>⟨_,_,hw⟩) (Aq (v:=vq vy c.phase) (λw' hw=>?_) (Aq (v:=vr (vz ⟨Q.H.sw,0,v6⟩)) (λw' hw=>?_) ⟨Vk h2.hp ⟨h2.kb,NX (c:={ c with s:=r.1 }) h2 λlv' w3 ht3 h3=>⟨?_,?_⟩,trivial⟩,trivial⟩))
   ·obtain⟨cs',q1,q2⟩:=hw;exact⟨cs',_,_,q1,q2.2.2.2.2.2.2.1⟩
   ·obtain⟨cs',q1,q2⟩:=hw;exact⟨cs',_,_,q1,q2.2.2.2.2.2.1⟩
   ·have:=h3.kb;rw[(GI r.2.1).1,(GI r.2.1).2]at this;exact this
   ·exact F223.k8.to (hk _ w3 ((ht1.trans (Ch.w hf2)).trans ht3) h3)
  ·simp only[vm y]at hk;simp only[zv,y];exact F223.k8.to (hk m w1 ht1 h1')
def PI{t:Int}(h:BX Q m cf w c)(hk:∀w',Fr [] w w'->K (vw (c.barrier t)) w'):I vp 231 #[vr (vz ⟨Q.co,0,v6⟩),vq vy t] w K:=by
 refine F231.sh (A8 (λw'=>KB Q c.phase c.global w') λw1 hf1 _=>⟨(h.keep0 hf1).kb,?_⟩);have h1:=h.keep0 hf1;have hk:=hk w1 hf1;refine⟨L4 h1 ⟨h1.kb,?_⟩,trivial⟩;unfold Co.barrier at hk;cases z:c.marking with
 | true=>
  rw[z]at hk;simp only[zv];exact⟨⟨h1.kb,⟨⟨h1.kb,by simpa using hk⟩,trivial⟩⟩,trivial⟩
 | false=>
  rw[z]at hk;simp only[zv];refine Aq (v:=vq vy c.phase) (λw' hw=>?_) ?_
  ·obtain⟨cs',q1,q2⟩:=hw;exact⟨cs',_,_,q1,q2.2.2.2.2.2.2.1⟩
  have gre:∀w',KB Q c.phase c.global w'->∃cs e fz,w'.heap[Q.co]?=vz (wj cs e fz)/\cs[0+12]?=vz (vr (vz ⟨Q.re,0,v6⟩)):=λw' hw=>by
   obtain⟨cs',q1,q2⟩:=hw;exact⟨cs',_,_,q1,q2.2.2.2.1⟩
  by_cases y:c.phase=1
  ·rw[o8 y]at hk;simp only[zv,vl,y];refine Aq (v:=vr (vz ⟨Q.re,0,v6⟩)) (λw' hw=>by have:=gre w' (y ▸ hw);simpa using this) (Aq (v:=vr (vz ⟨Q.re,0,v6⟩)) (λw' hw=>by have:=gre w' (y ▸ hw);simpa using this) ⟨WW h1.rg ⟨y ▸ h1.kb,⟨TX h1.rg ⟨y ▸ h1.kb,?_⟩,trivial⟩⟩,trivial⟩);by_cases x:c.r.ofT t=c.r.ep
   ·simp only[zv,vl,x]at hk ⊢;simpa using hk
   ·simp only[zv,x]at hk ⊢;simpa[x] using hk
  ·rw[m8 y]at hk;simp only[zv,y];exact⟨⟨h1.kb,⟨⟨h1.kb,by simpa using hk⟩,trivial⟩⟩,trivial⟩
def U8{t a i:Int}{v:V2}(h:BX Q m cf w c)(hk:∀m' w',Ch Q m w m' w'->BX Q m' cf w' (c.write t a i v).1->K (vw (c.write t a i v).2) w'):
  I vp 159 #[vr (vz ⟨Q.co,0,v6⟩),vq vy t,vq vy a,vq vy i,V v.1 v.2] w K:=by
 refine F159.sh (Ay λx w1 hn=>Fp (h.keep0 hn.fr) ?_);have l1:=hn.is;have h1:=h.keep0 hn.fr;have x1:=hn.at_;unfold Co.write at hk;cases z:c.r.live t with
 | false=>
  rw[z]at hk;simp only[yT,false_and,vg]at hk;simp only[zv];exact hk m w1 (Ch.w hn.fr) h1
 | true=>
 rw[z]at hk;simp only[zv];refine A5 x1 rfl (TC (v:=v) h1 λw2 hf2=>?_);have h2:=h1.keep0 hf2;have x2:=hf2.at_ x1 (by simp);have f2:=hn.fr.trans hf2;cases y:c.may v with
 | false=>
  rw[y]at hk;simp only[yT,false_and,and_false,vg]at hk;simp only[zv];exact hk m w2 (Ch.w f2) h2
 | true=>
 rw[y]at hk;simp only[zv];obtain⟨cs2,d1,d2⟩:=h2.blk;refine F159.k3.to ?_
 try simp only[zv]
 refine Ac (v:=vr (vz ⟨Q.H.D.st,0,v6⟩)) d1 d2.s0 (OZ h2.hp.st λw3 hf3=>?_)
 try simp only[zv]
 refine Ay λu w4 hn4=>AB (x:=V (c.s.get a i).1.1 (c.s.get a i).1.2) hn4.at_ rfl Cb rfl λw5 hu5=>?_;have l4:=hn4.is;have s3:=hf3.size;have f25:Fr [] w2 w5:=(hf3.trans hn4.fr).then hu5.fr (by simp;omega);have h5:=h2.keep0 f25;have x5:=f25.at_ x2 (by simp);have u5:=hu5.at_;have f5:=f2.trans f25;cases hg:(c.s.get a i).2 with
 | false=>
  rw[hg]at hk;simp only[yT,and_false,vg]at hk;simp only[zv];exact hk m w5 (Ch.w f5) h5
 | true=>
 rw[hg]at hk;simp only[and_self,vj]at hk;simp only[zv];refine F159.k6.to ?_
 try simp only[zv]
 refine Ac (v:=vq vy (c.s.get a i).1.2) u5 rfl ?_;refine Ac (v:=vq vy (c.s.get a i).1.1) u5 rfl ?_;have fin:∀b' m6 w6,Ch Q m w m6 w6->BX Q m6 cf w6 { c with b:=b' }->w6.heap[x]?=vz (wj #[vq vy v.1,vq vy v.2] 60 (0,0))->
   (∀m' w',Ch Q m w m' w'->BX Q m' cf w' { c with b:=b',s:=(c.s.set a i v).1 }->K (vw (c.s.set a i v).2) w')->
   F159.k9 K (vr (vz ⟨Q.co,0,v6⟩)) (vq vy a) (vq vy i) (vr (vz ⟨x,0,v6⟩)) w6:=λb' m6 w6 ht6 h6 x6 hk=>by
  refine F159.k9.to (A8 (λw'=>KB Q c.phase c.global w'/\w'.heap[x]?=vz (wj #[vq vy v.1,vq vy v.2] 60 (0,0))) λw7 hf7 _=>⟨⟨(h6.keep0 hf7).kb,hf7.at_ x6 (by simp)⟩,?_⟩);have h7:=h6.keep0 hf7;have x7:=hf7.at_ x6 (by simp)
  try simp only[zv]
  refine Aq (v:=vr (vz ⟨Q.H.D.st,0,v6⟩)) (λw' hw=>?_) (AR (vs:=[vq vy v.1,vq vy v.2]) (λw' hw=>⟨_,_,_,hw.2,by simp,rfl⟩) ⟨VS (v:=v) h7.hp.st λw8 hf8 h8=>?_,trivial⟩)
  ·obtain⟨⟨cs',q1,q2⟩,_⟩:=hw;exact⟨cs',_,_,q1,q2.2.1⟩
  obtain⟨ht8,h8'⟩:=h7.setSt hf8 h8;refine⟨⟨h8'.kb,hf8.at_ x7 (λe=>?_)⟩,hk m6 w8 ((ht6.trans (Ch.w hf7)).trans ht8) h8'⟩;have:=h.hp.st.ltS x e;omega
 by_cases q1:(c.s.get a i).1.1=2
 ·simp only[zv,vl,q1];obtain⟨cs5,e1,e2⟩:=h5.blk;refine Ac (v:=vr (vz ⟨Q.H.G.gr,0,v6⟩)) e1 e2.s1 (T9 h5.hp.gy ?_);cases q2:c.g.is (c.s.get a i).1.2 with
  | true=>
   simp only[zv];rw[vm (λee=>by simp[q2]at ee)]at hk;exact fin c.b m w5 (Ch.w f5) h5 x5 hk
  | false=>
   simp only[zv];refine PI h5 λw6 hf6=>?_;have h6:=h5.keep0 hf6;have x6:=hf6.at_ x5 (by simp);cases q3:c.barrier t with
   | false=>
    simp only[Ae];rw[vm (λee=>by simp[q3]at ee)]at hk;exact fin c.b m w6 (Ch.w (f5.trans hf6)) h6 x6 hk
   | true=>
    simp only[Ai];rw[vn ⟨q1,by simp[q2],q3⟩]at hk;obtain⟨cs6,g1,g2⟩:=h6.blk;refine Ac (v:=vr (vz ⟨Q.bu,0,v6⟩)) g1 g2.s13 (Vm h6.fb λcc vs' w7 hf7 h7=>?_);have h7':=h6.setB hf7 h7;have x7:=hf7.fr.at_ x6 (λee=>by
     rw[j4]at ee;rcases ee with ee|ee
     ·have:=h.fb.own.lt (Cl.1 ee);omega
     ·have:=h.fb.fam.lt x ee;omega)
    exact fin _ _ w7 ((Ch.w (f5.trans hf6)).trans (Ch.f hf7)) h7' x7 hk
 ·simp only[zv,q1];rw[vm (λee=>q1 ee.1)]at hk;exact fin c.b m w5 (Ch.w f5) h5 x5 hk
end
def bk(i o l:Int)(made:Bool)(m:Int):Obj:=wj #[vq vy i,vq vy o,vq vy l,vw made,vq vy m] 145 (0,0)
def Dj(n lo hi:Int):Int:=if n<lo then lo else if n>hi then hi else n
def MF(n lo hi:Int)(h:lo<=hi):lo<=Dj n lo hi/\Dj n lo hi<=hi:=by unfold Dj;omega
section
variable{K:VK}{w:wd}
def FF(n lo hi:Int)(h:K (vq vy (Dj n lo hi)) w):I vp 66 #[vq vy n,vq vy lo,vq vy hi] w K:=by refine F66.sh ?_;simp only[zv,B7,zP,xU];unfold Dj at h;refine⟨λh1=>by rwa [vn h1]at h,λh1=>?_⟩;rw[vm h1]at h;refine⟨λh2=>by rwa [vn h2]at h,λh2=>?_⟩;rw[vm h2]at h;exact F66.k5.to h
def MA{g:Nat}{i o l m:Int}{made:Bool}(hg:w.heap[g]?=vz (bk i o l made m))(h:K (vw made) w):I vp 281 #[vr (vz ⟨g,0,v6⟩)] w K:=by refine F281.sh ?_;refine⟨_,CN _ _ _ Tryz.underlying91,?_⟩;simp only[zv];refine Ac (v:=vw made) hg rfl ?_;simpa only[Ai,Ae,Az,Ax,A3,Ah,An,AC,AO,AT,Ap,AD,Au,AX,AL,AF,Bk,AW,A9,AA,AZ,Ba,Bb,Ao,AJ,AI,AQ,p7,m9,uy,vl,decide_true,u4] using h
def Pw{g:Nat}{i o l m:Int}{made:Bool}(hg:w.heap[g]?=vz (bk i o l made m))(h:∀w',Fr [] w w'->w'.heap=w.heap->K (vq vy (IntKind.i64.wrap (i-o))) w'):
  I vp 302 #[vr (vz ⟨g,0,v6⟩)] w K:=by refine F302.sh (A8 (λw'=>w'.heap[g]?=vz (bk i o l made m)) λw1 hf he=>⟨by rw[he];exact hg,?_⟩);simp only[zv];refine Aq (v:=vq vy i) (λw' hw=>⟨_,_,_,hw,rfl⟩) (Aq (v:=vq vy o) (λw' hw=>⟨_,_,_,hw,rfl⟩) ?_);simp only[AO];exact h w1 hf he
def UD{g:Nat}{i o l m:Int}(hg:w.heap[g]?=vz (bk i o l v7 m))(h:K (vr (vz ⟨g,0,v6⟩)) w):I vp 301 #[vr (vz ⟨g,0,v6⟩)] w K:=by refine F301.sh (MA hg ?_);simp only[zv];refine F301.k3.to ?_;simp only[zv];exact h
def HE{g:Nat}{i o l m:Int}(hg:w.heap[g]?=vz (bk i o l v7 m))(h:∀w',Fr [] w w'->w'.heap=w.heap->K (vq vy (IntKind.i64.wrap (i-o))) w'):
  I vp 274 #[vr (vz ⟨g,0,v6⟩)] w K:=F274.sh (UD hg (Pw hg h))
structure RR(i o l m:Int):Prop where
 m1:m<=65535
 b0:0<=i-o
 b1:i-o<=m
 i0:0<=i
 o0:0<=o
 l0:0<=l
 i1:i<=1152921504606846976
 l1:l<=1152921504606846976
def UE{g:Nat}{i o l m:Int}(n:Int)(hg:w.heap[g]?=vz (bk i o l v7 m))(hk:RR i o l m)(h:∀w',Fr [g] w w'->w'.heap[g]?=vz (bk (i+min (Dj n 0 2147483648) (m-(i-o))) o (l+(Dj n 0 2147483648-min (Dj n 0 2147483648) (m-(i-o)))) v7 m)->K (vq vy (min (Dj n 0 2147483648) (m-(i-o)))) w'):
  I vp 235 #[vr (vz ⟨g,0,v6⟩),vq vy n] w K:=by
 obtain⟨h1,h2,h3,h4,h5,h6,h7,h8⟩:=hk;refine F235.sh (MA hg ?_);simp only[zv];refine F235.k3.to (FF _ _ _ ?_);have hc:=MF n 0 2147483648 (by omega);generalize Dj n 0 2147483648=c at *;refine A8 (λw'=>w'.heap[g]?=vz (bk i o l v7 m)) λw1 hf1 he1=>⟨by rw[he1];exact hg,?_⟩;have hg1:w1.heap[g]?=vz (bk i o l v7 m):=by rw[he1];exact hg
 simp only[zv];refine Aq (v:=vq vy m) (λw' hw=>⟨_,_,_,hw,rfl⟩) ⟨HE hg1 λw2 hf2 he2=>?_,trivial⟩;have hg2:w2.heap[g]?=vz (bk i o l v7 m):=by rw[he2];exact hg1
 refine⟨hg2,?_⟩;rw[BN (n:=i-o) (by omega)];simp only[AO];rw[BN (n:=m-(i-o)) (by omega)];generalize hq:min c (m-(i-o))=q at *;refine⟨_,λw' _=>G2 _ _ _ _ _ _,?_⟩;rw[hq];refine Ac (v:=vq vy i) hg2 rfl ?_;simp only[zv];rw[BN (n:=i+q) (by omega)];refine AM hg2 rfl rfl (by simp) λw3 hu3=>?_;refine Ac (v:=vq vy l) hu3.at_ rfl ?_;simp only[AC];rw[BN (n:=c-q) (by omega),BN (n:=l+(c-q)) (by omega)]
 refine AM hu3.at_ rfl rfl (by simp) λw4 hu4=>?_;refine h w4 ?_ hu4.at_;exact (hf1.w.trans hf2.w).trans (hu3.fr.trans hu4.fr)
def QA{g:Nat}{i o l m:Int}(n:Int)(hg:w.heap[g]?=vz (bk i o l v7 m))(hk:RR i o l m)(h:∀w',Fr [g] w w'->w'.heap[g]?=vz (bk i (o+Dj n 0 (i-o)) l v7 m)->K (vq vy (Dj n 0 (i-o))) w'):
  I vp 275 #[vr (vz ⟨g,0,v6⟩),vq vy n] w K:=by
 obtain⟨h1,h2,h3,h4,h5,h6,h7,h8⟩:=hk;refine F275.sh (MA hg ?_);simp only[zv];refine F275.k3.to (HE hg λw1 hf1 he1=>?_);rw[BN (n:=i-o) (by omega)];refine FF _ _ _ ?_;have hc:=MF n 0 (i-o) (by omega);generalize Dj n 0 (i-o)=c at *;have hg1:w1.heap[g]?=vz (bk i o l v7 m):=by rw[he1];exact hg
 simp only[zv];refine Ac (v:=vq vy o) hg1 rfl ?_;simp only[AC];rw[BN (n:=o+c) (by omega)];refine AM hg1 rfl rfl (by simp) λw2 hu2=>?_;exact h w2 (hf1.w.trans hu2.fr) hu2.at_
def UB(b:Bool)(m:Int):(Instr.build 145 #[(1,vw b),(2,vq vy m)]).run vp w=.ok (.agg #[vq vy 0,vq vy 0,vq vy 0,vw b,vq vy m]) w:=by kernel_rfl
def UC(n:Int)(h:∀g w',Dz w g (bk 0 0 0 v7 (Dj n 0 65535)) w'->K (vr (vz ⟨g,0,v6⟩)) w'):I vp 44 #[vq vy n] w K:=by refine F44.sh (FF _ _ _ ⟨_,_,UB _ _,?_⟩);exact Ay h
structure Mq(B i o l m:Int):Prop extends RR i o l m where
 iB:i<=B
 lB:l<=B
end
end
noncomputable section
variable{K:VK}{w:wd}{x0 x1 y0 y1 y6 y7 y8:wc}
namespace F238
def ann:Cd:=⟨[(3,[0,1]),(6,[0,6]),(9,[7,8]),(10,[7])],[(8,[7,8])],[],[(9,(tk [0,1,2,4,5,3,6] (.go 7 (tk [8,9] .fin) .fin)))],v6⟩
def code:=cd f238
def BL:=tp f238
variable(K:VK)(y0 y1 y6 y7 y8:wc)(w:wd)
def k3:=nk ann 48 [(0,y0),(1,y1)] w [1,1] code (BL K)
def k6:=nk ann 48 [(0,y0),(6,y6)] w [1,1,1,1] code (BL K)
def k10:=nk ann 48 [(7,y7)] w [1,1,1,1,1,1,1] code (BL K)
def l8:=nl ann 48 [(7,y7),(8,y8)] w [1,1,1,1,1,1,0,0] code (BL K)
def k9:=nk ann 48 [(7,y7),(8,y8)] w [1,1,1,1,1,1,0,0,0,1] code (BL K)
attribute [irreducible] k3 k6 k10 l8 k9
end F238
def F238.k3.to(h:(AH y0 w λa b=>Bh .u64 a b λc d=>Bh .u64 y1 d λf g=>I vp 282 #[c,f] g λi j=>Av 0 i j λk m=>Av 1 i m λo p=>U .gtr k (vq .u64 0) p λq r=>Aa v8 q (λK=>K o r) r λs t=>Aa v8 q (U .gtr s (vq .u64 9223372036854775807) t) t λu v=>Ar (vz q) (vz (vw v7)) (vz u) v λx y=>Af x (Am vp (Instr.makeInterface 9 (.string { data := #[116,104,101,32,114,101,115,117,108,116,32,111,102,32,40,108,101,110,40,120,41,32,42,32,99,111,117,110,116,41,32,111,118,101,114,102,108,111,119,115] })) y λz aa=>False) (F238.k6 K y0 o y))):F238.k3 K y0 y1 w:=qq h
def F238.k6.to(h:(Bh vy y6 w λa b=>Am vp (Instr.makeSlice 84 a a) b λc d=>Am vp (Builtin.copy_ #[84,84] 3 #[c,y0]) d λf g=>F238.l8 K c f g)):F238.k6 K y0 y6 w:=qq h
def F238.k10.to(h:(K y7 w)):F238.k10 K y7 w:=qq h
def F238.l8.to(h:(AH y7 w λa b=>U .lss y8 a b λc d=>Af c (F238.k9 K y7 y8 d) (F238.k10 K y7 d))):F238.l8 K y7 y8 w:=by unfold F238.l8 nl;exact BW (qq h)
def F238.k9.to(h:(A4 w λS a=>∃b,(∀w',S w'->(Instr.sliceAt 84 y7 (vz y8) v6 v6).run vp w'=.ok b w')/\(∃c,(∀w',S w'->(Instr.sliceAt 84 y7 v6 (vz y8) v6).run vp w'=.ok c w')/\((Am vp (Builtin.copy_ #[84,84] 3 #[b,c]) a λd f=>(S f/\
 U .add y8 d f λg i=>F238.l8 K y7 g i))/\True)))):F238.k9 K y7 y8 w:=qq h
def F238.sh(h:(U .lss x1 (vq vy 0) w λa b=>Af a (Am vp (Instr.makeInterface 9 (.string { data := #[99,97,110,110,111,116,32,98,101,32,110,101,103,97,116,105,118,101] })) b λc d=>False) (F238.k3 K x0 x1 b))):I vp 238 #[x0,x1] w K:=BK (A:=F238.ann) (args:=[x0,x1]) (qq h)
namespace F282
def ann:=a1 [(3,[0,1])]
def code:=cd f282
def BL:=tp f282
variable(K:VK)(y0 y1:wc)(w:wd)
@[irreducible]def k3:=nk ann 30 [(0,y0),(1,y1)] w [1,1] code (BL K)
end F282
def F282.k3.to(h:(I vp 307 #[y0,y1] w λa b=>Av 0 a b λc d=>Av 1 a d λf g=>K (vu #[c,f]) g)):F282.k3 K y0 y1 w:=qq h
def F282.sh(h:(Af (vw v8) (Bh .u32 x0 w λa b=>Bh .u32 x1 b λc d=>I vp 306 #[a,c] d λf g=>Av 0 f g λi j=>Av 1 f j λk m=>Bh .u64 i m λo p=>Bh .u64 k p λq r=>K (vu #[o,q]) r) (F282.k3 K x0 x1 w))):I vp 282 #[x0,x1] w K:=BK (A:=F282.ann) (args:=[x0,x1]) (qq h)
def F307.sh(h:(AG vp .and 210 (.tmp 14) (.const (vq .u64 4294967295)) x0 (vq .u64 4294967295) w λa b=>AG vp .shr 210 (.tmp 16) (.const (vq .u64 32)) x0 (vq .u64 32) b λc d=>AG vp .and 210 (.tmp 18) (.const (vq .u64 4294967295)) x1 (vq .u64 4294967295) d λf g=>AG vp .shr 210 (.tmp 20) (.const (vq .u64 32)) x1 (vq .u64 32) g λi j=>U .mul a f j λk m=>U .mul c f m λo p=>AG vp .shr 210 (.tmp 28) (.const (vq .u64 32)) k (vq .u64 32) p λq r=>U .add o q r λs t=>AG vp .and 210 (.tmp 31) (.const (vq .u64 4294967295)) s (vq .u64 4294967295) t λu v=>AG vp .shr 210 (.tmp 33) (.const (vq .u64 32)) s (vq .u64 32) v λx y=>U .mul a i y λz aa=>U .add u z aa λab ac=>U .mul c i ac λad ae=>U .add ad x ae λaf ag=>AG vp .shr 210 (.tmp 45) (.const (vq .u64 32)) ab (vq .u64 32) ag λah ai=>U .add af ah ai λaj ak=>U .mul x0 x1 ak λal am=>
 K (vu #[aj,al]) am)):I vp 307 #[x0,x1] w K:=BK (A:=A0) (args:=[x0,x1]) (qq h)
end
section
open Go.RowKit
section
variable{K:VK}{w:wd}
def Ug(n:Int)(h0:0<=n)(h1:n<4294967296)(h:K (vu #[vq .u64 0,vq .u64 n]) w):I vp 282 #[vq .u64 1,vq .u64 n] w K:=by
 refine F282.sh ?_;simp only[zv];refine F282.k3.to (F307.sh ⟨_,IG _ _ 1 (by omega) (by omega),_,G6 _ _ 1,_,IG _ _ n h0 (by omega),_,G6 _ _ n,?_⟩);have e1:n % 4294967296=n:=by omega
 have e2:n / 4294967296=0:=by omega
 simp only[zv,e1,e2,show (1:Int) % 4294967296=1 by decide,show (1:Int) / 4294967296=0 by decide,Int.one_mul,Int.zero_mul,Int.mul_zero];rw[Dx (n:=n) (by omega),Dx (n:=0) (by omega)];refine⟨_,G6 _ _ n,?_⟩;simp only[AC,e2,Int.add_zero];rw[Dx (n:=0) (by omega)];refine⟨_,IG _ _ 0 (by omega) (by omega),_,G6 _ _ 0,?_⟩
 simp only[AC,show (0:Int) % 4294967296=0 by decide,show (0:Int) / 4294967296=0 by decide,Int.add_zero];rw[Dx (n:=0) (by omega)];refine⟨_,G6 _ _ 0,?_⟩;simp only[AC,show (0:Int) / 4294967296=0 by decide,Int.add_zero];rw[Dx (n:=0) (by omega)];exact h
def SA{g k m n:Nat}{cs:Array wc}{x:wc}(hg:w.heap[g]?=vz (wj cs 4 (0,0)))(hcs:cs.size=n)(hk:0<k)(hkn:k<n)(hx:x.oneCell'=v7)(ht:cs.toList.take k=List.replicate k x)(hm:m=min k (n-k)){F:VK}(h:∀w' cs',GB w g (wj cs' 4 (0,0)) w'->cs'.size=n->cs'.toList.take (k+m)=List.replicate (k+m) x->F (vq vy (m:Int)) w'):
  Am vp (Builtin.copy_ #[84,84] 3 #[vt (vz ⟨g,k,v6⟩) (n-k) (n-k),vt (vz ⟨g,0,v6⟩) k n]) w F:=by
 have hr:=run_copy_row (P:=vp) w 84 84 3 4 g k (n-k) (n-k) ⟨g,0,v6⟩ k n cs 4 (List.replicate m x) Tryz.underlying84 (by kernel_rfl) hg (by rw[yF,hm])
  (λj v hj=>by
   rw[xT]at hj;split at hj
   ·rename_i hjm;rw[add_mk,EW hg, <-yB,uy, <-hj];have:=vh (λl:List wc=>l[j]?) ht;simp only[yX,xT]at this;rw[vn (by omega),vn (by omega)]at this;exact this
   ·cases hj) (by rw[yF];omega) (λv hv=>by rw[xN hv];exact hx)
 refine A7 hr ?_;rw[yF];refine h _ _ (KO hg) ?_ ?_
 ·simp;omega
 ·rw[ht];rw[List.take_append_of_le_length (by simp),List.replicate_append_replicate,xX (by simp)]
def Tr{W0:wd}{g n:Nat}{x:wc}(hx:x.oneCell'=v7)(hn:n<=1000000)(hg0:W0.heap.size<=g):
  ∀(d k:Nat) (w:wd) (cs:Array wc),n<=k+d->0<k->k<=n->Fr [] W0 w->w.heap[g]?=vz (wj cs 4 (0,0))->cs.size=n->cs.toList.take k=List.replicate k x->
   (∀w',Fr [] W0 w'->BO w' (vt (vz ⟨g,0,v6⟩) n n) 4 1 (List.replicate n [x])->K (vt (vz ⟨g,0,v6⟩) n n) w')->F238.l8 K (vt (vz ⟨g,0,v6⟩) n n) (vq vy (k:Int)) w:=by
 intro d;induction d with
 | zero=>
  intro k w cs hd h0 hk hf hg hcs ht h;have hkn:k=n:=by omega
  subst hkn;refine F238.l8.to ?_;simp only[zv,show ¬((k:Int)<(k:Int)) by omega];refine F238.k10.to (h w hf ?_);refine BO.of_block hg (by simp) (va _) (by omega) (by omega) (λy hy=>?_) ?_
  ·rw[xN hy];exact⟨rfl,by simpa using hx⟩
  ·rw[vb,ht];have:∀m:Nat,List.replicate m x=(List.replicate m [x]).flatten:=λm=>by
    induction m with
    | zero=>rfl
    | succ m ih=>rw[List.replicate_succ,List.replicate_succ,zG, <-ih];rfl
   exact this k
 | succ d ih=>
  intro k w cs hd h0 hk hf hg hcs ht h;rcases Nat.lt_or_ge k n with hlt|hge
  ·refine F238.l8.to ?_;simp only[zv,show ((k:Int)<(n:Int)) by omega];refine F238.k9.to (A8 (λ_=>True) λw1 hf1 he1=>⟨trivial,?_⟩);have hg1:=hf1.at_ hg (by simp);have r1:∀w':wd,(Instr.sliceAt 84 (vt (vz ⟨g,0,v6⟩) n n) (vz (vq vy (k:Int))) v6 v6).run vp w'=.ok (vt (vz ⟨g,k,v6⟩) (n-k) (n-k)) w':=λw'=>by
    have:=G8 (P:=vp) (w:=w') (t:=84) (e:=4) (sz:=1) (vz ⟨g,0,v6⟩) n n vy (k:Int) Tryz.underlying84 (by kernel_rfl) (by omega) (by omega);rw[zE,vm (by omega)]at this;simpa[add_mk] using this
   have r2:∀w':wd,(Instr.sliceAt 84 (vt (vz ⟨g,0,v6⟩) n n) v6 (vz (vq vy (k:Int))) v6).run vp w'=.ok (vt (vz ⟨g,0,v6⟩) k n) w':=λw'=>by
    have:=F4 (P:=vp) (w:=w') (t:=84) (e:=4) (sz:=1) (vz ⟨g,0,v6⟩) n n vy (k:Int) Tryz.underlying84 (by kernel_rfl) (by omega) (by omega)
    rwa [zE]at this
   refine⟨_,λw' _=>r1 w',_,λw' _=>r2 w',SA hg1 hcs h0 hlt hx ht rfl λw2 cs2 hu hcs2 ht2=>⟨trivial,?_⟩,trivial⟩;simp only[AC];rw[BN (by omega),show (k:Int)+((min k (n-k):Nat):Int)=((k+min k (n-k):Nat):Int) by omega];refine ih _ w2 cs2 (by omega) (by omega) (by omega) ((hf.trans hf1).then hu.fr λy hy=>?_) hu.at_ hcs2 ht2 h;simp only[yZ]at hy;exact .inr (by omega)
  ·exact ih k w cs (by omega) h0 hk hf hg hcs ht h
def IF{v x:wc}{n:Nat}(hv:Cq w v 1 [[x]])(hx:x.oneCell'=v7)(hn:n<=1000000)(h:∀v' w',Fr [] w w'->BO w' v' 4 1 (List.replicate n [x])->Cc w v'->K v' w'):I vp 238 #[v,vq vy (n:Int)] w K:=by
 refine F238.sh ?_;simp only[zv,show ¬((n:Int)<0) by omega];refine F238.k3.to (AK hv ?_);simp only[Bk,List.length_singleton];rw[Dx (n:=(n:Int)) (by omega),Dx (n:=((1:Nat):Int)) (by omega)];refine Ug (n:Int) (by omega) (by omega) ?_;simp only[zv,show ¬((0:Int)>0) by omega,show ¬((n:Int)>9223372036854775807) by omega];refine F238.k6.to ?_;simp only[Bk];rw[BN (by omega)]
 refine Be (e:=4) (sz:=1) (bytes:=1) (z:=vw v8) n Tryz.underlying84 (by kernel_rfl) rfl (by decide) (by intro u hu;simp[wc.cells]at hu;subst hu;rfl) (by omega) (by omega) λg w1 hn1 ho1=>?_;have hg0:w.heap.size<=g:=by have:=hn1.is;omega
 have fin:∀w',Fr [] w w'->BO w' (vt (vz ⟨g,0,v6⟩) n n) 4 1 (List.replicate n [x])->K (vt (vz ⟨g,0,v6⟩) n n) w':=λw' hf ho=>h _ w' hf ho λg' hg'=>by
  simp only[wc.ownBlock,zM]at hg';omega
 obtain⟨A,c,rfl,hc,hm,hcell⟩:=hv.keep hn1.fr;obtain⟨g',o,cs',e',fz',rfl,hg',hcc⟩:=hcell (by simp);have hx0:=(hcc 0 [x] rfl).2 0 (by omega);simp only[Nat.zero_mul,uv,xS]at hx0;rcases Nat.eq_zero_or_pos n with rfl|hpos
 ·refine A7 (run_copy_none (P:=vp) w1 84 84 3 4 _ _ 0 0 _ c Tryz.underlying84 (by kernel_rfl) (by simp)) ?_;refine F238.l8.to ?_;have e:¬((0:Int)<((0:Nat):Int)):=by omega
  simp only[goInt,Ae,Au,AW,u4,e];exact F238.k10.to (fin w1 hn1.fr ho1)
 ·have hr:=run_copy_row (P:=vp) w1 84 84 3 4 g 0 n n ⟨g',o,v6⟩ [[x]].length c _ 4 [x] Tryz.underlying84 (by kernel_rfl) hn1.at_ (show 1=min 1 n by omega)
   (λj y hj=>by
    rcases j with _|j
    ·simp only[xS,zM]at hj;subst hj;rw[add_mk,EW hg',uv];exact hx0
    ·simp at hj) (by simp[size_madeCells];omega) (by intro y hy;simp at hy;subst hy;exact hx)
  refine A7 hr ?_;have hu:=KO (cs':=((madeCells (vw v8:wc).cells (n*1)).toList.take 0++[x]++(madeCells (vw v8:wc).cells (n*1)).toList.drop (0+[x].length)).toArray) hn1.at_;refine Tr (W0:=w) (x:=x) hx hn hg0 n 1 _ _ (by omega) (by omega) (by omega) (hn1.fr.then hu.fr λy hy=>?_) hu.at_ ?_ ?_ fin
  ·simp only[yZ]at hy;exact .inr (by omega)
  ·simp[size_madeCells];omega
  ·simp
end
def CA(l:List Bool):List (List wc):=l.map λb=>[vw b]
def Db(l:List Bool):(CA l).length=l.length:=by simp[CA]
def IK{l:List Bool}{j:Nat}(h:j<l.length):(CA l)[j]?=vz [vw l[j]]:=by simp[CA,h]
def QB(l k:List Bool):CA (l++k)=CA l++CA k:=by simp[CA]
def LG(n:Nat)(b:Bool):CA (List.replicate n b)=List.replicate n [vw b]:=by simp[CA]
def Kv(l:List Bool)(n:Nat):CA (l.drop n)=(CA l).drop n:=by simp[CA,List.map_drop]
def LF{l:List Bool}:∀y∈CA l,∀u∈y,u.oneCell'=v7:=by intro y hy u hu;simp only[CA,uu]at hy;obtain⟨x,_,rfl⟩:=hy;simp only[un,b8,vi]at hu;subst hu;rfl
def Fm{α : Type}(f:Nat -> α)(t:Nat)(x : α):upd f t x t=x:=vn rfl
def Hv{α : Type}(f:Nat -> α){t u:Nat}(x : α)(h:u≠t):upd f t x u=f u:=vm h
def L0(T:Nat)(S:Nat->wc)(cs:Array wc):Prop:=cs.size=T*3/\∀t,t<T->cs[t*3]?=vz (S t)/\(∃a,cs[t*3+1]?=vz (vq vy a))/\∃b,cs[t*3+2]?=vz (vq vy b)
def L0.set0{T:Nat}{S:Nat->wc}{cs:Array wc}(h:L0 T S cs){t:Nat}(ht:t<T)(x:wc):L0 T (upd S t x) (cs.setIfInBounds (t*3) x):=by
 refine⟨by simpa using h.1,λu hu=>?_⟩;obtain⟨h1,⟨a,h2⟩,⟨b,h3⟩⟩:=h.2 u hu;have:=h.1;refine⟨?_,⟨a,?_⟩,⟨b,?_⟩⟩
 ·by_cases e:u=t
  ·subst e;rw[Fm,wX,vn rfl,vn (by omega)]
  ·rw[Hv _ _ e,wX,vm (by omega),h1]
 ·rw[wX,vm (by omega),h2]
 ·rw[wX,vm (by omega),h3]
def L0.set12{T:Nat}{S:Nat->wc}{cs:Array wc}(h:L0 T S cs){t k:Nat}(ht:t<T)(hk:k=1∨k=2)(n:Int):L0 T S (cs.setIfInBounds (t*3+k) (vq vy n)):=by
 refine⟨by simpa using h.1,λu hu=>?_⟩;obtain⟨h1,⟨a,h2⟩,⟨b,h3⟩⟩:=h.2 u hu;have:=h.1;refine⟨?_,?_,?_⟩
 ·rw[wX,vm (by omega),h1]
 ·rw[wX];by_cases e:t*3+k=u*3+1
  ·rw[vn e,vn (by omega)];exact⟨n,rfl⟩
  ·rw[vm e];exact⟨a,h2⟩
 ·rw[wX];by_cases e:t*3+k=u*3+2
  ·rw[vn e,vn (by omega)];exact⟨n,rfl⟩
  ·rw[vm e];exact⟨b,h3⟩
def IV(win most:Int)(bb T:Nat):Obj:=wj #[vq vy win,vq vy most,vt (vz ⟨bb,0,v6⟩) T T] 141 (0,0)
structure Ec(w:wd)(g bb T:Nat)(win most:Int)(S:Nat->wc)(L:Nat->List Bool):Prop where
 obj:w.heap[g]?=vz (IV win most bb T)
 bk:∃cs,w.heap[bb]?=vz (wj cs 231 (0,0))/\L0 T S cs
 own:∀t,t<T->BO w (S t) 4 1 (CA (L t))
 gb:g≠bb
 sg:∀t,t<T->∀x∈BM (S t),x≠g/\x≠bb
 ss:∀t,t<T->∀u,u<T->t≠u->∀x∈BM (S t),x∉BM (S u)
def Ec.keep{A:List Nat}{w w':wd}{g bb T:Nat}{win most:Int}{S:Nat->wc}{L:Nat->List Bool}(h:Ec w g bb T win most S L)(hf:Fr A w w')(h1:g∉A)(h2:bb∉A)(h3:∀t,t<T->∀x∈BM (S t),x∉A):Ec w' g bb T win most S L:=by obtain⟨cs,hb,hc⟩:=h.bk;exact⟨hf.at_ h.obj h1,⟨cs,hf.at_ hb h2,hc⟩,λt ht=>(h.own t ht).keep' hf (h3 t ht),h.gb,h.sg,h.ss⟩
def Ec.keep0{w w':wd}{g bb T:Nat}{win most:Int}{S:Nat->wc}{L:Nat->List Bool}(h:Ec w g bb T win most S L)(hf:Fr [] w w'):Ec w' g bb T win most S L:=h.keep hf (by simp) (by simp) (by simp)
def Ec.row{A:List Nat}{w w':wd}{g bb T t:Nat}{win most:Int}{S:Nat->wc}{L:Nat->List Bool}(h:Ec w g bb T win most S L)(ht:t<T)(hf:Fr A w w'){s:wc}{l:List Bool}(hb:∃cs,w'.heap[bb]?=vz (wj cs 231 (0,0))/\L0 T (upd S t s) cs)(ho:BO w' s 4 1 (CA l))(hs:∀x∈BM s,x∈BM (S t)∨w.heap.size<=x)(hA:∀x∈A,x=bb∨x∈BM (S t)):Ec w' g bb T win most (upd S t s) (upd L t l):=by
 have lt:∀u,u<T->∀x∈BM (S u),x<w.heap.size:=λu hu=>(h.own u hu).mem_lt;have lg:=BP h.obj;obtain⟨cs0,hb0,_⟩:=h.bk;have lb:=BP hb0;have hg:∀x∈BM (S t),x≠g/\x≠bb:=h.sg t ht;have sx:∀x∈BM s,x≠g/\x≠bb:=λx hx=>by
  rcases hs x hx with h|h
  ·exact hg x h
  ·exact⟨by omega,by omega⟩
 have sy:∀u,u<T->u≠t->∀x∈BM s,x∉BM (S u):=λu hu hne x hx hy=>by
  rcases hs x hx with h'|h'
  ·exact h.ss t ht u hu (vk hne) x h' hy
  ·have:=lt u hu x hy;omega
 refine⟨hf.at_ h.obj λhx=>?_,hb,λu hu=>?_,h.gb,λu hu=>?_,λu hu v hv hne=>?_⟩
 ·rcases hA _ hx with h'|h'
  ·exact h.gb h'
  ·exact (hg _ h').1 rfl
 ·by_cases e:u=t
  ·subst e;rw[Fm,Fm];exact ho
  ·rw[Hv _ _ e,Hv _ _ e];refine (h.own u hu).keep' hf λx hx hx'=>?_;rcases hA _ hx' with h'|h'
   ·exact (h.sg u hu x hx).2 h'
   ·exact h.ss u hu t ht e x hx h'
 ·by_cases e:u=t
  ·subst e;rw[Fm];exact sx
  ·rw[Hv _ _ e];exact h.sg u hu
 ·by_cases e:u=t
  ·subst e;rw[Fm,Hv _ _ (vk hne)];exact sy v hv (vk hne)
  ·rw[Hv _ _ e];by_cases e':v=t
   ·subst e';rw[Fm];exact λx hx hx'=>sy u hu e x hx' hx
   ·rw[Hv _ _ e'];exact h.ss u hu v hv hne
section
variable{K:VK}{w:wd}
def Wm(b:Bool):(Instr.buildSlice 84 1 #[(0,vw b)]).run vp w=.ok (vt (vz ⟨w.heap.size,0,v6⟩) 1 1) (w.alloc (wj #[vw b] 4)):=by kernel_rfl
def Wn:(Instr.buildSlice 84 0 #[]).run vp w=.ok (vt (vz ⟨w.heap.size,0,v6⟩) 0 0) (w.alloc (wj #[] 4)):=by kernel_rfl
def RS{v:wc}{l:List Bool}(hv:Cq w v 1 (CA l))(hl:l.length<=1000000)(h:∀v' w',Fr [] w w'->BO w' v' 4 1 (CA l)->Cc w v'->K v' w'):I vp 239 #[v] w K:=by
 have hv':=hv;obtain⟨A,c,rfl,h1,h2,h3⟩:=hv;refine F239.sh ⟨_,Hd (e:=4) _ _ _ _ _ Tryz.underlying84,?_⟩;cases A with
 | none=>
  have:l=[]:=by
   cases l with
   | nil=>rfl
   | cons x l=>obtain⟨g,o,cs,e,fz,hA,_⟩:=h3 (by simp[CA]);cases hA
  subst this;simp only[Option.isNone_none,Ai];exact h _ w (Fr.refl _ _) (BO.nil w 4 1) (Cc.nil w)
 | some a=>
  simp only[Option.isNone_some,Ae];refine F239.k3.to (A7 Wn ?_);have hn:=Dz.mk' w (wj #[] 4);refine Bu (xs:=[]) (e:=4) (sz:=1) (bytes:=1) (z:=vw v8) Tryz.underlying84 (by kernel_rfl) rfl (by decide) (BO.of_block hn.at_ rfl (by simp) (by simp) rfl (by simp) (by simp)) (hv'.keep hn.fr) LF (by rw[Db];simp;omega) (by rw[Db];simp;omega) λv' w' ho hf hb _=>?_
  refine h v' w' (hn.fr.then hf λx hx=>?_) (by simpa using ho) λg hg=>?_
  ·rw[Cl]at hx;simp only[wc.ownBlock,zM]at hx;exact .inr (by omega)
  ·rcases hb with hb|⟨g',hb,hle⟩
   ·rw[hb]at hg;simp only[wc.ownBlock,zM]at hg;omega
   ·rw[hb]at hg;simp only[zM]at hg;subst hg;exact uw hn.fr.size hle
def Ll{g bb T:Nat}{win most:Int}{S:Nat->wc}{L:Nat->List Bool}{t:Nat}(hL:Ec w g bb T win most S L)(ht:t<T)(h:K (vr (vz ⟨bb,t*3,v6⟩)) w):I vp 166 #[vr (vz ⟨g,0,v6⟩),vq vy (t:Int)] w K:=by refine F166.sh ⟨_,Cj _ _ _ Tryz.underlying89,?_⟩;simp only[zv,show ¬((t:Int)<0) by omega];refine Ac (v:=vt (vz ⟨bb,0,v6⟩) T T) hL.obj rfl ?_;simp only[zv,show ¬((t:Int)≥(T:Int)) by omega];refine F166.k3.to ?_;simp only[zv];refine Ac (v:=vt (vz ⟨bb,0,v6⟩) T T) hL.obj rfl ?_;simp only[Bo,zE,uy];exact⟨⟨by omega,by omega⟩,h⟩
def S7{l:List Bool}{j:Nat}(h:j<l.length):Hb (l.take (j+1))=Hb (l.take j)+if l[j]=v7 then 1 else 0:=by unfold Hb;rw[zL,xO h,List.count_append];simp only[zB,List.count_singleton,beq_iff_eq]
def QI(l:List Bool):Hb l<=l.length:=List.count_le_length
def La{v:wc}{l:List Bool}(hv:Cq w v 1 (CA l)):
  ∀(d j:Nat),l.length=j+d->K (vq vy (Hb l:Int)) w->F236.l3 K (vq vy (Hb (l.take j):Int)) v (vq vy (l.length:Int)) (vq vy (j:Int)) w:=by
 intro d;induction d with
 | zero=>
  intro j hd h;refine F236.l3.to ?_;simp only[zv,show ¬((j:Int)<(l.length:Int)) by omega];rw[xX (by omega)];exact F236.k8.to h
 | succ d ih=>
  intro j hd h;have jl:j<l.length:=by omega
  have hle:=hv.le;rw[Db]at hle;have hc:=S7 jl;have hc2:=QI (l.take j);rw[b7]at hc2;refine F236.l3.to ?_;simp only[zv,show ((j:Int)<(l.length:Int)) by omega];refine F236.k4.to (AS hv (by omega) (by rw[zE];exact IK jl) λg o cs e fz hg hl' hcc=>Ac (v:=vw l[j]) hg (by simpa using hcc 0 (by omega)) ?_);have next:F236.k7 K (vq vy (Hb (l.take (j+1)):Int)) v (vq vy (l.length:Int)) (vq vy (j:Int)) w:=by refine F236.k7.to ?_;simp only[AC];rw[BN (n:=(j:Int)+1) (by omega),show (j:Int)+1=((j+1:Nat):Int) by omega];exact ih (j+1) (by omega) h
  cases hb:l[j] with
  | true=>
   simp only[zv];rw[hb,vn rfl]at hc;rw[BN (n:=(Hb (l.take j):Int)+1) (by omega),show (Hb (l.take j):Int)+1=((Hb (l.take (j+1)):Nat):Int) by omega];exact next
  | false=>
   simp only[zv];rw[hb,vm (by simp)]at hc;rw[show Hb (l.take j)=Hb (l.take (j+1)) by omega];exact next
def ND{g bb T:Nat}{win most:Int}{S:Nat->wc}{L:Nat->List Bool}{t:Nat}(hL:Ec w g bb T win most S L)(ht:t<T)(but:Nat)(hbut:but<=1000000)(h:∀w',Fr [] w w'->K (vq vy (Hb ((L t).drop but):Int)) w'):I vp 236 #[vr (vz ⟨bb,t*3,v6⟩),vq vy (but:Int)] w K:=by
 obtain⟨cs,hb,hc⟩:=hL.bk;have ho:=hL.own t ht;refine F236.sh (A8 (λw'=>w'.heap[bb]?=vz (wj cs 231 (0,0))) λw1 hf1 he1=>⟨by rw[he1];exact hb,?_⟩);simp only[zv,uv];refine Aq (v:=S t) (λw' hw=>⟨_,_,_,hw,(hc.2 t ht).1⟩) (Aq (v:=S t) (λw' hw=>⟨_,_,_,hw,(hc.2 t ht).1⟩) ?_);have hrd:=(ho.keep hf1 (by simp)).rd;obtain⟨A,c,he,hcap⟩:=hrd.len_c (P:=vp) (K:=K);rw[he]at hrd ⊢;have hle:=hrd.le;rw[Db] at *
 simp only[AW];refine⟨_,λw' _=>G2 _ _ _ _ _ _,_,λw' _=>G8 (e:=4) (sz:=1) A (L t).length c vy (min (but:Int) ((L t).length:Int)) Tryz.underlying84 (by kernel_rfl) (by omega) (by omega),?_⟩;have hd:=hrd.drop (min (but:Int) ((L t).length:Int)).toNat (by omega);have e1:(min (but:Int) ((L t).length:Int)).toNat=min but (L t).length:=by omega
 rw[e1]at hd ⊢;have e2:(CA (L t)).drop (min but (L t).length)=CA ((L t).drop but):=by
  rw[<-Kv];congr 1;rcases Nat.le_total but (L t).length with h'|h'
  ·rw[Nat.min_eq_left h']
  ·rw[Nat.min_eq_right h',xV (va _),xV h']
 rw[e2]at hd;have e3:(L t).length-min but (L t).length=((L t).drop but).length:=by rw[zZ];omega
 rw[e3]at hd ⊢;simp only[AW];exact La hd ((L t).drop but).length 0 (by omega) (h w1 hf1)
end
def LP(k:Nat)(l:List Bool):(FR k l).length=min k l.length:=by unfold FR;rw[zZ];omega
section
variable{K:VK}{w:wd}
def HF{g bb T t m:Nat}{win most:Int}{S:Nat->wc}{L:Nat->List Bool}{w0:wd}{v:wc}{work:Bool}(hL0:Ec w0 g bb T win most S L)(ht:t<T)(hf0:Fr [] w0 w)(hm:m<=64)(hl:(L t).length<=64)(hv:Cq w v 1 (CA (List.replicate m work)))(h:∀s w',Fr (bb::BM (S t)) w0 w'->Ec w' g bb T win most (upd S t s) (upd L t (L t++List.replicate m work))->(∀x∈BM s,x∈BM (S t)∨w0.heap.size<=x)->F167.k1 K (vr (vz ⟨g,0,v6⟩)) (vr (vz ⟨bb,t*3,v6⟩)) w'):
  Am vp (Builtin.append_ #[84,84] 84 #[S t,v]) w λx w24=>(w24.heap[g]?=vz (IV win most bb T)/\(Aj 1 (vr (vz ⟨bb,t*3,v6⟩)) x w24 λw27=>(w27.heap[g]?=vz (IV win most bb T)/\F167.k1 K (vr (vz ⟨g,0,v6⟩)) (vr (vz ⟨bb,t*3,v6⟩)) w27))/\True):=by
 have hL:=hL0.keep0 hf0;have hS:=hL.sg t ht;refine Bu (xs:=CA (L t)) (ys:=CA (List.replicate m work)) (e:=4) (sz:=1) (bytes:=1) (z:=vw v8) Tryz.underlying84 (by kernel_rfl) rfl (by decide) (hL.own t ht) hv LF
  (by rw[Db,Db];simp;omega) (by rw[Db,Db];simp;omega) λs w1 ho hf hb _=>?_
 have hg1:=hf.at_ hL.obj λhx=>(hS g hx).1 rfl;obtain⟨cs,hbb,hc⟩:=hL.bk;have hbb1:=hf.at_ hbb λhx=>(hS bb hx).2 rfl;have hsz:=hc.1;refine⟨hg1,AM hbb1 ho.one.2 ho.one.1 (by omega) λw2 hu=>?_,trivial⟩;have hsb:∀x∈BM s,x∈BM (S t)∨w.heap.size<=x:=λx hx=>by
  rcases hb with e|⟨g',e,hle⟩
  ·exact .inl (by rw[Cl, <-e, <-Cl];exact hx)
  ·rw[Cl.1 hx]at e;simp only[zM]at e;exact .inr (by omega)
 have lbb:=BP hbb;have hsbb:∀x∈BM s,x≠bb:=λx hx=>by
  rcases hsb x hx with h'|h'
  ·exact (hS x h').2
  ·omega
 have hfA:Fr (bb::BM (S t)) w w2:=(hf.mono λx hx=>by simp[hx]).trans (hu.fr.mono (by simp));refine⟨hu.fr.at_ hg1 (by simp only[yZ];exact hL.gb),h s w2 (hf0.w.trans hfA) ?_ λx hx=>?_⟩
 ·refine hL.row ht hfA ⟨_,hu.at_,hc.set0 ht s⟩ ?_ hsb λx hx=>by simpa using hx
  rw[QB];exact ho.keep' hu.fr λx hx=>by simpa using hsbb x hx
 ·rcases hsb x hx with h'|h'
  ·exact .inl h'
  ·exact .inr (by have:=hf0.size;omega)
def SY{g bb T t:Nat}{win most n:Int}{S:Nat->wc}{L:Nat->List Bool}{work:Bool}(hL:Ec w g bb T win most S L)(ht:t<T)(h0:0<=n)(h64:n<=64)(hw0:0<=win)(hl:(L t).length<=64)(h:∀s w',Fr (bb::BM (S t)) w w'->Ec w' g bb T win most (upd S t s) (upd L t (L t++List.replicate (min n win).toNat work))->(∀x∈BM s,x∈BM (S t)∨w.heap.size<=x)->F167.k1 K (vr (vz ⟨g,0,v6⟩)) (vr (vz ⟨bb,t*3,v6⟩)) w'):
  I vp 167 #[vr (vz ⟨g,0,v6⟩),vr (vz ⟨bb,t*3,v6⟩),vq vy n,vw work] w K:=by
 refine F167.sh (A8 (λw'=>w'.heap[g]?=vz (IV win most bb T)) λw1 hf1 he1=>⟨by rw[he1];exact hL.obj,?_⟩);have hL1:=hL.keep0 hf1;obtain⟨cs,hbb,hc⟩:=hL1.bk;simp only[zv,uv];refine Aq (v:=vq vy win) (λw' hw=>⟨_,_,_,hw,rfl⟩) ⟨_,λw' _=>G2 _ _ _ _ _ _,?_⟩;have em:min n win=((min n win).toNat:Int):=by omega
 rw[em];have hm:(min n win).toNat<=64:=by omega
 clear em;generalize (min n win).toNat=m at *;have hn2:=Dz.mk' w1 (wj #[vw work] 4);have hs1:Cq (w1.alloc (wj #[vw work] 4)) (vt (vz ⟨w1.heap.size,0,v6⟩) 1 1) 1 [[vw work]]:=Cq.of_block hn2.at_ rfl (by simp) (by simp) (by simp) (by simp);have hL2:=hL1.keep0 hn2.fr;have rd:∀ {v' w'},BO w' v' 4 1 (List.replicate m [vw work])->Cq w' v' 1 (CA (List.replicate m work)):=λho=>by rw[LG];exact ho.rd
 have hb0:=(hc.2 t ht).1;have f12:=hf1.trans hn2.fr;refine⟨Ac hbb hb0 ⟨hL1.obj,A7 (Wm work) ⟨hL2.obj,IF hs1 rfl (by omega) λv' w3 hf3 ho3 hn3=>⟨hf3.at_ hL2.obj (by simp),HF hL ht (f12.trans hf3) hm hl (rd ho3) h,trivial⟩,trivial⟩,trivial⟩,?_⟩
 refine⟨A7 (Wm work) ⟨hL2.obj,Ac (hn2.fr.at_ hbb (by simp)) hb0 ⟨hL2.obj,IF hs1 rfl (by omega) λv' w3 hf3 ho3 hn3=>⟨hf3.at_ hL2.obj (by simp),HF hL ht (f12.trans hf3) hm hl (rd ho3) h,trivial⟩,trivial⟩,?_⟩,trivial⟩
 refine⟨IF hs1 rfl (by omega) λv' w3 hf3 ho3 hn3=>⟨hf3.at_ hL2.obj (by simp),Ac (hf3.at_ (hn2.fr.at_ hbb (by simp)) (by simp)) hb0 ⟨hf3.at_ hL2.obj (by simp),HF hL ht (f12.trans hf3) hm hl (rd ho3) h,trivial⟩,trivial⟩,trivial⟩
def SZ{g bb T t:Nat}{win most:Int}{S:Nat->wc}{L:Nat->List Bool}(hL:Ec w g bb T win most S L)(ht:t<T)(hw0:0<=win)(hw1:win<=64)(hl:(L t).length<=1000)(h:∀s w',Fr [bb] w w'->Ec w' g bb T win most (upd S t s) (upd L t (FR win.toNat (L t)))->Cc w s->K (vu #[]) w'):F167.k1 K (vr (vz ⟨g,0,v6⟩)) (vr (vz ⟨bb,t*3,v6⟩)) w:=by
 refine F167.k1.to (A8 (λw'=>w'.heap[g]?=vz (IV win most bb T)) λw1 hf1 he1=>⟨by rw[he1];exact hL.obj,?_⟩);have hL1:=hL.keep0 hf1;obtain⟨cs,hbb,hc⟩:=hL1.bk;have hb0:=(hc.2 t ht).1;have hsz:=hc.1;have hrd:=(hL1.own t ht).rd;have hS:=hL1.sg t ht;have lbb:=BP hbb;simp only[zv,uv];refine Aq (v:=vq vy win) (λw' hw=>⟨_,_,_,hw,rfl⟩) ?_;obtain⟨A,c,he,hcap⟩:=hrd.len_c (P:=vp) (K:=K);rw[Db]at he hcap
 have tail:∀v,Cq w1 v 1 (CA (FR win.toNat (L t)))->I vp 239 #[v] w1 λx42_25 w25=>(w25.heap[g]?=vz (IV win most bb T)/\(Aj 1 (vr (vz ⟨bb,t*3,v6⟩)) x42_25 w25 λw28=>(w28.heap[g]?=vz (IV win most bb T)/\K (vu #[]) w28))/\True):=by
  intro v hv;refine RS hv (by rw[LP];omega) λs w2 hf2 ho2 hn2=>?_;have hg2:=hf2.at_ hL1.obj (by simp);have hbb2:=hf2.at_ hbb (by simp);refine⟨hg2,AM hbb2 ho2.one.2 ho2.one.1 (by omega) λw3 hu=>?_,trivial⟩;have hns:=hn2.blk;have hfA:Fr [bb] w1 w3:=hf2.w.trans hu.fr;refine⟨hu.fr.at_ hg2 (by simp only[yZ];exact hL.gb),h s w3 (hf1.w.trans hfA) ?_ (hn2.mono hf1.size)⟩
  refine hL1.row ht hfA ⟨_,hu.at_,hc.set0 ht s⟩ (ho2.keep' hu.fr λx hx=>?_) (λx hx => .inr (hns x hx)) λx hx => .inl (by simpa using hx);have:=hns x hx;simp only[yZ];omega
 have hlen:(L t).length<=9223372036854775807:=by omega
 have run:∀w':wd,(Instr.sliceAt 84 (S t) (vz (vq vy (max (((L t).length:Int)-win) 0))) v6 v6).run vp w'=.ok (vt (if c=(L t).length-win.toNat then A else A.map (·.add (((L t).length-win.toNat)*1))) ((L t).length-((L t).length-win.toNat)) (c-((L t).length-win.toNat))) w':=λw'=>by
  have:=G8 (P:=vp) (w:=w') (t:=84) (e:=4) (sz:=1) A (L t).length c vy (max (((L t).length:Int)-win) 0) Tryz.underlying84 (by kernel_rfl) (by omega) (by omega);rw[he,this];rw[show (max (((L t).length:Int)-win) 0).toNat=(L t).length-win.toNat by omega]
 have hd:Cq w1 (vt (if c=(L t).length-win.toNat then A else A.map (·.add (((L t).length-win.toNat)*1))) ((L t).length-((L t).length-win.toNat)) (c-((L t).length-win.toNat))) 1 (CA (FR win.toNat (L t))):=by rw[he]at hrd;have:=hrd.drop ((L t).length-win.toNat) (by omega);rw[<-Kv]at this;exact this
 refine⟨Ac hbb hb0 ⟨hL1.obj,Ac hbb hb0 ⟨hL1.obj,?_⟩,trivial⟩,Ac hbb hb0 ⟨hL1.obj,?_⟩,trivial⟩
 ·refine AK hrd ?_;simp only[AO,Db];rw[BN (by omega)];exact⟨_,λw' _=>IX _ _ _ _ _ _,_,λw' _=>run w',tail _ hd,trivial⟩
 ·refine AK hrd ?_;simp only[AO,Db];rw[BN (by omega)];exact⟨_,λw' _=>IX _ _ _ _ _ _,Ac hbb hb0 ⟨hL1.obj,_,λw' _=>run w',tail _ hd,trivial⟩,trivial⟩
def OP{α : Type}(f:Nat -> α)(t:Nat)(x y : α):upd (upd f t x) t y=upd f t y:=by
 funext u
 unfold upd;split<;>rfl
structure PU(w w':wd)(bb t:Nat)(S:Nat->wc)(s:wc):Prop where
 fr:Fr (bb::BM (S t)) w w'
 new:∀x∈BM s,w.heap.size<=x
def MZ{g bb T t:Nat}{win most n:Int}{S:Nat->wc}{L:Nat->List Bool}{work:Bool}(hL:Ec w g bb T win most S L)(ht:t<T)(h0:0<=n)(h64:n<=64)(hw0:0<=win)(hw1:win<=64)(hl:(L t).length<=64)(h:∀s w',PU w w' bb t S s->Ec w' g bb T win most (upd S t s) (upd L t (FR win.toNat (L t++List.replicate (min n win).toNat work)))->K (vu #[]) w'):
  I vp 167 #[vr (vz ⟨g,0,v6⟩),vr (vz ⟨bb,t*3,v6⟩),vq vy n,vw work] w K:=by refine SY hL ht h0 h64 hw0 hl λs1 w1 hf1 hL1 hs1=>?_;refine SZ hL1 ht hw0 hw1 (by rw[Fm];simp;omega) λs2 w2 hf2 hL2 hn2=>?_;rw[OP,OP,Fm]at hL2;exact h s2 w2 ⟨hf1.trans (hf2.mono (by simp)),λx hx=>uw hf1.size (hn2.blk x hx)⟩ hL2
def MY{g bb T t k:Nat}{win most n:Int}{S:Nat->wc}{L:Nat->List Bool}(hL:Ec w g bb T win most S L)(ht:t<T)(hk:k=1∨k=2){F:wd->Prop}(h:∀w',Fr [bb] w w'->Ec w' g bb T win most S L->F w'):
  Ad (vr (vz ⟨bb,t*3+k,v6⟩)) w λx28_4 w4=>U .add x28_4 (vq vy n) w4 λx30_5 w5=>Aj 1 (vr (vz ⟨bb,t*3+k,v6⟩)) x30_5 w5 F:=by
 obtain⟨cs,hbb,hc⟩:=hL.bk;have hsz:=hc.1;obtain⟨_,⟨a,ha⟩,⟨b,hb⟩⟩:=hc.2 t ht;have:∃m,cs[t*3+k]?=vz (vq vy m):=by
  rcases hk with rfl|rfl
  ·exact⟨a,ha⟩
  ·exact⟨b,hb⟩
 obtain⟨m,hm⟩:=this;refine Ac hbb hm ?_;simp only[AC];refine AM hbb rfl rfl (by omega) λw1 hu=>h w1 hu.fr ?_;exact⟨hu.fr.at_ hL.obj (by simp only[yZ];exact hL.gb),⟨_,hu.at_,hc.set12 ht hk _⟩,λu hu'=>(hL.own u hu').keep' hu.fr λx hx=>by simpa using (hL.sg u hu' x hx).2,hL.gb,hL.sg,hL.ss⟩
def P4{g bb T t:Nat}{win most n:Int}{S:Nat->wc}{L:Nat->List Bool}(hL:Ec w g bb T win most S L)(ht:t<T)(h0:0<=n)(h64:n<=64)(hw0:0<=win)(hw1:win<=64)(hl:(L t).length<=64)(h:∀s w',PU w w' bb t S s->Ec w' g bb T win most (upd S t s) (upd L t (FR win.toNat (L t++List.replicate (min n win).toNat v8)))->K (vw v7) w'):I vp 107 #[vr (vz ⟨g,0,v6⟩),vq vy (t:Int),vq vy n] w K:=by refine F107.sh (Ll hL ht ⟨_,Cj _ _ _ Tryz.underlying227,?_⟩);simp only[zv,show ¬n<0 by omega,show ¬n>64 by omega];refine F107.k4.to (MZ hL ht h0 h64 hw0 hw1 hl λs w1 hx hL1=>?_);simp only[zv];exact MY hL1 ht (.inl rfl) λw2 hf2 hL2=>h s w2 ⟨hx.fr.trans (hf2.mono (by simp)),hx.new⟩ hL2
def Il{g bb T t:Nat}{win most n:Int}{S:Nat->wc}{L:Nat->List Bool}(hL:Ec w g bb T win most S L)(ht:t<T)(hw0:0<=win)(hw1:win<=64)(hm:most<=win)(hl:(L t).length<=64)(h:∀w',Fr [] w w'->K (vw (ES win most n (L t))) w'):I vp 164 #[vr (vz ⟨g,0,v6⟩),vq vy (t:Int),vq vy n] w K:=by
 refine F164.sh (Ll hL ht ⟨_,Cj _ _ _ Tryz.underlying227,?_⟩);simp only[zv];by_cases h0:n<0
 ·simp only[zv,h0];have:=h w (Fr.refl _ _);rw[show ES win most n (L t)=v8 from m8 (by omega)]at this;exact this
 ·simp only[zv,h0];refine Ac (v:=vq vy most) hL.obj rfl ?_;by_cases h1:n>most
  ·simp only[zv,h1];have:=h w (Fr.refl _ _);rw[show ES win most n (L t)=v8 from m8 (by omega)]at this;exact this
  ·simp only[zv,h1];obtain⟨cs,hbb,hc⟩:=hL.bk;have hb0:=(hc.2 t ht).1;refine F164.k4.to (A8 (λw'=>w'.heap[g]?=vz (IV win most bb T)/\w'.heap[bb]?=vz (wj cs 231 (0,0))) λw1 hf1 he1=>⟨by rw[he1];exact⟨hL.obj,hbb⟩,?_⟩);have hL1:=hL.keep0 hf1;simp only[zv,uv];refine Aq (v:=S t) (λw' hw=>⟨_,_,_,hw.2,hb0⟩) (AK (hL1.own t ht).rd ?_);simp only[AC,Db];rw[BN (by omega)]
   refine Aq (v:=vq vy win) (λw' hw=>⟨_,_,_,hw.1,rfl⟩) ?_;simp only[AO];rw[BN (by omega)];refine⟨_,λw' _=>IX _ _ _ _ _ _,Aq (v:=vq vy most) (λw' hw=>⟨_,_,_,hw.1,rfl⟩) ?_⟩;rw[show max (((L t).length:Int)+n-win) 0=((((L t).length:Int)+n-win).toNat:Int) by omega];refine⟨ND hL1 ht _ (by omega) λw2 hf2=>⟨⟨hf2.at_ hL1.obj (by simp),hf2.at_ (hf1.at_ hbb (by simp)) (by simp)⟩,?_⟩,trivial⟩
   have hcl:=QI ((L t).drop (((L t).length:Int)+n-win).toNat);rw[zZ]at hcl;simp only[zv];rw[BN (by omega)];have:=h w2 (hf1.trans hf2);have e:ES win most n (L t)=decide ((Hb ((L t).drop (((L t).length:Int)+n-win).toNat):Int)+n<=most):=d9.2 (by omega);rw[e]at this;exact this
def Ri{g bb T t:Nat}{win most n:Int}{S:Nat->wc}{L:Nat->List Bool}(hL:Ec w g bb T win most S L)(ht:t<T)(hw0:0<=win)(hw1:win<=64)(hm:most<=win)(hl:(L t).length<=64)(hno:ES win most n (L t)=v8->∀w',Fr [] w w'->K (vw v8) w')(h:ES win most n (L t)=v7->∀s w',PU w w' bb t S s->Ec w' g bb T win most (upd S t s) (upd L t (FR win.toNat (L t++List.replicate (min n win).toNat v7)))->K (vw v7) w'):I vp 237 #[vr (vz ⟨g,0,v6⟩),vq vy (t:Int),vq vy n] w K:=by
 refine F237.sh (Il hL ht hw0 hw1 hm hl λw1 hf1=>?_);cases ha:ES win most n (L t) with
 | false=>
  simp only[zv];exact hno ha w1 hf1
 | true=>
  simp only[zv];have hadm:=of_decide_eq_true ha;have hL1:=hL.keep0 hf1;refine F237.k3.to (Ll hL1 ht (MZ hL1 ht hadm.1 (by omega) hw0 hw1 hl λs w2 hx hL2=>?_));simp only[zv];refine MY hL2 ht (.inr rfl) λw3 hf3 hL3=>h ha s w3 ⟨(hf1.w.trans hx.fr).trans (hf3.mono (by simp)),λx hx'=>uw hf1.size (hx.new x hx')⟩ hL3
end
end
noncomputable section
variable{K:VK}{w:wd}{x0 x1 x2 y0 y1 y2 y3 y4 y5 y6 y7 y8 y9 y11 y12 y13 y14 y15 y16 y18 y19 y20 y21 y32 y33 y34 y35 y36:wc}
namespace F16
def ann:Cd:=⟨[(4,[1,4])],[],[],[(4,(tk [0,2,7,12,1,3,4,8,11] (.go 5 (.go 6 (.go 9 (tk [10,13] (.go 14 (tk [15,16] .fin) .fin)) .fin) .fin) .fin)))],v6⟩
def code:=cd f16
def BL:=tp f16
variable(K:VK)(y1 y4:wc)(w:wd)
@[irreducible]def k4:=nk ann 29 [(1,y1),(4,y4)] w [1,1,1] code (BL K)
end F16
def F16.k4.to(h:(A4 w λS a=>Ab 1 y1 a λb c=>Ab 2 y1 c λd f=>Ab 5 y1 f λg i=>Al S b i λj k=>Al S d k λm o=>AN S 10 y1 o λp q=>Al S g q λr s=>AN S 10 y1 s λt u=>(I vp 43 #[p] u λv x=>(S x/\
 (I vp 42 #[j,m,v] x λy z=>(S z/\
 (I vp 44 #[r] z λaa ab=>(S ab/\
 ∃ac,(∀w',S w'->(Instr.build 94 #[(0,y),(1,aa)]).run vp w'=.ok ac w')/\(∃ad,(∀w',S w'->(Instr.build 96 #[(0,ac),(1,t),(2,y4)]).run vp w'=.ok ad w')/\((Aw (wj (wc.cells ad) 96) ab λae af=>(S af/\
 K (vu #[ae,(vq vy 0)]) af))/\True))))/\True))/\True))/\True)):F16.k4 K y1 y4 w:=qq h
def F16.sh(h:(Aw (wj (wc.cells x0) 23) w λa b=>Ak 10 a b λc d=>I vp 41 #[c] d λf g=>Av 0 f g λi j=>Av 1 f j λk m=>U .neq k (vq vy 0) m λo p=>Af o (K (vu #[(vr v6),k]) p) (F16.k4 K a i p))):I vp 16 #[x0] w K:=BK (A:=F16.ann) (args:=[x0]) (qq h)
namespace F17
def ann:Cd:=⟨[(3,[0,2]),(6,[0,2,3,15,16]),(8,[0,2,3,15,16]),(9,[0,2,3]),(11,[0,2,3,34,35,36]),(13,[0,2,3,34,35,36]),(14,[2,3])],[(5,[0,2,3,15,16]),(10,[0,2,3,34,35,36])],[],[(7,(tk [0,2,3,4,5,7,6] (.go 1 (.go 8 (.go 9 (.go 10 (.go 11 (.take 12 (.go 13 .fin .fin)) .fin) .fin) .fin) .fin) (.go 8 (.go 1 (.go 9 (.go 10 (.go 11 (.take 12 (.go 13 .fin .fin)) .fin) .fin) .fin) (.go 9 (.go 1 (.go 10 (.go 11 (.take 12 (.go 13 .fin .fin)) .fin) .fin) (.go 10 (.go 1 (.go 11 (.take 12 (.go 13 .fin .fin)) .fin) .fin) .fin)) .fin)) .fin)))),(12,(tk [0,2,3,4,6,8,9,10,5] (.go 1 (.go 7 (.go 11 (.go 12 (.take 13 (.go 14 (.go 15 (.take 16 (.go 17 .fin .fin)) .fin) .fin)) .fin) .fin) .fin) (.go 7 (.go 1 (.go 11 (.go 12 (.take 13 (.go 14 (.go 15 (.take 16 (.go 17 .fin .fin)) .fin) .fin)) .fin) .fin) (.go 11 (.go 1 (.go 12 (.take 13 (.go 14 (.go 15 (.take 16 (.go 17 .fin .fin)) .fin) .fin)) .fin) (.go 12 (.take 13 (.go 1 (.go 14 (.go 15 (.take 16 (.go 17 .fin .fin)) .fin) .fin) (.go 14 (.go 1 (.go 15 (.take 16 (.go 17 .fin .fin)) .fin) .fin) .fin))) .fin)) .fin)) .fin))))],v6⟩
def code:=cd f17
def BL:=tp f17
variable(K:VK)(y0 y2 y3 y15 y16 y34 y35 y36:wc)(w:wd)
def k3:=nk ann 59 [(0,y0),(2,y2)] w [1,1] code (BL K)
def k9:=nk ann 59 [(0,y0),(2,y2),(3,y3)] w [1,1,1,1] code (BL K)
def l5:=nl ann 59 [(0,y0),(2,y2),(3,y3),(15,y15),(16,y16)] w [1,1,1,0,1,0] code (BL K)
def k6:=nk ann 59 [(0,y0),(2,y2),(3,y3),(15,y15),(16,y16)] w [1,1,1,0,1,0,0,1,1] code (BL K)
def k8:=nk ann 59 [(0,y0),(2,y2),(3,y3),(15,y15),(16,y16)] w [1,1,1,0,1,0,0,1,1,1] code (BL K)
def k14:=nk ann 59 [(2,y2),(3,y3)] w [1,1,1,1,1] code (BL K)
def l10:=nl ann 59 [(0,y0),(2,y2),(3,y3),(34,y34),(35,y35),(36,y36)] w [1,1,1,1,0,1,0] code (BL K)
def k11:=nk ann 59 [(0,y0),(2,y2),(3,y3),(34,y34),(35,y35),(36,y36)] w [1,1,1,1,0,1,0,0,1,1] code (BL K)
def k13:=nk ann 59 [(0,y0),(2,y2),(3,y3),(34,y34),(35,y35),(36,y36)] w [1,1,1,1,0,1,0,0,1,1,1] code (BL K)
attribute [irreducible] k3 k9 l5 k6 k8 k14 l10 k11 k13
end F17
def F17.k3.to(h:(Aw (wj #[vt v6 0 0,vt v6 0 0] 46) w λa b=>Ag y0 b λc d=>Ab 2 c d λf g=>Ab 1 f g λi j=>Ad i j λk m=>F17.l5 K y0 y2 a k (vq vy 0) m)):F17.k3 K y0 y2 w:=qq h
def F17.k9.to(h:(I vp 48 #[y0] w λa b=>AH a b λc d=>F17.l10 K y0 y2 y3 a c (vq vy 0) d)):F17.k9 K y0 y2 y3 w:=qq h
def F17.l5.to(h:(U .lss y16 y15 w λa b=>Af a (F17.k6 K y0 y2 y3 y15 y16 b) (F17.k9 K y0 y2 y3 b))):F17.l5 K y0 y2 y3 y15 y16 w:=by unfold F17.l5 nl;exact BW (qq h)
def F17.k6.to(h:(A4 w λS a=>Ab 0 y3 a λb c=>Ag y0 c λd f=>Ab 12 d f λg i=>Al S g i λj k=>(Ad b k λm o=>(S o/\
 (I vp 47 #[j,y16] o λp q=>(S q/\
 (I vp 46 #[y0,p] q λr s=>(S s/\
 (Am vp (Instr.buildSlice 43 1 #[(0,r)]) s λt u=>(S u/\
 (Am vp (Builtin.append_ #[43,43] 43 #[m,t]) u λv x=>(S x/\
 Ab 0 y3 x λy z=>(Aj 1 y v z λaa=>(S aa/\
 F17.k8 K y0 y2 y3 y15 y16 aa))/\True))/\True))/\True))/\True))/\True))/\((I vp 47 #[j,y16] k λab ac=>(S ac/\
 (Ad b ac λad ae=>(S ae/\
 (I vp 46 #[y0,ab] ae λaf ag=>(S ag/\
 (Am vp (Instr.buildSlice 43 1 #[(0,af)]) ag λah ai=>(S ai/\
 (Am vp (Builtin.append_ #[43,43] 43 #[ad,ah]) ai λaj ak=>(S ak/\
 Ab 0 y3 ak λal am=>(Aj 1 al aj am λan=>(S an/\
 F17.k8 K y0 y2 y3 y15 y16 an))/\True))/\True))/\True))/\True))/\((I vp 46 #[y0,ab] ac λao ap=>(S ap/\
 (Ad b ap λaq ar=>(S ar/\
 (Am vp (Instr.buildSlice 43 1 #[(0,ao)]) ar λau av=>(S av/\
 (Am vp (Builtin.append_ #[43,43] 43 #[aq,au]) av λaw ax=>(S ax/\
 Ab 0 y3 ax λay az=>(Aj 1 ay aw az λba=>(S ba/\
 F17.k8 K y0 y2 y3 y15 y16 ba))/\True))/\True))/\True))/\((Am vp (Instr.buildSlice 43 1 #[(0,ao)]) ap λbb bc=>(S bc/\
 (Ad b bc λbd be=>(S be/\
 (Am vp (Builtin.append_ #[43,43] 43 #[bd,bb]) be λbf bg=>(S bg/\
 Ab 0 y3 bg λbh bi=>(Aj 1 bh bf bi λbj=>(S bj/\
 F17.k8 K y0 y2 y3 y15 y16 bj))/\True))/\True))/\True))/\True)))/\True)))/\True))):F17.k6 K y0 y2 y3 y15 y16 w:=qq h
def F17.k8.to(h:(U .add y16 (vq vy 1) w λa b=>F17.l5 K y0 y2 y3 y15 a b)):F17.k8 K y0 y2 y3 y15 y16 w:=qq h
def F17.k14.to(h:(Ak 2 y3 w λa b=>Aj 2 y2 a b λc=>Ak 2 y2 c λr3 _=>K r3 c)):F17.k14 K y2 y3 w:=qq h
def F17.l10.to(h:(U .lss y36 y35 w λa b=>Af a (F17.k11 K y0 y2 y3 y34 y35 y36 b) (F17.k14 K y2 y3 b))):F17.l10 K y0 y2 y3 y34 y35 y36 w:=by unfold F17.l10 nl;exact BW (qq h)
def F17.k11.to(h:(A6 1 y34 y36 w λa b=>Ad a b λc d=>A4 d λS f=>Ab 1 y3 f λg i=>Ag y0 i λj k=>Ab 12 j k λm o=>Al S m o λp q=>(Ad g q λr s=>(S s/\
 (I vp 49 #[p,c] s λt u=>(S u/\
 (I vp 50 #[y0,c] u λv x=>(S x/\
 (I vp 46 #[y0,v] x λy z=>(S z/\
 ∃aa,(∀w',S w'->(Instr.build 58 #[(0,t),(1,y)]).run vp w'=.ok aa w')/\((Am vp (Instr.buildSlice 44 1 #[(0,aa)]) z λab ac=>(S ac/\
 (Am vp (Builtin.append_ #[44,44] 44 #[r,ab]) ac λad ae=>(S ae/\
 Ab 1 y3 ae λaf ag=>(Aj 1 af ad ag λah=>(S ah/\
 F17.k13 K y0 y2 y3 y34 y35 y36 ah))/\True))/\True))/\True)))/\True))/\True))/\True))/\((I vp 49 #[p,c] q λai aj=>(S aj/\
 (Ad g aj λak al=>(S al/\
 (I vp 50 #[y0,c] al λam an=>(S an/\
 (I vp 46 #[y0,am] an λao ap=>(S ap/\
 ∃aq,(∀w',S w'->(Instr.build 58 #[(0,ai),(1,ao)]).run vp w'=.ok aq w')/\((Am vp (Instr.buildSlice 44 1 #[(0,aq)]) ap λar au=>(S au/\
 (Am vp (Builtin.append_ #[44,44] 44 #[ak,ar]) au λav aw=>(S aw/\
 Ab 1 y3 aw λax ay=>(Aj 1 ax av ay λaz=>(S az/\
 F17.k13 K y0 y2 y3 y34 y35 y36 az))/\True))/\True))/\True)))/\True))/\True))/\((I vp 50 #[y0,c] aj λba bb=>(S bb/\
 (Ad g bb λbc bd=>(S bd/\
 (I vp 46 #[y0,ba] bd λbe bf=>(S bf/\
 ∃bg,(∀w',S w'->(Instr.build 58 #[(0,ai),(1,be)]).run vp w'=.ok bg w')/\((Am vp (Instr.buildSlice 44 1 #[(0,bg)]) bf λbh bi=>(S bi/\
 (Am vp (Builtin.append_ #[44,44] 44 #[bc,bh]) bi λbj bk=>(S bk/\
 Ab 1 y3 bk λbl bm=>(Aj 1 bl bj bm λbn=>(S bn/\
 F17.k13 K y0 y2 y3 y34 y35 y36 bn))/\True))/\True))/\True)))/\True))/\((I vp 46 #[y0,ba] bb λbo bp=>(S bp/\
 ∃bq,(∀w',S w'->(Instr.build 58 #[(0,ai),(1,bo)]).run vp w'=.ok bq w')/\((Ad g bp λbr bs=>(S bs/\
 (Am vp (Instr.buildSlice 44 1 #[(0,bq)]) bs λbt bu=>(S bu/\
 (Am vp (Builtin.append_ #[44,44] 44 #[br,bt]) bu λbv bw=>(S bw/\
 Ab 1 y3 bw λbx bz=>(Aj 1 bx bv bz λca=>(S ca/\
 F17.k13 K y0 y2 y3 y34 y35 y36 ca))/\True))/\True))/\True))/\((Am vp (Instr.buildSlice 44 1 #[(0,bq)]) bp λcb cc=>(S cc/\
 (Ad g cc λce cf=>(S cf/\
 (Am vp (Builtin.append_ #[44,44] 44 #[ce,cb]) cf λcg ch=>(S ch/\
 Ab 1 y3 ch λci cj=>(Aj 1 ci cg cj λck=>(S ck/\
 F17.k13 K y0 y2 y3 y34 y35 y36 ck))/\True))/\True))/\True))/\True))))/\True)))/\True)))/\True))):F17.k11 K y0 y2 y3 y34 y35 y36 w:=qq h
def F17.k13.to(h:(U .add y36 (vq vy 1) w λa b=>F17.l10 K y0 y2 y3 y34 y35 a b)):F17.k13 K y0 y2 y3 y34 y35 y36 w:=qq h
def F17.sh(h:(Aw (wj #[vt v6 0 0,vt v6 0 0] 46) w λa b=>I vp 45 #[x0] b λc d=>AE c d λf g=>Af f (Am vp (Instr.build 46 #[]) g λi j=>Aj 2 a i j λk=>Ak 2 a k λr6 _=>K r6 k) (F17.k3 K x0 a g))):I vp 17 #[x0] w K:=BK (A:=F17.ann) (args:=[x0]) (qq h)
namespace F20
def ann:Cd:=⟨[(3,[0,3,4]),(6,[0,3,4]),(9,[0,3,4]),(12,[4,7])],[],[],[(11,(tk [0,1,2,4,3,5] (.go 6 .fin .fin)))],v6⟩
def code:=cd f20
def BL:=tp f20
variable(K:VK)(y0 y3 y4 y7:wc)(w:wd)
def k3:=nk ann 49 [(0,y0),(3,y3),(4,y4)] w [1,1] code (BL K)
def k6:=nk ann 49 [(0,y0),(3,y3),(4,y4)] w [1,1,1] code (BL K)
def k9:=nk ann 49 [(0,y0),(3,y3),(4,y4)] w [1,1,1,1] code (BL K)
def k12:=nk ann 49 [(4,y4),(7,y7)] w [1,1,1,1,1,1] code (BL K)
attribute [irreducible] k3 k6 k9 k12
end F20
def F20.k3.to(h:(Ak 7 y3 w λa b=>I vp 55 #[a] b λc d=>U .neq c (vq vy 0) d λf g=>Af f (I vp 54 #[c] g λi j=>Aj 5 y4 i j λk=>Ak 5 y4 k λr6 _=>K r6 k) (F20.k6 K y0 y3 y4 g))):F20.k3 K y0 y3 y4 w:=qq h
def F20.k6.to(h:(Ak 7 y3 w λa b=>I vp 56 #[y0,a] b λc d=>U .neq c (vq vy 0) d λf g=>Af f (I vp 54 #[c] g λi j=>Aj 5 y4 i j λk=>Ak 5 y4 k λr6 _=>K r6 k) (F20.k9 K y0 y3 y4 g))):F20.k6 K y0 y3 y4 w:=qq h
def F20.k9.to(h:(Ak 7 y3 w λa b=>I vp 57 #[y0,a] b λc d=>Aw (wj #[vq vy 0,vq vy 0,vq vy 0,vq vy 0,vq vy 0] 38) d λf g=>Aj 5 f c g λi=>Ab 0 y3 i λj k=>Ad j k λm o=>U .geq m (vq vy 3) o λp q=>Aa v7 p (Ab 0 y3 q) q λr s=>Aa v7 p (Ad r s) s λt u=>Aa v7 p (U .leq t (vq vy 12) u) u λv x=>Ar (vz p) (vz v) (vz (vw v8)) x λy z=>Aa v7 y (Ab 0 f z) z λaa ab=>Aa v7 y (Ad aa ab) ab λac ad=>Aa v7 y (U .eql ac (vq vy 0) ad) ad λae af=>Ar (vz y) (vz ae) (vz (vw v8)) af λag ah=>Af ag (A4 ah λS ai=>Ag y0 ai λaj ak=>Ab 0 aj ak λal am=>Ab 1 y3 am λan ao=>AN S 2 al ao λap aq=>Al S an aq λar au=>(I vp 58 #[ap,ar,(vq vy 1)] au λav aw=>(S aw/\
 F20.k12 K y4 f aw))/\True) (F20.k12 K y4 f ah))):F20.k9 K y0 y3 y4 w:=qq h
def F20.k12.to(h:(Ak 5 y7 w λa b=>Aj 5 y4 a b λc=>Ak 5 y4 c λr3 _=>K r3 c)):F20.k12 K y4 y7 w:=qq h
def F20.sh(h:(Aw (wj (wc.cells x1) 40) w λa b=>Aw (wj #[vq vy 0,vq vy 0,vq vy 0,vq vy 0,vq vy 0] 38) b λc d=>I vp 45 #[x0] d λf g=>AE f g λi j=>Af i (I vp 54 #[(vq vy 9)] j λk m=>Aj 5 c k m λo=>Ak 5 c o λr7 _=>K r7 o) (F20.k3 K x0 a c j))):I vp 20 #[x0,x1] w K:=BK (A:=F20.ann) (args:=[x0,x1]) (qq h)
def F45.sh(h:(AG vp .neq 49 (.tmp 3) (.const (vr v6)) x0 (vr v6) w λa b=>Aa v7 a (λK=>K x0 b) b λc d=>Aa v7 a (Ag c d) d λf g=>Aa v7 a (Ab 12 f g) g λi j=>Aa v7 a (Ad i j) j λk m=>Aa v7 a (λK=>AG vp .neq 86 (.tmp 9) (.const (vr v6)) k (vr v6) m K) m λo p=>Ar (vz a) (vz o) (vz (vw v8)) p λq r=>K q r)):I vp 45 #[x0] w K:=BK (A:=A0) (args:=[x0]) (qq h)
namespace F46
def ann:Cd:=⟨[(4,[0,5,11,12,13]),(7,[0,5,11,12,13]),(8,[5])],[(3,[0,5,11,12,13])],[],[],v6⟩
def code:=cd f46
def BL:=tp f46
variable(K:VK)(y0 y5 y11 y12 y13:wc)(w:wd)
def k8:=nk ann 29 [(5,y5)] w [1,1,1] code (BL K)
def l3:=nl ann 29 [(0,y0),(5,y5),(11,y11),(12,y12),(13,y13)] w [1,1,0,1,0] code (BL K)
def k4:=nk ann 29 [(0,y0),(5,y5),(11,y11),(12,y12),(13,y13)] w [1,1,0,1,0,0,1,1] code (BL K)
def k7:=nk ann 29 [(0,y0),(5,y5),(11,y11),(12,y12),(13,y13)] w [1,1,0,1,0,0,1,1,1] code (BL K)
attribute [irreducible] k8 l3 k4 k7
end F46
def F46.k8.to(h:(K y5 w)):F46.k8 K y5 w:=qq h
def F46.l3.to(h:(U .lss y13 y12 w λa b=>Af a (F46.k4 K y0 y5 y11 y12 y13 b) (F46.k8 K y5 b))):F46.l3 K y0 y5 y11 y12 y13 w:=by unfold F46.l3 nl;exact BW (qq h)
def F46.k4.to(h:(A6 2 y11 y13 w λa b=>Ak 2 a b λc d=>Aw (wj #[vq vy 0,vq vy 0] 60) d λf g=>Aj 2 f c g λi=>Ak 2 f i λj k=>I vp 81 #[y0,j] k λm o=>Aw (wj #[vq vy 0,vq vy 0,vq vy 0,vq vy 0,vq vy 0] 38) o λp q=>Aj 5 p m q λr=>Ab 2 p r λs t=>Ad s t λu v=>A6 2 y5 y13 v λx y=>Ab 1 x y λz aa=>Aj 1 z u aa λab=>F46.k7 K y0 y5 y11 y12 y13 ab)):F46.k4 K y0 y5 y11 y12 y13 w:=qq h
def F46.k7.to(h:(U .add y13 (vq vy 1) w λa b=>F46.l3 K y0 y5 y11 y12 a b)):F46.k7 K y0 y5 y11 y12 y13 w:=qq h
def F46.sh(h:(I vp 80 #[x1] w λa b=>AH a b λc d=>F46.l3 K x0 a a c (vq vy 0) d)):I vp 46 #[x0,x1] w K:=BK (A:=F46.ann) (args:=[x0,x1]) (qq h)
namespace F48
def ann:Cd:=⟨[(5,[1,3,4,18,19]),(7,[1,3,4,18,19]),(8,[1,3,4]),(10,[1,3,4,6]),(11,[1,3,4,6]),(12,[1,3])],[(4,[1,3,4,18,19]),(9,[1,3,4,6])],[],[(11,(tk [0,3,1] (.go 2 (.take 4 (.go 5 (.go 6 (.go 7 .fin .fin) .fin) .fin)) .fin)))],v6⟩
def code:=cd f48
def BL:=tp f48
variable(K:VK)(y1 y3 y4 y6 y18 y19:wc)(w:wd)
def k8:=nk ann 49 [(1,y1),(3,y3),(4,y4)] w [1,1,1,1] code (BL K)
def l4:=nl ann 49 [(1,y1),(3,y3),(4,y4),(18,y18),(19,y19)] w [1,1,1,0,1,0] code (BL K)
def k5:=nk ann 49 [(1,y1),(3,y3),(4,y4),(18,y18),(19,y19)] w [1,1,1,0,1,0,0,1,1] code (BL K)
def k7:=nk ann 49 [(1,y1),(3,y3),(4,y4),(18,y18),(19,y19)] w [1,1,1,0,1,0,0,1,1,1] code (BL K)
def k12:=nk ann 49 [(1,y1),(3,y3)] w [1,1,1,1,1] code (BL K)
def l9:=nl ann 49 [(1,y1),(3,y3),(4,y4),(6,y6)] w [1,1,1,1,0,1,0] code (BL K)
def k11:=nk ann 49 [(1,y1),(3,y3),(4,y4),(6,y6)] w [1,1,1,1,0,1,0,0,1] code (BL K)
def k10:=nk ann 49 [(1,y1),(3,y3),(4,y4),(6,y6)] w [1,1,1,1,0,1,0,0,1,1] code (BL K)
attribute [irreducible] k8 l4 k5 k7 k12 l9 k11 k10
end F48
def F48.k8.to(h:(F48.l9 K y1 y3 y4 (vq vy 0) w)):F48.k8 K y1 y3 y4 w:=qq h
def F48.l4.to(h:(U .lss y19 y18 w λa b=>Af a (F48.k5 K y1 y3 y4 y18 y19 b) (F48.k8 K y1 y3 y4 b))):F48.l4 K y1 y3 y4 y18 y19 w:=by unfold F48.l4 nl;exact BW (qq h)
def F48.k5.to(h:(Ad y1 w λa b=>Ag a b λc d=>Ab 12 c d λf g=>Ad f g λi j=>I vp 47 #[i,y19] j λk m=>DK vp y4 [k] m λo p=>F48.k7 K y1 y3 y4 y18 y19 p)):F48.k5 K y1 y3 y4 y18 y19 w:=qq h
def F48.k7.to(h:(U .add y19 (vq vy 1) w λa b=>F48.l4 K y1 y3 y4 y18 a b)):F48.k7 K y1 y3 y4 y18 y19 w:=qq h
def F48.k12.to(h:(Ad y3 w λa b=>I vp 86 #[a,(.func (.func 87) #[] #[y1])] b λc d=>Ad y3 d λf g=>K f g)):F48.k12 K y1 y3 w:=qq h
def F48.l9.to(h:(Ad y3 w λa b=>AH a b λc d=>U .lss y6 c d λf g=>Af f (F48.k11 K y1 y3 y4 y6 g) (F48.k12 K y1 y3 g))):F48.l9 K y1 y3 y4 y6 w:=by unfold F48.l9 nl;exact BW (qq h)
def F48.k11.to(h:(A4 w λS a=>Al S y1 a λb c=>(Ad y3 c λd f=>(S f/\
 A6 1 d y6 f λg i=>(Ad g i λj k=>(S k/\
 (I vp 50 #[b,j] k λm o=>(S o/\
 (B6 y4 (DK vp y4 [m] o λp q=>(S q/\
 F48.k10 K y1 y3 y4 y6 q)))/\True))/\True))/\True))/\True)):F48.k11 K y1 y3 y4 y6 w:=qq h
def F48.k10.to(h:(U .add y6 (vq vy 1) w λa b=>F48.l9 K y1 y3 y4 a b)):F48.k10 K y1 y3 y4 y6 w:=qq h
def F48.sh(h:(Aw (wj (wc.cells x0) 49) w λa b=>Ad a b λc d=>Ag c d λf g=>Ab 12 f g λi j=>Ad i j λk m=>I vp 83 #[k] m λo p=>Am vp (Instr.buildSlice 54 1 #[(0,o)]) p λq r=>Aw (wj #[vt v6 0 0] 54) r λs t=>Aj 1 s q t λu=>Ad a u λv x=>Ag v x λy z=>Ab 2 y z λaa ab=>Ab 1 aa ab λac ad=>Ad ac ad λae af=>F48.l4 K a s (.func (.func 84) #[] #[s]) ae (vq vy 0) af)):I vp 48 #[x0] w K:=BK (A:=F48.ann) (args:=[x0]) (qq h)
namespace F50
def ann:Cd:=⟨[(4,[0,1,5,14,15]),(7,[0,1,5,14,15]),(8,[5])],[(3,[0,1,5,14,15])],[],[],v6⟩
def code:=cd f50
def BL:=tp f50
variable(K:VK)(y0 y1 y5 y14 y15:wc)(w:wd)
def k8:=nk ann 34 [(5,y5)] w [1,1,1] code (BL K)
def l3:=nl ann 34 [(0,y0),(1,y1),(5,y5),(14,y14),(15,y15)] w [1,1,0,1,0] code (BL K)
def k4:=nk ann 34 [(0,y0),(1,y1),(5,y5),(14,y14),(15,y15)] w [1,1,0,1,0,0,1,1] code (BL K)
def k7:=nk ann 34 [(0,y0),(1,y1),(5,y5),(14,y14),(15,y15)] w [1,1,0,1,0,0,1,1,1] code (BL K)
attribute [irreducible] k8 l3 k4 k7
end F50
def F50.k8.to(h:(K y5 w)):F50.k8 K y5 w:=qq h
def F50.l3.to(h:(U .lss y15 y14 w λa b=>Af a (F50.k4 K y0 y1 y5 y14 y15 b) (F50.k8 K y5 b))):F50.l3 K y0 y1 y5 y14 y15 w:=by unfold F50.l3 nl;exact BW (qq h)
def F50.k4.to(h:(Ag y0 w λa b=>Ab 12 a b λc d=>Ad c d λf g=>I vp 91 #[f,y1,y15] g λi j=>Av 0 i j λk m=>Av 1 i m λo p=>Aw (wj #[vq vy 0,vq vy 0] 60) p λq r=>Aj 2 q k r λs=>Ak 2 q s λt u=>Am vp (Instr.buildSlice 56 1 #[(0,t)]) u λv x=>Am vp (Builtin.append_ #[56,56] 56 #[y5,v]) x λy z=>F50.k7 K y0 y1 y y14 y15 z)):F50.k4 K y0 y1 y5 y14 y15 w:=qq h
def F50.k7.to(h:(U .add y15 (vq vy 1) w λa b=>F50.l3 K y0 y1 y5 y14 a b)):F50.k7 K y0 y1 y5 y14 y15 w:=qq h
def F50.sh(h:(Ag x0 w λa b=>Ab 12 a b λc d=>Ad c d λf g=>I vp 90 #[f,x1] g λi j=>F50.l3 K x0 x1 (vt v6 0 0) i (vq vy 0) j)):I vp 50 #[x0,x1] w K:=BK (A:=F50.ann) (args:=[x0,x1]) (qq h)
def F54.sh(h:(Aw (wj #[vq vy 0,vq vy 0,vq vy 0,vq vy 0,vq vy 0] 38) w λa b=>Am vp (Instr.build 38 #[(0,x0)]) b λc d=>Aj 5 a c d λf=>Ak 5 a f λr4 _=>K r4 f)):I vp 54 #[x0] w K:=BK (A:=A0) (args:=[x0]) (qq h)
namespace F55
def ann:Cd:=⟨[(3,[1]),(6,[1,3,20,21]),(9,[1,3,20,21]),(10,[1,3]),(12,[1,3,32,33]),(15,[1,3,32,33]),(16,[1,3]),(18,[])],[(5,[1,3,20,21]),(11,[1,3,32,33])],[],[],v6⟩
def code:=cd f55
def BL:=tp f55
variable(K:VK)(y1 y3 y20 y21 y32 y33:wc)(w:wd)
def k3:=nk ann 55 [(1,y1)] w [1,1] code (BL K)
def k10:=nk ann 55 [(1,y1),(3,y3)] w [1,1,1,1] code (BL K)
def l5:=nl ann 55 [(1,y1),(3,y3),(20,y20),(21,y21)] w [1,1,1,0,1,0] code (BL K)
def k6:=nk ann 55 [(1,y1),(3,y3),(20,y20),(21,y21)] w [1,1,1,0,1,0,0,1,1] code (BL K)
def k9:=nk ann 55 [(1,y1),(3,y3),(20,y20),(21,y21)] w [1,1,1,0,1,0,0,1,1,1] code (BL K)
def k16:=nk ann 55 [(1,y1),(3,y3)] w [1,1,1,1,1] code (BL K)
def l11:=nl ann 55 [(1,y1),(3,y3),(32,y32),(33,y33)] w [1,1,1,1,0,1,0] code (BL K)
def k12:=nk ann 55 [(1,y1),(3,y3),(32,y32),(33,y33)] w [1,1,1,1,0,1,0,0,1,1] code (BL K)
def k15:=nk ann 55 [(1,y1),(3,y3),(32,y32),(33,y33)] w [1,1,1,1,0,1,0,0,1,1,1] code (BL K)
def k18:=nk ann 55 [] w [1,1,1,1,1,1] code (BL K)
attribute [irreducible] k3 k10 l5 k6 k9 k16 l11 k12 k15 k18
end F55
def F55.k3.to(h:(Ab 0 y1 w λa b=>Ad a b λc d=>I vp 96 #[c] d λf g=>Ak 7 y1 g λi j=>I vp 97 #[i] j λk m=>F55.l5 K y1 f k (vq vy 0) m)):F55.k3 K y1 w:=qq h
def F55.k10.to(h:(Ak 7 y1 w λa b=>I vp 97 #[a] b λc d=>F55.l11 K y1 y3 c (vq vy 0) d)):F55.k10 K y1 y3 w:=qq h
def F55.l5.to(h:(U .lss y21 (vq vy 5) w λa b=>Af a (F55.k6 K y1 y3 y20 y21 b) (F55.k10 K y1 y3 b))):F55.l5 K y1 y3 y20 y21 w:=by unfold F55.l5 nl;exact BW (qq h)
def F55.k6.to(h:(Am vp (Instr.index 158 y20 y21) w λa b=>U .lss a (vq vy 0) b λc d=>Aa v8 c (λK=>K a d) d λf g=>Aa v8 c (U .gtr f (vq vy 255) g) g λi j=>Ar (vz c) (vz (vw v7)) (vz i) j λk m=>Af k (K (vq vy 4) m) (F55.k9 K y1 y3 y20 y21 m))):F55.k6 K y1 y3 y20 y21 w:=qq h
def F55.k9.to(h:(U .add y21 (vq vy 1) w λa b=>F55.l5 K y1 y3 y20 a b)):F55.k9 K y1 y3 y20 y21 w:=qq h
def F55.k16.to(h:(Ab 6 y1 w λa b=>Ad a b λc d=>U .neq c (vq vy 0) d λf g=>Aa v7 f (λK=>K y3 g) g λi j=>Aa v7 f (λK=>AG vp .and 3 (.tmp 51) (.const (vq vy 32)) i (vq vy 32) j K) j λk m=>Aa v7 f (U .eql k (vq vy 0) m) m λo p=>Ar (vz f) (vz o) (vz (vw v8)) p λq r=>Af q (K (vq vy 16) r) (F55.k18 K r))):F55.k16 K y1 y3 w:=qq h
def F55.l11.to(h:(U .lss y33 (vq vy 5) w λa b=>Af a (F55.k12 K y1 y3 y32 y33 b) (F55.k16 K y1 y3 b))):F55.l11 K y1 y3 y32 y33 w:=by unfold F55.l11 nl;exact BW (qq h)
def F55.k12.to(h:(Am vp (Instr.index 158 y32 y33) w λa b=>U .neq a (vq vy 0) b λc d=>Aa v7 c (λK=>K y3 d) d λf g=>Aa v7 c (λK=>K y33 g) g λi j=>Aa v7 c (AG vp .shr 3 (.tmp 40) (.tmp 41) f i j) j λk m=>Aa v7 c (λK=>AG vp .and 3 (.tmp 42) (.const (vq vy 1)) k (vq vy 1) m K) m λo p=>Aa v7 c (U .eql o (vq vy 0) p) p λq r=>Ar (vz c) (vz q) (vz (vw v8)) r λs t=>Af s (K (vq vy 16) t) (F55.k15 K y1 y3 y32 y33 t))):F55.k12 K y1 y3 y32 y33 w:=qq h
def F55.k15.to(h:(U .add y33 (vq vy 1) w λa b=>F55.l11 K y1 y3 y32 a b)):F55.k15 K y1 y3 y32 y33 w:=qq h
def F55.k18.to(h:(K (vq vy 0) w)):F55.k18 K w:=qq h
def F55.sh(h:(Aw (wj (wc.cells x0) 40) w λa b=>Ab 0 a b λc d=>Ad c d λf g=>U .lss f (vq vy 1) g λi j=>Aa v8 i (Ab 0 a j) j λk m=>Aa v8 i (Ad k m) m λo p=>Aa v8 i (U .gtr o (vq vy 17) p) p λq r=>Ar (vz i) (vz (vw v7)) (vz q) r λs t=>Af s (K (vq vy 12) t) (F55.k3 K a t))):I vp 55 #[x0] w K:=BK (A:=F55.ann) (args:=[x0]) (qq h)
namespace F56
def ann:Cd:=⟨[(9,[])],[],[],[(3,(tk [0,2,3,4,5,1,6,7,8] .fin)),(5,(tk [0,1,2,3,4,5,6,8,7,9] (.go 10 (tk [11,12] .fin) .fin))),(7,(tk [0,1,2,3,4,5,6,8,7,9] (.go 10 (tk [11,12,13] .fin) .fin)))],v6⟩
def code:=cd f56
def BL:=tp f56
variable(K:VK)(w:wd)
@[irreducible]def k9:=nk ann 45 [] w [1,1] code (BL K)
end F56
def F56.k9.to(h:(K (vq vy 0) w)):F56.k9 K w:=qq h
def F56.sh(h:(Aw (wj (wc.cells x1) 40) w λa b=>Ab 0 a b λc d=>Ad c d λf g=>U .geq f (vq vy 16) g λi j=>Af i (K (vq vy 0) j) (A4 j λS k=>Ab 1 a k λm o=>Ag x0 o λp q=>Ab 2 p q λr s=>Ab 1 r s λt u=>Al S m u λv x=>Al S t x λy z=>U .geq v y z λaa ab=>Af aa (K (vq vy 4) ab) (A4 ab λS ac=>Ab 0 a ac λad ae=>Al S ad ae λaf ag=>U .eql af (vq vy 1) ag λah ai=>Aa v7 ah (λK=>K x0 ai) ai λaj ak=>Aa v7 ah (Ag aj ak) ak λal am=>Aa v7 ah (Ab 12 al am) am λan ao=>Aa v7 ah (Ab 1 a ao) ao λap aq=>Aa v7 ah (Al S an aq) aq λar au=>Aa v7 ah (Al S ap au) au λav aw=>(Aa v7 ah (λK=>I vp 53 #[ar,av] aw K) aw λax ay=>(S ay/\
 Ar (vz ah) (vz ax) (vz (vw v8)) ay λaz ba=>Af az (K (vq vy 9) ba) (A4 ba λS bb=>Ab 0 a bb λbc bd=>Al S bc bd λbe bf=>U .neq be (vq vy 1) bf λbg bh=>Aa v7 bg (λK=>K x0 bh) bh λbi bj=>Aa v7 bg (Ag bi bj) bj λbk bl=>Aa v7 bg (Ab 12 bk bl) bl λbm bn=>Aa v7 bg (Ab 1 a bn) bn λbo bp=>Aa v7 bg (Al S bm bp) bp λbq br=>Aa v7 bg (Al S bo br) br λbs bt=>(Aa v7 bg (λK=>I vp 53 #[bq,bs] bt K) bt λbu bv=>(S bv/\
 Aa v7 bg (AE bu bv) bv λbw bx=>Ar (vz bg) (vz bw) (vz (vw v8)) bx λbz ca=>Af bz (K (vq vy 14) ca) (F56.k9 K ca)))/\True)))/\True)))):I vp 56 #[x0,x1] w K:=BK (A:=F56.ann) (args:=[x0,x1]) (qq h)
namespace F57
def ann:Cd:=⟨[(17,[0,4,5,6]),(19,[0,4,5]),(27,[4])],[],[],[(4,(tk [0,1,2,4,3,5] (.go 6 .fin .fin))),(6,(tk [0,1,2,4,3,5] (.go 6 .fin .fin))),(16,(tk [0,1,2,4,3,5] (.go 6 (tk [7,8,9] (.go 10 (.go 11 (.take 12 .fin) .fin) .fin)) (.go 10 (.go 6 (tk [7,8,9] (.go 11 (.take 12 .fin) .fin)) .fin) .fin)))),(26,(tk [0,1,2,4,3,5] (.go 6 .fin .fin)))],v6⟩
def code:=cd f57
def BL:=tp f57
variable(K:VK)(y0 y4 y5 y6:wc)(w:wd)
def k27:=nk ann 83 [(4,y4)] w [1,1] code (BL K)
def k17:=nk ann 83 [(0,y0),(4,y4),(5,y5),(6,y6)] w [1,0,1,0,1,1,1,1,1,1,1,1,1,0,1] code (BL K)
def k19:=nk ann 83 [(0,y0),(4,y4),(5,y5)] w [1,0,1,0,1,1,1,1,1,1,1,1,1,0,1,1] code (BL K)
attribute [irreducible] k27 k17 k19
end F57
def F57.k27.to(h:(Am vp (Instr.build 38 #[]) w λa b=>Aj 5 y4 a b λc=>Ak 5 y4 c λr3 _=>K r3 c)):F57.k27 K y4 w:=qq h
def F57.k17.to(h:(AE y6 w λa b=>Af a (I vp 54 #[(vq vy 4)] b λc d=>Aj 5 y4 c d λf=>Ak 5 y4 f λr4 _=>K r4 f) (F57.k19 K y0 y4 y5 b))):F57.k17 K y0 y4 y5 y6 w:=qq h
def F57.k19.to(h:(Ak 2 y5 w λa b=>I vp 81 #[y0,a] b λc d=>Aj 5 y4 c d λf=>Ak 5 y4 f λr4 _=>K r4 f)):F57.k19 K y0 y4 y5 w:=qq h
def F57.sh(h:(Aw (wj (wc.cells x1) 40) w λa b=>Aw (wj #[vq vy 0,vq vy 0,vq vy 0,vq vy 0,vq vy 0] 38) b λc d=>Ab 0 a d λf g=>Ad f g λi j=>U .eql i (vq vy 1) j λk m=>Af k (A4 m λS o=>Ag x0 o λp q=>Ab 12 p q λr s=>Ab 1 a s λt u=>Al S r u λv x=>Al S t x λy z=>(I vp 98 #[v,y] z λaa ab=>(S ab/\
 F57.k27 K c ab))/\True) (U .eql i (vq vy 2) m λac ad=>Af ac (A4 ad λS ae=>Ag x0 ae λaf ag=>Ab 12 af ag λah ai=>Ab 1 a ai λaj ak=>Al S ah ak λal am=>Al S aj am λan ao=>(I vp 99 #[al,an] ao λap aq=>(S aq/\
 F57.k27 K c aq))/\True) (U .eql i (vq vy 3) ad λar au=>Af ar (Ak 7 a au λav aw=>I vp 100 #[x0,av] aw λax ay=>Aj 5 c ax ay λaz=>Ak 5 c az λr25 _=>K r25 az) (U .eql i (vq vy 4) au λba bb=>Af ba (Af ba (Ak 7 a bb λbc bd=>I vp 101 #[x0,bc] bd λbe bf=>Aj 5 c be bf λbg=>Ak 5 c bg λr30 _=>K r30 bg) (U .eql i (vq vy 8) bb λbh bi=>Af bh (A4 bi λS bj=>Ag x0 bj λbk bl=>Ab 12 bk bl λbm bn=>Ab 1 a bn λbo bp=>Al S bm bp λbq br=>Al S bo br λbs bt=>(I vp 102 #[bq,bs] bt λbu bv=>(S bv/\
 Av 0 bu bv λbw bx=>Av 1 bu bx λbz ca=>(Aw (wj #[vq vy 0,vq vy 0] 60) ca λcb cc=>(S cc/\
 (Aj 2 cb bw cc λce=>(S ce/\
 F57.k17 K x0 c cb bz ce))/\True))/\True))/\((Aw (wj #[vq vy 0,vq vy 0] 60) bt λcf cg=>(S cg/\
 (I vp 102 #[bq,bs] cg λch ci=>(S ci/\
 Av 0 ch ci λcj ck=>Av 1 ch ck λcl cm=>(Aj 2 cf cj cm λcn=>(S cn/\
 F57.k17 K x0 c cf cl cn))/\True))/\True))/\True)) (U .eql i (vq vy 10) bi λco cp=>Af co (Ak 7 a cp λcq cr=>I vp 103 #[x0,cq] cr λcs ct=>Aj 5 c cs ct λcu=>Ak 5 c cu λr52 _=>K r52 cu) (U .eql i (vq vy 11) cp λcv cw=>Af cv (Af cv (Ak 7 a cw λcx cy=>I vp 104 #[x0,cx] cy λcz da=>Aj 5 c cz da λdb=>Ak 5 c db λr57 _=>K r57 db) (U .eql i (vq vy 14) cw λdc dd=>Af dc (A4 dd λS de=>Ag x0 de λdf dg=>Ab 12 df dg λdh di=>Ab 1 a di λdj dk=>Al S dh dk λdl dm=>Al S dj dm λdn dp=>(I vp 105 #[dl,dn] dp λdq dr=>(S dr/\
 F57.k27 K c dr))/\True) (Ak 7 a dd λds dt=>I vp 106 #[x0,ds] dt λdu dv=>Aj 5 c du dv λdw=>Ak 5 c dw λr69 _=>K r69 dw))) (U .eql i (vq vy 12) cw λdx dy=>Af dx (Ak 7 a dy λdz ea=>I vp 104 #[x0,dz] ea λeb ec=>Aj 5 c eb ec λed=>Ak 5 c ed λr74 _=>K r74 ed) (U .eql i (vq vy 14) dy λee ef=>Af ee (A4 ef λS eg=>Ag x0 eg λeh ei=>Ab 12 eh ei λej ek=>Ab 1 a ek λel em=>Al S ej em λen eo=>Al S el eo λep eq=>(I vp 105 #[en,ep] eq λer es=>(S es/\
 F57.k27 K c es))/\True) (Ak 7 a ef λet eu=>I vp 106 #[x0,et] eu λev ew=>Aj 5 c ev ew λex=>Ak 5 c ex λr86 _=>K r86 ex))))))) (U .eql i (vq vy 5) bb λey ez=>Af ey (Af ey (Ak 7 a ez λfa fb=>I vp 101 #[x0,fa] fb λfc fd=>Aj 5 c fc fd λfe=>Ak 5 c fe λr91 _=>K r91 fe) (U .eql i (vq vy 8) ez λff fg=>Af ff (A4 fg λS fh=>Ag x0 fh λfi fj=>Ab 12 fi fj λfk fl=>Ab 1 a fl λfm fn=>Al S fk fn λfo fp=>Al S fm fp λfq fr=>(I vp 102 #[fo,fq] fr λfs ft=>(S ft/\
 Av 0 fs ft λfu fv=>Av 1 fs fv λfw fx=>(Aw (wj #[vq vy 0,vq vy 0] 60) fx λfy fz=>(S fz/\
 (Aj 2 fy fu fz λga=>(S ga/\
 F57.k17 K x0 c fy fw ga))/\True))/\True))/\((Aw (wj #[vq vy 0,vq vy 0] 60) fr λgb gc=>(S gc/\
 (I vp 102 #[fo,fq] gc λgd ge=>(S ge/\
 Av 0 gd ge λgf gg=>Av 1 gd gg λgh gi=>(Aj 2 gb gf gi λgj=>(S gj/\
 F57.k17 K x0 c gb gh gj))/\True))/\True))/\True)) (U .eql i (vq vy 10) fg λgk gl=>Af gk (Ak 7 a gl λgm gn=>I vp 103 #[x0,gm] gn λgo gp=>Aj 5 c go gp λgq=>Ak 5 c gq λr113 _=>K r113 gq) (U .eql i (vq vy 11) gl λgr gs=>Af gr (Af gr (Ak 7 a gs λgt gu=>I vp 104 #[x0,gt] gu λgv gw=>Aj 5 c gv gw λgx=>Ak 5 c gx λr118 _=>K r118 gx) (U .eql i (vq vy 14) gs λgy gz=>Af gy (A4 gz λS ha=>Ag x0 ha λhb hc=>Ab 12 hb hc λhd he=>Ab 1 a he λhf hg=>Al S hd hg λhh hi=>Al S hf hi λhj hk=>(I vp 105 #[hh,hj] hk λhl hm=>(S hm/\
 F57.k27 K c hm))/\True) (Ak 7 a gz λhn ho=>I vp 106 #[x0,hn] ho λhp hq=>Aj 5 c hp hq λhr=>Ak 5 c hr λr130 _=>K r130 hr))) (U .eql i (vq vy 12) gs λhs ht=>Af hs (Ak 7 a ht λhu hv=>I vp 104 #[x0,hu] hv λhw hx=>Aj 5 c hw hx λhy=>Ak 5 c hy λr135 _=>K r135 hy) (U .eql i (vq vy 14) ht λhz ia=>Af hz (A4 ia λS ib=>Ag x0 ib λic id=>Ab 12 ic id λie ig=>Ab 1 a ig λih ii=>Al S ie ii λij ik=>Al S ih ik λil im=>(I vp 105 #[ij,il] im λio ip=>(S ip/\
 F57.k27 K c ip))/\True) (Ak 7 a ia λiq ir=>I vp 106 #[x0,iq] ir λit iu=>Aj 5 c it iu λiv=>Ak 5 c iv λr147 _=>K r147 iv))))))) (U .eql i (vq vy 6) ez λiw ix=>Af iw (Af iw (Ak 7 a ix λiy iz=>I vp 101 #[x0,iy] iz λja jb=>Aj 5 c ja jb λjc=>Ak 5 c jc λr152 _=>K r152 jc) (U .eql i (vq vy 8) ix λjd je=>Af jd (A4 je λS jf=>Ag x0 jf λjg jh=>Ab 12 jg jh λji jj=>Ab 1 a jj λjk jl=>Al S ji jl λjm jn=>Al S jk jn λjo jp=>(I vp 102 #[jm,jo] jp λjq jr=>(S jr/\
 Av 0 jq jr λjs jt=>Av 1 jq jt λju jv=>(Aw (wj #[vq vy 0,vq vy 0] 60) jv λjw jx=>(S jx/\
 (Aj 2 jw js jx λjy=>(S jy/\
 F57.k17 K x0 c jw ju jy))/\True))/\True))/\((Aw (wj #[vq vy 0,vq vy 0] 60) jp λjz ka=>(S ka/\
 (I vp 102 #[jm,jo] ka λkb kc=>(S kc/\
 Av 0 kb kc λkd ke=>Av 1 kb ke λkf kg=>(Aj 2 jz kd kg λkh=>(S kh/\
 F57.k17 K x0 c jz kf kh))/\True))/\True))/\True)) (U .eql i (vq vy 10) je λki kj=>Af ki (Ak 7 a kj λkk kl=>I vp 103 #[x0,kk] kl λkm kn=>Aj 5 c km kn λko=>Ak 5 c ko λr174 _=>K r174 ko) (U .eql i (vq vy 11) kj λkp kq=>Af kp (Af kp (Ak 7 a kq λkr ks=>I vp 104 #[x0,kr] ks λkt ku=>Aj 5 c kt ku λkv=>Ak 5 c kv λr179 _=>K r179 kv) (U .eql i (vq vy 14) kq λkw kx=>Af kw (A4 kx λS ky=>Ag x0 ky λkz la=>Ab 12 kz la λlb lc=>Ab 1 a lc λld le=>Al S lb le λlf lg=>Al S ld lg λlh li=>(I vp 105 #[lf,lh] li λlj lk=>(S lk/\
 F57.k27 K c lk))/\True) (Ak 7 a kx λll lm=>I vp 106 #[x0,ll] lm λln lo=>Aj 5 c ln lo λlp=>Ak 5 c lp λr191 _=>K r191 lp))) (U .eql i (vq vy 12) kq λlq lr=>Af lq (Ak 7 a lr λls lt=>I vp 104 #[x0,ls] lt λlu lv=>Aj 5 c lu lv λlw=>Ak 5 c lw λr196 _=>K r196 lw) (U .eql i (vq vy 14) lr λlx ly=>Af lx (A4 ly λS lz=>Ag x0 lz λma mb=>Ab 12 ma mb λmc md=>Ab 1 a md λme mf=>Al S mc mf λmg mh=>Al S me mh λmi mj=>(I vp 105 #[mg,mi] mj λmk ml=>(S ml/\
 F57.k27 K c ml))/\True) (Ak 7 a ly λmm mn=>I vp 106 #[x0,mm] mn λmo mp=>Aj 5 c mo mp λmq=>Ak 5 c mq λr208 _=>K r208 mq))))))) (U .eql i (vq vy 7) ix λmr ms=>Af mr (Af mr (Ak 7 a ms λmt mu=>I vp 101 #[x0,mt] mu λmv mw=>Aj 5 c mv mw λmx=>Ak 5 c mx λr213 _=>K r213 mx) (U .eql i (vq vy 8) ms λmy mz=>Af my (A4 mz λS na=>Ag x0 na λnb nc=>Ab 12 nb nc λnd ne=>Ab 1 a ne λnf ng=>Al S nd ng λnh ni=>Al S nf ni λnj nm=>(I vp 102 #[nh,nj] nm λnn no=>(S no/\
 Av 0 nn no λnp nq=>Av 1 nn nq λnr ns=>(Aw (wj #[vq vy 0,vq vy 0] 60) ns λnt nu=>(S nu/\
 (Aj 2 nt np nu λnv=>(S nv/\
 F57.k17 K x0 c nt nr nv))/\True))/\True))/\((Aw (wj #[vq vy 0,vq vy 0] 60) nm λnw nx=>(S nx/\
 (I vp 102 #[nh,nj] nx λny nz=>(S nz/\
 Av 0 ny nz λoa ob=>Av 1 ny ob λoc od=>(Aj 2 nw oa od λoe=>(S oe/\
 F57.k17 K x0 c nw oc oe))/\True))/\True))/\True)) (U .eql i (vq vy 10) mz λog oh=>Af og (Ak 7 a oh λoi oj=>I vp 103 #[x0,oi] oj λok ol=>Aj 5 c ok ol λom=>Ak 5 c om λr235 _=>K r235 om) (U .eql i (vq vy 11) oh λon oo=>Af on (Af on (Ak 7 a oo λop oq=>I vp 104 #[x0,op] oq λos ot=>Aj 5 c os ot λou=>Ak 5 c ou λr240 _=>K r240 ou) (U .eql i (vq vy 14) oo λov ow=>Af ov (A4 ow λS ox=>Ag x0 ox λoy oz=>Ab 12 oy oz λpa pb=>Ab 1 a pb λpc pd=>Al S pa pd λpe pf=>Al S pc pf λpg ph=>(I vp 105 #[pe,pg] ph λpi pj=>(S pj/\
 F57.k27 K c pj))/\True) (Ak 7 a ow λpk pl=>I vp 106 #[x0,pk] pl λpm pn=>Aj 5 c pm pn λpo=>Ak 5 c po λr252 _=>K r252 po))) (U .eql i (vq vy 12) oo λpp pq=>Af pp (Ak 7 a pq λpr ps=>I vp 104 #[x0,pr] ps λpt pu=>Aj 5 c pt pu λpv=>Ak 5 c pv λr257 _=>K r257 pv) (U .eql i (vq vy 14) pq λpw px=>Af pw (A4 px λS py=>Ag x0 py λpz qa=>Ab 12 pz qa λqb qc=>Ab 1 a qc λqd qe=>Al S qb qe λqf qg=>Al S qd qg λqh qi=>(I vp 105 #[qf,qh] qi λqj qk=>(S qk/\
 F57.k27 K c qk))/\True) (Ak 7 a px λql qm=>I vp 106 #[x0,ql] qm λqn qo=>Aj 5 c qn qo λqp=>Ak 5 c qp λr269 _=>K r269 qp))))))) (U .eql i (vq vy 9) ms λqr qs=>Af qr (Ak 7 a qs λqt qu=>I vp 101 #[x0,qt] qu λqv qw=>Aj 5 c qv qw λqx=>Ak 5 c qx λr274 _=>K r274 qx) (U .eql i (vq vy 8) qs λqy qz=>Af qy (A4 qz λS ra=>Ag x0 ra λrb rc=>Ab 12 rb rc λrd re=>Ab 1 a re λrf rg=>Al S rd rg λrh ri=>Al S rf ri λrj rk=>(I vp 102 #[rh,rj] rk λrl rm=>(S rm/\
 Av 0 rl rm λrn ro=>Av 1 rl ro λrp rq=>(Aw (wj #[vq vy 0,vq vy 0] 60) rq λrr rs=>(S rs/\
 (Aj 2 rr rn rs λrt=>(S rt/\
 F57.k17 K x0 c rr rp rt))/\True))/\True))/\((Aw (wj #[vq vy 0,vq vy 0] 60) rk λru rv=>(S rv/\
 (I vp 102 #[rh,rj] rv λrw rx=>(S rx/\
 Av 0 rw rx λry rz=>Av 1 rw rz λsa sb=>(Aj 2 ru ry sb λsc=>(S sc/\
 F57.k17 K x0 c ru sa sc))/\True))/\True))/\True)) (U .eql i (vq vy 10) qz λsd se=>Af sd (Ak 7 a se λsf sg=>I vp 103 #[x0,sf] sg λsh si=>Aj 5 c sh si λsj=>Ak 5 c sj λr296 _=>K r296 sj) (U .eql i (vq vy 11) se λsk sl=>Af sk (Af sk (Ak 7 a sl λsm sn=>I vp 104 #[x0,sm] sn λso sp=>Aj 5 c so sp λsq=>Ak 5 c sq λr301 _=>K r301 sq) (U .eql i (vq vy 14) sl λsr ss=>Af sr (A4 ss λS st=>Ag x0 st λsu sv=>Ab 12 su sv λsw sx=>Ab 1 a sx λsy sz=>Al S sw sz λta tb=>Al S sy tb λtc td=>(I vp 105 #[ta,tc] td λte tf=>(S tf/\
 F57.k27 K c tf))/\True) (Ak 7 a ss λtg th=>I vp 106 #[x0,tg] th λti tj=>Aj 5 c ti tj λtk=>Ak 5 c tk λr313 _=>K r313 tk))) (U .eql i (vq vy 12) sl λtl tm=>Af tl (Ak 7 a tm λtn to=>I vp 104 #[x0,tn] to λtq tr=>Aj 5 c tq tr λts=>Ak 5 c ts λr318 _=>K r318 ts) (U .eql i (vq vy 14) tm λtt tu=>Af tt (A4 tu λS tv=>Ag x0 tv λtw tx=>Ab 12 tw tx λty tz=>Ab 1 a tz λua ub=>Al S ty ub λuc ud=>Al S ua ud λue uf=>(I vp 105 #[uc,ue] uf λug uh=>(S uh/\
 F57.k27 K c uh))/\True) (Ak 7 a tu λui uj=>I vp 106 #[x0,ui] uj λuk ul=>Aj 5 c uk ul λum=>Ak 5 c um λr330 _=>K r330 um))))))))))))))):I vp 57 #[x0,x1] w K:=BK (A:=F57.ann) (args:=[x0,x1]) (qq h)
def F58.sh(h:(Aw (wj (wc.cells x0) 94) w λa b=>Ab 0 a b λc d=>Ad c d λf g=>I vp 107 #[f,x1,x2] g λi j=>K (vu #[]) j)):I vp 58 #[x0,x1,x2] w K:=BK (A:=A0) (args:=[x0,x1,x2]) (qq h)
namespace F81
def ann:Cd:=⟨[(3,[3,4])],[],[],[(2,(tk [0,1,2,4,3] (.go 5 (.go 6 (.take 7 (.go 8 .fin .fin)) .fin) .fin)))],v6⟩
def code:=cd f81
def BL:=tp f81
variable(K:VK)(y3 y4:wc)(w:wd)
@[irreducible]def k3:=nk ann 21 [(3,y3),(4,y4)] w [1,1] code (BL K)
end F81
def F81.k3.to(h:(Ab 0 y3 w λa b=>Ad a b λc d=>Ab 1 y3 d λf g=>Ad f g λi j=>Am vp (Instr.build 38 #[(1,c),(2,i)]) j λk m=>Aj 5 y4 k m λo=>Ak 5 y4 o λr7 _=>K r7 o)):F81.k3 K y3 y4 w:=qq h
def F81.sh(h:(Aw (wj (wc.cells x1) 60) w λa b=>Aw (wj #[vq vy 0,vq vy 0,vq vy 0,vq vy 0,vq vy 0] 38) b λc d=>Ab 0 a d λf g=>Ad f g λi j=>U .eql i (vq vy 2) j λk m=>Af k (A4 m λS o=>Ag x0 o λp q=>Ab 12 p q λr s=>Ab 1 a s λt u=>Al S r u λv x=>(Ad t x λy z=>(S z/\
 (I vp 49 #[v,y] z λaa ab=>(S ab/\
 Ab 1 a ab λac ad=>(Aj 1 ac aa ad λae=>(S ae/\
 F81.k3 K a c ae))/\True))/\True))/\True) (F81.k3 K a c m))):I vp 81 #[x0,x1] w K:=BK (A:=F81.ann) (args:=[x0,x1]) (qq h)
namespace F84
def ann:Cd:=⟨[(2,[1,6,7,8]),(6,[1,6,7,8])],[(1,[1,6,7,8])],[],[],v6⟩
def code:=cd f84
def BL:=tp f84
variable(K:VK)(y1 y6 y7 y8:wc)(w:wd)
def l1:=nl ann 28 [(1,y1),(6,y6),(7,y7),(8,y8)] w [1,0] code (BL K)
def k2:=nk ann 28 [(1,y1),(6,y6),(7,y7),(8,y8)] w [1,0,0,1,1] code (BL K)
def k6:=nk ann 28 [(1,y1),(6,y6),(7,y7),(8,y8)] w [1,0,0,1,1,1] code (BL K)
attribute [irreducible] l1 k2 k6
end F84
def F84.l1.to(h:(U .lss y8 y7 w λa b=>Af a (F84.k2 K y1 y6 y7 y8 b) (K (vu #[]) b))):F84.l1 K y1 y6 y7 y8 w:=by unfold F84.l1 nl;exact BW (qq h)
def F84.k2.to(h:(A6 2 y6 y8 w λa b=>Ak 2 a b λc d=>Aw (wj #[vq vy 0,vq vy 0] 60) d λf g=>Aj 2 f c g λi=>Ab 1 f i λj k=>Ad j k λm o=>Ab 0 f o λp q=>Ad p q λr s=>U .eql r (vq vy 2) s λt u=>Aa v7 t (Ad y1 u) u λv x=>Aa v7 t (λK=>K m x) x λy z=>Aa v7 t (λK=>I vp 85 #[v,y] z K) z λaa ab=>Aa v7 t (AE aa ab) ab λac ad=>Ar (vz t) (vz ac) (vz (vw v8)) ad λae af=>Af ae (Ad y1 af λag ah=>Am vp (Instr.buildSlice 54 1 #[(0,m)]) ah λai aj=>Am vp (Builtin.append_ #[54,54] 54 #[ag,ai]) aj λak al=>Aj 1 y1 ak al λam=>F84.k6 K y1 y6 y7 y8 am) (F84.k6 K y1 y6 y7 y8 af))):F84.k2 K y1 y6 y7 y8 w:=qq h
def F84.k6.to(h:(U .add y8 (vq vy 1) w λa b=>F84.l1 K y1 y6 y7 a b)):F84.k6 K y1 y6 y7 y8 w:=qq h
def F84.sh(h:(AH x0 w λa b=>F84.l1 K x1 x0 a (vq vy 0) b)):I vp 84 #[x0,x1] w K:=BK (A:=F84.ann) (args:=[x0,x1]) (qq h)
namespace F87
def ann:Cd:=⟨[],[],[],[(1,(tk [4,10,0,1,2,3,6,7,8,9] (.go 5 (.go 11 (tk [12,13] .fin) .fin) .fin)))],v6⟩
end F87
def F87.sh(h:(A4 w λS a=>Al S x2 a λb c=>Ag b c λd f=>Ab 12 d f λg i=>Al S g i λj k=>Al S x2 k λm o=>Ag m o λp q=>Ab 12 p q λr s=>Al S r s λt u=>(I vp 49 #[j,x0] u λv x=>(S x/\
 (I vp 49 #[t,x1] x λy z=>(S z/\
 U .sub v y z λaa ab=>K aa ab))/\True))/\True)):I vp 87 #[x0,x1,x2] w K:=BK (A:=F87.ann) (args:=[x0,x1,x2]) (qq h)
def F96.sh(h:(Am vp (Instr.build 213 #[(0,(vq vy 0)),(1,(vq vy 1)),(2,(vq vy 1)),(3,(vq vy 49)),(4,(vq vy 33)),(5,(vq vy 1)),(6,(vq vy 1)),(7,(vq vy 3)),(8,(vq vy 1)),(9,(vq vy 7)),(10,(vq vy 15)),(11,(vq vy 11)),(12,(vq vy 3)),(13,(vq vy 33)),(14,(vq vy 1)),(15,(vq vy 49)),(16,(vq vy 32)),(17,(vq vy 0))]) w λa b=>Am vp (Instr.index 213 a x0) b λc d=>K c d)):I vp 96 #[x0] w K:=BK (A:=A0) (args:=[x0]) (qq h)
def F97.sh(h:(Aw (wj (wc.cells x0) 40) w λa b=>Aw (wj #[vq vy 0,vq vy 0,vq vy 0,vq vy 0,vq vy 0] 158) b λc d=>Ab 1 a d λf g=>Ad f g λi j=>Ab 2 a j λk m=>Ad k m λo p=>Ab 3 a p λq r=>Ad q r λs t=>Ab 4 a t λu v=>Ad u v λx y=>Ab 5 a y λz aa=>Ad z aa λab ac=>Am vp (Instr.build 158 #[(0,i),(1,o),(2,s),(3,x),(4,ab)]) ac λad ae=>Aj 5 c ad ae λaf=>Ak 5 c af λr15 _=>K r15 af)):I vp 97 #[x0] w K:=BK (A:=A0) (args:=[x0]) (qq h)
namespace F100
def ann:Cd:=⟨[(6,[0,3,4]),(10,[0,3,4,5,7]),(12,[0,3,4,5,7])],[],[],[(2,(tk [0,2,3,4,5,1,6] (.go 7 (.take 8 .fin) .fin))),(4,(tk [0,1,2,4,3,5] (.go 6 (tk [7,8,9] .fin) .fin))),(6,(tk [0,1,2,4,6,3,5,7] (.go 8 (tk [9,10,11,12,13] .fin) .fin))),(13,(tk [0,1,2,4,3,5,6] (.go 7 .fin .fin))),(15,(tk [0,2,1,4,3] (.go 5 (.take 6 (.go 7 .fin .fin)) .fin)))],v6⟩
def code:=cd f100
def BL:=tp f100
variable(K:VK)(y0 y3 y4 y5 y7:wc)(w:wd)
def k6:=nk ann 78 [(0,y0),(3,y3),(4,y4)] w [1,1] code (BL K)
def k10:=nk ann 78 [(0,y0),(3,y3),(4,y4),(5,y5),(7,y7)] w [1,1,1,1,1] code (BL K)
def k12:=nk ann 78 [(0,y0),(3,y3),(4,y4),(5,y5),(7,y7)] w [1,1,1,1,1,1] code (BL K)
attribute [irreducible] k6 k10 k12
end F100
def F100.k6.to(h:(A4 w λS a=>Ag y0 a λb c=>Ab 12 b c λd f=>Ab 1 y3 f λg i=>Ab 6 y3 i λj k=>Al S d k λm o=>Al S g o λp q=>Al S j q λr s=>(I vp 151 #[m,p,r] s λt u=>(S u/\
 Av 0 t u λv x=>Av 1 t x λy z=>Aw (wj #[vq vy 0,vq vy 0,vq vy 0,vq vy 0,vq vy 0] 38) z λaa ab=>AE y ab λac ad=>Af ac (Ak 7 y3 ad λae af=>I vp 152 #[y0,ae] af λag ah=>Av 0 ag ah λai aj=>Av 1 ag aj λak al=>Aj 5 aa ak al λam=>F100.k10 K y0 y3 y4 ai aa am) (F100.k10 K y0 y3 y4 v aa ad)))/\True)):F100.k6 K y0 y3 y4 w:=qq h
def F100.k10.to(h:(Ab 0 y7 w λa b=>Ad a b λc d=>U .neq c (vq vy 0) d λf g=>Af f (Ak 5 y7 g λi j=>Aj 5 y4 i j λk=>Ak 5 y4 k λr6 _=>K r6 k) (F100.k12 K y0 y3 y4 y5 y7 g))):F100.k10 K y0 y3 y4 y5 y7 w:=qq h
def F100.k12.to(h:(I vp 153 #[y5] w λa b=>Aw (wj #[vq vy 0,vq vy 0] 60) b λc d=>Aj 2 c a d λf=>A4 f λS g=>Ag y0 g λi j=>Ab 12 i j λk m=>Ab 1 y3 m λo p=>Al S k p λq r=>Al S o r λs t=>AN S 2 c t λu v=>(I vp 154 #[q,s,u] v λx y=>(S y/\
 Ak 2 c y λz aa=>I vp 81 #[y0,z] aa λab ac=>Aw (wj #[vq vy 0,vq vy 0,vq vy 0,vq vy 0,vq vy 0] 38) ac λad ae=>Aj 5 ad ab ae λaf=>A4 af λS ag=>Ab 1 ad ag λah ai=>Ab 2 ad ai λaj ak=>Al S ah ak λal am=>Ab 1 y7 am λan ao=>Al S aj ao λap aq=>(Aj 1 an al aq λar=>(S ar/\
 Ab 2 y7 ar λau av=>(Aj 1 au ap av λaw=>(S aw/\
 Ak 5 y7 aw λax ay=>Aj 5 y4 ax ay λaz=>Ak 5 y4 az λr27 _=>K r27 az))/\True))/\True))/\True)):F100.k12 K y0 y3 y4 y5 y7 w:=qq h
def F100.sh(h:(Aw (wj (wc.cells x1) 40) w λa b=>Aw (wj #[vq vy 0,vq vy 0,vq vy 0,vq vy 0,vq vy 0] 38) b λc d=>Ab 6 a d λf g=>Ad f g λi j=>I vp 150 #[i,(vq vy 0),(vq vy 127)] j λk m=>Af k (Af k (I vp 54 #[(vq vy 4)] m λo p=>Aj 5 c o p λq=>Ak 5 c q λr8 _=>K r8 q) (A4 m λS r=>Ag x0 r λs t=>Ab 12 s t λu v=>Ab 1 a v λx y=>Al S u y λz aa=>Al S x aa λab ac=>(I vp 47 #[z,ab] ac λad ae=>(S ae/\
 AH ad ae λaf ag=>U .eql af (vq vy 16) ag λah ai=>Af ah (I vp 54 #[(vq vy 3)] ai λaj ak=>Aj 5 c aj ak λal=>Ak 5 c al λr20 _=>K r20 al) (F100.k6 K x0 a c ai)))/\True)) (A4 m λS am=>Ab 5 a am λan ao=>Ag x0 ao λap aq=>Ab 2 ap aq λar au=>Ab 3 ar au λav aw=>Al S an aw λax ay=>Al S av ay λaz ba=>(I vp 150 #[ax,(vq vy 1),az] ba λbb bc=>(S bc/\
 Af bb (I vp 54 #[(vq vy 4)] bc λbd be=>Aj 5 c bd be λbf=>Ak 5 c bf λr31 _=>K r31 bf) (A4 bc λS bg=>Ag x0 bg λbh bi=>Ab 12 bh bi λbj bk=>Ab 1 a bk λbl bm=>Al S bj bm λbn bo=>Al S bl bo λbp bq=>(I vp 47 #[bn,bp] bq λbr bs=>(S bs/\
 AH br bs λbt bu=>U .eql bt (vq vy 16) bu λbv bw=>Af bv (I vp 54 #[(vq vy 3)] bw λbx bz=>Aj 5 c bx bz λca=>Ak 5 c ca λr43 _=>K r43 ca) (F100.k6 K x0 a c bw)))/\True)))/\True))):I vp 100 #[x0,x1] w K:=BK (A:=F100.ann) (args:=[x0,x1]) (qq h)
namespace F101
def ann:Cd:=⟨[(4,[0,3,4,5]),(6,[0,4,5])],[],[],[(4,(tk [0,1,2,4,3,5,6] (.go 7 (.take 8 .fin) .fin)))],v6⟩
def code:=cd f101
def BL:=tp f101
variable(K:VK)(y0 y3 y4 y5:wc)(w:wd)
def k4:=nk ann 30 [(0,y0),(3,y3),(4,y4),(5,y5)] w [1,1,1] code (BL K)
def k6:=nk ann 30 [(0,y0),(4,y4),(5,y5)] w [1,1,1,1] code (BL K)
attribute [irreducible] k4 k6
end F101
def F101.k4.to(h:(A4 w λS a=>Ag y0 a λb c=>Ab 12 b c λd f=>Ab 1 y3 f λg i=>Al S d i λj k=>Al S g k λm o=>AN S 2 y5 o λp q=>(I vp 154 #[j,m,p] q λr s=>(S s/\
 AE r s λt u=>Af t (I vp 54 #[(vq vy 3)] u λv x=>Aj 5 y4 v x λy=>Ak 5 y4 y λr12 _=>K r12 y) (F101.k6 K y0 y4 y5 u)))/\True)):F101.k4 K y0 y3 y4 y5 w:=qq h
def F101.k6.to(h:(Ak 2 y5 w λa b=>I vp 81 #[y0,a] b λc d=>Aj 5 y4 c d λf=>Ak 5 y4 f λr4 _=>K r4 f)):F101.k6 K y0 y4 y5 w:=qq h
def F101.sh(h:(Aw (wj (wc.cells x1) 40) w λa b=>Aw (wj #[vq vy 0,vq vy 0,vq vy 0,vq vy 0,vq vy 0] 38) b λc d=>Ak 7 a d λf g=>I vp 155 #[x0,f] g λi j=>Av 0 i j λk m=>Av 1 i m λo p=>Aw (wj #[vq vy 0,vq vy 0] 60) p λq r=>Aj 2 q k r λs=>U .neq o (vq vy 0) s λt u=>Af t (I vp 54 #[o] u λv x=>Aj 5 c v x λy=>Ak 5 c y λr12 _=>K r12 y) (F101.k4 K x0 a c q u))):I vp 101 #[x0,x1] w K:=BK (A:=F101.ann) (args:=[x0,x1]) (qq h)
namespace F103
def ann:Cd:=⟨[(4,[0,3,4,5]),(7,[4])],[],[],[(5,(tk [0,1,2,3,4,5,7,9,10,6,8,11,12] (.go 13 (tk [14,15] .fin) .fin)))],v6⟩
def code:=cd f103
def BL:=tp f103
variable(K:VK)(y0 y3 y4 y5:wc)(w:wd)
def k4:=nk ann 46 [(0,y0),(3,y3),(4,y4),(5,y5)] w [1,1,1] code (BL K)
def k7:=nk ann 46 [(4,y4)] w [1,1,1,1,1] code (BL K)
attribute [irreducible] k4 k7
end F103
def F103.k4.to(h:(Ab 1 y3 w λa b=>Ad a b λc d=>Ab 4 y3 d λf g=>Ad f g λi j=>I vp 158 #[y0,c,i] j λk m=>Av 0 k m λo p=>Av 1 k p λq r=>Aw (wj #[vq vy 0,vq vy 0] 60) r λs t=>Aj 2 s o t λu=>A4 u λS v=>AE q v λx y=>Aa v8 x (λK=>K y0 y) y λz aa=>Aa v8 x (Ag z aa) aa λab ac=>Aa v8 x (Ab 12 ab ac) ac λad ae=>Aa v8 x (Ab 1 y3 ae) ae λaf ag=>Aa v8 x (λK=>K y5 ag) ag λah ai=>Aa v8 x (Ab 3 y3 ai) ai λaj ak=>Aa v8 x (Al S ad ak) ak λal am=>Aa v8 x (Al S af am) am λan ao=>Aa v8 x (Al S aj ao) ao λap aq=>Aa v8 x (AN S 2 s aq) aq λar au=>(Aa v8 x (λK=>I vp 159 #[al,an,ah,ap,ar] au K) au λav aw=>(S aw/\
 Aa v8 x (AE av aw) aw λax ay=>Ar (vz x) (vz (vw v7)) (vz ax) ay λaz ba=>Af az (I vp 54 #[(vq vy 4)] ba λbb bc=>Aj 5 y4 bb bc λbd=>Ak 5 y4 bd λr27 _=>K r27 bd) (F103.k7 K y4 ba)))/\True)):F103.k4 K y0 y3 y4 y5 w:=qq h
def F103.k7.to(h:(Am vp (Instr.build 38 #[]) w λa b=>Aj 5 y4 a b λc=>Ak 5 y4 c λr3 _=>K r3 c)):F103.k7 K y4 w:=qq h
def F103.sh(h:(Aw (wj (wc.cells x1) 40) w λa b=>Aw (wj #[vq vy 0,vq vy 0,vq vy 0,vq vy 0,vq vy 0] 38) b λc d=>Ak 7 a d λf g=>I vp 157 #[x0,f] g λi j=>Av 0 i j λk m=>Av 1 i m λo p=>U .neq o (vq vy 0) p λq r=>Af q (I vp 54 #[o] r λs t=>Aj 5 c s t λu=>Ak 5 c u λr10 _=>K r10 u) (F103.k4 K x0 a c k r))):I vp 103 #[x0,x1] w K:=BK (A:=F103.ann) (args:=[x0,x1]) (qq h)
namespace F104
def ann:Cd:=⟨[(13,[4,9])],[],[],[(10,(tk [0,1,2,4,3,5] (.go 6 (.take 7 .fin) .fin)))],v6⟩
def code:=cd f104
def BL:=tp f104
variable(K:VK)(y4 y9:wc)(w:wd)
@[irreducible]def k13:=nk ann 66 [(4,y4),(9,y9)] w [1,1,1,1,1] code (BL K)
end F104
def F104.k13.to(h:(Am vp (Instr.build 38 #[(1,(vq vy 1)),(2,y9)]) w λa b=>Aj 5 y4 a b λc=>Ak 5 y4 c λr3 _=>K r3 c)):F104.k13 K y4 y9 w:=qq h
def F104.sh(h:(Aw (wj (wc.cells x1) 40) w λa b=>Aw (wj #[vq vy 0,vq vy 0,vq vy 0,vq vy 0,vq vy 0] 38) b λc d=>Ab 1 a d λf g=>Ad f g λi j=>Ab 2 a j λk m=>Ad k m λo p=>I vp 158 #[x0,i,o] p λq r=>Av 0 q r λs t=>Av 1 q t λu v=>Aw (wj #[vq vy 0,vq vy 0] 60) v λx y=>Aj 2 x s y λz=>Ab 1 a z λaa ab=>Ad aa ab λac ad=>Ab 4 a ad λae af=>Ad ae af λag ah=>I vp 158 #[x0,ac,ag] ah λai aj=>Av 0 ai aj λak al=>Av 1 ai al λam an=>Aw (wj #[vq vy 0,vq vy 0] 60) an λao ap=>Aj 2 ao ak ap λaq=>AE u aq λar au=>Af ar (Af ar (I vp 54 #[(vq vy 4)] au λav aw=>Aj 5 c av aw λax=>Ak 5 c ax λr24 _=>K r24 ax) (Ab 0 a au λay az=>Ad ay az λba bb=>U .eql ba (vq vy 12) bb λbc bd=>Aa v7 bc (Ab 0 x bd) bd λbe bf=>Aa v7 bc (Ad be bf) bf λbg bh=>Aa v7 bc (U .neq bg (vq vy 2) bh) bh λbi bj=>Ar (vz bc) (vz bi) (vz (vw v8)) bj λbk bl=>Af bk (I vp 54 #[(vq vy 12)] bl λbm bn=>Aj 5 c bm bn λbo=>Ak 5 c bo λr34 _=>
 K r34 bo) (Ab 0 a bl λbp bq=>Ad bp bq λbr bs=>U .eql br (vq vy 12) bs λbt bu=>Af bt (A4 bu λS bv=>Ag x0 bv λbw bx=>Ab 12 bw bx λbz ca=>Ab 1 x ca λcb cc=>Al S bz cc λce cf=>Al S cb cf λcg ch=>(I vp 90 #[ce,cg] ch λci cj=>(S cj/\
 F104.k13 K c ci cj))/\True) (Ak 2 x bu λck cl=>Ak 2 ao cl λcm cn=>AG vp .eql 60 (.tmp 61) (.tmp 62) ck cm cn λco cp=>Af co (F104.k13 K c (vq vy 1) cp) (F104.k13 K c (vq vy 0) cp))))) (Ab 0 a au λcq cr=>Ad cq cr λcs ct=>U .eql cs (vq vy 11) ct λcu cv=>Aa v7 cu (λK=>K am cv) cv λcw cx=>Aa v7 cu (AE cw cx) cx λcy cz=>Ar (vz cu) (vz cy) (vz (vw v8)) cz λda db=>Af da (I vp 54 #[(vq vy 4)] db λdc dd=>Aj 5 c dc dd λde=>Ak 5 c de λr56 _=>K r56 de) (Ab 0 a db λdf dg=>Ad df dg λdh di=>U .eql dh (vq vy 12) di λdj dk=>Aa v7 dj (Ab 0 x dk) dk λdl dm=>Aa v7 dj (Ad dl dm) dm λdn dp=>Aa v7 dj (U .neq dn (vq vy 2) dp) dp λdq dr=>Ar (vz dj) (vz dq) (vz (vw v8)) dr λds dt=>Af ds (I vp 54 #[(vq vy 12)] dt λdu dv=>Aj 5 c du dv λdw=>Ak 5 c dw λr66 _=>K r66 dw) (Ab 0 a dt λdx dy=>Ad dx dy λdz ea=>U .eql dz (vq vy 12) ea λeb ec=>Af eb (A4 ec λS ed=>Ag x0 ed λee ef=>Ab 12 ee ef λeg eh=>Ab 1 x eh λei ej=>
 Al S eg ej λek el=>Al S ei el λem en=>(I vp 90 #[ek,em] en λeo ep=>(S ep/\
 F104.k13 K c eo ep))/\True) (Ak 2 x ec λeq er=>Ak 2 ao er λes et=>AG vp .eql 60 (.tmp 61) (.tmp 62) eq es et λeu ev=>Af eu (F104.k13 K c (vq vy 1) ev) (F104.k13 K c (vq vy 0) ev))))))):I vp 104 #[x0,x1] w K:=BK (A:=F104.ann) (args:=[x0,x1]) (qq h)
namespace F106
def ann:Cd:=⟨[(17,[4])],[],[],[(2,(tk [0,1,2,4,6,8,3,5,7,9,10] (.go 11 .fin .fin))),(10,(tk [0,1,2,4,6,3,5,7] (.go 8 .fin .fin))),(13,(tk [0,2,3,4,5,1,6] (.go 7 (.take 8 .fin) .fin))),(15,(tk [0,1,2,3,5,7,9,4,6,8,10,11] (.go 12 (tk [13,14] .fin) .fin)))],v6⟩
def code:=cd f106
def BL:=tp f106
variable(K:VK)(y4:wc)(w:wd)
@[irreducible]def k17:=nk ann 87 [(4,y4)] w [1,1] code (BL K)
end F106
def F106.k17.to(h:(Am vp (Instr.build 38 #[]) w λa b=>Aj 5 y4 a b λc=>Ak 5 y4 c λr3 _=>K r3 c)):F106.k17 K y4 w:=qq h
def F106.sh(h:(Aw (wj (wc.cells x1) 40) w λa b=>Aw (wj #[vq vy 0,vq vy 0,vq vy 0,vq vy 0,vq vy 0] 38) b λc d=>Ab 0 a d λf g=>Ad f g λi j=>U .eql i (vq vy 17) j λk m=>Af k (Ag x0 m λo p=>Ab 12 o p λq r=>Ad q r λs t=>I vp 162 #[s] t λu v=>AE u v λx y=>Af x (I vp 54 #[(vq vy 9)] y λz aa=>Aj 5 c z aa λab=>Ak 5 c ab λr13 _=>K r13 ab) (F106.k17 K c y)) (Ab 6 a m λac ad=>Ad ac ad λae af=>I vp 150 #[ae,(vq vy 1),(vq vy 64)] af λag ah=>Af ag (I vp 54 #[(vq vy 4)] ah λai aj=>Aj 5 c ai aj λak=>Ak 5 c ak λr19 _=>K r19 ak) (Ab 0 a ah λal am=>Ad al am λan ao=>U .eql an (vq vy 13) ao λap aq=>Af ap (A4 aq λS ar=>Ag x0 ar λau av=>Ab 0 au av λaw ax=>Ab 1 a ax λay az=>Ab 6 a az λba bb=>AN S 2 aw bb λbc bd=>Al S ay bd λbe bf=>Al S ba bf λbg bh=>(I vp 58 #[bc,be,bg] bh λbi bj=>(S bj/\
 F106.k17 K c bj))/\True) (Ab 0 a aq λbk bl=>Ad bk bl λbm bn=>U .eql bm (vq vy 16) bn λbo bp=>Af bo (Ab 6 a bp λbq br=>Ad bq br λbs bt=>I vp 163 #[x0,bs] bt λbu bv=>Aj 5 c bu bv λbw=>Ak 5 c bw λr39 _=>K r39 bw) (A4 bp λS bx=>Ab 5 a bx λbz ca=>Ag x0 ca λcb cc=>Ab 2 cb cc λce cf=>Ab 3 ce cf λcg ch=>Al S bz ch λci cj=>Al S cg cj λck cl=>(I vp 150 #[ci,(vq vy 1),ck] cl λcm cn=>(S cn/\
 Af cm (I vp 54 #[(vq vy 4)] cn λco cp=>Aj 5 c co cp λcq=>Ak 5 c cq λr50 _=>K r50 cq) (A4 cn λS cr=>Ag x0 cr λcs ct=>Ab 0 cs ct λcu cv=>Ab 0 cu cv λcw cx=>Ab 1 a cx λcy cz=>Ab 6 a cz λda db=>Ab 5 a db λdc dd=>Al S cw dd λde df=>Al S cy df λdg dh=>Al S da dh λdi dj=>Al S dc dj λdk dl=>U .mul di dk dl λdm dn=>(I vp 164 #[de,dg,dm] dn λdp dq=>(S dq/\
 AE dp dq λdr ds=>Af dr (I vp 54 #[(vq vy 21)] ds λdt du=>Aj 5 c dt du λdv=>Ak 5 c dv λr67 _=>K r67 dv) (Ab 6 a ds λdw dx=>Ad dw dx λdy dz=>I vp 163 #[x0,dy] dz λea eb=>Aw (wj #[vq vy 0,vq vy 0,vq vy 0,vq vy 0,vq vy 0] 38) eb λec ed=>Aj 5 ec ea ed λee=>A4 ee λS ef=>Ag x0 ef λeg eh=>Ab 0 eg eh λei ej=>Ab 1 a ej λek el=>Ab 3 ec el λem en=>Ab 5 a en λeo ep=>AN S 2 ei ep λeq er=>Al S ek er λes et=>Al S em et λeu ev=>Al S eo ev λew ex=>U .mul eu ew ex λey ez=>(I vp 165 #[eq,es,ey] ez λfa fb=>(S fb/\
 Ak 5 ec fb λfc fd=>Aj 5 c fc fd λfe=>Ak 5 c fe λr87 _=>K r87 fe))/\True)))/\True)))/\True)))))):I vp 106 #[x0,x1] w K:=BK (A:=F106.ann) (args:=[x0,x1]) (qq h)
def F150.sh(h:(U .lss x0 x1 w λa b=>Aa v8 a (λK=>K x0 b) b λc d=>Aa v8 a (λK=>K x2 d) d λf g=>Aa v8 a (U .gtr c f g) g λi j=>Ar (vz a) (vz (vw v7)) (vz i) j λk m=>K k m)):I vp 150 #[x0,x1,x2] w K:=BK (A:=A0) (args:=[x0,x1,x2]) (qq h)
namespace F152
def ann:Cd:=⟨[(3,[0,3,5]),(6,[0,3,5,6])],[],[],[(1,(tk [0,1,2,3] (.go 4 (tk [5,6,7,8,9,12,13,14,15,10,16] (.go 11 (tk [17,18] .fin) .fin)) .fin))),(5,(tk [1,0] (.go 2 .fin .fin))),(6,(tk [0,1,2,4,6,3,5,7] (.go 8 (tk [9,10,11,12,13] .fin) .fin))),(8,(tk [0,2,1] (.go 3 .fin .fin)))],v6⟩
def code:=cd f152
def BL:=tp f152
variable(K:VK)(y0 y3 y5 y6:wc)(w:wd)
def k3:=nk ann 56 [(0,y0),(3,y3),(5,y5)] w [1,1] code (BL K)
def k6:=nk ann 56 [(0,y0),(3,y3),(5,y5),(6,y6)] w [1,1,1,1] code (BL K)
attribute [irreducible] k3 k6
end F152
def F152.k3.to(h:(Ak 7 y3 w λa b=>I vp 222 #[y0,a] b λc d=>Aw (wj #[vq vy 0,vq vy 0,vq vy 0,vq vy 0,vq vy 0] 38) d λf g=>Aj 5 f c g λi=>Ab 0 f i λj k=>Ad j k λm o=>U .neq m (vq vy 0) o λp q=>Af p (A4 q λS r=>AN S 5 f r λs t=>(Aj 5 y5 s t λu=>(S u/\
 Ak 5 y5 u λr11 _=>K (vu #[(vq vy 0),r11]) u))/\True) (F152.k6 K y0 y3 y5 f q))):F152.k3 K y0 y3 y5 w:=qq h
def F152.k6.to(h:(A4 w λS a=>Ag y0 a λb c=>Ab 12 b c λd f=>Ab 1 y3 f λg i=>Ab 6 y3 i λj k=>Al S d k λm o=>Al S g o λp q=>Al S j q λr s=>(I vp 223 #[m,p,r] s λt u=>(S u/\
 Av 0 t u λv x=>Av 1 t x λy z=>Ab 0 y6 z λaa ab=>Aj 1 aa y ab λac=>A4 ac λS ad=>AN S 5 y6 ad λae af=>(Aj 5 y5 ae af λag=>(S ag/\
 Ak 5 y5 ag λr17 _=>K (vu #[v,r17]) ag))/\True))/\True)):F152.k6 K y0 y3 y5 y6 w:=qq h
def F152.sh(h:(Aw (wj (wc.cells x1) 40) w λa b=>Aw (wj #[vq vy 0,vq vy 0,vq vy 0,vq vy 0,vq vy 0] 38) b λc d=>A4 d λS f=>Ag x0 f λg i=>Ab 12 g i λj k=>Al S j k λm o=>(I vp 59 #[m] o λp q=>(S q/\
 U .eql p (vq vy 0) q λr s=>Aa v7 r (λK=>K x0 s) s λt u=>Aa v7 r (Ag t u) u λv x=>Aa v7 r (Ab 12 v x) x λy z=>Aa v7 r (λK=>K x0 z) z λaa ab=>Aa v7 r (Ag aa ab) ab λac ad=>Aa v7 r (Ab 2 ac ad) ad λae af=>Aa v7 r (Ab 9 ae af) af λag ah=>Aa v7 r (Al S y ah) ah λai aj=>Aa v7 r (Al S ag aj) aj λak al=>(Aa v7 r (λK=>I vp 221 #[ai] al K) al λam an=>(S an/\
 Aa v7 r (U .lss am ak an) an λao ap=>Ar (vz r) (vz ao) (vz (vw v8)) ap λaq ar=>Af aq (Ag x0 ar λau av=>Ab 12 au av λaw ax=>Ad aw ax λay az=>I vp 162 #[ay] az λba bb=>F152.k3 K x0 a c bb) (F152.k3 K x0 a c ar)))/\True))/\True)):I vp 152 #[x0,x1] w K:=BK (A:=F152.ann) (args:=[x0,x1]) (qq h)
namespace F155
def ann:Cd:=⟨[(14,[0,3,4,6,8]),(15,[4,6,7]),(17,[4,6])],[],[],[(14,(tk [0,1,2,4,5,3,6] (.go 7 (tk [8,9,10] (.go 11 (.take 12 .fin) .fin)) .fin)))],v6⟩
def code:=cd f155
def BL:=tp f155
variable(K:VK)(y0 y3 y4 y6 y7 y8:wc)(w:wd)
def k15:=nk ann 67 [(4,y4),(6,y6),(7,y7)] w [1,1,1] code (BL K)
def k14:=nk ann 67 [(0,y0),(3,y3),(4,y4),(6,y6),(8,y8)] w [1,1,0,1,0,1,1,1,1,1,1,1,0,1,1] code (BL K)
def k17:=nk ann 67 [(4,y4),(6,y6)] w [1,1,1,1] code (BL K)
attribute [irreducible] k15 k14 k17
end F155
def F155.k15.to(h:(AE y7 w λa b=>Af a (Am vp (Instr.build 60 #[]) b λc d=>Aj 2 y4 c d λf=>Ak 2 y4 f λr4 _=>K (vu #[r4,(vq vy 4)]) f) (F155.k17 K y4 y6 b))):F155.k15 K y4 y6 y7 w:=qq h
def F155.k14.to(h:(A4 w λS a=>Ag y0 a λb c=>Ab 12 b c λd f=>Ab 3 y3 f λg i=>Al S d i λj k=>Al S g k λm o=>(I vp 91 #[j,y8,m] o λp q=>(S q/\
 Av 0 p q λr s=>Av 1 p s λt u=>(Aj 2 y6 r u λv=>(S v/\
 F155.k15 K y4 y6 t v))/\True))/\True)):F155.k14 K y0 y3 y4 y6 y8 w:=qq h
def F155.k17.to(h:(Ak 2 y6 w λa b=>Aj 2 y4 a b λc=>Ak 2 y4 c λr3 _=>K (vu #[r3,(vq vy 0)]) c)):F155.k17 K y4 y6 w:=qq h
def F155.sh(h:(Aw (wj (wc.cells x1) 40) w λa b=>Aw (wj #[vq vy 0,vq vy 0] 60) b λc d=>Am vp (Instr.build 60 #[]) d λf g=>Aw (wj #[vq vy 0,vq vy 0] 60) g λi j=>Aj 2 i f j λk=>Ab 0 a k λm o=>Ad m o λp q=>U .eql p (vq vy 4) q λr s=>Af r (Ab 6 a s λt u=>Ad t u λv x=>Am vp (Instr.build 60 #[(0,(vq vy 1)),(1,v)]) x λy z=>Aj 2 i y z λaa=>Ak 2 i aa λab ac=>I vp 227 #[ab] ac λad ae=>U .eql ad (vq vy 0) ae λaf ag=>F155.k15 K c i af ag) (U .eql p (vq vy 6) s λah ai=>Af ah (Ag x0 ai λaj ak=>Ab 12 aj ak λal am=>Ad al am λan ao=>I vp 83 #[an] ao λap aq=>I vp 153 #[ap] aq λar au=>Aj 2 i ar au λav=>F155.k15 K c i (vw v7) av) (U .eql p (vq vy 7) ai λaw ax=>Af aw (Ab 1 a ax λay az=>Ad ay az λba bb=>Ab 2 a bb λbc bd=>Ad bc bd λbe bf=>I vp 158 #[x0,ba,be] bf λbg bh=>Av 0 bg bh λbi bj=>Av 1 bg bj λbk bl=>Aj 2 i bi bl λbm=>F155.k15 K c i bk bm) (U .eql p (vq vy 9) ax λbn bo=>Af bn (Ak 7 a bo λbp bq=>
 I vp 157 #[x0,bp] bq λbr bs=>Av 0 br bs λbt bu=>Av 1 br bu λbv bw=>U .neq bv (vq vy 0) bw λbx bz=>Af bx (Am vp (Instr.build 60 #[]) bz λca cb=>Aj 2 c ca cb λcc=>Ak 2 c cc λr40 _=>K (vu #[r40,bv]) cc) (F155.k14 K x0 a c i bt bz)) (F155.k15 K c i (vw v7) bo)))))):I vp 155 #[x0,x1] w K:=BK (A:=F155.ann) (args:=[x0,x1]) (qq h)
namespace F157
def ann:=a1 [(6,[6])]
def code:=cd f157
def BL:=tp f157
variable(K:VK)(y6:wc)(w:wd)
@[irreducible]def k6:=nk ann 26 [(6,y6)] w [1,1,1] code (BL K)
end F157
def F157.k6.to(h:(Ab 1 y6 w λa b=>Ad a b λc d=>K (vu #[c,(vq vy 0)]) d)):F157.k6 K y6 w:=qq h
def F157.sh(h:(Aw (wj (wc.cells x1) 40) w λa b=>Ab 1 a b λc d=>Ad c d λf g=>Ab 2 a g λi j=>Ad i j λk m=>I vp 158 #[x0,f,k] m λo p=>Av 0 o p λq r=>Av 1 o r λs t=>Aw (wj #[vq vy 0,vq vy 0] 60) t λu v=>Aj 2 u q v λx=>AE s x λy z=>Af y (K (vu #[(vq vy 0),(vq vy 4)]) z) (Ab 0 u z λaa ab=>Ad aa ab λac ad=>U .neq ac (vq vy 2) ad λae af=>Af ae (K (vu #[(vq vy 0),(vq vy 12)]) af) (F157.k6 K u af)))):I vp 157 #[x0,x1] w K:=BK (A:=F157.ann) (args:=[x0,x1]) (qq h)
namespace F158
def ann:=a1 [(4,[2,6,8])]
def code:=cd f158
def BL:=tp f158
variable(K:VK)(y2 y6 y8:wc)(w:wd)
@[irreducible]def k4:=nk ann 24 [(2,y2),(6,y6),(8,y8)] w [1,1,1] code (BL K)
end F158
def F158.k4.to(h:(A6 2 y8 y2 w λa b=>Ak 2 a b λc d=>Aj 2 y6 c d λf=>Ak 2 y6 f λr4 _=>K (vu #[r4,(vw v7)]) f)):F158.k4 K y2 y6 y8 w:=qq h
def F158.sh(h:(Aw (wj #[vq vy 0,vq vy 0] 60) w λa b=>Ag x0 b λc d=>Ab 12 c d λf g=>Ad f g λi j=>I vp 47 #[i,x1] j λk m=>AH k m λo p=>U .geq x2 o p λq r=>Af q (Am vp (Instr.build 60 #[]) r λs t=>Aj 2 a s t λu=>Ak 2 a u λr10 _=>K (vu #[r10,(vw v8)]) u) (F158.k4 K x2 a k r))):I vp 158 #[x0,x1,x2] w K:=BK (A:=F158.ann) (args:=[x0,x1,x2]) (qq h)
def F163.sh(h:(Aw (wj #[vq vy 0,vq vy 0,vq vy 0,vq vy 0,vq vy 0] 38) w λa b=>I vp 234 #[x0,x1] b λc d=>Ag x0 d λf g=>Ab 0 f g λi j=>Ab 1 i j λk m=>Ad k m λo p=>I vp 235 #[o,c] p λq r=>Am vp (Instr.build 38 #[(3,c)]) r λs t=>Aj 5 a s t λu=>Ak 5 a u λr10 _=>K r10 u)):I vp 163 #[x0,x1] w K:=BK (A:=A0) (args:=[x0,x1]) (qq h)
def F165.sh(h:(Aw (wj (wc.cells x0) 94) w λa b=>Ab 0 a b λc d=>Ad c d λf g=>I vp 237 #[f,x1,x2] g λi j=>K (vu #[]) j)):I vp 165 #[x0,x1,x2] w K:=BK (A:=A0) (args:=[x0,x1,x2]) (qq h)
namespace F222
def ann:Cd:=⟨[(4,[0,3,4]),(8,[0,3,4,6,7])],[],[],[(4,(tk [0,1,2,3,6,7,8,9,4,10] (.go 5 (tk [11,12] .fin) .fin))),(6,(tk [0,1,2,3,5,7,8,4,6,9,10] (.go 11 (.take 12 .fin) .fin))),(10,(tk [0,1,2,4,6,7,3,5,8,9] (.go 10 .fin .fin)))],v6⟩
def code:=cd f222
def BL:=tp f222
variable(K:VK)(y0 y3 y4 y6 y7:wc)(w:wd)
def k4:=nk ann 78 [(0,y0),(3,y3),(4,y4)] w [1,1] code (BL K)
def k8:=nk ann 78 [(0,y0),(3,y3),(4,y4),(6,y6),(7,y7)] w [1,1,1,1,1] code (BL K)
attribute [irreducible] k4 k8
end F222
def F222.k4.to(h:(A4 w λS a=>Ag y0 a λb c=>Ab 0 b c λd f=>Ab 1 d f λg i=>Ag y0 i λj k=>Ab 2 j k λm o=>Ab 6 m o λp q=>Al S g q λr s=>Al S p s λt u=>(I vp 274 #[r] u λv x=>(S x/\
 ∃y,(∀w',S w'->(builtin .min #[3,3] 3 #[v8,v8] #[v,t]).run vp w'=.ok (.value y) w')/\(Ag y0 x λz aa=>Ab 2 z aa λab ac=>Ab 6 ab ac λad ae=>Ad ad ae λaf ag=>U .sub af y ag λah ai=>A4 ai λS aj=>Ag y0 aj λak al=>Ab 0 ak al λam an=>Ab 0 am an λao ap=>Ab 1 y3 ap λaq ar=>Ab 5 y3 ar λau av=>Al S ao av λaw ax=>Al S aq ax λay az=>Al S au az λba bb=>U .mul ah ba bb λbc bd=>(I vp 164 #[aw,ay,bc] bd λbe bf=>(S bf/\
 AE be bf λbg bh=>Af bg (I vp 54 #[(vq vy 21)] bh λbi bj=>Aj 5 y4 bi bj λbk=>Ak 5 y4 bk λr31 _=>K r31 bk) (F222.k8 K y0 y3 y4 y ah bh)))/\True)))/\True)):F222.k4 K y0 y3 y4 w:=qq h
def F222.k8.to(h:(Ag y0 w λa b=>Ab 0 a b λc d=>Ab 1 c d λf g=>Ad f g λi j=>I vp 275 #[i,y6] j λk m=>I vp 234 #[y0,y7] m λo p=>A4 p λS q=>Ag y0 q λr s=>Ab 0 r s λt u=>Ab 1 y3 u λv x=>Ab 5 y3 x λy z=>AN S 2 t z λaa ab=>Al S v ab λac ad=>Al S y ad λae af=>U .mul o ae af λag ah=>(I vp 165 #[aa,ac,ag] ah λai aj=>(S aj/\
 Am vp (Instr.build 38 #[(3,o),(4,y6)]) aj λak al=>Aj 5 y4 ak al λam=>Ak 5 y4 am λr19 _=>K r19 am))/\True)):F222.k8 K y0 y3 y4 y6 y7 w:=qq h
def F222.sh(h:(Aw (wj (wc.cells x1) 40) w λa b=>Aw (wj #[vq vy 0,vq vy 0,vq vy 0,vq vy 0,vq vy 0] 38) b λc d=>Ag x0 d λf g=>Ab 12 f g λi j=>Ad i j λk m=>I vp 59 #[k] m λo p=>U .neq o (vq vy 3) p λq r=>Aa v7 q (λK=>K o r) r λs t=>Aa v7 q (U .neq s (vq vy 5) t) t λu v=>Ar (vz q) (vz u) (vz (vw v8)) v λx y=>Af x (Am vp (Instr.build 38 #[]) y λz aa=>Aj 5 c z aa λab=>Ak 5 c ab λr13 _=>K r13 ab) (F222.k4 K x0 a c y))):I vp 222 #[x0,x1] w K:=BK (A:=F222.ann) (args:=[x0,x1]) (qq h)
namespace F234
def ann:Cd:=⟨[(3,[0,1,6,7]),(6,[0,1,6,7]),(7,[1])],[(2,[0,1,6,7])],[],[],v6⟩
def code:=cd f234
def BL:=tp f234
variable(K:VK)(y0 y1 y6 y7:wc)(w:wd)
def k7:=nk ann 19 [(1,y1)] w [1,1] code (BL K)
def l2:=nl ann 19 [(0,y0),(1,y1),(6,y6),(7,y7)] w [1,0,1,0] code (BL K)
def k3:=nk ann 19 [(0,y0),(1,y1),(6,y6),(7,y7)] w [1,0,1,0,0,1,1] code (BL K)
def k6:=nk ann 19 [(0,y0),(1,y1),(6,y6),(7,y7)] w [1,0,1,0,0,1,1,1] code (BL K)
attribute [irreducible] k7 l2 k3 k6
end F234
def F234.k7.to(h:(K y1 w)):F234.k7 K y1 w:=qq h
def F234.l2.to(h:(U .lss y7 y6 w λa b=>Af a (F234.k3 K y0 y1 y6 y7 b) (F234.k7 K y1 b))):F234.l2 K y0 y1 y6 y7 w:=by unfold F234.l2 nl;exact BW (qq h)
def F234.k3.to(h:(Ag y0 w λa b=>Ab 12 a b λc d=>Ad c d λf g=>I vp 280 #[f] g λi j=>AE i j λk m=>Af k (K y7 m) (F234.k6 K y0 y1 y6 y7 m))):F234.k3 K y0 y1 y6 y7 w:=qq h
def F234.k6.to(h:(U .add y7 (vq vy 1) w λa b=>F234.l2 K y0 y1 y6 a b)):F234.k6 K y0 y1 y6 y7 w:=qq h
def F234.sh(h:(F234.l2 K x0 x1 x1 (vq vy 0) w)):I vp 234 #[x0,x1] w K:=BK (A:=F234.ann) (args:=[x0,x1]) (qq h)
end
end Go.Proofs.QV
