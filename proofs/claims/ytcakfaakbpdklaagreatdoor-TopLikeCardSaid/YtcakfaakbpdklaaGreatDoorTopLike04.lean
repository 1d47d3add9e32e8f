/- Part 4 of what the law needs: own lemmas, in the order in which they build. -/
import Derived.Test.YtcakfaakbpdklaaGreatDoorProg
import Derived.Test.YtcakfaakbpdklaaGreatDoorTopLike03
set_option linter.defProp false
set_option linter.unusedSimpArgs false
set_option linter.unusedVariables false
set_option maxRecDepth 100000
namespace Go.Proofs.QV
open Go Go.Proofs Go.Proofs.Tryz
open Go.Proofs.Tryz renaming prog->vp
open Go.IntKind renaming i64->vy
open Go.Value renaming int->vq,pointer->vr,slice->vt,tuple->vu,bool->vw
open Option renaming some->vz
open Option renaming none->v6
open Bool renaming true->v7
open Bool renaming false->v8
open Go renaming Value->wc
open Go renaming World->wd
open Go.Obj renaming cells->wj
section
open Go.RowKit
structure D6 where
 A:Ew
 st:Nat
 ob:Nat
 om:Nat
def Ew.all(A:Ew):List Nat:=A.cel::A.tab::A.mem::A.tk::(BM A.kv++BM A.mv)
def D6.S(D:D6):List Nat:=D.st::D.om::D.A.S
def D6.all(D:D6):List Nat:=0::D.st::D.ob::D.om::D.A.all
def Ew.sub(A:Ew):∀x∈A.S,x∈A.all:=λx hx=>by
 simp only[Ew.S,Ew.all,un,j4]at hx ⊢;rcases hx with h|h|h|h<;>simp[h]
def D6.sub(D:D6):∀x∈D.S,x∈D.all:=λx hx=>by
 simp only[D6.S,D6.all,un]at hx ⊢;rcases hx with h|h|h
 ·simp[h]
 ·simp[h]
 ·exact .inr (.inr (.inr (.inr (D.A.sub x h))))
structure D6.Ok(D:D6):Prop where
 so:D.st≠D.ob
 sm:D.st≠D.om
 om:D.ob≠D.om
 s:D.st∉D.A.all
 o:D.ob∉D.A.all
 m:D.om∉D.A.all
 z:0∉D.st::D.ob::D.om::D.A.all
structure C6(D:D6)(np:Nat)(nt:Int)(w:wd)(s:St):Prop where
 ok:D.Ok
 blk:w.heap[D.st]?=vz (wj #[vr (vz ⟨D.A.cel,0,v6⟩),vr (vz ⟨D.ob,0,v6⟩),vq vy nt,vq vy (np:Int),vq vy s.made] 171 (0,0))
 cel:Cw D.A w s.c
 own:EG w D.ob D.om nt s.own
 np:np<=64
 tz:F0 w
def Cw.keepA{S:List Nat}{A:Ew}{w w':wd}{c:Ce}(h:Cw A w c)(hf:Fr S w w')(ha:∀x∈A.all,x∉S):Cw A w' c:=
 h.keep hf (ha _ (by simp[Ew.all])) (ha _ (by simp[Ew.all])) (ha _ (by simp[Ew.all])) (ha _ (by simp[Ew.all])) (λg hg=>ha g (by simp[Ew.all,hg])) (λg hg=>ha g (by simp[Ew.all,hg]))
section
variable{K:VK}{w w':wd}{D:D6}{np:Nat}{nt:Int}{s:St}
def C6.keep{S:List Nat}(h:C6 D np nt w s)(hf:Fr S w w')(ha:∀x∈D.all,x∉S):C6 D np nt w' s:=
 ⟨h.ok,hf.at_ h.blk (ha _ (by simp[D6.all])),h.cel.keepA hf (λx hx=>ha x (by simp[D6.all,hx])),h.own.keep hf (ha _ (by simp[D6.all])) (ha _ (by simp[D6.all])),h.np,h.tz.keep hf (ha _ (by simp[D6.all]))⟩
def C6.keep0(h:C6 D np nt w s)(hf:Fr [] w w'):C6 D np nt w' s:=h.keep hf (by simp)
def C6.setCel{c:Ce}(h:C6 D np nt w s)(hf:Fr D.A.S w w')(hc:Cw D.A w' c):C6 D np nt w' { s with c:=c }:=
 ⟨h.ok,hf.at_ h.blk (λe=>h.ok.s (D.A.sub _ e)),hc,h.own.keep hf (λe=>h.ok.o (D.A.sub _ e)) (λe=>h.ok.m (D.A.sub _ e)),h.np,h.tz.keep hf (λe=>h.ok.z (by simp[D.A.sub _ e]))⟩
def C6.setOwn{f:Om}(h:C6 D np nt w s)(hf:Fr [D.om] w w')(hc:EG w' D.ob D.om nt f):C6 D np nt w' { s with own:=f }:=
 ⟨h.ok,hf.at_ h.blk (by simp[h.ok.sm]),h.cel.keepA hf (λx hx e=>by simp only[yZ]at e;subst e;exact h.ok.m hx),hc,h.np,h.tz.keep hf (λe=>h.ok.z (by simp only[yZ]at e;simp[e]))⟩
def Fr.ofA(h:Fr D.A.S w w'):Fr D.S w w':=h.mono λx hx=>by simp[D6.S,hx]
def Fr.ofM(h:Fr [D.om] w w'):Fr D.S w w':=h.mono λx hx=>by simp only[yZ]at hx;simp[D6.S,hx]
def Fr.ofS(h:Fr [D.st] w w'):Fr D.S w w':=h.mono λx hx=>by simp only[yZ]at hx;simp[D6.S,hx]
def GF(h:C6 D np nt w s)(hk:K (vw v7) w):I vp 118 #[vr (vz ⟨D.st,0,v6⟩)] w K:=by refine F118.sh ⟨_,CN _ _ _ Tryz.underlying118,?_⟩;simp only[zv];refine Ac (v:=vr (vz ⟨D.A.cel,0,v6⟩)) h.blk rfl ⟨_,CN _ _ _ Tryz.underlying166,?_⟩;simp only[];exact hk
def Rc(a n:Int):0<=Ft a n/\Ft a n<=9223372036854775807:=by unfold Ft;split<;>omega
def NQ{a n:Int}(h:C6 D np nt w s)(hk:∀w',Fr D.S w w'->C6 D np nt w' (s.begin a n)->K (vq vy a) w'):
  I vp 121 #[vr (vz ⟨D.st,0,v6⟩),vq vy a,vq vy n] w K:=by
 have hm:=Rc s.made n;refine F121.sh ?_;simp only[zv];refine Ac (v:=vq vy s.made) h.blk rfl (Uc λok=>?_)
 try simp only[zv]
 refine Ac (v:=vr (vz ⟨D.A.cel,0,v6⟩)) h.blk rfl (Ms h.cel (by omega) λw1 hf1 h1=>?_);have h1:=h.setCel hf1.mv h1;refine Ac (v:=vq vy s.made) h1.blk rfl ?_
 try simp only[AC]
 refine AM h1.blk rfl rfl (by simp) λw2 hu=>?_;refine hk w2 (hf1.mv.ofA.trans hu.fr.ofS) ⟨h.ok,hu.at_,h1.cel.keepA hu.fr (λx hx e=>by simp only[yZ]at e;subst e;exact h.ok.s hx),h1.own.keep hu.fr (by simp only[yZ];exact h.ok.so.symm) (by simp only[yZ];exact h.ok.sm.symm),h.np,h1.tz.keep hu.fr (λe=>h.ok.z (by simp only[yZ]at e;simp[e]))⟩
def Uz{n:Int}(hk:K (vw (decide (BT (CC n)>0))) w):I vp 182 #[vq vy n] w K:=by refine F182.sh (Pb (DV ?_));by_cases z:BT (CC n)>0<;>simp only[zv,z]at hk ⊢<;>exact hk
def Mw{t n:Int}(h:C6 D np nt w s)(hk:∀w',Fr D.S w w'->C6 D np nt w' (s.fast t n).1->K (match (s.fast t n).2 with | vz a=>vu #[vq vy a,vw v7] | v6=>vu #[vq vy 0,vw v8]) w'):
  I vp 122 #[vr (vz ⟨D.st,0,v6⟩),vq vy t,vq vy n] w K:=by
 refine F122.sh (GF h ?_);simp only[zv];refine Uz ?_;have hc:=IL (CC n);unfold St.fast at hk;by_cases z:BT (CC n)=0
 ·rw[vn z]at hk;simp only[zv,z,show ¬((0:Int)>0) by omega];exact hk w (Fr.refl _ _) h
 rw[vm z]at hk;simp only[zv,show BT (CC n)>0 by omega];refine F122.k3.to (A8 (λw'=>w'.heap[D.st]?=vz (wj #[vr (vz ⟨D.A.cel,0,v6⟩),vr (vz ⟨D.ob,0,v6⟩),vq vy nt,vq vy (np:Int),vq vy s.made] 171 (0,0))) λw1 hf1 _=>⟨hf1.at_ h.blk (by simp),?_⟩);have h1:=h.keep0 hf1;simp only[zv]
 refine Aq (v:=vr (vz ⟨D.A.cel,0,v6⟩)) (λw' hw=>⟨_,_,_,hw,rfl⟩) (Aq (v:=vr (vz ⟨D.ob,0,v6⟩)) (λw' hw=>⟨_,_,_,hw,rfl⟩) ?_);refine⟨Pb ⟨h1.blk,Ui h1.own ⟨h1.blk,VX h1.cel λw2 hf2 h2=>⟨hf2.at_ h1.blk (λe=>h.ok.s (D.A.sub _ e)),?_⟩,trivial⟩,trivial⟩,trivial⟩;have h2:=h1.setCel hf2 h2;cases e:(s.c.take (EQ s.own (t,CC n))).2 with
 | none=>
  simp only[Ai,A3,A9,AA,m9];have e0:s.c.take (EQ s.own (t,CC n))=(s.c,v6):=by
   unfold Ce.take at e ⊢;split
   ·rfl
   ·rename_i z;simp[z]at e
  rw[e0]at hk h2;exact hk w2 (hf1.w.trans hf2.ofA) h2
 | some a=>
  have e0:s.c.take (EQ s.own (t,CC n))=((s.c.take (EQ s.own (t,CC n))).1,vz a):=by rw[<-e]
  rw[e0]at hk;simp only[Ae,A3,A9,AA,p7];refine F122.k6.to (NQ h2 λw3 hf3 h3=>?_);exact hk w3 ((hf1.w.trans hf2.ofA).trans hf3) h3
def Ol{a:Int}(h:C6 D np nt w s)(hk:K (vu #[vq vy (s.read a).1,vq vy (s.read a).2]) w):
  I vp 127 #[vr (vz ⟨D.st,0,v6⟩),vq vy a] w K:=by
 refine F127.sh (GF h ?_);simp only[zv];refine Ac (v:=vr (vz ⟨D.A.cel,0,v6⟩)) h.blk rfl (RY h.cel ?_);unfold St.read at hk;cases e:s.c.isIt a with
 | false=>
  rw[e]at hk;simp only[zv];exact hk
 | true=>
  rw[e]at hk;simp only[zv];refine F127.k3.to ?_;simp only[zv];have hr:=IW h.cel.mm (a:=a);refine Ac (v:=vr (vz ⟨D.A.cel,0,v6⟩)) h.blk rfl (NV h.cel λok=>?_);simp only[zv];refine RW hr λok=>?_;simp only[zv];exact hk
def Gp{a:Int}(h:C6 D np nt w s)(hk:K (vq vy (s.fields a)) w):I vp 128 #[vr (vz ⟨D.st,0,v6⟩),vq vy a] w K:=by refine F128.sh (Ol h ?_);simp only[zv];exact hk
def Qs{a:Int}(h:C6 D np nt w s)(hk:K (vq vy (s.serial a)) w):I vp 89 #[vr (vz ⟨D.st,0,v6⟩),vq vy a] w K:=by refine F89.sh (Ol h ?_);simp only[zv];exact hk
def PS{a i:Int}(h:C6 D np nt w s)(hk:K (vw (decide (0<=i/\i<s.fields a))) w):I vp 200 #[vr (vz ⟨D.st,0,v6⟩),vq vy a,vq vy i] w K:=by
 refine F200.sh ?_;by_cases z:i≥0
 ·simp only[zv,z];refine Gp h ?_;have:decide (0<=i/\i<s.fields a)=decide (i<s.fields a):=by simp[show 0<=i from z]
  rw[this]at hk;by_cases y:i<s.fields a<;>simp only[zv,y]at hk ⊢<;>exact hk
 ·simp only[zv,z];have:decide (0<=i/\i<s.fields a)=v8:=by simp;omega
  rw[this]at hk;exact hk
def OZ{a i:Int}(h:C6 D np nt w s)(hk:∀w',Fr [] w w'->K (vu #[V (s.get a i).1.1 (s.get a i).1.2,vw (s.get a i).2]) w'):
  I vp 129 #[vr (vz ⟨D.st,0,v6⟩),vq vy a,vq vy i] w K:=by
 refine F129.sh (Ay λr w1 hn=>?_);have h1:=h.keep0 hn.fr;have lr:w.heap.size<=r:=by have:=hn.is;omega
 refine PS h1 ?_;unfold St.get at hk;by_cases z:0<=i/\i<s.fields a
 ·rw[vn z]at hk;simp only[A3,z];rw[show decide (True/\True)=v7 from rfl];simp only[zv];refine F129.k3.to ?_;simp only[zv];refine Ac (v:=vr (vz ⟨D.A.cel,0,v6⟩)) h1.blk rfl (NV h1.cel λok=>?_);simp only[zv];have hr:=IW h1.cel.mm (a:=CJ (CJ (a+1)+i))
  have fin:∀(v:V2) (b:Bool) w2,Fr [] w1 w2->(∀w',Fr [] w w'->K (vu #[V v.1 v.2,vw b]) w')->Aj 2 (vr (vz ⟨r,0,v6⟩)) (V v.1 v.2) w2 λw'=>Ak 2 (vr (vz ⟨r,0,v6⟩)) w' λr5 _=>K (vu #[r5,vw b]) w':=by intro v b w2 hf2 hk;exact AB (hf2.at_ hn.at_ (by simp)) rfl Cb rfl λw3 hu=>A5 hu.at_ rfl (hk w3 ((hn.fr.trans hf2).then hu.fr (by simp;omega)))
  refine VM _ hr (λhc w2 hf2=>?_) (λhc w2 hf2=>?_)
  ·unfold GS at hk;rw[show Cs s.c.m (CJ (CJ (a+1)+i))=Cs s.c.m (IntKind.i64.wrap (IntKind.i64.wrap (a+1)+i)) from rfl,vn hc]at hk;simp only[zv];exact fin (_,_) v7 w2 hf2 hk
  ·unfold GS at hk;rw[show Cs s.c.m (CJ (CJ (a+1)+i))=Cs s.c.m (IntKind.i64.wrap (IntKind.i64.wrap (a+1)+i)) from rfl,vm hc]at hk;simp only[zv];exact fin (0,0) v8 w2 hf2 hk
 ·rw[vm z]at hk;simp only[zv,z];refine A7 EI (AB hn.at_ rfl Cb rfl λw3 hu=>A5 hu.at_ rfl (hk w3 (hn.fr.then hu.fr (by simp;omega))))
end
section
variable{K:VK}{w w':wd}{D:D6}{np:Nat}{nt:Int}{s:St}
def T4{v:V2}(h:D8 v.1 v.2=0) : -9223372036854775808<=E7 v/\E7 v<=9223372036854775807:=by
 unfold E7 Kd;rcases S6 h with⟨e,_⟩|⟨e,_⟩|⟨e,_⟩<;>rw[e]
 ·simp
 ·simp;omega
 ·simp;omega
def VS{a i:Int}{v:V2}(h:C6 D np nt w s)(hk:∀w',Fr D.S w w'->C6 D np nt w' (s.set a i v).1->K (vw (s.set a i v).2) w'):
  I vp 233 #[vr (vz ⟨D.st,0,v6⟩),vq vy a,vq vy i,V v.1 v.2] w K:=by
 unfold St.set at hk;refine F233.sh (Ay λr w1 hn=>A5 hn.at_ rfl ?_);have h1:=h.keep0 hn.fr;by_cases hc:D8 v.1 v.2=0
 ·refine Uo _ _ hc λw2 hf2=>?_;have h2:=h1.keep0 hf2;simp only[zv];refine PS h2 ?_;by_cases z:0<=i/\i<s.fields a
  ·have e1:Dk v=v7:=by simpa[Dk] using hc
   rw[vn ⟨e1,z⟩]at hk;simp only[zv,o8 z];refine Ac (v:=vr (vz ⟨D.A.cel,0,v6⟩)) h2.blk rfl ?_;refine Ms h2.cel (T4 hc) λw3 hf3 h3=>?_;have h3:=h2.setCel hf3.mv h3;have e:(E7 v)=Kd v.1 v.2:=rfl;exact hk w3 ((hn.fr.trans hf2).w.trans hf3.mv.ofA) h3
  ·rw[vm (λx=>z x.2)]at hk;simp only[zv,m8 z];exact hk w2 (hn.fr.trans hf2).w h2
 ·refine V7 _ _ hc λw2 hf2=>?_;rw[vm (λx=>hc (by simpa[Dk] using x.1))]at hk;simp only[zv];exact hk w2 (hn.fr.trans hf2).w (h1.keep0 hf2)
def Ux{a:Int}(h:C6 D np nt w s)(hk:∀w',Fr D.S w w'->C6 D np nt w' { s with c:=(s.c.give a).1 }->K (vw (s.c.give a).2) w'):
  I vp 327 #[vr (vz ⟨D.st,0,v6⟩),vq vy a] w K:=by refine F327.sh (GF h ?_);simp only[zv];refine Ac (v:=vr (vz ⟨D.A.cel,0,v6⟩)) h.blk rfl (Vx h.cel λw1 hf1 h1=>?_);exact hk w1 hf1.ofA (h.setCel hf1 h1)
def Qd(h:C6 D np nt w s)(hk:∀v w',Fr [] w w'->Cc w v->BO w' v 3 1 (Ca s.objects)->K v w'):
  I vp 92 #[vr (vz ⟨D.st,0,v6⟩)] w K:=by refine F92.sh (GF h ?_);simp only[zv];refine F92.k3.to ?_;simp only[zv];exact Ac (v:=vr (vz ⟨D.A.cel,0,v6⟩)) h.blk rfl (Vo h.cel h.tz hk)
def JF(h:C6 D np nt w s):s.objects.length<=2048:=by unfold St.objects HY;rw[i6];refine uw (yE _ _) ?_;rw[zJ];have:=h.cel.mm.le;unfold Ce.n;omega
def Ud{W:wd}{v:wc}{l:List Int}{p:Int}(hl:l.length<=2048)(hk:∀v' w',Fr [] W w'->Cc W v'->BO w' v' 3 1 (Ca (l.filter λa=>decide (Ct a=p)))->K v' w'):
  ∀(d i:Nat) (w:wd) (v':wc),i+d=l.length->Fr [] W w->BO w v 3 1 (Ca l)->Cc W v'->BO w v' 3 1 (Ca ((l.take i).filter λa=>decide (Ct a=p)))->(∀g∈BM v,g∉BM v')->
   F325.l3 K (vq vy p) v' v (vq vy (l.length:Int)) (vq vy (i:Int)) w:=by
 intro d;induction d with
 | zero=>
  intro i w v' hi hf hv hn' hv' hd;have e:i=l.length:=by omega
  subst e;refine F325.l3.to ?_;simp only[zv,show ¬((l.length:Int)<(l.length:Int)) by omega];rw[d7]at hv';exact F325.k8.to (hk v' w hf hn' hv')
 | succ d ih=>
  intro i w v' hi hf hv hn' hv' hd;have hlt:i<l.length:=by omega
  refine F325.l3.to ?_;simp only[zv,show (i:Int)<(l.length:Int) by omega];refine F325.k4.to (Bd hv.rd hlt λg o cs e fz hg hc=>Ac hg hc (FW ?_));have e1:l.take (i+1)=l.take i++[l[i]]:=by rw[zL,xO hlt];rfl
  have hl2:((l.take i).filter λa=>decide (Ct a=p)).length<=2048:=uw (yE _ _) (by rw[b7];omega);by_cases z:Ct l[i]=p
  ·simp only[zv,vl,z];refine B3 hv' (by omega) λv1 w1 ho1 hf1 hg1=>?_;refine F325.k7.to ?_;simp only[AC];rw[BN (n:=(i:Int)+1) (by omega)];refine ih (i+1) w1 v1 (by omega) (hf.then hf1 λz hz => .inr (hn'.blk z hz)) (hv.keep' hf1 hd) (Ln hn' hf.size hg1) ?_ λg hg hg'=>?_
   ·rw[e1,yU];simpa[z] using ho1
   ·rcases hg1 g hg' with c|c
    ·exact hd g hg c
    ·have:=hv.lt (Cl.1 hg);omega
  ·simp only[zv,z];refine F325.k7.to ?_;simp only[AC];rw[BN (n:=(i:Int)+1) (by omega)];refine ih (i+1) w v' (by omega) hf hv hn' ?_ hd;rw[e1,yU];simpa[z] using hv'
def Vy{p:Int}(h:C6 D np nt w s)(hk:∀v w',Fr [] w w'->Cc w v->BO w' v 3 1 (Ca (s.inP p))->K v w'):
  I vp 325 #[vr (vz ⟨D.st,0,v6⟩),vq vy p] w K:=by refine F325.sh (Qd h λv w1 hf1 hn1 hv1=>?_);have hl:=JF h;refine AK hv1.rd ?_;rw[Cm];refine Ud (W:=w) (v:=v) hl (λv' w' hf hn hv=>hk v' w' hf hn hv) s.objects.length 0 w1 _ (by omega) hf1 hv1 (Cc.nil _) (BO.nil _ _ _) (by simp[BM,wc.ownBlock])
def Sm{p:Int}(h:C6 D np nt w s)(hk:∀w',Fr [] w w'->K (vq vy (Dn s.own p).1) w'):
  I vp 339 #[vr (vz ⟨D.st,0,v6⟩),vq vy p] w K:=by refine F339.sh (GF h ?_);simp only[zv];refine F339.k3.to ?_;simp only[zv];refine Ac (v:=vr (vz ⟨D.ob,0,v6⟩)) h.blk rfl (M0 h.own λw1 hf1=>?_);simp only[zv];exact hk w1 hf1
def VZ{p:Int}(h:C6 D np nt w s)(hk:∀b w',Fr D.S w w'->C6 D np nt w' (s.trim p)->K (vw b) w'):
  I vp 328 #[vr (vz ⟨D.st,0,v6⟩),vq vy p] w K:=by
 refine F328.sh (GF h ?_);unfold St.trim at hk;simp only[zv];refine Sm h λw1 hf1=>?_;have h1:=h.keep0 hf1;by_cases z:(Dn s.own p).1<0
 ·rw[vn z]at hk;simp only[zv,z];refine Ac (v:=vr (vz ⟨D.A.cel,0,v6⟩)) h1.blk rfl (NS h1.cel λw2 hf2 h2=>?_);exact hk _ w2 (hf1.w.trans hf2.ofA) (h1.setCel hf2 h2)
 ·rw[vm z]at hk;simp only[zv,z];exact hk _ w1 hf1.w h1
end
section
variable{K:VK}{w w':wd}{D:D6}{np:Nat}{nt:Int}{s:St}
def Cw.lt{A:Ew}{c:Ce}(h:Cw A w c):∀x∈A.all,x<w.heap.size:=λx hx=>by
 obtain⟨cs,c1,_⟩:=h.blk;obtain⟨ts,t1,_⟩:=h.tk.blk;simp only[Ew.all,un,j4]at hx;rcases hx with rfl|rfl|rfl|rfl|hx|hx
 ·exact BP c1
 ·exact BP h.pg.blk
 ·exact BP h.mm.blk
 ·exact BP t1
 ·exact h.pg.own.lt (Cl.1 hx)
 ·exact h.mm.own.lt (Cl.1 hx)
def EG.lt{b m:Nat}{n:Int}{f:Om}(h:EG w b m n f):b<w.heap.size/\m<w.heap.size:=by obtain⟨_,l,c,h1,_⟩:=h;exact⟨BP h1.blk,BP h1.map⟩
def C6.lt(h:C6 D np nt w s):∀x∈D.all,x<w.heap.size:=λx hx=>by
 simp only[D6.all,un]at hx;rcases hx with rfl|rfl|rfl|rfl|hx
 ·obtain⟨_,_,_,h0,_⟩:=h.tz;exact BP h0
 ·exact BP h.blk
 ·exact h.own.lt.1
 ·exact h.own.lt.2
 ·exact h.cel.lt x hx
def C6.ltS(h:C6 D np nt w s):∀x∈D.S,x<w.heap.size:=λx hx=>h.lt x (by
 have:=D.sub x hx;exact this)
def Qh{W:wd}{v:wc}{l:List Int}(hl:l.length<=2048)(hW:∀x∈D.S,x<W.heap.size)(hn:Cc W v){s1:St}(hk:∀n w',Fr D.S W w'->C6 D np nt w' s1->K (vq vy n) w'):
  ∀(d i:Nat) (w:wd) (n:Int) (s:St),i+d=l.length->Fr D.S W w->C6 D np nt w s->BO w v 3 1 (Ca l)->s.dropAll (l.drop i)=s1->
   F147.l5 K (vr (vz ⟨D.st,0,v6⟩)) (vq vy n) v (vq vy (l.length:Int)) (vq vy (i:Int)) w:=by
 intro d;induction d with
 | zero=>
  intro i w n s hi hf h hv he;have e:i=l.length:=by omega
  subst e;refine F147.l5.to ?_;simp only[zv,show ¬((l.length:Int)<(l.length:Int)) by omega];rw[zU]at he;simp only[St.dropAll]at he;subst he;exact F147.k10.to (hk n w hf h)
 | succ d ih=>
  intro i w n s hi hf h hv he;have hlt:i<l.length:=by omega
  refine F147.l5.to ?_;simp only[zv,show (i:Int)<(l.length:Int) by omega];rw[xG hlt,St.dropAll]at he;refine F147.k6.to (Bd hv.rd hlt λg o cs e fz hg hc=>Ac hg hc ?_);simp only[zv];refine Ac (v:=vr (vz ⟨D.A.cel,0,v6⟩)) h.blk rfl (NS h.cel λw1 hf1 h1=>?_);have h1:=h.setCel hf1 h1;have hv1:=hv.keep' hf1 λg hg hg'=>by have:=hn.blk g hg;have:=hW g (by simp[D6.S,hg']);omega
  cases hb:(s.c.drop l[i]).2<;>simp only[zv]<;>refine F147.k9.to ?_<;>simp only[AC]<;>rw[BN (n:=(i:Int)+1) (by omega)] <;>
   exact ih (i+1) w1 _ _ (by omega) (hf.trans hf1.ofA) h1 hv1 he
def SM(f:Om)(t:Int):(Ff f t).length<=4:=by unfold Ff;exact uw (List.length_filterMap_le _ _) (by simp)
def V8{t:Int}(h:C6 D np nt w s)(hk:∀n w',Fr D.S w w'->C6 D np nt w' (s.quit t)->K (vq vy n) w'):
  I vp 147 #[vr (vz ⟨D.st,0,v6⟩),vq vy t] w K:=by
 refine F147.sh (GF h ?_);simp only[zv];refine F147.k3.to ?_;simp only[zv];refine Ac (v:=vr (vz ⟨D.ob,0,v6⟩)) h.blk rfl (Uh h.own λv w1 hf1 h1 hn hv=>?_);have h1:=h.setOwn hf1 h1;have hl:((Ff s.own t).mergeSort λx y=>decide (x<=y)).length<=2048:=by rw[List.length_mergeSort];have:=SM s.own t;omega
 refine AK hv.rd ?_;rw[Cm];exact Qh (W:=w) hl h.ltS hn (s1:=s.quit t) hk ((Ff s.own t).mergeSort λx y=>decide (x<=y)).length 0 w1 0 _ (by omega) hf1.ofM h1 hv rfl
def Qe{W:wd}{k:Int}(h0:C6 D np nt W s)(hk1:∀p w',s.openAt k np 0=vz p->Fr [] W w'->K (vu #[vq vy (p:Int),vw v7]) w')(hk2:s.openAt k np 0=v6->∀w',Fr [] W w'->F123.k8 K (vr (vz ⟨D.st,0,v6⟩)) (vq vy k) w'):
  ∀(d p:Nat) (w:wd),p+d=np->Fr [] W w->s.openAt k np 0=s.openAt k d p->
   F123.l2 K (vr (vz ⟨D.st,0,v6⟩)) (vq vy k) (vq vy (np:Int)) (vq vy (p:Int)) w:=by
 have hnp:=h0.np;intro d;induction d with
 | zero=>
  intro p w hp hf he;refine F123.l2.to ?_;simp only[zv,show ¬((p:Int)<(np:Int)) by omega];exact hk2 he w hf
 | succ d ih=>
  intro p w hp hf he;have h:=h0.keep0 hf;refine F123.l2.to ?_;simp only[zv,show (p:Int)<(np:Int) by omega];refine F123.k3.to ?_;simp only[zv];have he':s.openAt k (d+1) p=if (Dn s.own p).1<0/\BS s.c.ks p=k/\0<s.c.left p then vz p else s.openAt k d (p+1):=rfl;rw[he']at he
  have next:∀w',Fr [] W w'->¬((Dn s.own p).1<0/\BS s.c.ks p=k/\0<s.c.left p)->F123.k7 K (vr (vz ⟨D.st,0,v6⟩)) (vq vy k) (vq vy (np:Int)) (vq vy (p:Int)) w':=λw' hf' hn=>by
   rw[vm hn]at he;refine F123.k7.to ?_;simp only[AC];rw[BN (n:=(p:Int)+1) (by omega)];exact ih (p+1) w' (by omega) hf' he
  refine Ac (v:=vr (vz ⟨D.ob,0,v6⟩)) h.blk rfl (M0 h.own λw1 hf1=>?_);have h1:=h.keep0 hf1;simp only[zv];by_cases z:(Dn s.own p).1<0
  ·simp only[zv,z];refine Ac (v:=vr (vz ⟨D.A.cel,0,v6⟩)) h1.blk rfl (GT h1.cel λw2 hf2=>?_);have h2:=h1.keep0 hf2;by_cases y:BS s.c.ks p=k
   ·simp only[zv,vl,y];refine Ac (v:=vr (vz ⟨D.A.cel,0,v6⟩)) h2.blk rfl (My h2.cel λw3 hf3=>?_);by_cases x:s.c.left p>0
    ·simp only[zv,x];rw[vn ⟨z,y,x⟩]at he;exact hk1 p w3 he (((hf.trans hf1).trans hf2).trans hf3)
    ·simp only[zv,x];exact next w3 (((hf.trans hf1).trans hf2).trans hf3) λhc=>x hc.2.2
   ·simp only[zv,y];exact next w2 ((hf.trans hf1).trans hf2) λhc=>y hc.2.1
  ·simp only[zv,z];exact next w1 (hf.trans hf1) λhc=>z hc.1
def Uj{k:Int}(h:C6 D np nt w s)(hk:∀w',Fr D.S w w'->C6 D np nt w' (s.openP np k).1->K (match (s.openP np k).2 with | vz p=>vu #[vq vy p,vw v7] | v6=>vu #[vq vy 0,vw v8]) w'):
  I vp 123 #[vr (vz ⟨D.st,0,v6⟩),vq vy k] w K:=by
 refine F123.sh ?_;simp only[zv];unfold St.openP at hk;refine Ac (v:=vq vy (np:Int)) h.blk rfl (Qe h (λp w1 he hf1=>?_) (λhe w1 hf1=>?_) np 0 w (by omega) (Fr.refl _ _) rfl)
 ·rw[he]at hk;exact hk w1 hf1.w (h.keep0 hf1)
 ·rw[he]at hk;have h1:=h.keep0 hf1;refine F123.k8.to ?_;simp only[zv];refine Ac (v:=vr (vz ⟨D.A.cel,0,v6⟩)) h1.blk rfl (TR h1.cel λw2 hf2 h2=>?_);have hk:=hk w2 (hf1.w.trans hf2.ofA) (h1.setCel hf2 h2);cases e:(s.c.carve k).2 with
  | none=>simp only[e,A9,AA]at hk ⊢;exact hk
  | some p=>simp only[e,A9,AA]at hk ⊢;exact hk
def QF(n:Int):Ef n<=64:=by
 unfold Ef;by_cases h:CC n=5
 ·rw[vn h];unfold CC at h;by_cases c:n<0∨n>127
  ·rw[vn c]at h;omega
  ·omega
 ·rw[vm h];omega
def Oo{t n:Int}(h:C6 D np nt w s)(hk:∀w',Fr D.S w w'->C6 D np nt w' (s.slow np nt t n).1->K (vu #[vq vy (s.slow np nt t n).2.1,vq vy (s.slow np nt t n).2.2]) w'):
  I vp 79 #[vr (vz ⟨D.st,0,v6⟩),vq vy t,vq vy n] w K:=by
 refine F79.sh (Pb (GF h ?_));simp only[zv];unfold St.slow at hk;simp only at hk;by_cases z1:CC n=0
 ·rw[vn (.inl z1)]at hk;simp only[zv,vl,z1];exact hk w (Fr.refl _ _) h
 by_cases z2:t<0
 ·rw[vn (.inr (.inl z2))]at hk;simp only[zv,z1,z2];exact hk w (Fr.refl _ _) h
 simp only[zv,z1,z2];refine Ac (v:=vq vy nt) h.blk rfl ?_;by_cases z3:nt<=t
 ·rw[vn (.inr (.inr z3))]at hk;simp only[zv,show t≥nt from z3];exact hk w (Fr.refl _ _) h
 rw[vm (by omega)]at hk;simp only[zv,show ¬(t≥nt) from z3];by_cases k5:CC n=5
 ·rw[vn k5]at hk;simp only[zv,vl,k5];refine A8 (λw'=>w'.heap[D.st]?=vz (wj #[vr (vz ⟨D.A.cel,0,v6⟩),vr (vz ⟨D.ob,0,v6⟩),vq vy nt,vq vy (np:Int),vq vy s.made] 171 (0,0))) λw1 hf1 _=>⟨hf1.at_ h.blk (by simp),?_⟩;have h1:=h.keep0 hf1;simp only[]
  refine Aq (v:=vr (vz ⟨D.A.cel,0,v6⟩)) (λw' hw=>⟨_,_,_,hw,rfl⟩) ⟨Ul ⟨h1.blk,Ue h1.cel (QF n) λw2 hf2 h2=>⟨hf2.at_ h1.blk (λe=>h.ok.s (D.A.sub _ e)),?_⟩,trivial⟩,trivial⟩;have h2:=h1.setCel hf2 h2;cases e:(s.c.large (Ef n)).2 with
  | none=>
   have e0:s.c.large (Ef n)=(s.c,v6):=by
    unfold Ce.large at e ⊢;split at e
    ·rfl
    ·simp at e
   rw[e0]at hk h2;simp only[Ai,A3,A9,AA,m9];exact hk w2 (hf1.w.trans hf2.ofA) h2
  | some a=>
   have e0:s.c.large (Ef n)=((s.c.large (Ef n)).1,vz a):=by rw[<-e]
   rw[e0]at hk;simp only[Ae,A3,A9,AA,p7];refine F79.k10.to (NQ h2 λw3 hf3 h3=>?_);exact hk w3 ((hf1.w.trans hf2.ofA).trans hf3) h3
 rw[vm k5]at hk;simp only[zv,k5];refine F79.k11.to (Mw h λw1 hf1 h1=>?_);cases e:(s.fast t n).2 with
 | some a=>
  have e0:s.fast t n=((s.fast t n).1,vz a):=by rw[<-e]
  rw[e0]at hk;simp only[Ai,A9,AA];exact hk w1 hf1 h1
 | none=>
  have e0:s.fast t n=(s,v6):=by
   unfold St.fast at e ⊢;split at e
   ·rename_i y;rw[vn y]
   ·rename_i y;rw[vm y];split at e
    ·rfl
    ·simp at e
  rw[e0]at hk h1;simp only[Ae,A9,AA];refine F79.k14.to (Uj h1 λw2 hf2 h2=>?_);cases ep:(s.openP np (CC n)).2 with
  | none=>
   have ep0:s.openP np (CC n)=((s.openP np (CC n)).1,v6):=by rw[<-ep]
   have ep1:(s.openP np (CC n)).1=s:=by
    unfold St.openP at ep ⊢;split at ep
    ·simp at ep
    ·simp only[Option.map_eq_none_iff]at ep;simp only;have:(s.c.carve (CC n)).1=s.c:=by
      unfold Ce.carve at ep ⊢;split at ep
      ·rfl
      ·simp at ep
     rw[this]
   rw[ep0]at hk;rw[ep1]at h2;simp only[Ai,A3,A9,AA,m9];exact hk w2 (hf1.trans hf2) h2
  | some p=>
   have ep0:s.openP np (CC n)=((s.openP np (CC n)).1,vz p):=by rw[<-ep]
   rw[ep0]at hk;simp only[Ae,A3,A9,AA,p7];generalize (s.openP np (CC n)).1=s' at hk h2;refine F79.k17.to ?_;simp only[zv];have fin:∀s2 w3,Fr D.S w w3->C6 D np nt w3 s2->(∀w',Fr D.S w w'->C6 D np nt w' (s2.fast t n).1->K (vu #[vq vy ((s2.fast t n).2.getD 0),vq vy 0]) w')->
     I vp 122 #[vr (vz ⟨D.st,0,v6⟩),vq vy t,vq vy n] w3 λx86_5 w5=>Av 0 x86_5 w5 λx87_6 w6=>Av 1 x86_5 w6 λx88_7 w7=>K (vu #[x87_6,(vq vy 0)]) w7:=λs2 w3 hf3 h3 hk=>by
    refine Mw h3 λw4 hf4 h4=>?_;have hk:=hk w4 (hf3.trans hf4) h4;cases e:(s2.fast t n).2 with
    | none=>simp only[e,Option.getD_none,A9,AA]at hk ⊢;exact hk
    | some a=>simp only[e,d8,A9,AA]at hk ⊢;exact hk
   refine Ac (v:=vr (vz ⟨D.ob,0,v6⟩)) h2.blk rfl (V3 h2.own (λhno w3 hf3=>?_) λhye w3 hf3 h3=>?_)
   ·simp only[vm (show ¬Lo nt s'.own t (CC n) p from hno)]at hk;exact fin s' w3 ((hf1.trans hf2).trans hf3.w) (h2.keep0 hf3) hk
   ·simp only[vn (show Lo nt s'.own t (CC n) p from hye)]at hk;exact fin _ w3 ((hf1.trans hf2).trans hf3.ofM) (h2.setOwn hf3 h3) hk
end
end
noncomputable section
variable{K:VK}{w:wd}{x0 x1 y0 y1 y2 y3 y4 y5:wc}
def F115.sh(h:(I vp 66 #[x0,(vq vy 1),(vq vy 256)] w λa b=>Am vp (Instr.build 252 #[(1,a)]) b λc d=>Aw (wj (wc.cells c) 252) d λf g=>K f g)):I vp 115 #[x0] w K:=BK (A:=A0) (args:=[x0]) (qq h)
namespace F309
def ann:Cd:=⟨[(6,[0,3])],[],[],[(3,(tk [0,1,2,3,6,7,8,4,5,9,10,11] .fin)),(6,(tk [0,1,2,3] (.go 4 .fin .fin)))],v6⟩
def code:=cd f309
def BL:=tp f309
variable(K:VK)(y0 y3:wc)(w:wd)
@[irreducible]def k6:=nk ann 35 [(0,y0),(3,y3)] w [1,1] code (BL K)
end F309
def F309.k6.to(h:(A4 w λS a=>Ag y0 a λb c=>Ab 0 b c λd f=>AN S 2 y3 f λg i=>(I vp 329 #[d,g] i λj k=>(S k/\
 K (vw v7) k))/\True)):F309.k6 K y0 y3 w:=qq h
def F309.sh(h:(Aw (wj (wc.cells x1) 310) w λa b=>AG vp .eql 173 (.tmp 6) (.const (vr v6)) x0 (vr v6) b λc d=>Aa v8 c (λK=>K x0 d) d λf g=>Aa v8 c (Ag f g) g λi j=>Aa v8 c (Ab 1 i j) j λk m=>Aa v8 c (Ad k m) m λo p=>Aa v8 c (U .eql o (vq vy 0) p) p λq r=>Ar (vz c) (vz (vw v7)) (vz q) r λs t=>Af s (K (vw v8) t) (A4 t λS u=>Ag x0 u λv x=>Ab 0 v x λy z=>Ab 0 y z λaa ab=>Ag x0 ab λac ad=>Ab 1 ac ad λae af=>Al S aa af λag ah=>AH ag ah λai aj=>Al S ae aj λak al=>U .eql ai ak al λam an=>Af am (Ag x0 an λao ap=>Ab 2 ao ap λaq ar=>Aj 1 aq (vw v7) ar λau=>K (vw v8) au) (F309.k6 K x0 a an)))):I vp 309 #[x0,x1] w K:=BK (A:=F309.ann) (args:=[x0,x1]) (qq h)
namespace F319
def ann:=a1 [(3,[0])]
def code:=cd f319
def BL:=tp f319
variable(K:VK)(y0:wc)(w:wd)
@[irreducible]def k3:=nk ann 11 [(0,y0)] w [1,1] code (BL K)
end F319
def F319.k3.to(h:(Ag y0 w λa b=>Ab 0 a b λc d=>Ab 0 c d λf g=>Ad f g λi j=>AH i j λk m=>K k m)):F319.k3 K y0 w:=qq h
def F319.sh(h:(AG vp .eql 173 (.tmp 3) (.const (vr v6)) x0 (vr v6) w λa b=>Af a (K (vq vy 0) b) (F319.k3 K x0 b))):I vp 319 #[x0] w K:=BK (A:=F319.ann) (args:=[x0]) (qq h)
def F320.sh(h:(AG vp .neq 173 (.tmp 3) (.const (vr v6)) x0 (vr v6) w λa b=>Aa v7 a (λK=>K x0 b) b λc d=>Aa v7 a (Ag c d) d λf g=>Aa v7 a (Ab 2 f g) g λi j=>Aa v7 a (Ad i j) j λk m=>Ar (vz a) (vz k) (vz (vw v8)) m λo p=>K o p)):I vp 320 #[x0] w K:=BK (A:=A0) (args:=[x0]) (qq h)
namespace F329
def ann:Cd:=⟨[],[],[],[(1,(tk [0,1,2,3,5] (.go 4 (.go 6 (.go 7 (tk [8,9] (.go 10 .fin .fin)) .fin) .fin) (.go 6 (.go 4 (.go 7 (tk [8,9] (.go 10 .fin .fin)) .fin) .fin) .fin))))],v6⟩
end F329
def F329.sh(h:(Aw (wj (wc.cells x1) 310) w λa b=>A4 b λS c=>Ag x0 c λd f=>Ab 0 d f λg i=>AN S 2 a i λj k=>(Ad g k λm o=>(S o/\
 (Am vp (Instr.buildSlice 248 1 #[(0,j)]) o λp q=>(S q/\
 (Am vp (Builtin.append_ #[248,248] 248 #[m,p]) q λr s=>(S s/\
 Ag x0 s λt u=>Ab 0 t u λv x=>(Aj 1 v r x λy=>(S y/\
 K (vu #[]) y))/\True))/\True))/\True))/\((Am vp (Instr.buildSlice 248 1 #[(0,j)]) k λz aa=>(S aa/\
 (Ad g aa λab ac=>(S ac/\
 (Am vp (Builtin.append_ #[248,248] 248 #[ab,z]) ac λad ae=>(S ae/\
 Ag x0 ae λaf ag=>Ab 0 af ag λah ai=>(Aj 1 ah ad ai λaj=>(S aj/\
 K (vu #[]) aj))/\True))/\True))/\True))/\True))):I vp 329 #[x0,x1] w K:=BK (A:=F329.ann) (args:=[x0,x1]) (qq h)
namespace F341
def ann:=a1 [(3,[0,2])]
def code:=cd f341
def BL:=tp f341
variable(K:VK)(y0 y2:wc)(w:wd)
@[irreducible]def k3:=nk ann 13 [(0,y0),(2,y2)] w [1,1] code (BL K)
end F341
def F341.k3.to(h:(Ag y0 w λa b=>Ab 0 a b λc d=>I vp 345 #[c] d λf g=>Av 0 f g λi j=>Av 1 f j λk m=>Aj 2 y2 i m λo=>Ak 2 y2 o λr7 _=>K (vu #[r7,k]) o)):F341.k3 K y0 y2 w:=qq h
def F341.sh(h:(Aw (wj #[vq vy 0,vq vy 0] 310) w λa b=>AG vp .eql 173 (.tmp 4) (.const (vr v6)) x0 (vr v6) b λc d=>Af c (Am vp (Instr.build 310 #[]) d λf g=>Aj 2 a f g λi=>Ak 2 a i λr5 _=>K (vu #[r5,(vw v8)]) i) (F341.k3 K x0 a d))):I vp 341 #[x0] w K:=BK (A:=F341.ann) (args:=[x0]) (qq h)
namespace F342
def ann:=a1 [(4,[3])]
def code:=cd f342
def BL:=tp f342
variable(K:VK)(y3:wc)(w:wd)
@[irreducible]def k4:=nk ann 11 [(3,y3)] w [1,1,1] code (BL K)
end F342
def F342.k4.to(h:(K y3 w)):F342.k4 K y3 w:=qq h
def F342.sh(h:(I vp 320 #[x0] w λa b=>Af a (Ag x0 b λc d=>Ab 2 c d λf g=>Aj 1 f (vw v8) g λi=>F342.k4 K a i) (F342.k4 K a b))):I vp 342 #[x0] w K:=BK (A:=F342.ann) (args:=[x0]) (qq h)
namespace F345
def ann:=a1 [(5,[0,2,4,5])]
def code:=cd f345
def BL:=tp f345
variable(K:VK)(y0 y2 y4 y5:wc)(w:wd)
@[irreducible]def k5:=nk ann 33 [(0,y0),(2,y2),(4,y4),(5,y5)] w [1,1,1,1] code (BL K)
end F345
def F345.k5.to(h:(Ag y0 w λa b=>Ab 0 a b λc d=>Ad c d λf g=>U .sub y5 (vq vy 1) g λi j=>A6 2 f i j λk m=>Ak 2 k m λo p=>Aj 2 y4 o p λq=>Ag y0 q λr s=>Ab 0 r s λt u=>Ad t u λv x=>U .sub y5 (vq vy 1) x λy z=>Am vp (Instr.sliceAt 248 v v6 (vz y) v6) z λaa ab=>Ag y0 ab λac ad=>Ab 0 ac ad λae af=>Aj 1 ae aa af λag=>Ak 2 y4 ag λah ai=>Aj 2 y2 ah ai λaj=>Ak 2 y2 aj λr18 _=>K (vu #[r18,(vw v7)]) aj)):F345.k5 K y0 y2 y4 y5 w:=qq h
def F345.sh(h:(Aw (wj #[vq vy 0,vq vy 0] 310) w λa b=>Aw (wj #[vq vy 0,vq vy 0] 310) b λc d=>Ag x0 d λf g=>Ab 0 f g λi j=>Ad i j λk m=>AH k m λo p=>U .eql o (vq vy 0) p λq r=>Af q (Ak 2 c r λs t=>Aj 2 a s t λu=>Ak 2 a u λr10 _=>K (vu #[r10,(vw v8)]) u) (F345.k5 K x0 a c o r))):I vp 345 #[x0] w K:=BK (A:=F345.ann) (args:=[x0]) (qq h)
def F74.sh(h:(I vp 115 #[x0] w λa b=>Am vp (Instr.build 176 #[(0,a)]) b λc d=>Aw (wj (wc.cells c) 176) d λf g=>I vp 116 #[(vq vy 2048)] g λi j=>Am vp (Instr.build 180 #[(0,f),(1,i)]) j λk m=>Aw (wj (wc.cells k) 180) m λo p=>K o p)):I vp 74 #[x0] w K:=BK (A:=A0) (args:=[x0]) (qq h)
namespace F210
def ann:=a1 [(3,[0,1])]
def code:=cd f210
def BL:=tp f210
variable(K:VK)(y0 y1:wc)(w:wd)
@[irreducible]def k3:=nk ann 13 [(0,y0),(1,y1)] w [1,1] code (BL K)
end F210
def F210.k3.to(h:(Am vp (Instr.build 310 #[(0,y1)]) w λa b=>I vp 261 #[y0,a] b λc d=>K (vw v7) d)):F210.k3 K y0 y1 w:=qq h
def F210.sh(h:(I vp 260 #[x0,x1] w λa b=>AE a b λc d=>Af c (K (vw v8) d) (F210.k3 K x0 x1 d))):I vp 210 #[x0,x1] w K:=BK (A:=F210.ann) (args:=[x0,x1]) (qq h)
def F230.sh(h:(I vp 276 #[x0] w λa b=>I vp 244 #[a,x1] b λc d=>K c d)):I vp 230 #[x0,x1] w K:=BK (A:=A0) (args:=[x0,x1]) (qq h)
def F260.sh(h:(I vp 276 #[x0] w λa b=>I vp 178 #[a,x1] b λc d=>K c d)):I vp 260 #[x0,x1] w K:=BK (A:=A0) (args:=[x0,x1]) (qq h)
namespace F261
def ann:Cd:=⟨[],[],[],[(1,(tk [0,4] (.go 1 (.take 2 (.go 3 (.go 5 (.take 6 .fin) .fin) .fin)) .fin)))],v6⟩
end F261
def F261.sh(h:(Aw (wj (wc.cells x1) 310) w λa b=>A4 b λS c=>AN S 2 a c λd f=>(I vp 292 #[x0] f λg i=>(S i/\
 Ag g i λj k=>(Ak 1 j k λm o=>(S o/\
 (I vp 293 #[m,d] o λp q=>(S q/\
 K p q))/\True))/\True))/\True)):I vp 261 #[x0,x1] w K:=BK (A:=F261.ann) (args:=[x0,x1]) (qq h)
def F270.sh(h:(I vp 292 #[x0] w λa b=>Ag a b λc d=>Ak 1 c d λf g=>I vp 299 #[f] g λi j=>K i j)):I vp 270 #[x0] w K:=BK (A:=A0) (args:=[x0]) (qq h)
def F271.sh(h:(I vp 292 #[x0] w λa b=>Ag a b λc d=>Ak 1 c d λf g=>I vp 300 #[f] g λi j=>K i j)):I vp 271 #[x0] w K:=BK (A:=A0) (args:=[x0]) (qq h)
namespace F276
def ann:=a1 [(3,[0])]
def code:=cd f276
def BL:=tp f276
variable(K:VK)(y0:wc)(w:wd)
@[irreducible]def k3:=nk ann 9 [(0,y0)] w [1,1] code (BL K)
end F276
def F276.k3.to(h:(Ag y0 w λa b=>Ab 1 a b λc d=>Ad c d λf g=>K f g)):F276.k3 K y0 w:=qq h
def F276.sh(h:(AG vp .eql 120 (.tmp 3) (.const (vr v6)) x0 (vr v6) w λa b=>Af a (K (vr v6) b) (F276.k3 K x0 b))):I vp 276 #[x0] w K:=BK (A:=F276.ann) (args:=[x0]) (qq h)
namespace F292
def ann:=a1 [(3,[0])]
def code:=cd f292
def BL:=tp f292
variable(K:VK)(y0:wc)(w:wd)
@[irreducible]def k3:=nk ann 18 [(0,y0)] w [1,1] code (BL K)
end F292
def F292.k3.to(h:(Ag y0 w λa b=>Ab 0 a b λc d=>Ad c d λf g=>K f g)):F292.k3 K y0 w:=qq h
def F292.sh(h:(AG vp .eql 120 (.tmp 3) (.const (vr v6)) x0 (vr v6) w λa b=>Aa v8 a (λK=>K x0 b) b λc d=>Aa v8 a (Ag c d) d λf g=>Aa v8 a (Ab 0 f g) g λi j=>Aa v8 a (Ad i j) j λk m=>Aa v8 a (λK=>AG vp .eql 172 (.tmp 9) (.const (vr v6)) k (vr v6) m K) m λo p=>Ar (vz a) (vz (vw v7)) (vz o) p λq r=>Af q (Am vp (Instr.build 176 #[]) r λs t=>Aw (wj (wc.cells s) 176) t λu v=>K u v) (F292.k3 K x0 r))):I vp 292 #[x0] w K:=BK (A:=F292.ann) (args:=[x0]) (qq h)
def F293.sh(h:(Aw (wj (wc.cells x0) 176) w λa b=>Aw (wj (wc.cells x1) 310) b λc d=>Ab 0 a d λf g=>Ad f g λi j=>Ak 2 c j λk m=>I vp 309 #[i,k] m λo p=>K o p)):I vp 293 #[x0,x1] w K:=BK (A:=A0) (args:=[x0,x1]) (qq h)
def F299.sh(h:(Aw (wj (wc.cells x0) 176) w λa b=>Ab 0 a b λc d=>Ad c d λf g=>I vp 319 #[f] g λi j=>K i j)):I vp 299 #[x0] w K:=BK (A:=A0) (args:=[x0]) (qq h)
def F300.sh(h:(Aw (wj (wc.cells x0) 176) w λa b=>Ab 0 a b λc d=>Ad c d λf g=>I vp 320 #[f] g λi j=>K i j)):I vp 300 #[x0] w K:=BK (A:=A0) (args:=[x0]) (qq h)
def F321.sh(h:(Aw (wj #[vq vy 0,vq vy 0] 310) w λa b=>I vp 292 #[x0] b λc d=>Ag c d λf g=>Ak 1 f g λi j=>I vp 334 #[i] j λk m=>Av 0 k m λo p=>Av 1 k p λq r=>Aj 2 a o r λs=>Ak 2 a s λr9 _=>K (vu #[r9,q]) s)):I vp 321 #[x0] w K:=BK (A:=A0) (args:=[x0]) (qq h)
def F323.sh(h:(I vp 292 #[x0] w λa b=>Ag a b λc d=>Ak 1 c d λf g=>I vp 336 #[f] g λi j=>K i j)):I vp 323 #[x0] w K:=BK (A:=A0) (args:=[x0]) (qq h)
def F326.sh(h:(I vp 276 #[x0] w λa b=>I vp 337 #[a,x1] b λc d=>K c d)):I vp 326 #[x0,x1] w K:=BK (A:=A0) (args:=[x0,x1]) (qq h)
def F334.sh(h:(Aw (wj (wc.cells x0) 176) w λa b=>Aw (wj #[vq vy 0,vq vy 0] 310) b λc d=>Ab 0 a d λf g=>Ad f g λi j=>I vp 341 #[i] j λk m=>Av 0 k m λo p=>Av 1 k p λq r=>Aj 2 c o r λs=>Ak 2 c s λr9 _=>K (vu #[r9,q]) s)):I vp 334 #[x0] w K:=BK (A:=A0) (args:=[x0]) (qq h)
def F336.sh(h:(Aw (wj (wc.cells x0) 176) w λa b=>Ab 0 a b λc d=>Ad c d λf g=>I vp 342 #[f] g λi j=>K i j)):I vp 336 #[x0] w K:=BK (A:=A0) (args:=[x0]) (qq h)
end
section
open Go.RowKit
def Eb(e:Int × Int):wc := .agg #[vq vy e.1,vq vy e.2]
def EJ(l:List (Int × Int)):List (List wc):=l.map λe=>[vq vy e.1,vq vy e.2]
def EL(l:List (Int × Int)):(EJ l).length=l.length:=by simp[EJ]
def ML{l:List (Int × Int)}:∀y∈EJ l,∀u∈y,u.oneCell'=v7:=by intro y hy u hu;simp only[EJ,uu]at hy;obtain⟨x,_,rfl⟩:=hy;simp only[un,b8,vi]at hu;rcases hu with rfl|rfl<;>rfl
def EB{e:Int × Int}:∀v∈(Eb e).cells.toList,v.oneCell'=v7:=by intro v hv;simp only[Eb,wc.cells,un,b8,vi]at hv;rcases hv with rfl|rfl<;>rfl
structure Fb(w:wd)(b:Nat)(lv:wc)(room:Int)(l:List (Int × Int))(over:Bool):Prop where
 blk:w.heap[b]?=vz (wj #[lv,vq vy room,vw over] 252 (0,0))
 own:BO w lv 310 2 (EJ l)
 rm:1<=room/\room<=256
 le:(l.length:Int)<=room
def Fb.keep{S:List Nat}{w w':wd}{b:Nat}{lv:wc}{room:Int}{l:List (Int × Int)}{over:Bool}(h:Fb w b lv room l over)(hf:Fr S w w')(hb:b∉S)(hl:∀g∈BM lv,g∉S):Fb w' b lv room l over:=
 ⟨hf.at_ h.blk hb,h.own.keep' hf hl,h.rm,h.le⟩
section
variable{K:VK}{w:wd}{b:Nat}{lv:wc}{room:Int}{l:List (Int × Int)}{over:Bool}
def X0(e:Int × Int):(Instr.buildSlice 248 1 #[(0,.agg #[vq vy e.1,vq vy e.2])]).run vp w=.ok (vt (vz ⟨w.heap.size,0,v6⟩) 1 1) (w.alloc (wj #[vq vy e.1,vq vy e.2] 310)):=by kernel_rfl
def Xt{e:Int × Int}(h:w.heap[b]?=vz (wj #[lv,vq vy room,vw over] 252 (0,0)))(ho:BO w lv 310 2 (EJ l))(hl:l.length<=1000)(hk:∀lv' w',Fr (b::BM lv) w w'->w'.heap[b]?=vz (wj #[lv',vq vy room,vw over] 252 (0,0))->BO w' lv' 310 2 (EJ (l++[e]))->(∀g∈BM lv',g∈BM lv∨w.heap.size<=g)->K (vu #[]) w'):
  I vp 329 #[vr (vz ⟨b,0,v6⟩),Eb e] w K:=by
 refine F329.sh (Ay λx w1 hn=>?_);have ln:=hn.is;have hxb:x≠b:=by have:=BP h;omega
 refine A8 (λw'=>w'.heap[x]?=vz (wj #[vq vy e.1,vq vy e.2] 310 (0,0))) λw2 hf2 _=>⟨hf2.at_ hn.at_ (by simp),?_⟩;have h2:=hf2.at_ (hn.fr.at_ h (by simp)) (by simp);have o2:=(ho.keep hn.fr (by simp)).keep hf2 (by simp);have f2:=hn.fr.trans hf2
 try simp only[zv]
 refine AR (vs:=[vq vy e.1,vq vy e.2]) (λw' hw=>⟨_,_,_,hw,by simp,rfl⟩) ?_;have ox:∀w',Fr [] w w'->x∉BM lv:=λ_ _ hg=>by have:=ho.lt (Cl.1 hg);omega
 have fin:∀w3 lv3 w4,Fr [] w w3->BO w4 lv3 310 2 (EJ l++[[vq vy e.1,vq vy e.2]])->Fr (BM lv) w3 w4->(∀g∈BM lv3,g∈BM lv∨w3.heap.size<=g)->w3.heap[b]?=vz (wj #[lv,vq vy room,vw over] 252 (0,0))->w3.heap[x]?=vz (wj #[vq vy e.1,vq vy e.2] 310 (0,0))->
   w4.heap[x]?=vz (wj #[vq vy e.1,vq vy e.2] 310 (0,0))/\Aj 1 (vr (vz ⟨b,0,v6⟩)) lv3 w4 λw5=>(w5.heap[x]?=vz (wj #[vq vy e.1,vq vy e.2] 310 (0,0))/\K (vu #[]) w5):=by
  intro w3 lv3 w4 f3 o4 f4 g4 b3 x3;have nb:=ho.nb h (by decide:310≠252);refine⟨f4.at_ x3 (ox _ f3),AM (f4.at_ b3 nb) o4.one.2 o4.one.1 (by simp) λw5 hu=>⟨hu.fr.at_ (f4.at_ x3 (ox _ f3)) (by simpa using hxb),?_⟩⟩;have e5:EJ (l++[e])=EJ l++[[vq vy e.1,vq vy e.2]]:=by simp[EJ]
  have gn:∀g∈BM lv3,g∈BM lv∨w.heap.size<=g:=λg hg=>by
   rcases g4 g hg with c|c
   ·exact .inl c
   ·have:=f3.size;exact .inr (by omega)
  refine hk lv3 w5 (((f3.w.trans (f4.mono λz hz=>by simp[hz])).trans (hu.fr.mono λz hz=>by simp only[yZ]at hz;simp[hz]))) ?_ ?_ gn
  ·have:=hu.at_;simpa using this
  ·rw[e5];exact o4.keep' hu.fr λg hg hg'=>by
    simp only[yZ]at hg';subst hg';rcases gn g hg with c|c
    ·exact nb c
    ·have:=BP h;omega
 refine⟨Ac h2 rfl ⟨hf2.at_ hn.at_ (by simp),A7 (X0 e) ?_,trivial⟩,A7 (X0 e) ?_,trivial⟩
 ·have hw:=Dz.mk' w2 (wj #[vq vy e.1,vq vy e.2] 310)
  refine⟨hw.fr.at_ (hf2.at_ hn.at_ (by simp)) (by simp),Bg (W0:=HZ _) (ys:=[[vq vy e.1,vq vy e.2]]) (z:=Eb (0,0)) (sz:=2) (bytes:=16) Tryz.underlying248 (by kernel_rfl) rfl (by decide) (HO _) (Ho _ _) (o2.keep hw.fr (by simp)) (Cq.of_block hw.at_ rfl (by simp) (by simp) (by simp) (by simp)) (ML (l:=[e])) (by rw[EL];simp;omega) (by rw[EL];simp;omega) λv' w' a _ c d e'=>?_,trivial⟩
  have:=fin _ v' w' (f2.trans hw.fr) c d e' (hw.fr.at_ h2 (by simp)) (hw.fr.at_ (hf2.at_ hn.at_ (by simp)) (by simp));exact⟨this.1,this.2,trivial⟩
 ·have hw:=Dz.mk' w2 (wj #[vq vy e.1,vq vy e.2] 310)
  refine⟨hw.fr.at_ (hf2.at_ hn.at_ (by simp)) (by simp),Ac (hw.fr.at_ h2 (by simp)) rfl ⟨hw.fr.at_ (hf2.at_ hn.at_ (by simp)) (by simp),Bg (W0:=HZ _) (ys:=[[vq vy e.1,vq vy e.2]]) (z:=Eb (0,0)) (sz:=2) (bytes:=16) Tryz.underlying248 (by kernel_rfl) rfl (by decide) (HO _) (Ho _ _) (o2.keep hw.fr (by simp)) (Cq.of_block hw.at_ rfl (by simp) (by simp) (by simp) (by simp)) (ML (l:=[e])) (by rw[EL];simp;omega) (by rw[EL];simp;omega) λv' w' a _ c d e'=>?_,trivial⟩,trivial⟩
  have:=fin _ v' w' (f2.trans hw.fr) c d e' (hw.fr.at_ h2 (by simp)) (hw.fr.at_ (hf2.at_ hn.at_ (by simp)) (by simp));exact⟨this.1,this.2,trivial⟩
def V6{e:Int × Int}(h:Fb w b lv room l over)(h1:(l.length:Int)=room->∀w',Fr [b] w w'->Fb w' b lv room l v7->K (vw v8) w')(h2:(l.length:Int)≠room->∀lv' w',Fr (b::BM lv) w w'->Fb w' b lv' room (l++[e]) over->(∀g∈BM lv',g∈BM lv∨w.heap.size<=g)->K (vw v7) w'):
  I vp 309 #[vr (vz ⟨b,0,v6⟩),Eb e] w K:=by
 have hr:=h.rm;refine F309.sh (Ay λx w1 hn=>⟨_,Cj _ _ _ Tryz.underlying173,?_⟩);have b1:=hn.fr.at_ h.blk (by simp);have ln:=hn.is
 try simp only[zv]
 refine Ac (v:=vq vy room) b1 rfl ?_;simp only[zv,show ¬room=0 by omega];refine A8 (λw'=>w'.heap[b]?=vz (wj #[lv,vq vy room,vw over] 252 (0,0))) λw2 hf2 _=>⟨hf2.at_ b1 (by simp),?_⟩;have b2:=hf2.at_ b1 (by simp);have o2:=(h.own.keep hn.fr (by simp)).keep hf2 (by simp);have f2:=hn.fr.trans hf2;refine Aq (v:=lv) (λw' hw=>⟨_,_,_,hw,rfl⟩) (AK o2.rd (Aq (v:=vq vy room) (λw' hw=>⟨_,_,_,hw,rfl⟩) ?_));rw[EL]
 by_cases c:(l.length:Int)=room
 ·simp only[zv,vl,c];refine AM b2 rfl rfl (by simp) λw3 hu=>?_;refine h1 c w3 (f2.w.trans hu.fr) ⟨by simpa using hu.at_,o2.keep' hu.fr (λg hg hg'=>by
   simp only[yZ]at hg';subst hg';exact o2.nb b2 (by decide) hg),hr,h.le⟩
 ·simp only[zv,c];have x2:=hf2.at_ hn.at_ (by simp);have nx:x∉b::BM lv:=by simp only[un,not_or];exact⟨by have:=BP h.blk;omega,λhg=>by have:=h.own.lt (Cl.1 hg);omega⟩
  refine F309.k6.to (A8 (λw'=>w'.heap[x]?=vz (wj #[vq vy e.1,vq vy e.2] 310 (0,0))) λw3 hf3 _=>⟨hf3.at_ x2 (by simp),?_⟩)
  try simp only[zv]
  refine AR (vs:=[vq vy e.1,vq vy e.2]) (λw' hw=>⟨_,_,_,hw,by simp,rfl⟩) ?_;have f3:=f2.trans hf3;have hle:=h.le;refine⟨Xt (e:=e) (l:=l) (hf3.at_ b2 (by simp)) (o2.keep hf3 (by simp)) (by omega) λlv' w4 hf4 b4 o4 g4=>⟨hf4.at_ (hf3.at_ x2 (by simp)) nx,?_⟩,trivial⟩;refine h2 c lv' w4 (f3.w.trans hf4) ⟨b4,o4,hr,by simp;omega⟩ λg hg=>?_;rcases g4 g hg with d|d
  ·exact .inl d
  ·have:=f3.size;exact .inr (by omega)
def BD{k:IntKind}{i:Nat}(h:Cq w lv 2 (EJ l))(hi:i<l.length)(hk:∀g o cs e fz,w.heap[g]?=vz (wj cs e fz)->(cs.toList.drop o).take 2=[vq vy l[i].1,vq vy l[i].2]->o+2<=cs.size->K (vr (vz ⟨g,o,v6⟩)) w):
  A6 2 lv (vq k (i:Int)) w K:=by
 refine AS h (by omega) (x:=[vq vy l[i].1,vq vy l[i].2]) (by rw[zE];simp[EJ,hi]) λg o cs e fz hg _ hc=>?_;have c0:=hc 0 (by omega);have c1:=hc 1 (by omega);simp only[uv,xS,xR]at c0 c1;have hs:o+1<cs.size:=(wY.1 c1).1;refine hk g o cs e fz hg ?_ (by omega);apply zF;intro j;rw[yX,yW]
 match j with
 | 0=>simpa using c0
 | 1=>simpa using c1
 | j+2=>rw[vm (by omega)];rfl
def IJ(A:Option Addr)(n n' c c':Nat):BM (vt A n c)=BM (vt A n' c'):=by cases A<;>rfl
def WU(h:Fb w b lv room l over)(h1:l=[]->∀w',Fr [] w w'->K (vu #[Eb (0,0),vw v8]) w')(h2:∀e,l.getLast?=vz e->∀lv' w',Fr [b] w w'->Fb w' b lv' room l.dropLast over->BM lv'=BM lv->K (vu #[Eb e,vw v7]) w'):
  I vp 341 #[vr (vz ⟨b,0,v6⟩)] w K:=by
 have hr:=h.rm;have hle:=h.le;refine F341.sh (Ay λx w1 hn=>⟨_,Cj _ _ _ Tryz.underlying173,?_⟩);have ln:=hn.is
 try simp only[Ae]
 refine F341.k3.to ?_
 try simp only[zv]
 have fin:∀(e:Int × Int) (c:Bool) w2,w2.heap[x]?=vz (wj #[vq vy 0,vq vy 0] 310 (0,0))->(∀w',Fr [x] w2 w'->K (vu #[Eb e,vw c]) w')->
   Aj 2 (vr (vz ⟨x,0,v6⟩)) (Eb e) w2 λw6=>Ak 2 (vr (vz ⟨x,0,v6⟩)) w6 λr7 _=>K (vu #[r7,vw c]) w6:=λe c w2 hx hk=>AB hx rfl EB rfl λw3 hu=>A5 hu.at_ rfl (hk w3 hu.fr)
 refine F345.sh (Ay λx2 w2 hn2=>Ay λx4 w4 hn4=>?_);have l2:=hn2.is;have l4:=hn4.is;have s1:=hn.fr.size;have s2:=hn2.fr.size;have f4:=(hn.fr.trans hn2.fr).trans hn4.fr;have b4:=f4.at_ h.blk (by simp);have o4:=h.own.keep f4 (by simp);have x24:=hn4.fr.at_ hn2.at_ (by simp);have x44:=hn4.at_;have xx4:=(hn2.fr.trans hn4.fr).at_ hn.at_ (by simp);have hb:=BP h.blk;have sx:=BP hn.at_;have sx2:=BP hn2.at_
 try simp only[zv]
 refine Ac (v:=lv) b4 rfl (AK o4.rd ?_);rw[EL];by_cases c:l=[]
 ·simp only[zv,vl,show ((l.length:Nat):Int)=0 by rw[c];rfl];refine A5 x44 rfl (AB x24 rfl (EB (e:=(0,0))) rfl λw5 hu=>A5 hu.at_ rfl ?_);refine fin (0,0) v8 w5 (hu.fr.at_ xx4 (by simp;omega)) λw6 hf6=>h1 c w6 ?_;exact (f4.then hu.fr (by simp;omega)).then hf6 (by simp;omega)
 ·have hpos:0<l.length:=List.length_pos_iff.2 c;simp only[zv,show ¬((l.length:Nat):Int)=0 by omega];refine F345.k5.to ?_
  try simp only[zv]
  refine Ac (v:=lv) b4 rfl ?_;rw[BN (n:=(l.length:Int)-1) (by omega),show (l.length:Int)-1=((l.length-1:Nat):Int) by omega];refine BD o4.rd (by omega) λg o cs e fz hg hcs ho=>AY hg (by omega) hcs ?_;obtain⟨la,hla⟩:∃la,l.getLast?=vz la:=by
   cases hx:l.getLast? with
   | none=>simp[c]at hx
   | some y=>exact⟨y,rfl⟩
  have hlast:l[l.length-1]=la:=by rw[List.getLast?_eq_getElem?,xO (by omega)]at hla;simpa using hla
  rw[hlast];refine AB x44 rfl (EB (e:=la)) rfl λw5 hu5=>?_;have b5:=hu5.fr.at_ b4 (by simp;omega);have o5:=o4.keep' hu5.fr λg hg hg'=>by
   simp only[yZ]at hg';have:=h.own.lt (Cl.1 hg);omega
  refine Ac (v:=lv) b5 rfl ?_;obtain⟨A,cp,rfl,hcp,hA⟩:=o5.cap;have hnn:A≠v6:=λe=>by have:=hA e;simp[EJ,c]at this
  have hcm:((EJ l).length:Int)<=(cp:Int):=by omega
  refine A7 (F4 (e:=310) (sz:=2) A _ cp vy ((l.length-1:Nat):Int) Tryz.underlying248 (by kernel_rfl) (by omega) (by rw[EL]at hcm;omega)) ?_;have o5':=o5.take (l.length-1) (by rw[EL];omega) (λe=>absurd e hnn);simp only[zE];refine AM b5 rfl rfl (by simp) λw6 hu6=>?_;have x46:=hu6.fr.at_ hu5.at_ (by simp;omega);have x26:=hu6.fr.at_ (hu5.fr.at_ x24 (by simp;omega)) (by simp;omega)
  have xx6:=hu6.fr.at_ (hu5.fr.at_ xx4 (by simp;omega)) (by simp;omega);have o6:=o5'.keep' hu6.fr λg hg hg'=>by
   simp only[yZ]at hg';subst hg';exact o5'.nb b5 (by decide) hg
  refine A5 x46 rfl (AB x26 rfl (EB (e:=la)) rfl λw7 hu7=>A5 hu7.at_ rfl ?_);refine fin la v7 w7 (hu7.fr.at_ xx6 (by simp;omega)) λw8 hf8=>h2 la hla (vt A (l.length-1) cp) w8 ?_ ?_ (IJ _ _ _ _ _)
  ·exact (((f4.then hu5.fr (by simp;omega)).w.trans hu6.fr).then hu7.fr (by simp;omega)).then hf8 (by simp;omega)
  ·refine⟨hf8.at_ (hu7.fr.at_ (by simpa using hu6.at_) (by simp;omega)) (by simp;omega),?_,hr,by simp;omega⟩;have e6:EJ l.dropLast=(EJ l).take (l.length-1):=by simp[EJ,List.dropLast_eq_take]
   rw[e6];have lt6:∀g∈BM (wc.slice A (l.length-1) cp),g<w.heap.size:=λg hg=>h.own.lt (by
    rw[IJ A _ (EJ l).length _ cp]at hg;exact Cl.1 hg)
   exact (o6.keep' hu7.fr λg hg hg'=>by simp only[yZ]at hg';have:=lt6 g hg;omega).keep' hf8 λg hg hg'=>by simp only[yZ]at hg';have:=lt6 g hg;omega
def VP(h:Fb w b lv room l over)(hk:K (vq vy (l.length:Int)) w):I vp 319 #[vr (vz ⟨b,0,v6⟩)] w K:=by
 refine F319.sh ⟨_,Cj _ _ _ Tryz.underlying173,?_⟩
 try simp only[Ae]
 refine F319.k3.to ?_
 try simp only[zv]
 refine Ac (v:=lv) h.blk rfl (AK h.own.rd ?_);rw[EL];exact hk
def Oj(h:Fb w b lv room l over)(hk:K (vw over) w):I vp 320 #[vr (vz ⟨b,0,v6⟩)] w K:=by
 refine F320.sh ⟨_,CN _ _ _ Tryz.underlying173,?_⟩
 try simp only[zv]
 refine Ac (v:=vw over) h.blk rfl ?_;exact hk
def Qt(h:Fb w b lv room l over)(hk:∀w',Fr [b] w w'->Fb w' b lv room l v8->K (vw over) w'):I vp 342 #[vr (vz ⟨b,0,v6⟩)] w K:=by
 refine F342.sh (Oj h ?_);cases over with
 | false=>
  try simp only[zv]
  exact F342.k4.to (hk w (Fr.refl _ _) h)
 | true=>
  try simp only[zv]
  refine AM h.blk rfl rfl (by simp) λw1 hu=>F342.k4.to (hk w1 hu.fr ⟨by simpa using hu.at_,h.own.keep' hu.fr (λg hg hg'=>by
   simp only[yZ]at hg';subst hg';exact h.own.nb h.blk (by decide) hg),h.rm,h.le⟩)
end
structure CS where
 gr:Nat
 wa:Nat
 sk:Nat
 mb:Nat
structure CW(G:CS)(lv:wc)(room:Int)(w:wd)(g:Gy):Prop where
 gb:w.heap[G.gr]?=vz (wj #[vr (vz ⟨G.wa,0,v6⟩),vr (vz ⟨G.mb,0,v6⟩)] 180 (0,0))
 wb:w.heap[G.wa]?=vz (wj #[vr (vz ⟨G.sk,0,v6⟩)] 176 (0,0))
 stk:Fb w G.sk lv room g.l g.over
 mb:CZ w G.mb 2048 g.mks
def CS.S(G:CS)(lv:wc):List Nat:=G.sk::G.mb::BM lv
def CS.all(G:CS)(lv:wc):List Nat:=G.gr::G.wa::G.S lv
def Gr(w:wd)(v v':wc):Prop:=∀x∈BM v',x∈BM v∨w.heap.size<=x
def Gr.refl(w:wd)(v:wc):Gr w v v:=λx hx => .inl hx
def Gr.trans{w w':wd}{v v' v'':wc}(h:Gr w v v')(k:Gr w' v' v'')(hs:w.heap.size<=w'.heap.size):Gr w v v'':=λx hx=>by
 rcases k x hx with c|c
 ·exact h x c
 ·exact .inr (by omega)
structure DI(G:CS)(lv:wc)(w:wd)(lv':wc)(w':wd):Prop where
 fr:Fr (G.S lv) w w'
 gr:Gr w lv lv'
def DI.trans{G:CS}{lv lv' lv'':wc}{w w' w'':wd}(h:DI G lv w lv' w')(k:DI G lv' w' lv'' w''):DI G lv w lv'' w'':=
 ⟨h.fr.then k.fr λx hx=>by
  simp only[CS.S,un]at hx ⊢;rcases hx with c|c|c
  ·exact .inl (.inl c)
  ·exact .inl (.inr (.inl c))
  ·rcases h.gr x c with d|d
   ·exact .inl (.inr (.inr d))
   ·exact .inr d,h.gr.trans k.gr h.fr.size⟩
def DI.w{G:CS}{lv:wc}{w w':wd}(h:Fr [] w w'):DI G lv w lv w':=⟨h.w,Gr.refl _ _⟩
def DI.m{G:CS}{lv:wc}{w w':wd}(h:Fr [G.mb] w w'):DI G lv w lv w':=⟨h.mono λx hx=>by simp only[yZ]at hx;simp[CS.S,hx],Gr.refl _ _⟩
def DI.s{G:CS}{lv lv':wc}{w w':wd}(h:Fr [G.sk] w w')(hg:Gr w lv lv'):DI G lv w lv' w':=⟨h.mono λx hx=>by simp only[yZ]at hx;simp[CS.S,hx],hg⟩
def DI.l{G:CS}{lv lv':wc}{w w':wd}(h:Fr (G.sk::BM lv) w w')(hg:Gr w lv lv'):DI G lv w lv' w':=⟨h.mono λx hx=>by simp only[un]at hx;rcases hx with c | c<;>simp[CS.S,c],hg⟩
section
variable{K:VK}{w w':wd}{G:CS}{lv:wc}{room:Int}{g:Gy}
def CW.keep{S:List Nat}(h:CW G lv room w g)(hf:Fr S w w')(ha:∀x∈G.all lv,x∉S):CW G lv room w' g:=
 ⟨hf.at_ h.gb (ha _ (by simp[CS.all])),hf.at_ h.wb (ha _ (by simp[CS.all])),h.stk.keep hf (ha _ (by simp[CS.all,CS.S])) (λx hx=>ha x (by simp[CS.all,CS.S,hx])),h.mb.keep hf (ha _ (by simp[CS.all,CS.S]))⟩
def CW.keep0(h:CW G lv room w g)(hf:Fr [] w w'):CW G lv room w' g:=h.keep hf (by simp)
def CW.lt(h:CW G lv room w g):∀x∈G.all lv,x<w.heap.size:=λx hx=>by
 obtain⟨ts,t1,_⟩:=h.mb.blk;simp only[CS.all,CS.S,un]at hx;rcases hx with rfl|rfl|rfl|rfl|hx
 ·exact BP h.gb
 ·exact BP h.wb
 ·exact BP h.stk.blk
 ·exact BP t1
 ·exact h.stk.own.lt (Cl.1 hx)
def CW.setMk{m:Bs}(h:CW G lv room w g)(hf:Fr [G.mb] w w')(hm:CZ w' G.mb 2048 m):CW G lv room w' { g with mks:=m }:=by
 obtain⟨ts,t1,_⟩:=h.mb.blk;exact⟨hf.at_ h.gb (by simp only[yZ];exact CY h.gb t1 (by simp)),hf.at_ h.wb (by simp only[yZ];exact CY h.wb t1 (by simp)),h.stk.keep hf (by simp only[yZ];exact CY h.stk.blk t1 (by simp)) (λx hx e=>by
  simp only[yZ]at e;subst e;exact h.stk.own.nb t1 (by decide) hx),hm⟩
def CW.setSt{lv':wc}{l:List (Int × Int)}{o:Bool}(h:CW G lv room w g)(hf:Fr (G.sk::BM lv) w w')(hm:Fb w' G.sk lv' room l o):CW G lv' room w' { g with l:=l,over:=o }:=by
 obtain⟨ts,t1,_⟩:=h.mb.blk;have no:∀ {b:Nat} {cs:Array wc} {e:TypeId},w.heap[b]?=vz (wj cs e (0,0))->e≠252->e≠310->b∉G.sk::BM lv:=λhb h1 h2 hx=>by
  simp only[un]at hx;rcases hx with c|c
  ·exact CY hb h.stk.blk (by simp[h1]) c
  ·exact h.stk.own.nb hb (vk h2) c
 exact⟨hf.at_ h.gb (no h.gb (by decide) (by decide)),hf.at_ h.wb (no h.wb (by decide) (by decide)),hm,h.mb.keep hf (no t1 (by decide) (by decide))⟩
def IZ(h:CW G lv room w g)(hk:K (vr (vz ⟨G.wa,0,v6⟩)) w):I vp 292 #[vr (vz ⟨G.gr,0,v6⟩)] w K:=by
 refine F292.sh ⟨_,Cj _ _ _ Tryz.underlying120,?_⟩
 try simp only[zv]
 refine Ac (v:=vr (vz ⟨G.wa,0,v6⟩)) h.gb rfl ⟨_,Cj _ _ _ Tryz.underlying172,?_⟩
 try simp only[Ae]
 refine F292.k3.to ?_
 try simp only[zv]
 exact Ac (v:=vr (vz ⟨G.wa,0,v6⟩)) h.gb rfl hk
def PB(h:CW G lv room w g)(hk:K (vr (vz ⟨G.mb,0,v6⟩)) w):I vp 276 #[vr (vz ⟨G.gr,0,v6⟩)] w K:=by
 refine F276.sh ⟨_,Cj _ _ _ Tryz.underlying120,?_⟩
 try simp only[Ae]
 refine F276.k3.to ?_
 try simp only[zv]
 exact Ac (v:=vr (vz ⟨G.mb,0,v6⟩)) h.gb rfl hk
def T9{a:Int}(h:CW G lv room w g)(hk:K (vw (g.is a)) w):I vp 230 #[vr (vz ⟨G.gr,0,v6⟩),vq vy a] w K:=
 F230.sh (PB h (Mk h.mb hk))
def Sv{a:Int}:({ g with mks:=II 2048 g.mks a }:Gy)=g.black a:=by unfold Gy.black II;split<;>rfl
def Mx{a:Int}(h:CW G lv room w g)(hk:∀w',Fr [G.mb] w w'->CW G lv room w' (g.black a)->K (vw (decide (0<=a/\a<2048/\¬g.is a))) w'):I vp 260 #[vr (vz ⟨G.gr,0,v6⟩),vq vy a] w K:=by
 refine F260.sh (PB h (OV h.mb λw1 hf1 h1=>?_));have:=hk w1 hf1 (Sv ▸ h.setMk hf1 h1);have e:(decide (0<=a) && decide (a<2048) && !g.mks a.toNat)=decide (0<=a/\a<2048/\¬g.is a):=by
  unfold Gy.is EY;by_cases c1:0<=a
  ·by_cases c2:a<2048
   ·cases c3:g.mks a.toNat<;>simp[c1,c2]
   ·simp[c2]
  ·simp[c1]
 rw[e];exact this
def RV{a:Int}(h:CW G lv room w g)(hk:∀w',Fr [G.mb] w w'->CW G lv room w' (g.clear a)->K (vw (g.is a)) w'):I vp 326 #[vr (vz ⟨G.gr,0,v6⟩),vq vy a] w K:=by
 refine F326.sh (PB h (M2 h.mb λw1 hf1 h1=>?_));have e:({ g with mks:=JR 2048 g.mks a }:Gy)=g.clear a:=by unfold Gy.clear JR Gy.is;split<;>rfl
 exact hk w1 hf1 (e ▸ h.setMk hf1 h1)
def Oa{e:Int × Int}(h:CW G lv room w g)(hk:∀b lv' w',DI G lv w lv' w'->CW G lv' room w' (g.push room e)->K (vw b) w'):I vp 261 #[vr (vz ⟨G.gr,0,v6⟩),Eb e] w K:=by
 refine F261.sh (Ay λx w1 hn=>A8 (λw'=>w'.heap[x]?=vz (wj #[vq vy e.1,vq vy e.2] 310 (0,0))) λw2 hf2 _=>⟨hf2.at_ hn.at_ (by simp),?_⟩);have ln:=hn.is;have x2:=hf2.at_ hn.at_ (by simp);have f2:=hn.fr.trans hf2;have h2:=h.keep0 f2;refine AR (vs:=[vq vy e.1,vq vy e.2]) (λw' hw=>⟨_,_,_,hw,by simp,rfl⟩) ⟨IZ h2 ⟨x2,?_⟩,trivial⟩
 try simp only[An]
 refine⟨A5 h2.wb rfl ⟨x2,?_⟩,trivial⟩;refine⟨F293.sh (Ay λy w3 hn3=>Ay λz w4 hn4=>?_),trivial⟩;have f4:=hn3.fr.trans hn4.fr;have h4:=h2.keep0 f4;have l3:=hn3.is
 try simp only[zv]
 refine Ac (v:=vr (vz ⟨G.sk,0,v6⟩)) (hn4.fr.at_ hn3.at_ (by simp)) rfl (A5 hn4.at_ rfl ?_);have nx:∀g∈G.S lv,g<w.heap.size:=λg hg=>h.lt g (by simp[CS.all,hg]);have x4:=f4.at_ x2 (by simp);have hx:x∉G.S lv:=λhg=>by have:=nx x hg;omega
 unfold Gy.push at hk;refine V6 (e:=e) h4.stk (λc w5 hf5 h5=>⟨hf5.at_ x4 (by simp only[yZ];intro ee;exact hx (by simp[CS.S,ee])),?_⟩) λc lv' w5 hf5 h5 hg5=>⟨hf5.at_ x4 (λee=>hx (by simp only[un]at ee;rcases ee with d | d<;>simp[CS.S,d])),?_⟩
 ·rw[vn c]at hk;exact hk v8 lv w5 ((DI.w (f2.trans f4)).trans (DI.s hf5 (Gr.refl _ _))) (h4.setSt (hf5.mono (by simp)) h5)
 ·rw[vm c]at hk;exact hk v7 lv' w5 ((DI.w (f2.trans f4)).trans (DI.l hf5 hg5)) (h4.setSt hf5 h5)
def OY(h:CW G lv room w g)(hk:∀w',Fr [] w w'->K (vq vy (g.l.length:Int)) w'):I vp 270 #[vr (vz ⟨G.gr,0,v6⟩)] w K:=by
 refine F270.sh (IZ h ?_)
 try simp only[An]
 refine A5 h.wb rfl (F299.sh (Ay λy w1 hn=>?_))
 try simp only[zv]
 exact Ac (v:=vr (vz ⟨G.sk,0,v6⟩)) hn.at_ rfl (VP (h.keep0 hn.fr).stk (hk w1 hn.fr))
def Ub(h:CW G lv room w g)(hk:∀w',Fr [] w w'->K (vw g.over) w'):I vp 271 #[vr (vz ⟨G.gr,0,v6⟩)] w K:=by
 refine F271.sh (IZ h ?_)
 try simp only[An]
 refine A5 h.wb rfl (F300.sh (Ay λy w1 hn=>?_))
 try simp only[zv]
 exact Ac (v:=vr (vz ⟨G.sk,0,v6⟩)) hn.at_ rfl (Oj (h.keep0 hn.fr).stk (hk w1 hn.fr))
def PR(h:CW G lv room w g)(hk:∀w',DI G lv w lv w'->CW G lv room w' { g with over:=v8 }->K (vw g.over) w'):I vp 323 #[vr (vz ⟨G.gr,0,v6⟩)] w K:=by
 refine F323.sh (IZ h ?_)
 try simp only[An]
 refine A5 h.wb rfl (F336.sh (Ay λy w1 hn=>?_))
 try simp only[zv]
 have h1:=h.keep0 hn.fr;exact Ac (v:=vr (vz ⟨G.sk,0,v6⟩)) hn.at_ rfl (Qt h1.stk λw2 hf2 h2=>hk w2 ((DI.w hn.fr).trans (DI.s hf2 (Gr.refl _ _))) (h1.setSt (hf2.mono (by simp)) h2))
def Ua(h:CW G lv room w g)(h1:g.l=[]->∀w',Fr [] w w'->K (vu #[Eb (0,0),vw v8]) w')(h2:∀e,g.l.getLast?=vz e->∀lv' w',DI G lv w lv' w'->CW G lv' room w' { g with l:=g.l.dropLast }->K (vu #[Eb e,vw v7]) w'):
  I vp 321 #[vr (vz ⟨G.gr,0,v6⟩)] w K:=by
 refine F321.sh (Ay λx w1 hn=>IZ (h.keep0 hn.fr) ?_)
 try simp only[An]
 refine A5 (hn.fr.at_ h.wb (by simp)) rfl (F334.sh (Ay λy w2 hn2=>Ay λz w3 hn3=>?_));have l1:=hn.is;have l2:=hn2.is;have l3:=hn3.is;have s1:=hn.fr.size;have s2:=hn2.fr.size;have f3:=(hn.fr.trans hn2.fr).trans hn3.fr;have h3:=h.keep0 f3;have x3:=(hn2.fr.trans hn3.fr).at_ hn.at_ (by simp);have z3:=hn3.at_;have lx:=BP hn.at_
 try simp only[zv]
 have fin:∀(e:Int × Int) (c:Bool) w4,w4.heap[x]?=vz (wj #[vq vy 0,vq vy 0] 310 (0,0))->w4.heap[z]?=vz (wj #[vq vy 0,vq vy 0] 310 (0,0))->(∀w',Fr [x,z] w4 w'->K (vu #[Eb e,vw c]) w')->
   Aj 2 (vr (vz ⟨z,0,v6⟩)) (Eb e) w4 λw5=>Ak 2 (vr (vz ⟨z,0,v6⟩)) w5 λr6 _=>Aj 2 (vr (vz ⟨x,0,v6⟩)) r6 w5 λw8=>Ak 2 (vr (vz ⟨x,0,v6⟩)) w8 λr9 _=>K (vu #[r9,vw c]) w8:=λe c w4 hx hz hk=>by
  refine AB hz rfl EB rfl λw5 hu=>A5 hu.at_ rfl ?_;refine AB (hu.fr.at_ hx (by simp;omega)) rfl (EB (e:=e)) rfl λw6 hu6=>A5 hu6.at_ rfl ?_;exact hk w6 ((hu.fr.mono (by simp)).trans (hu6.fr.mono (by simp)))
 refine Ac (v:=vr (vz ⟨G.sk,0,v6⟩)) (hn3.fr.at_ hn2.at_ (by simp)) rfl (WU h3.stk (λc w4 hf4=>?_) λe c lv' w4 hf4 h4 hb4=>?_)
 ·try simp only[zv]
  refine fin (0,0) v8 w4 (hf4.at_ x3 (by simp)) (hf4.at_ z3 (by simp)) λw5 hf5=>h1 c w5 ((f3.trans hf4).then hf5 (by simp;omega))
 ·have lk:=h.lt G.sk (by simp[CS.all,CS.S]);have h4':=h3.setSt (hf4.mono (by simp)) h4
  try simp only[zv]
  refine fin e v7 w4 (hf4.at_ x3 (by simp;omega)) (hf4.at_ z3 (by simp;omega)) λw5 hf5=>h2 e c lv' w5 ?_ ?_
  ·have f4:DI G lv w lv' w4:=(DI.w f3).trans (DI.s hf4 (λx hx => .inl (hb4 ▸ hx)));exact⟨f4.fr.then hf5 (by simp;omega),f4.gr⟩
  ·refine h4'.keep hf5 λg hg=>?_;have:g<w.heap.size:=h.lt g (by
    simp only[CS.all,CS.S,hb4]at hg ⊢;exact hg)
   simp;omega
def KV{a:Int}(h:CW G lv room w g)(hk:∀b lv' w',DI G lv w lv' w'->CW G lv' room w' (g.shade room a)->K (vw b) w'):I vp 210 #[vr (vz ⟨G.gr,0,v6⟩),vq vy a] w K:=by
 refine F210.sh (Mx h λw1 hf1 h1=>?_);unfold Gy.shade at hk;by_cases c:0<=a/\a<2048/\¬g.is a
 ·rw[vn c]at hk;rw[o8 c]
  try simp only[zv]
  refine F210.k3.to (A7 (v:=Eb (a,0)) (by kernel_rfl) (Oa (e:=(a,0)) h1 λb lv' w2 hf2 h2=>?_));exact hk v7 lv' w2 ((DI.m hf1).trans hf2) h2
 ·rw[vm c]at hk;rw[m8 c]
  try simp only[zv]
  have e:g.black a=g:=by
   unfold Gy.black;split
   ·rename_i d;have hm:g.is a=v7:=by
     cases hh:g.is a with
     | true=>rfl
     | false=>exact absurd ⟨d.1,d.2,by simp[hh]⟩ c
    simp only[Gy.is,EY,zS]at hm;have:CG g.mks a.toNat v7=g.mks:=by
     funext j
     unfold CG;split
     ·rename_i ej;rw[ej,hm.2]
     ·rfl
    rw[this]
   ·rfl
  rw[e]at h1;exact hk v8 lv w1 (DI.m hf1) h1
end
end
noncomputable section
variable{K:VK}{w:wd}{x0 x1 x2 x3 x4 y0 y1 y2 y3 y4 y5 y6 y7 y8 y9 y11 y12 y13 y14 y15 y16 y17:wc}
def F77.sh(h:(I vp 66 #[x2,(vq vy 1),(vq vy 64)] w λa b=>I vp 66 #[x3,(vq vy 1),(vq vy 16)] b λc d=>Am vp (Instr.build 188 #[(0,x0),(1,x1),(2,a),(3,c),(4,(vq vy (-1)))]) d λf g=>Aw (wj (wc.cells f) 188) g λi j=>K i j)):I vp 77 #[x0,x1,x2,x3] w K:=BK (A:=A0) (args:=[x0,x1,x2,x3]) (qq h)
def F217.sh(h:(I vp 269 #[x0] w λa b=>AE a b λc d=>Aa v8 c (λK=>K x0 d) d λf g=>Aa v8 c (Ag f g) g λi j=>Aa v8 c (Ab 1 i j) j λk m=>Aa v8 c (Ad k m) m λo p=>Aa v8 c (λK=>I vp 270 #[o] p K) p λq r=>Aa v8 c (U .eql q (vq vy 0) r) r λs t=>Aa v8 c (λK=>K s t) t λu v=>Aa v7 u (λK=>K x0 v) v λx y=>Aa v7 u (Ag x y) y λz aa=>Aa v7 u (Ab 4 z aa) aa λab ac=>Aa v7 u (Ad ab ac) ac λad ae=>Aa v7 u (λK=>U .eql ad (vq vy (-1)) ae K) ae λaf ag=>Aa v8 c (λK=>Ar (vz u) (vz af) (vz (vw v8)) ag K) ag λah ai=>Aa v8 c (λK=>K ah ai) ai λaj ak=>Aa v7 aj (λK=>K x0 ak) ak λal am=>Aa v7 aj (Ag al am) am λan ao=>Aa v7 aj (Ab 1 an ao) ao λap aq=>Aa v7 aj (Ad ap aq) aq λar au=>Aa v7 aj (λK=>I vp 271 #[ar] au K) au λav aw=>Aa v7 aj (AE av aw) aw λax ay=>Aa v8 c (λK=>Ar (vz aj) (vz ax) (vz (vw v8)) ay K) ay λaz ba=>Ar (vz c) (vz (vw v7)) (vz az) ba λbb bc=>K bb bc)):I vp 217 #[x0] w K:=BK (A:=A0) (args:=[x0]) (qq h)
def F269.sh(h:(AG vp .neq 126 (.tmp 3) (.const (vr v6)) x0 (vr v6) w λa b=>Aa v7 a (λK=>K x0 b) b λc d=>Aa v7 a (Ag c d) d λf g=>Aa v7 a (Ab 2 f g) g λi j=>Aa v7 a (Ad i j) j λk m=>Aa v7 a (U .gtr k (vq vy 0) m) m λo p=>Ar (vz a) (vz o) (vz (vw v8)) p λq r=>K q r)):I vp 269 #[x0] w K:=BK (A:=A0) (args:=[x0]) (qq h)
namespace F303
def ann:=a1 [(3,[0]),(10,[0])]
def code:=cd f303
def BL:=tp f303
variable(K:VK)(y0:wc)(w:wd)
def k3:=nk ann 36 [(0,y0)] w [1,1] code (BL K)
def k10:=nk ann 36 [(0,y0)] w [1,1,1,1] code (BL K)
attribute [irreducible] k3 k10
end F303
def F303.k3.to(h:(Ag y0 w λa b=>Ab 1 a b λc d=>Ad c d λf g=>I vp 321 #[f] g λi j=>Av 0 i j λk m=>Av 1 i m λo p=>Aw (wj #[vq vy 0,vq vy 0] 310) p λq r=>Aj 2 q k r λs=>Af o (Ak 2 q s λt u=>I vp 322 #[y0,t] u λv x=>K (vw v7) x) (Ag y0 s λy z=>Ab 4 y z λaa ab=>Ad aa ab λac ad=>U .eql ac (vq vy (-1)) ad λae af=>Af ae (Ag y0 af λag ah=>Ab 1 ag ah λai aj=>Ad ai aj λak al=>I vp 323 #[ak] al λam an=>Ag y0 an λao ap=>Ab 4 ao ap λaq ar=>Aj 1 aq (vq vy 0) ar λau=>F303.k10 K y0 au) (F303.k10 K y0 af)))):F303.k3 K y0 w:=qq h
def F303.k10.to(h:(I vp 324 #[y0] w λa b=>K (vw v7) b)):F303.k10 K y0 w:=qq h
def F303.sh(h:(I vp 217 #[x0] w λa b=>Af a (K (vw v8) b) (F303.k3 K x0 b))):I vp 303 #[x0] w K:=BK (A:=F303.ann) (args:=[x0]) (qq h)
namespace F322
def ann:Cd:=⟨[(3,[0,3,4]),(6,[0,3,5])],[],[],[(1,(tk [0,1,2,4,3,5] (.go 6 (.take 7 .fin) .fin))),(3,(tk [0,2,3,4,7,1,5,6,8,9] .fin)),(5,(tk [0,1,2,4,6,3,5,7] (.go 8 .fin .fin)))],v6⟩
def code:=cd f322
def BL:=tp f322
variable(K:VK)(y0 y3 y4 y5:wc)(w:wd)
def k3:=nk ann 50 [(0,y0),(3,y3),(4,y4)] w [1,1,1] code (BL K)
def k6:=nk ann 50 [(0,y0),(3,y3),(5,y5)] w [1,1,1,1,1] code (BL K)
attribute [irreducible] k3 k6
end F322
def F322.k3.to(h:(A4 w λS a=>Ab 1 y3 a λb c=>Ag y0 c λd f=>Ab 3 d f λg i=>Al S b i λj k=>Al S g k λm o=>U .add j m o λp q=>∃r,(∀w',S w'->(builtin .min #[3,3] 3 #[v8,v8] #[p,y4]).run vp w'=.ok (.value r) w')/\(U .lss r y4 q λs t=>Af s (A4 t λS u=>Ag y0 u λv x=>Ab 1 v x λy z=>Ab 0 y3 z λaa ab=>Al S y ab λac ad=>Al S aa ad λae af=>∃ag,(∀w',S w'->(Instr.build 310 #[(0,ae),(1,r)]).run vp w'=.ok ag w')/\((I vp 261 #[ac,ag] af λah ai=>(S ai/\
 F322.k6 K y0 y3 r ai))/\True)) (F322.k6 K y0 y3 r t)))):F322.k3 K y0 y3 y4 w:=qq h
def F322.k6.to(h:(Ab 0 y3 w λa b=>Ad a b λc d=>Ab 1 y3 d λf g=>Ad f g λi j=>I vp 335 #[y0,c,i,y5] j λk m=>K (vu #[]) m)):F322.k6 K y0 y3 y5 w:=qq h
def F322.sh(h:(Aw (wj (wc.cells x1) 310) w λa b=>A4 b λS c=>Ag x0 c λd f=>Ab 0 d f λg i=>Ab 0 a i λj k=>Al S g k λm o=>Al S j o λp q=>(I vp 128 #[m,p] q λr s=>(S s/\
 Ab 1 a s λt u=>Ad t u λv x=>U .lss v (vq vy 0) x λy z=>Aa v8 y (Ab 1 a z) z λaa ab=>Aa v8 y (Ad aa ab) ab λac ad=>Aa v8 y (λK=>K r ad) ad λae af=>Aa v8 y (U .geq ac ae af) af λag ah=>Ar (vz y) (vz (vw v7)) (vz ag) ah λai aj=>Af ai (K (vu #[]) aj) (F322.k3 K x0 a r aj)))/\True)):I vp 322 #[x0,x1] w K:=BK (A:=F322.ann) (args:=[x0,x1]) (qq h)
namespace F324
def ann:Cd:=⟨[(2,[0,12,13,14]),(5,[0,12,13,14]),(6,[0])],[(1,[0,12,13,14])],[],[(0,(tk [0,1,2,4,5,6,10,3,7] (.go 8 (.take 9 .fin) .fin))),(7,(tk [0,1,2,4,5,6,3,7,8] .fin))],v6⟩
def code:=cd f324
def BL:=tp f324
variable(K:VK)(y0 y12 y13 y14:wc)(w:wd)
def k6:=nk ann 53 [(0,y0)] w [1] code (BL K)
def l1:=nl ann 53 [(0,y0),(12,y12),(13,y13),(14,y14)] w [0,1,0] code (BL K)
def k2:=nk ann 53 [(0,y0),(12,y12),(13,y13),(14,y14)] w [0,1,0,0,1,1] code (BL K)
def k5:=nk ann 53 [(0,y0),(12,y12),(13,y13),(14,y14)] w [0,1,0,0,1,1,1] code (BL K)
attribute [irreducible] k6 l1 k2 k5
end F324
def F324.k6.to(h:(Ag y0 w λa b=>Ab 4 a b λc d=>Ad c d λf g=>U .add f (vq vy 1) g λi j=>Ag y0 j λk m=>Ab 4 k m λo p=>Aj 1 o i p λq=>A4 q λS r=>Ag y0 r λs t=>Ab 4 s t λu v=>Ag y0 v λx y=>Ab 2 x y λz aa=>Al S u aa λab ac=>Al S z ac λad ae=>U .eql ab ad ae λaf ag=>Af af (Ag y0 ag λah ai=>Ab 4 ah ai λaj ak=>Aj 1 aj (vq vy (-1)) ak λal=>K (vu #[]) al) (K (vu #[]) ag))):F324.k6 K y0 w:=qq h
def F324.l1.to(h:(U .lss y14 y13 w λa b=>Af a (F324.k2 K y0 y12 y13 y14 b) (F324.k6 K y0 b))):F324.l1 K y0 y12 y13 y14 w:=by unfold F324.l1 nl;exact BW (qq h)
def F324.k2.to(h:(A6 1 y12 y14 w λa b=>Ad a b λc d=>Ag y0 d λf g=>Ab 1 f g λi j=>Ad i j λk m=>I vp 230 #[k,c] m λo p=>Af o (Ag y0 p λq r=>Ab 0 q r λs t=>Ad s t λu v=>I vp 128 #[u,c] v λx y=>I vp 335 #[y0,c,(vq vy 0),x] y λz aa=>F324.k5 K y0 y12 y13 y14 aa) (F324.k5 K y0 y12 y13 y14 p))):F324.k2 K y0 y12 y13 y14 w:=qq h
def F324.k5.to(h:(U .add y14 (vq vy 1) w λa b=>F324.l1 K y0 y12 y13 a b)):F324.k5 K y0 y12 y13 y14 w:=qq h
def F324.sh(h:(A4 w λS a=>Ag x0 a λb c=>Ab 0 b c λd f=>Ag x0 f λg i=>Ab 4 g i λj k=>Al S d k λm o=>Al S j o λp q=>(I vp 325 #[m,p] q λr s=>(S s/\
 AH r s λt u=>F324.l1 K x0 r t (vq vy 0) u))/\True)):I vp 324 #[x0] w K:=BK (A:=F324.ann) (args:=[x0]) (qq h)
namespace F335
def ann:Cd:=⟨[(2,[0,1,3,8]),(3,[0,1,3,8])],[(1,[0,1,3,8])],[],[(5,(tk [0,1,2,4,3,5] (.go 6 .fin .fin)))],v6⟩
def code:=cd f335
def BL:=tp f335
variable(K:VK)(y0 y1 y3 y8:wc)(w:wd)
def l1:=nl ann 37 [(0,y0),(1,y1),(3,y3),(8,y8)] w [1,0] code (BL K)
def k3:=nk ann 37 [(0,y0),(1,y1),(3,y3),(8,y8)] w [1,0,0,1] code (BL K)
def k2:=nk ann 37 [(0,y0),(1,y1),(3,y3),(8,y8)] w [1,0,0,1,1] code (BL K)
attribute [irreducible] l1 k3 k2
end F335
def F335.l1.to(h:(U .lss y8 y3 w λa b=>Af a (F335.k3 K y0 y1 y3 y8 b) (K (vu #[]) b))):F335.l1 K y0 y1 y3 y8 w:=by unfold F335.l1 nl;exact BW (qq h)
def F335.k3.to(h:(Ag y0 w λa b=>Ab 0 a b λc d=>Ad c d λf g=>I vp 129 #[f,y1,y8] g λi j=>Av 0 i j λk m=>Av 1 i m λo p=>Aw (wj #[vq vy 0,vq vy 0] 60) p λq r=>Aj 2 q k r λs=>Ab 0 q s λt u=>Ad t u λv x=>U .eql v (vq vy 2) x λy z=>Af y (A4 z λS aa=>Ag y0 aa λab ac=>Ab 1 ab ac λad ae=>Ab 1 q ae λaf ag=>Al S ad ag λah ai=>Al S af ai λaj ak=>(I vp 210 #[ah,aj] ak λal am=>(S am/\
 F335.k2 K y0 y1 y3 y8 am))/\True) (F335.k2 K y0 y1 y3 y8 z))):F335.k3 K y0 y1 y3 y8 w:=qq h
def F335.k2.to(h:(U .add y8 (vq vy 1) w λa b=>F335.l1 K y0 y1 y3 a b)):F335.k2 K y0 y1 y3 y8 w:=qq h
def F335.sh(h:(F335.l1 K x0 x1 x3 x2 w)):I vp 335 #[x0,x1,x2,x3] w K:=BK (A:=F335.ann) (args:=[x0,x1,x2,x3]) (qq h)
def F78.sh(h:(I vp 66 #[x2,(vq vy 1),(vq vy 64)] w λa b=>Am vp (Instr.build 190 #[(0,x0),(1,x1),(2,a),(3,a)]) b λc d=>Aw (wj (wc.cells c) 190) d λf g=>K f g)):I vp 78 #[x0,x1,x2] w K:=BK (A:=A0) (args:=[x0,x1,x2]) (qq h)
def F218.sh(h:(AG vp .neq 127 (.tmp 2) (.const (vr v6)) x0 (vr v6) w λa b=>Af a (Ag x0 b λc d=>Ab 3 c d λf g=>Aj 1 f (vq vy 0) g λi=>Ag x0 i λj k=>Ab 4 j k λm o=>Aj 1 m (vq vy 0) o λp=>K (vu #[]) p) (K (vu #[]) b))):I vp 218 #[x0] w K:=BK (A:=A0) (args:=[x0]) (qq h)
namespace F220
def ann:=a1 [(3,[0])]
def code:=cd f220
def BL:=tp f220
variable(K:VK)(y0:wc)(w:wd)
@[irreducible]def k3:=nk ann 9 [(0,y0)] w [1,1] code (BL K)
end F220
def F220.k3.to(h:(Ag y0 w λa b=>Ab 3 a b λc d=>Ad c d λf g=>K f g)):F220.k3 K y0 w:=qq h
def F220.sh(h:(AG vp .eql 127 (.tmp 3) (.const (vr v6)) x0 (vr v6) w λa b=>Af a (K (vq vy 0) b) (F220.k3 K x0 b))):I vp 220 #[x0] w K:=BK (A:=F220.ann) (args:=[x0]) (qq h)
namespace F304
def ann:Cd:=⟨[(3,[0]),(5,[0,15,16,17]),(8,[0,15,16,17]),(9,[0])],[(4,[0,15,16,17])],[],[(3,(tk [0,1,2,4,5,6,10,3,7] (.go 8 (.take 9 .fin) .fin))),(9,(tk [0,1,2,4,5,6,3,7] (.go 8 .fin .fin)))],v6⟩
def code:=cd f304
def BL:=tp f304
variable(K:VK)(y0 y15 y16 y17:wc)(w:wd)
def k3:=nk ann 60 [(0,y0)] w [1,1] code (BL K)
def k9:=nk ann 60 [(0,y0)] w [1,1,1] code (BL K)
def l4:=nl ann 60 [(0,y0),(15,y15),(16,y16),(17,y17)] w [1,1,0,1,0] code (BL K)
def k5:=nk ann 60 [(0,y0),(15,y15),(16,y16),(17,y17)] w [1,1,0,1,0,0,1,1] code (BL K)
def k8:=nk ann 60 [(0,y0),(15,y15),(16,y16),(17,y17)] w [1,1,0,1,0,0,1,1,1] code (BL K)
attribute [irreducible] k3 k9 l4 k5 k8
end F304
def F304.k3.to(h:(A4 w λS a=>Ag y0 a λb c=>Ab 0 b c λd f=>Ag y0 f λg i=>Ab 3 g i λj k=>Al S d k λm o=>Al S j o λp q=>(I vp 325 #[m,p] q λr s=>(S s/\
 AH r s λt u=>F304.l4 K y0 r t (vq vy 0) u))/\True)):F304.k3 K y0 w:=qq h
def F304.k9.to(h:(A4 w λS a=>Ag y0 a λb c=>Ab 0 b c λd f=>Ag y0 f λg i=>Ab 3 g i λj k=>Al S d k λm o=>Al S j o λp q=>(I vp 328 #[m,p] q λr s=>(S s/\
 Ag y0 s λt u=>Ab 3 t u λv x=>Ad v x λy z=>U .add y (vq vy 1) z λaa ab=>Ag y0 ab λac ad=>Ab 3 ac ad λae af=>Aj 1 ae aa af λag=>K (vw v7) ag))/\True)):F304.k9 K y0 w:=qq h
def F304.l4.to(h:(U .lss y17 y16 w λa b=>Af a (F304.k5 K y0 y15 y16 y17 b) (F304.k9 K y0 b))):F304.l4 K y0 y15 y16 y17 w:=by unfold F304.l4 nl;exact BW (qq h)
def F304.k5.to(h:(A6 1 y15 y17 w λa b=>Ad a b λc d=>Ag y0 d λf g=>Ab 1 f g λi j=>Ad i j λk m=>I vp 326 #[k,c] m λo p=>AE o p λq r=>Aa v7 q (λK=>K y0 r) r λs t=>Aa v7 q (Ag s t) t λu v=>Aa v7 q (Ab 0 u v) v λx y=>Aa v7 q (Ad x y) y λz aa=>Aa v7 q (λK=>K c aa) aa λab ac=>Aa v7 q (λK=>I vp 327 #[z,ab] ac K) ac λad ae=>Ar (vz q) (vz ad) (vz (vw v8)) ae λaf ag=>Af af (Ag y0 ag λah ai=>Ab 4 ah ai λaj ak=>Ad aj ak λal am=>U .add al (vq vy 1) am λan ao=>Ag y0 ao λap aq=>Ab 4 ap aq λar au=>Aj 1 ar an au λav=>F304.k8 K y0 y15 y16 y17 av) (F304.k8 K y0 y15 y16 y17 ag))):F304.k5 K y0 y15 y16 y17 w:=qq h
def F304.k8.to(h:(U .add y17 (vq vy 1) w λa b=>F304.l4 K y0 y15 y16 a b)):F304.k8 K y0 y15 y16 y17 w:=qq h
def F304.sh(h:(I vp 305 #[x0] w λa b=>Af a (K (vw v8) b) (F304.k3 K x0 b))):I vp 304 #[x0] w K:=BK (A:=F304.ann) (args:=[x0]) (qq h)
namespace F305
def ann:Cd:=⟨[],[],[],[(1,(tk [0,1,2,3,4,5,7,8,9,6,10,11,12,13] .fin))],v6⟩
end F305
def F305.sh(h:(A4 w λS a=>∃b,(∀w',S w'->((do eqGuard .eql 127 (.tmp 3) (.const (vr v6)) x0 (vr v6);binOp .eql 127 x0 (vr v6):Sem wc)).run vp w'=.ok b w')/\(Aa v8 b (λK=>K x0 a) a λc d=>Aa v8 b (Ag c d) d λf g=>Aa v8 b (Ab 3 f g) g λi j=>Aa v8 b (λK=>K x0 j) j λk m=>Aa v8 b (Ag k m) m λo p=>Aa v8 b (Ab 2 o p) p λq r=>Aa v8 b (Al S i r) r λs t=>Aa v8 b (Al S q t) t λu v=>Aa v8 b (U .geq s u v) v λx y=>Ar (vz b) (vz (vw v7)) (vz x) y λz aa=>K z aa))):I vp 305 #[x0] w K:=BK (A:=F305.ann) (args:=[x0]) (qq h)
namespace F47
def ann:=a1 [(3,[0,1])]
def code:=cd f47
def BL:=tp f47
variable(K:VK)(y0 y1:wc)(w:wd)
@[irreducible]def k3:=nk ann 15 [(0,y0),(1,y1)] w [1,1] code (BL K)
end F47
def F47.k3.to(h:(Ag y0 w λa b=>Ab 16 a b λc d=>AP 8 1 c y1 d λf g=>I vp 82 #[f] g λi j=>K i j)):F47.k3 K y0 y1 w:=qq h
def F47.sh(h:(I vp 53 #[x0,x1] w λa b=>AE a b λc d=>Af c (K (vt v6 0 0) d) (F47.k3 K x0 x1 d))):I vp 47 #[x0,x1] w K:=BK (A:=F47.ann) (args:=[x0,x1]) (qq h)
namespace F49
def ann:=a1 [(3,[0,1])]
def code:=cd f49
def BL:=tp f49
variable(K:VK)(y0 y1:wc)(w:wd)
@[irreducible]def k3:=nk ann 15 [(0,y0),(1,y1)] w [1,1] code (BL K)
end F49
def F49.k3.to(h:(Ag y0 w λa b=>Ab 0 a b λc d=>Ab 0 c d λf g=>Ad f g λi j=>I vp 89 #[i,y1] j λk m=>K k m)):F49.k3 K y0 y1 w:=qq h
def F49.sh(h:(I vp 88 #[x0] w λa b=>AE a b λc d=>Af c (K (vq vy (-1)) d) (F49.k3 K x0 x1 d))):I vp 49 #[x0,x1] w K:=BK (A:=F49.ann) (args:=[x0,x1]) (qq h)
def F53.sh(h:(I vp 88 #[x0] w λa b=>Aa v7 a (λK=>K x0 b) b λc d=>Aa v7 a (Ag c d) d λf g=>Aa v7 a (Ab 12 f g) g λi j=>Aa v7 a (Ad i j) j λk m=>Aa v7 a (λK=>K x1 m) m λo p=>Aa v7 a (λK=>I vp 95 #[k,o] p K) p λq r=>Ar (vz a) (vz q) (vz (vw v8)) r λs t=>K s t)):I vp 53 #[x0,x1] w K:=BK (A:=A0) (args:=[x0,x1]) (qq h)
namespace F59
def ann:=a1 [(3,[0])]
def code:=cd f59
def BL:=tp f59
variable(K:VK)(y0:wc)(w:wd)
@[irreducible]def k3:=nk ann 10 [(0,y0)] w [1,1] code (BL K)
end F59
def F59.k3.to(h:(Ag y0 w λa b=>Ab 25 a b λc d=>Ad c d λf g=>K f g)):F59.k3 K y0 w:=qq h
def F59.sh(h:(I vp 88 #[x0] w λa b=>AE a b λc d=>Af c (K (vq vy 0) d) (F59.k3 K x0 d))):I vp 59 #[x0] w K:=BK (A:=F59.ann) (args:=[x0]) (qq h)
namespace F83
def ann:=a1 [(3,[0])]
def code:=cd f83
def BL:=tp f83
variable(K:VK)(y0:wc)(w:wd)
@[irreducible]def k3:=nk ann 10 [(0,y0)] w [1,1] code (BL K)
end F83
def F83.k3.to(h:(Ag y0 w λa b=>Ab 24 a b λc d=>Ad c d λf g=>K f g)):F83.k3 K y0 w:=qq h
def F83.sh(h:(I vp 88 #[x0] w λa b=>AE a b λc d=>Af c (K (vq vy 0) d) (F83.k3 K x0 d))):I vp 83 #[x0] w K:=BK (A:=F83.ann) (args:=[x0]) (qq h)
def F88.sh(h:(AG vp .neq 86 (.tmp 3) (.const (vr v6)) x0 (vr v6) w λa b=>Aa v7 a (λK=>K x0 b) b λc d=>Aa v7 a (Ag c d) d λf g=>Aa v7 a (Ab 0 f g) g λi j=>Aa v7 a (Ab 0 i j) j λk m=>Aa v7 a (Ad k m) m λo p=>Aa v7 a (λK=>AG vp .neq 118 (.tmp 10) (.const (vr v6)) o (vr v6) p K) p λq r=>Ar (vz a) (vz q) (vz (vw v8)) r λs t=>K s t)):I vp 88 #[x0] w K:=BK (A:=A0) (args:=[x0]) (qq h)
namespace F90
def ann:=a1 [(3,[0,1])]
def code:=cd f90
def BL:=tp f90
variable(K:VK)(y0 y1:wc)(w:wd)
@[irreducible]def k3:=nk ann 15 [(0,y0),(1,y1)] w [1,1] code (BL K)
end F90
def F90.k3.to(h:(Ag y0 w λa b=>Ab 0 a b λc d=>Ab 0 c d λf g=>Ad f g λi j=>I vp 128 #[i,y1] j λk m=>K k m)):F90.k3 K y0 y1 w:=qq h
def F90.sh(h:(I vp 88 #[x0] w λa b=>AE a b λc d=>Af c (K (vq vy (-1)) d) (F90.k3 K x0 x1 d))):I vp 90 #[x0,x1] w K:=BK (A:=F90.ann) (args:=[x0,x1]) (qq h)
namespace F91
def ann:=a1 [(3,[0,1,2,6])]
def code:=cd f91
def BL:=tp f91
variable(K:VK)(y0 y1 y2 y6:wc)(w:wd)
@[irreducible]def k3:=nk ann 22 [(0,y0),(1,y1),(2,y2),(6,y6)] w [1,1] code (BL K)
end F91
def F91.k3.to(h:(Ag y0 w λa b=>Ab 0 a b λc d=>Ab 0 c d λf g=>Ad f g λi j=>I vp 129 #[i,y1,y2] j λk m=>Av 0 k m λo p=>Av 1 k p λq r=>Aj 2 y6 o r λs=>Ak 2 y6 s λr9 _=>K (vu #[r9,q]) s)):F91.k3 K y0 y1 y2 y6 w:=qq h
def F91.sh(h:(Aw (wj #[vq vy 0,vq vy 0] 60) w λa b=>I vp 88 #[x0] b λc d=>AE c d λf g=>Af f (Am vp (Instr.build 60 #[]) g λi j=>Aj 2 a i j λk=>Ak 2 a k λr6 _=>K (vu #[r6,(vw v8)]) k) (F91.k3 K x0 x1 x2 a g))):I vp 91 #[x0,x1,x2] w K:=BK (A:=F91.ann) (args:=[x0,x1,x2]) (qq h)
def F98.sh(h:(I vp 88 #[x0] w λa b=>Aa v7 a (λK=>K x0 b) b λc d=>Aa v7 a (Ag c d) d λf g=>Aa v7 a (Ab 12 f g) g λi j=>Aa v7 a (Ad i j) j λk m=>Aa v7 a (λK=>K x1 m) m λo p=>Aa v7 a (λK=>I vp 142 #[k,o] p K) p λq r=>Ar (vz a) (vz q) (vz (vw v8)) r λs t=>K s t)):I vp 98 #[x0,x1] w K:=BK (A:=A0) (args:=[x0,x1]) (qq h)
namespace F99
def ann:=a1 [(3,[0,1]),(6,[0,1])]
def code:=cd f99
def BL:=tp f99
variable(K:VK)(y0 y1:wc)(w:wd)
def k3:=nk ann 45 [(0,y0),(1,y1)] w [1,1] code (BL K)
def k6:=nk ann 45 [(0,y0),(1,y1)] w [1,1,1] code (BL K)
attribute [irreducible] k3 k6
end F99
def F99.k3.to(h:(Ag y0 w λa b=>Ab 13 a b λc d=>Ad c d λf g=>I vp 143 #[f,y1] g λi j=>I vp 144 #[y0] j λk m=>Af k (Ag y0 m λo p=>Ab 0 o p λq r=>Ak 2 q r λs t=>I vp 145 #[s,i] t λu v=>F99.k6 K y0 y1 v) (F99.k6 K y0 y1 m))):F99.k3 K y0 y1 w:=qq h
def F99.k6.to(h:(Ag y0 w λa b=>Ab 16 a b λc d=>AP 8 1 c y1 d λf g=>I vp 146 #[f] g λi j=>Ag y0 j λk m=>Ab 0 k m λo p=>Ab 0 o p λq r=>Ad q r λs t=>I vp 147 #[s,y1] t λu v=>Ag y0 v λx y=>Ab 12 x y λz aa=>Ad z aa λab ac=>I vp 148 #[ab,y1] ac λad ae=>I vp 149 #[y0] ae λaf ag=>K (vw v7) ag)):F99.k6 K y0 y1 w:=qq h
def F99.sh(h:(I vp 53 #[x0,x1] w λa b=>AE a b λc d=>Af c (K (vw v8) d) (F99.k3 K x0 x1 d))):I vp 99 #[x0,x1] w K:=BK (A:=F99.ann) (args:=[x0,x1]) (qq h)
namespace F102
def ann:=a1 [(3,[0,1,4])]
def code:=cd f102
def BL:=tp f102
variable(K:VK)(y0 y1 y4:wc)(w:wd)
@[irreducible]def k3:=nk ann 19 [(0,y0),(1,y1),(4,y4)] w [1,1] code (BL K)
end F102
def F102.k3.to(h:(Ag y0 w λa b=>Ab 16 a b λc d=>AP 8 1 c y1 d λf g=>I vp 156 #[f] g λi j=>Av 0 i j λk m=>Av 1 i m λo p=>Aj 2 y4 k p λq=>Ak 2 y4 q λr8 _=>K (vu #[r8,o]) q)):F102.k3 K y0 y1 y4 w:=qq h
def F102.sh(h:(Aw (wj #[vq vy 0,vq vy 0] 60) w λa b=>I vp 53 #[x0,x1] b λc d=>AE c d λf g=>Af f (Am vp (Instr.build 60 #[]) g λi j=>Aj 2 a i j λk=>Ak 2 a k λr6 _=>K (vu #[r6,(vw v8)]) k) (F102.k3 K x0 x1 a g))):I vp 102 #[x0,x1] w K:=BK (A:=F102.ann) (args:=[x0,x1]) (qq h)
namespace F105
def ann:Cd:=⟨[(3,[0,1]),(8,[0])],[],[],[(5,(tk [0,1,2,4,5,6,7,8,3] (.go 9 (.go 10 .fin .fin) .fin))),(7,(tk [0,1,2,4,5,6,8,3,7] (.go 9 (.go 10 .fin .fin) .fin)))],v6⟩
def code:=cd f105
def BL:=tp f105
variable(K:VK)(y0 y1:wc)(w:wd)
def k3:=nk ann 49 [(0,y0),(1,y1)] w [1,1] code (BL K)
def k8:=nk ann 49 [(0,y0)] w [1,1,1] code (BL K)
attribute [irreducible] k3 k8
end F105
def F105.k3.to(h:(Ag y0 w λa b=>Ab 25 a b λc d=>Ad c d λf g=>U .eql f (vq vy 2) g λi j=>Af i (A4 j λS k=>Ag y0 k λm o=>Ab 0 m o λp q=>Ag y0 q λr s=>Ab 16 r s λt u=>AP 8 1 t y1 u λv x=>AN S 2 p x λy z=>(I vp 161 #[v] z λaa ab=>(S ab/\
 (I vp 145 #[y,aa] ab λac ad=>(S ad/\
 F105.k8 K y0 ad))/\True))/\True) (U .eql f (vq vy 4) j λae af=>Af ae (A4 af λS ag=>Ag y0 ag λah ai=>Ab 0 ah ai λaj ak=>Ag y0 ak λal am=>Ab 13 al am λan ao=>AN S 2 aj ao λap aq=>Al S an aq λar au=>(I vp 143 #[ar,y1] au λav aw=>(S aw/\
 (I vp 145 #[ap,av] aw λax ay=>(S ay/\
 F105.k8 K y0 ay))/\True))/\True) (F105.k8 K y0 af)))):F105.k3 K y0 y1 w:=qq h
def F105.k8.to(h:(I vp 149 #[y0] w λa b=>K (vw v7) b)):F105.k8 K y0 w:=qq h
def F105.sh(h:(I vp 88 #[x0] w λa b=>AE a b λc d=>Aa v8 c (λK=>K x0 d) d λf g=>Aa v8 c (Ag f g) g λi j=>Aa v8 c (Ab 12 i j) j λk m=>Aa v8 c (Ad k m) m λo p=>Aa v8 c (λK=>K x1 p) p λq r=>Aa v8 c (λK=>I vp 160 #[o,q] r K) r λs t=>Aa v8 c (AE s t) t λu v=>Ar (vz c) (vz (vw v7)) (vz u) v λx y=>Af x (K (vw v8) y) (F105.k3 K x0 x1 y))):I vp 105 #[x0,x1] w K:=BK (A:=F105.ann) (args:=[x0,x1]) (qq h)
def F144.sh(h:(Ag x0 w λa b=>Ab 25 a b λc d=>Ad c d λf g=>U .geq f (vq vy 2) g λi j=>Aa v7 i (λK=>K x0 j) j λk m=>Aa v7 i (Ag k m) m λo p=>Aa v7 i (Ab 25 o p) p λq r=>Aa v7 i (Ad q r) r λs t=>Aa v7 i (U .leq s (vq vy 4) t) t λu v=>Ar (vz i) (vz u) (vz (vw v8)) v λx y=>K x y)):I vp 144 #[x0] w K:=BK (A:=A0) (args:=[x0]) (qq h)
namespace F145
def ann:Cd:=⟨[(3,[2,6,7,8]),(5,[2,6,7,8])],[(2,[2,6,7,8])],[],[],v6⟩
def code:=cd f145
def BL:=tp f145
variable(K:VK)(y2 y6 y7 y8:wc)(w:wd)
def l2:=nl ann 17 [(2,y2),(6,y6),(7,y7),(8,y8)] w [1,1,0] code (BL K)
def k3:=nk ann 17 [(2,y2),(6,y6),(7,y7),(8,y8)] w [1,1,0,0,1,1] code (BL K)
def k5:=nk ann 17 [(2,y2),(6,y6),(7,y7),(8,y8)] w [1,1,0,0,1,1,1] code (BL K)
attribute [irreducible] l2 k3 k5
end F145
def F145.l2.to(h:(U .lss y8 y7 w λa b=>Af a (F145.k3 K y2 y6 y7 y8 b) (K (vu #[]) b))):F145.l2 K y2 y6 y7 y8 w:=by unfold F145.l2 nl;exact BW (qq h)
def F145.k3.to(h:(A6 1 y6 y8 w λa b=>Ad a b λc d=>Ab 1 y2 d λf g=>Ad f g λi j=>I vp 210 #[i,c] j λk m=>F145.k5 K y2 y6 y7 y8 m)):F145.k3 K y2 y6 y7 y8 w:=qq h
def F145.k5.to(h:(U .add y8 (vq vy 1) w λa b=>F145.l2 K y2 y6 y7 a b)):F145.k5 K y2 y6 y7 y8 w:=qq h
def F145.sh(h:(Aw (wj (wc.cells x0) 123) w λa b=>AH x1 b λc d=>F145.l2 K a x1 c (vq vy 0) d)):I vp 145 #[x0,x1] w K:=BK (A:=F145.ann) (args:=[x0,x1]) (qq h)
namespace F149
def ann:Cd:=⟨[(1,[0])],[(0,[0])],[],[(3,(tk [0,1,2,4,5,6,3,7] (.go 8 (.go 9 .fin .fin) .fin)))],v6⟩
def code:=cd f149
def BL:=tp f149
variable(K:VK)(y0:wc)(w:wd)
def l0:=nl ann 76 [(0,y0)] w [0] code (BL K)
def k1:=nk ann 76 [(0,y0)] w [0,0,1] code (BL K)
attribute [irreducible] l0 k1
end F149
def F149.l0.to(h:(Ag y0 w λa b=>Ab 12 a b λc d=>Ad c d λf g=>I vp 213 #[f] g λi j=>Af i (F149.k1 K y0 j) (K (vu #[]) j))):F149.l0 K y0 w:=by unfold F149.l0 nl;exact BW (qq h)
def F149.k1.to(h:(Ag y0 w λa b=>Ab 25 a b λc d=>Ad c d λf g=>U .eql f (vq vy 1) g λi j=>Af i (Ag y0 j λk m=>Ab 13 k m λo p=>Ad o p λq r=>I vp 214 #[q] r λs t=>A4 t λS u=>Ag y0 u λv x=>Ab 0 v x λy z=>Ag y0 z λaa ab=>Ab 24 aa ab λac ad=>AN S 2 y ad λae af=>Al S ac af λag ah=>(Am vp (Instr.buildSlice 54 1 #[(0,ag)]) ah λai aj=>(S aj/\
 (I vp 145 #[ae,ai] aj λak al=>(S al/\
 I vp 215 #[y0,(vq vy 2)] al λam an=>F149.l0 K y0 an))/\True))/\True) (Ag y0 j λao ap=>Ab 25 ao ap λaq ar=>Ad aq ar λau av=>U .eql au (vq vy 2) av λaw ax=>Af aw (Ag y0 ax λay az=>Ab 25 ay az λba bb=>Aj 1 ba (vq vy 3) bb λbc=>F149.l0 K y0 bc) (Ag y0 ax λbd be=>Ab 25 bd be λbf bg=>Ad bf bg λbh bi=>U .eql bh (vq vy 4) bi λbj bk=>Aa v7 bj (λK=>K y0 bk) bk λbl bm=>Aa v7 bj (Ag bl bm) bm λbn bo=>Aa v7 bj (Ab 13 bn bo) bo λbp bq=>Aa v7 bj (Ad bp bq) bq λbr bs=>Aa v7 bj (λK=>I vp 216 #[br] bs K) bs λbt bu=>Ar (vz bj) (vz bt) (vz (vw v8)) bu λbv bw=>Aa v7 bv (λK=>K y0 bw) bw λbx bz=>Aa v7 bv (Ag bx bz) bz λca cb=>Aa v7 bv (Ab 14 ca cb) cb λcc ce=>Aa v7 bv (Ad cc ce) ce λcf cg=>Aa v7 bv (λK=>I vp 217 #[cf] cg K) cg λch ci=>Ar (vz bv) (vz ch) (vz (vw v8)) ci λcj ck=>Af cj (Ag y0 ck λcl cm=>Ab 25 cl cm λcn co=>Aj 1 cn (vq vy 5) co λcp=>Ag y0 cp λcq cr=>Ab 15 cq cr λcs ct=>Ad cs ct λcu cv=>
 I vp 218 #[cu] cv λcw cx=>F149.l0 K y0 cx) (Ag y0 ck λcy cz=>Ab 25 cy cz λda db=>Ad da db λdc dd=>U .eql dc (vq vy 4) dd λde df=>Af de (Ag y0 df λdg dh=>Ab 25 dg dh λdi dj=>Aj 1 di (vq vy 3) dj λdk=>F149.l0 K y0 dk) (K (vu #[]) df)))))):F149.k1 K y0 w:=qq h
def F149.sh(h:(F149.l0 K x0 w)):I vp 149 #[x0] w K:=BK (A:=F149.ann) (args:=[x0]) (qq h)
namespace F151
def ann:Cd:=⟨[(3,[0,1,2]),(6,[8,9])],[],[],[(5,(tk [0,1,2,4,5,6,7,9,10,11,3,8,12] (.go 13 (.go 14 .fin .fin) .fin)))],v6⟩
def code:=cd f151
def BL:=tp f151
variable(K:VK)(y0 y1 y2 y8 y9:wc)(w:wd)
def k3:=nk ann 43 [(0,y0),(1,y1),(2,y2)] w [1,1] code (BL K)
def k6:=nk ann 43 [(8,y8),(9,y9)] w [1,1,1,1] code (BL K)
attribute [irreducible] k3 k6
end F151
def F151.k3.to(h:(Ag y0 w λa b=>Ab 0 a b λc d=>Ab 0 c d λf g=>Ad f g λi j=>I vp 122 #[i,y1,y2] j λk m=>Av 0 k m λo p=>Av 1 k p λq r=>Af q (A4 r λS s=>Ag y0 s λt u=>Ab 0 t u λv x=>Ag y0 x λy z=>Ab 25 y z λaa ab=>Ag y0 ab λac ad=>Ab 15 ac ad λae af=>AN S 2 v af λag ah=>Al S aa ah λai aj=>Al S ae aj λak al=>(I vp 220 #[ak] al λam an=>(S an/\
 (I vp 219 #[ag,o,ai,am] an λao ap=>(S ap/\
 F151.k6 K o q ap))/\True))/\True) (F151.k6 K o q r))):F151.k3 K y0 y1 y2 w:=qq h
def F151.k6.to(h:(K (vu #[y8,y9]) w)):F151.k6 K y8 y9 w:=qq h
def F151.sh(h:(I vp 53 #[x0,x1] w λa b=>AE a b λc d=>Af c (K (vu #[(vq vy 0),(vw v8)]) d) (F151.k3 K x0 x1 x2 d))):I vp 151 #[x0,x1,x2] w K:=BK (A:=F151.ann) (args:=[x0,x1,x2]) (qq h)
namespace F154
def ann:Cd:=⟨[],[],[],[(1,(tk [0,1] (.go 2 (tk [3,4,5] (.go 6 (tk [7,8,9,10,11,12,13,14] (.go 15 (tk [16,17] .fin) .fin)) .fin)) .fin)))],v6⟩
end F154
def F154.sh(h:(Aw (wj (wc.cells x2) 60) w λa b=>A4 b λS c=>(I vp 53 #[x0,x1] c λd f=>(S f/\
 Aa v7 d (λK=>K x0 f) f λg i=>Aa v7 d (AN S 2 a i) i λj k=>(Aa v7 d (λK=>I vp 225 #[g,j] k K) k λm o=>(S o/\
 Ar (vz d) (vz m) (vz (vw v8)) o λp q=>Aa v7 p (λK=>K x0 q) q λr s=>Aa v7 p (λK=>K x1 s) s λt u=>Aa v7 p (Ag r u) u λv x=>Aa v7 p (Ab 16 v x) x λy z=>Aa v7 p (AP 8 1 y t z) z λaa ab=>Aa v7 p (AN S 2 a ab) ab λac ad=>(Aa v7 p (λK=>I vp 226 #[aa,ac] ad K) ad λae af=>(S af/\
 Ar (vz p) (vz ae) (vz (vw v8)) af λag ah=>K ag ah))/\True))/\True))/\True)):I vp 154 #[x0,x1,x2] w K:=BK (A:=F154.ann) (args:=[x0,x1,x2]) (qq h)
namespace F159
def ann:Cd:=⟨[(3,[0,1,2,3,9]),(6,[0,1,2,3,9,11]),(9,[0,2,3,9])],[],[],[(9,(tk [0,1,2,3,5,6,4,7] (.go 8 (.take 9 .fin) .fin)))],v6⟩
def code:=cd f159
def BL:=tp f159
variable(K:VK)(y0 y1 y2 y3 y9 y11:wc)(w:wd)
def k3:=nk ann 73 [(0,y0),(1,y1),(2,y2),(3,y3),(9,y9)] w [1,1] code (BL K)
def k6:=nk ann 73 [(0,y0),(1,y1),(2,y2),(3,y3),(9,y9),(11,y11)] w [1,1,1,1] code (BL K)
def k9:=nk ann 73 [(0,y0),(2,y2),(3,y3),(9,y9)] w [1,1,1,1,1] code (BL K)
attribute [irreducible] k3 k6 k9
end F159
def F159.k3.to(h:(Ag y0 w λa b=>Ab 0 a b λc d=>Ab 0 c d λf g=>Ad f g λi j=>I vp 129 #[i,y2,y3] j λk m=>Av 0 k m λo p=>Av 1 k p λq r=>Aw (wj #[vq vy 0,vq vy 0] 60) r λs t=>Aj 2 s o t λu=>AE q u λv x=>Af v (K (vw v8) x) (F159.k6 K y0 y1 y2 y3 y9 s x))):F159.k3 K y0 y1 y2 y3 y9 w:=qq h
def F159.k6.to(h:(Ab 1 y11 w λa b=>Ad a b λc d=>Ab 0 y11 d λf g=>Ad f g λi j=>U .eql i (vq vy 2) j λk m=>Aa v7 k (λK=>K y0 m) m λo p=>Aa v7 k (Ag o p) p λq r=>Aa v7 k (Ab 0 q r) r λs t=>Aa v7 k (Ab 1 s t) t λu v=>Aa v7 k (Ad u v) v λx y=>Aa v7 k (λK=>K c y) y λz aa=>Aa v7 k (λK=>I vp 230 #[x,z] aa K) aa λab ac=>Aa v7 k (AE ab ac) ac λad ae=>Ar (vz k) (vz ad) (vz (vw v8)) ae λaf ag=>Aa v7 af (λK=>K y0 ag) ag λah ai=>Aa v7 af (λK=>K y1 ai) ai λaj ak=>Aa v7 af (λK=>I vp 231 #[ah,aj] ak K) ak λal am=>Ar (vz af) (vz al) (vz (vw v8)) am λan ao=>Af an (Ag y0 ao λap aq=>Ab 13 ap aq λar au=>Ad ar au λav aw=>I vp 232 #[av,y1,c] aw λax ay=>F159.k9 K y0 y2 y3 y9 ay) (F159.k9 K y0 y2 y3 y9 ao))):F159.k6 K y0 y1 y2 y3 y9 y11 w:=qq h
def F159.k9.to(h:(A4 w λS a=>Ag y0 a λb c=>Ab 0 b c λd f=>Ab 0 d f λg i=>Al S g i λj k=>AN S 2 y9 k λm o=>(I vp 233 #[j,y2,y3,m] o λp q=>(S q/\
 K p q))/\True)):F159.k9 K y0 y2 y3 y9 w:=qq h
def F159.sh(h:(Aw (wj (wc.cells x4) 60) w λa b=>I vp 53 #[x0,x1] b λc d=>AE c d λf g=>Aa v8 f (λK=>K x0 g) g λi j=>Aa v8 f (Ak 2 a j) j λk m=>Aa v8 f (λK=>I vp 225 #[i,k] m K) m λo p=>Aa v8 f (AE o p) p λq r=>Ar (vz f) (vz (vw v7)) (vz q) r λs t=>Af s (K (vw v8) t) (F159.k3 K x0 x1 x2 x3 a t))):I vp 159 #[x0,x1,x2,x3,x4] w K:=BK (A:=F159.ann) (args:=[x0,x1,x2,x3,x4]) (qq h)
namespace F162
def ann:=a1 [(3,[0])]
def code:=cd f162
def BL:=tp f162
variable(K:VK)(y0:wc)(w:wd)
@[irreducible]def k3:=nk ann 20 [(0,y0)] w [1,1] code (BL K)
end F162
def F162.k3.to(h:(Ag y0 w λa b=>Ab 27 a b λc d=>Aj 1 c (vq vy 0) d λf=>I vp 215 #[y0,(vq vy 1)] f λg i=>I vp 149 #[y0] i λj k=>K (vw v7) k)):F162.k3 K y0 w:=qq h
def F162.sh(h:(I vp 88 #[x0] w λa b=>AE a b λc d=>Aa v8 c (λK=>K x0 d) d λf g=>Aa v8 c (Ag f g) g λi j=>Aa v8 c (Ab 25 i j) j λk m=>Aa v8 c (Ad k m) m λo p=>Aa v8 c (U .neq o (vq vy 0) p) p λq r=>Ar (vz c) (vz (vw v7)) (vz q) r λs t=>Af s (K (vw v8) t) (F162.k3 K x0 t))):I vp 162 #[x0] w K:=BK (A:=F162.ann) (args:=[x0]) (qq h)
def F215.sh(h:(Ag x0 w λa b=>Ab 25 a b λc d=>Aj 1 c x1 d λf=>Ag x0 f λg i=>Ab 12 g i λj k=>Ad j k λm o=>I vp 266 #[m] o λp q=>K (vu #[]) q)):I vp 215 #[x0,x1] w K:=BK (A:=A0) (args:=[x0,x1]) (qq h)
def F219.sh(h:(Aw (wj (wc.cells x0) 123) w λa b=>U .eql x2 (vq vy 2) b λc d=>Af c (Ab 1 a d λf g=>Ad f g λi j=>I vp 210 #[i,x1] j λk m=>K (vu #[]) m) (U .eql x2 (vq vy 3) d λo p=>Af o (Af o (Ab 1 a p λq r=>Ad q r λs t=>I vp 260 #[s,x1] t λu v=>K (vu #[]) v) (K (vu #[]) p)) (U .eql x2 (vq vy 4) p λx y=>Af x (Af x (Ab 1 a y λz aa=>Ad z aa λab ac=>I vp 260 #[ab,x1] ac λad ae=>K (vu #[]) ae) (K (vu #[]) y)) (U .eql x2 (vq vy 5) y λaf ag=>Aa v7 af (λK=>K x1 ag) ag λah ai=>Aa v7 af (λK=>I vp 272 #[ah] ai K) ai λaj ak=>Aa v7 af (λK=>K x3 ak) ak λal am=>Aa v7 af (U .geq aj al am) am λan ao=>Ar (vz af) (vz an) (vz (vw v8)) ao λap aq=>Af ap (Ab 1 a aq λar au=>Ad ar au λav aw=>I vp 260 #[av,x1] aw λax ay=>K (vu #[]) ay) (K (vu #[]) aq)))))):I vp 219 #[x0,x1,x2,x3] w K:=BK (A:=A0) (args:=[x0,x1,x2,x3]) (qq h)
namespace F221
def ann:=a1 [(3,[0])]
def code:=cd f221
def BL:=tp f221
variable(K:VK)(y0:wc)(w:wd)
@[irreducible]def k3:=nk ann 12 [(0,y0)] w [1,1] code (BL K)
end F221
def F221.k3.to(h:(Ag y0 w λa b=>Ab 0 a b λc d=>Ab 0 c d λf g=>Ad f g λi j=>I vp 273 #[i] j λk m=>K k m)):F221.k3 K y0 w:=qq h
def F221.sh(h:(I vp 88 #[x0] w λa b=>AE a b λc d=>Af c (K (vq vy 0) d) (F221.k3 K x0 d))):I vp 221 #[x0] w K:=BK (A:=F221.ann) (args:=[x0]) (qq h)
namespace F223
def ann:Cd:=⟨[(5,[0,1,2]),(8,[8,9])],[],[],[(7,(tk [0,1,2,4,5,6,7,9,10,11,3,8,12] (.go 13 (.go 14 .fin .fin) .fin)))],v6⟩
def code:=cd f223
def BL:=tp f223
variable(K:VK)(y0 y1 y2 y8 y9:wc)(w:wd)
def k5:=nk ann 49 [(0,y0),(1,y1),(2,y2)] w [1,1] code (BL K)
def k8:=nk ann 49 [(8,y8),(9,y9)] w [1,1,1,1] code (BL K)
attribute [irreducible] k5 k8
end F223
def F223.k5.to(h:(Ag y0 w λa b=>Ab 0 a b λc d=>Ab 0 c d λf g=>Ad f g λi j=>I vp 79 #[i,y1,y2] j λk m=>Av 0 k m λo p=>Av 1 k p λq r=>U .eql q (vq vy 0) r λs t=>Af s (A4 t λS u=>Ag y0 u λv x=>Ab 0 v x λy z=>Ag y0 z λaa ab=>Ab 25 aa ab λac ad=>Ag y0 ad λae af=>Ab 15 ae af λag ah=>AN S 2 y ah λai aj=>Al S ac aj λak al=>Al S ag al λam an=>(I vp 220 #[am] an λao ap=>(S ap/\
 (I vp 219 #[ai,o,ak,ao] ap λaq ar=>(S ar/\
 F223.k8 K o q ar))/\True))/\True) (F223.k8 K o q t))):F223.k5 K y0 y1 y2 w:=qq h
def F223.k8.to(h:(K (vu #[y8,y9]) w)):F223.k8 K y8 y9 w:=qq h
def F223.sh(h:(I vp 88 #[x0] w λa b=>AE a b λc d=>Af c (K (vu #[(vq vy 0),(vq vy 9)]) d) (I vp 53 #[x0,x1] d λf g=>AE f g λi j=>Af i (K (vu #[(vq vy 0),(vq vy 4)]) j) (F223.k5 K x0 x1 x2 j)))):I vp 223 #[x0,x1,x2] w K:=BK (A:=F223.ann) (args:=[x0,x1,x2]) (qq h)
namespace F225
def ann:Cd:=⟨[],[],[],[(1,(.take 0 (.go 1 (tk [2,3,4,5,6,7,8,9,10,11,13,12,14] (.go 15 (tk [16,17,18,19] .fin) .fin)) .fin)))],v6⟩
end F225
def F225.sh(h:(Aw (wj (wc.cells x1) 60) w λa b=>A4 b λS c=>AN S 2 a c λd f=>(I vp 227 #[d] f λg i=>(S i/\
 U .eql g (vq vy 0) i λj k=>Aa v7 j (Ab 0 a k) k λm o=>Aa v7 j (Al S m o) o λp q=>Aa v7 j (U .neq p (vq vy 2) q) q λr s=>Aa v7 j (λK=>K r s) s λt u=>Aa v8 t (λK=>K x0 u) u λv x=>Aa v8 t (Ag v x) x λy z=>Aa v8 t (Ab 0 y z) z λaa ab=>Aa v8 t (Ab 0 aa ab) ab λac ad=>Aa v8 t (Ab 1 a ad) ad λae af=>Aa v8 t (Al S ac af) af λag ah=>Aa v8 t (Al S ae ah) ah λai aj=>(Aa v8 t (λK=>I vp 128 #[ag,ai] aj K) aj λak al=>(S al/\
 Aa v8 t (U .geq ak (vq vy 0) al) al λam an=>Aa v7 j (λK=>Ar (vz t) (vz (vw v7)) (vz am) an K) an λao ap=>Ar (vz j) (vz ao) (vz (vw v8)) ap λaq ar=>K aq ar))/\True))/\True)):I vp 225 #[x0,x1] w K:=BK (A:=F225.ann) (args:=[x0,x1]) (qq h)
namespace F231
def ann:Cd:=⟨[],[],[],[(1,(.take 0 (.go 1 (tk [2,3,4,5,6,7,8,9,10,11,13,15,16,17,12,18] (.go 14 (.go 19 (tk [20,21,22,23] .fin) .fin) .fin)) .fin)))],v6⟩
end F231
def F231.sh(h:(A4 w λS a=>(I vp 144 #[x0] a λb c=>(S c/\
 Aa v8 b (λK=>K x0 c) c λd f=>Aa v8 b (Ag d f) f λg i=>Aa v8 b (Ab 25 g i) i λj k=>Aa v8 b (Al S j k) k λm o=>Aa v8 b (U .eql m (vq vy 1) o) o λp q=>Aa v8 b (λK=>K p q) q λr s=>Aa v7 r (λK=>K x0 s) s λt u=>Aa v7 r (Ag t u) u λv x=>Aa v7 r (Ab 12 v x) x λy z=>Aa v7 r (λK=>K x1 z) z λaa ab=>Aa v7 r (λK=>K x0 ab) ab λac ad=>Aa v7 r (Ag ac ad) ad λae af=>Aa v7 r (Ab 12 ae af) af λag ah=>Aa v7 r (Al S y ah) ah λai aj=>Aa v7 r (Al S ag aj) aj λak al=>(Aa v7 r (λK=>I vp 277 #[ai,aa] al K) al λam an=>(S an/\
 (Aa v7 r (λK=>I vp 278 #[ak] an K) an λao ap=>(S ap/\
 Aa v7 r (U .eql am ao ap) ap λaq ar=>Aa v8 b (λK=>Ar (vz r) (vz aq) (vz (vw v8)) ar K) ar λau av=>Ar (vz b) (vz (vw v7)) (vz au) av λaw ax=>K aw ax))/\True))/\True))/\True)):I vp 231 #[x0,x1] w K:=BK (A:=F231.ann) (args:=[x0,x1]) (qq h)
namespace F280
def ann:=a1 [(13,[0,3]),(15,[3])]
def code:=cd f280
def BL:=tp f280
variable(K:VK)(y0 y3:wc)(w:wd)
def k13:=nk ann 50 [(0,y0),(3,y3)] w [1,1,1] code (BL K)
def k15:=nk ann 50 [(3,y3)] w [1,1,1,1] code (BL K)
attribute [irreducible] k13 k15
end F280
def F280.k13.to(h:(Af y3 (Ag y0 w λa b=>Ab 27 a b λc d=>Ad c d λf g=>U .add f (vq vy 1) g λi j=>Ag y0 j λk m=>Ab 27 k m λo p=>Aj 1 o i p λq=>F280.k15 K y3 q) (F280.k15 K y3 w))):F280.k13 K y0 y3 w:=qq h
def F280.k15.to(h:(K y3 w)):F280.k15 K y3 w:=qq h
def F280.sh(h:(I vp 59 #[x0] w λa b=>U .eql a (vq vy 3) b λc d=>Af c (Ag x0 d λf g=>Ab 14 f g λi j=>Ad i j λk m=>I vp 303 #[k] m λo p=>AE o p λq r=>Af q (I vp 215 #[x0,(vq vy 4)] r λs t=>I vp 149 #[x0] t λu v=>F280.k13 K x0 o v) (F280.k13 K x0 o r)) (U .eql a (vq vy 5) d λx y=>Af x (Ag x0 y λz aa=>Ab 15 z aa λab ac=>Ad ab ac λad ae=>I vp 304 #[ad] ae λaf ag=>Ag x0 ag λah ai=>Ab 15 ah ai λaj ak=>Ad aj ak λal am=>I vp 305 #[al] am λan ao=>Af an (Ag x0 ao λap aq=>Ab 25 ap aq λar au=>Aj 1 ar (vq vy 0) au λav=>Ag x0 av λaw ax=>Ab 26 aw ax λay az=>Ad ay az λba bb=>U .add ba (vq vy 1) bb λbc bd=>Ag x0 bd λbe bf=>Ab 26 be bf λbg bh=>Aj 1 bg bc bh λbi=>F280.k13 K x0 af bi) (F280.k13 K x0 af ao)) (F280.k13 K x0 (vw v8) y)))):I vp 280 #[x0] w K:=BK (A:=F280.ann) (args:=[x0]) (qq h)
end
section
open Go.RowKit
structure Cp where
 D:D6
 G:CS
 tr:Nat
 sw:Nat
 N:Nat
def Cp.fix(H:Cp):List Nat:=[H.tr,H.sw,H.G.gr,H.G.wa,H.G.sk,H.G.mb]
structure Cp.Ok(H:Cp):Prop where
 nd:H.fix.Nodup
 dj:∀x∈H.fix,x∉H.D.all
 lo:∀x∈H.fix++H.D.all,x<H.N
def Cp.S(H:Cp)(lv:wc):List Nat:=H.tr::H.sw::(H.G.S lv++H.D.S)
def Cp.all(H:Cp)(lv:wc):List Nat:=H.fix++(H.D.all++BM lv)
structure Cy(H:Cp)(lv:wc)(cf:Cf)(w:wd)(c:Co):Prop where
 ok:H.Ok
 st:C6 H.D cf.pages.toNat (cf.threads+1) w c.s
 gy:CW H.G lv cf.stack w c.g
 tb:w.heap[H.tr]?=vz (wj #[vr (vz ⟨H.D.st,0,v6⟩),vr (vz ⟨H.G.gr,0,v6⟩),vq vy cf.pages,vq vy cf.chunk,vq vy c.tp] 188 (0,0))
 sb:w.heap[H.sw]?=vz (wj #[vr (vz ⟨H.D.st,0,v6⟩),vr (vz ⟨H.G.gr,0,v6⟩),vq vy cf.pages,vq vy c.at_,vq vy c.freed] 190 (0,0))
 hi:∀x∈BM lv,H.N<=x
 le:H.N<=w.heap.size
 pg:1<=cf.pages/\cf.pages<=64
 ck:1<=cf.chunk/\cf.chunk<=16
structure C2(H:Cp)(lv:wc)(w:wd)(lv':wc)(w':wd):Prop where
 fr:Fr (H.S lv) w w'
 gr:Gr w lv lv'
def C2.refl(H:Cp)(lv:wc)(w:wd):C2 H lv w lv w:=⟨Fr.refl _ _,Gr.refl _ _⟩
def C2.trans{H:Cp}{lv lv' lv'':wc}{w w' w'':wd}(h:C2 H lv w lv' w')(k:C2 H lv' w' lv'' w''):C2 H lv w lv'' w'':=
 ⟨h.fr.then k.fr λx hx=>by
  simp only[Cp.S,CS.S,un,j4]at hx ⊢;rcases hx with c|c|(c|c|c)|c
  ·simp[c]
  ·simp[c]
  ·simp[c]
  ·simp[c]
  ·rcases h.gr x c with d|d
   ·simp[d]
   ·exact .inr d
  ·simp[c],h.gr.trans k.gr h.fr.size⟩
def C2.w{H:Cp}{lv:wc}{a b:wd}(h:Fr [] a b):C2 H lv a lv b:=⟨h.w,Gr.refl _ _⟩
section
variable{H:Cp}{lv lv':wc}{w w':wd}
def C2.d(h:Fr H.D.S w w'):C2 H lv w lv w':=⟨h.mono λx hx=>by simp[Cp.S,hx],Gr.refl _ _⟩
def C2.g(h:DI H.G lv w lv' w'):C2 H lv w lv' w':=⟨h.fr.mono λx hx=>by simp[Cp.S,hx],h.gr⟩
def C2.t(h:Fr [H.tr] w w'):C2 H lv w lv w':=⟨h.mono λx hx=>by simp only[yZ]at hx;simp[Cp.S,hx],Gr.refl _ _⟩
def C2.s(h:Fr [H.sw] w w'):C2 H lv w lv w':=⟨h.mono λx hx=>by simp only[yZ]at hx;simp[Cp.S,hx],Gr.refl _ _⟩
end
section
variable{K:VK}{w w':wd}{H:Cp}{lv:wc}{cf:Cf}{c:Co}
def Cy.keep{S:List Nat}(h:Cy H lv cf w c)(hf:Fr S w w')(ha:∀x∈H.all lv,x∉S):Cy H lv cf w' c:=
 ⟨h.ok,h.st.keep hf (λx hx=>ha x (by simp[Cp.all,hx])),h.gy.keep hf (λx hx=>ha x (by
  simp only[CS.all,CS.S,un]at hx;rcases hx with d|d|d|d|d<;>simp[Cp.all,Cp.fix,d])),hf.at_ h.tb (ha _ (by simp[Cp.all,Cp.fix])),hf.at_ h.sb (ha _ (by simp[Cp.all,Cp.fix])),h.hi,by have:=hf.size;have:=h.le;omega,h.pg,h.ck⟩
def Cy.keep0(h:Cy H lv cf w c)(hf:Fr [] w w'):Cy H lv cf w' c:=h.keep hf (by simp)
def Cy.nS(h:Cy H lv cf w c){x:Nat}(hx:x∈H.fix):x∉H.D.S:=λe=>h.ok.dj x hx (H.D.sub x e)
def Cy.nl(h:Cy H lv cf w c){x:Nat}(hx:x∈H.fix++H.D.all):x∉BM lv:=λe=>by
 have h1:=h.ok.lo x hx;have h2:=h.hi x e;omega
def Cy.setS{s:St}(h:Cy H lv cf w c)(hf:Fr H.D.S w w')(hs:C6 H.D cf.pages.toNat (cf.threads+1) w' s):Cy H lv cf w' { c with s:=s }:=
 ⟨h.ok,hs,h.gy.keep hf (λx hx=>by
  simp only[CS.all,CS.S,un]at hx;rcases hx with d|d|d|d|d
  iterate 4 exact h.nS (by simp[Cp.fix,d])
  exact λe=>h.nl (x:=x) (by simp[H.D.sub x e]) d),hf.at_ h.tb (h.nS (by simp[Cp.fix])),hf.at_ h.sb (h.nS (by simp[Cp.fix])),h.hi,by have:=hf.size;have:=h.le;omega,h.pg,h.ck⟩
def Cy.setG{lv':wc}{g:Gy}(h:Cy H lv cf w c)(hf:DI H.G lv w lv' w')(hg:CW H.G lv' cf.stack w' g):Cy H lv' cf w' { c with g:=g }:=by
 have nd:=h.ok.nd;simp only[Cp.fix,j6,un,b8,vi,not_or]at nd;have no:∀x,x∈H.D.all∨x=H.tr∨x=H.sw->x∉H.G.S lv:=λx hx e=>by
  simp only[CS.S,un]at e;rcases e with e|e|e
  ·rcases hx with c|c|c
   ·exact h.ok.dj _ (by simp[Cp.fix]) (e ▸ c)
   ·rw[c]at e;exact nd.1.2.2.2.1 e
   ·rw[c]at e;exact nd.2.1.2.2.1 e
  ·rcases hx with c|c|c
   ·exact h.ok.dj _ (by simp[Cp.fix]) (e ▸ c)
   ·rw[c]at e;exact nd.1.2.2.2.2 e
   ·rw[c]at e;exact nd.2.1.2.2.2 e
  ·exact h.nl (x:=x) (by rcases hx with c | c | c<;>simp[Cp.fix,c]) e
 exact⟨h.ok,h.st.keep hf.fr (λx hx=>no x (.inl hx)),hg,hf.fr.at_ h.tb (no _ (.inr (.inl rfl))),hf.fr.at_ h.sb (no _ (.inr (.inr rfl))),λx hx=>by
  rcases hf.gr x hx with d|d
  ·exact h.hi x d
  ·have:=h.le;omega,by have:=hf.fr.size;have:=h.le;omega,h.pg,h.ck⟩
def Cy.setT{tp:Int}(h:Cy H lv cf w c)(hf:Fr [H.tr] w w')(hb:w'.heap[H.tr]?=vz (wj #[vr (vz ⟨H.D.st,0,v6⟩),vr (vz ⟨H.G.gr,0,v6⟩),vq vy cf.pages,vq vy cf.chunk,vq vy tp] 188 (0,0))):Cy H lv cf w' { c with tp:=tp }:=by
 have nd:=h.ok.nd;simp only[Cp.fix,j6,un,b8,vi,not_or]at nd;exact⟨h.ok,h.st.keep hf (λx hx e=>by simp only[yZ]at e;subst e;exact h.ok.dj _ (by simp[Cp.fix]) hx),h.gy.keep hf (λx hx e=>by
  simp only[yZ]at e;subst e;simp only[CS.all,CS.S,un]at hx;rcases hx with d|d|d|d|d
  ·exact nd.1.2.1 d
  ·exact nd.1.2.2.1 d
  ·exact nd.1.2.2.2.1 d
  ·exact nd.1.2.2.2.2 d
  ·exact h.nl (by simp[Cp.fix]) d),hb,hf.at_ h.sb (by simp only[yZ];exact λe=>nd.1.1 e.symm),h.hi,by have:=hf.size;have:=h.le;omega,h.pg,h.ck⟩
def Cy.setW{a f:Int}(h:Cy H lv cf w c)(hf:Fr [H.sw] w w')(hb:w'.heap[H.sw]?=vz (wj #[vr (vz ⟨H.D.st,0,v6⟩),vr (vz ⟨H.G.gr,0,v6⟩),vq vy cf.pages,vq vy a,vq vy f] 190 (0,0))):Cy H lv cf w' { c with at_:=a,freed:=f }:=by
 have nd:=h.ok.nd;simp only[Cp.fix,j6,un,b8,vi,not_or]at nd;exact⟨h.ok,h.st.keep hf (λx hx e=>by simp only[yZ]at e;subst e;exact h.ok.dj _ (by simp[Cp.fix]) hx),h.gy.keep hf (λx hx e=>by
  simp only[yZ]at e;subst e;simp only[CS.all,CS.S,un]at hx;rcases hx with d|d|d|d|d
  ·exact nd.2.1.1 d
  ·exact nd.2.1.2.1 d
  ·exact nd.2.1.2.2.1 d
  ·exact nd.2.1.2.2.2 d
  ·exact h.nl (by simp[Cp.fix]) d),hf.at_ h.tb (by simp only[yZ];exact nd.1.1),hb,h.hi,by have:=hf.size;have:=h.le;omega,h.pg,h.ck⟩
def Cy.lt(h:Cy H lv cf w c):∀x∈H.all lv,x<w.heap.size:=λx hx=>by
 simp only[Cp.all,j4]at hx;have:=h.le;rcases hx with d|d|d
 ·have:=h.ok.lo x (by simp[d]);omega
 ·have:=h.ok.lo x (by simp[d]);omega
 ·exact h.gy.stk.own.lt (Cl.1 d)
def GJ{s:St}(a:Int) : -1<=s.fields a/\s.fields a<=127:=by
 unfold St.fields St.read;split
 ·unfold Gz;split
  ·simp only;omega
  ·simp
 ·simp
def M3{a to:Int}(hto:to<=127){W:wd}{lv0:wc}{gf:Gy}(hk:∀lv' w',C2 H lv0 W lv' w'->Cy H lv' cf w' { c with g:=gf }->K (vu #[]) w'):
  ∀(d:Nat) (i:Int) (g:Gy) (lv:wc) (w:wd),(to-i).toNat=d->0<=i->C2 H lv0 W lv w->Cy H lv cf w { c with g:=g }->Fa cf c.s a d i g=gf->
   F335.l1 K (vr (vz ⟨H.tr,0,v6⟩)) (vq vy a) (vq vy to) (vq vy i) w:=by
 intro d;induction d with
 | zero=>
  intro i g lv w hd hi ht h he;refine F335.l1.to ?_;simp only[zv,show ¬(i<to) by omega];simp only[Fa]at he;subst he;exact hk lv w ht h
 | succ d ih=>
  intro i g lv w hd hi ht h he;refine F335.l1.to ?_;simp only[zv,show i<to by omega];rw[Fa]at he;refine F335.k3.to ?_
  try simp only[zv]
  refine Ac (v:=vr (vz ⟨H.D.st,0,v6⟩)) h.tb rfl (OZ h.st λw1 hf1=>?_);have h1:=h.keep0 hf1
  try simp only[zv]
  refine Ay λx w2 hn2=>AB hn2.at_ rfl Cb rfl λw3 hu3=>?_;have l2:=hn2.is;have s1:=hf1.size;have f2:=hf1.trans hn2.fr;have f3:Fr [] w w3:=f2.then hu3.fr (by simp;omega);have h3:=h.keep0 f3;have x3:=hu3.at_
  try simp only[zv]
  refine Ac (v:=vq vy (c.s.get a i).1.1) x3 rfl ?_;have step:∀lv' w',C2 H lv0 W lv' w'->Cy H lv' cf w' { c with g:=if (c.s.get a i).1.1=2 then g.shade cf.stack (c.s.get a i).1.2 else g }->F335.k2 K (vr (vz ⟨H.tr,0,v6⟩)) (vq vy a) (vq vy to) (vq vy i) w':=λlv' w' ht' h'=>by
   refine F335.k2.to ?_
   try simp only[AC]
   rw[BN (n:=i+1) (by omega)];exact ih (i+1) _ lv' w' (by omega) (by omega) ht' h' he
  by_cases z:(c.s.get a i).1.1=2
  ·simp only[zv,vl,z];refine A8 (λw'=>w'.heap[H.tr]?=vz (wj #[vr (vz ⟨H.D.st,0,v6⟩),vr (vz ⟨H.G.gr,0,v6⟩),vq vy cf.pages,vq vy cf.chunk,vq vy c.tp] 188 (0,0))/\w'.heap[x]?=vz (wj (V (c.s.get a i).1.1 (c.s.get a i).1.2).cells 60 (0,0))) λw4 hf4 _=>⟨⟨hf4.at_ h3.tb (by simp),hf4.at_ x3 (by simp)⟩,?_⟩;have h4:=h3.keep0 hf4
   refine Aq (v:=vr (vz ⟨H.G.gr,0,v6⟩)) (λw' hw=>⟨_,_,_,hw.1,rfl⟩) (Aq (v:=vq vy (c.s.get a i).1.2) (λw' hw=>⟨_,_,_,hw.2,rfl⟩) ⟨KV h4.gy λb lv' w5 hf5 h5=>?_,trivial⟩);have h5':=h4.setG hf5 h5;have ht5:=(ht.trans (C2.w (f3.trans hf4))).trans (C2.g hf5);refine⟨⟨h5'.tb,hf5.fr.at_ (hf4.at_ x3 (by simp)) (λe=>?_)⟩,step lv' w5 ht5 ?_⟩
   ·have hl:=h.lt x (by
     simp only[CS.S,un]at e;rcases e with e|e|e<;>simp[Cp.all,Cp.fix,e])
    have:=hf1.size;omega
   ·rw[vn z];exact h5'
  ·simp only[zv,z];refine step lv w3 (ht.trans (C2.w f3)) ?_;rw[vm z];exact h3
def L6{a i to:Int}(h:Cy H lv cf w c)(hi:0<=i)(hto:to<=127)(hk:∀lv' w',C2 H lv w lv' w'->Cy H lv' cf w' { c with g:=Fa cf c.s a (to-i).toNat i c.g }->K (vu #[]) w'):
  I vp 335 #[vr (vz ⟨H.tr,0,v6⟩),vq vy a,vq vy i,vq vy to] w K:=
 F335.sh (M3 hto hk _ i c.g lv w rfl hi (C2.refl _ _ _) h rfl)
end
section
variable{K:VK}{w w':wd}{H:Cp}{lv:wc}{cf:Cf}{c:Co}
def Cy.far{v:wc}{e:TypeId}{sz:Nat}{xs:List (List wc)}(h:Cy H lv cf w c)(hv:BO w v e sz xs)(hne:e≠310)(hN:∀g∈BM v,H.N<=g):∀g∈BM v,g∉H.S lv:=λg hg hx=>by
 have hg':=hN g hg;simp only[Cp.S,CS.S,un,j4]at hx;have lo:∀x∈H.fix++H.D.all,x<H.N:=h.ok.lo;rcases hx with d|d|(d|d|d)|d
 ·have:=lo g (by simp[Cp.fix,d]);omega
 ·have:=lo g (by simp[Cp.fix,d]);omega
 ·have:=lo g (by simp[Cp.fix,d]);omega
 ·have:=lo g (by simp[Cp.fix,d]);omega
 ·exact hv.ne h.gy.stk.own hne g hg d
 ·have:=lo g (by simp[H.D.sub g d]);omega
def Xb(h:Cy H lv cf w c)(hk:K (vw v7) w):I vp 269 #[vr (vz ⟨H.tr,0,v6⟩)] w K:=by
 have hp:=h.pg;refine F269.sh ⟨_,CN _ _ _ Tryz.underlying126,?_⟩
 try simp only[zv]
 refine Ac (v:=vq vy cf.pages) h.tb rfl ?_;simp only[zv,show cf.pages>0 by omega];exact hk
def PT(h:Cy H lv cf w c)(hk:∀w',Fr [] w w'->K (vw c.tIdle) w'):I vp 217 #[vr (vz ⟨H.tr,0,v6⟩)] w K:=by
 refine F217.sh (Xb h ?_)
 try simp only[zv]
 refine Ac (v:=vr (vz ⟨H.G.gr,0,v6⟩)) h.tb rfl (OY h.gy λw1 hf1=>?_);have h1:=h.keep0 hf1;unfold Co.tIdle at hk;by_cases z:c.g.l=[]
 ·simp only[zv,vl,show ((c.g.l.length:Nat):Int)=0 by rw[z];rfl];refine Ac (v:=vq vy c.tp) h1.tb rfl ?_;have e1:c.g.l.isEmpty=v7:=by rw[z];rfl
  rw[e1]at hk;by_cases y:c.tp = -1
  ·simp only[zv,vl,y];rw[o8 y]at hk;refine Ac (v:=vr (vz ⟨H.G.gr,0,v6⟩)) h1.tb rfl (Ub h1.gy λw2 hf2=>?_);have:=hk w2 (hf1.trans hf2);simp only[Bool.true_and]at this
   try simp only[A3]
   exact this
  ·simp only[zv,y];rw[m8 y]at hk;exact hk w1 hf1
 ·have e1:c.g.l.isEmpty=v8:=by cases hh:c.g.l with | nil=>exact absurd hh z | cons _ _=>rfl
  have:0<c.g.l.length:=List.length_pos_iff.2 z;simp only[zv,show ¬((c.g.l.length:Nat):Int)=0 by omega];rw[e1]at hk;exact hk w1 hf1
def PY{W:wd}{v:wc}{l:List Int}(hl:l.length<=2048){lv0:wc}{gf:Gy}(hN:∀g∈BM v,H.N<=g)(hk:∀lv' w',C2 H lv0 W lv' w'->Cy H lv' cf w' { c with g:=gf }->F324.k6 K (vr (vz ⟨H.tr,0,v6⟩)) w'):
  ∀(d i:Nat) (g:Gy) (lv:wc) (w:wd),i+d=l.length->C2 H lv0 W lv w->Cy H lv cf w { c with g:=g }->BO w v 3 1 (Ca l)->DF cf c.s (l.drop i) g=gf->
   F324.l1 K (vr (vz ⟨H.tr,0,v6⟩)) v (vq vy (l.length:Int)) (vq vy (i:Int)) w:=by
 intro d;induction d with
 | zero=>
  intro i g lv w hi ht h hv he;have e:i=l.length:=by omega
  subst e;refine F324.l1.to ?_;simp only[zv,show ¬((l.length:Int)<(l.length:Int)) by omega];rw[zU]at he;simp only[DF]at he;subst he;exact hk lv w ht h
 | succ d ih=>
  intro i g lv w hi ht h hv he;have hlt:i<l.length:=by omega
  refine F324.l1.to ?_;simp only[zv,show (i:Int)<(l.length:Int) by omega];rw[xG hlt,DF]at he;have step:∀lv' w',C2 H lv0 W lv' w'->Cy H lv' cf w' { c with g:=if g.is l[i] then Fa cf c.s l[i] (c.s.fields l[i]).toNat 0 g else g }->BO w' v 3 1 (Ca l)->
    F324.k5 K (vr (vz ⟨H.tr,0,v6⟩)) v (vq vy (l.length:Int)) (vq vy (i:Int)) w':=λlv' w' ht' h' hv'=>by
   refine F324.k5.to ?_
   try simp only[AC]
   rw[BN (n:=(i:Int)+1) (by omega)];exact ih (i+1) _ lv' w' (by omega) ht' h' hv' he
  refine F324.k2.to (Bd hv.rd hlt λgg o cs e fz hg hc=>Ac hg hc ?_)
  try simp only[zv]
  refine Ac (v:=vr (vz ⟨H.G.gr,0,v6⟩)) h.tb rfl (T9 h.gy ?_);have hfr:=GJ (s:=c.s) l[i];cases z:g.is l[i] with
  | false=>
   simp only[Ae];refine step lv w ht ?_ hv;rw[z];exact h
  | true=>
   simp only[Ai];refine Ac (v:=vr (vz ⟨H.D.st,0,v6⟩)) h.tb rfl (Gp h.st ?_);refine L6 (c:={ c with g:=g }) h (by omega) hfr.2 λlv' w1 ht1 h1=>?_;refine step lv' w1 (ht.trans ht1) ?_ (hv.keep' ht1.fr (h.far hv (by decide) hN));rw[z];have:(c.s.fields l[i]-0).toNat=(c.s.fields l[i]).toNat:=by rw[Int.sub_zero]
   rw[this]at h1;exact h1
def O7(h:Cy H lv cf w c)(p:Int):(c.s.inP p).length<=2048:=uw (yE _ _) (JF h.st)
def PX(h:Cy H lv cf w c)(hk:∀lv' w',C2 H lv w lv' w'->Cy H lv' cf w' (c.look cf)->K (vu #[]) w'):
  I vp 324 #[vr (vz ⟨H.tr,0,v6⟩)] w K:=by
 refine F324.sh (A8 (λw'=>w'.heap[H.tr]?=vz (wj #[vr (vz ⟨H.D.st,0,v6⟩),vr (vz ⟨H.G.gr,0,v6⟩),vq vy cf.pages,vq vy cf.chunk,vq vy c.tp] 188 (0,0))) λw1 hf1 _=>⟨hf1.at_ h.tb (by simp),?_⟩);have h1:=h.keep0 hf1
 try simp only[zv]
 refine Aq (v:=vr (vz ⟨H.D.st,0,v6⟩)) (λw' hw=>⟨_,_,_,hw,rfl⟩) (Aq (v:=vq vy c.tp) (λw' hw=>⟨_,_,_,hw,rfl⟩) ⟨Vy h1.st λv w2 hf2 hn2 hv2=>⟨hf2.at_ h1.tb (by simp),?_⟩,trivial⟩);have h2:=h1.keep0 hf2;have hl:=O7 h c.tp;refine AK hv2.rd ?_;rw[Cm];have hN:∀g∈BM v,H.N<=g:=λg hg=>by have:=hn2.blk g hg;have:=h1.le;omega
 refine PY (c:=c) (W:=w) (lv0:=lv) hl hN (λlv' w3 ht3 h3=>?_) (c.s.inP c.tp).length 0 c.g lv w2 (by omega) (C2.w (hf1.trans hf2)) h2 hv2 rfl;refine F324.k6.to ?_
 try simp only[zv]
 refine Ac (v:=vq vy c.tp) h3.tb rfl ?_
 try simp only[AC]
 refine AM h3.tb rfl rfl (by simp) λw4 hu4=>A8 (λw'=>w'.heap[H.tr]?=vz (wj #[vr (vz ⟨H.D.st,0,v6⟩),vr (vz ⟨H.G.gr,0,v6⟩),vq vy cf.pages,vq vy cf.chunk,vq vy (CJ (c.tp+1))] 188 (0,0))) λw5 hf5 _=>⟨hf5.at_ hu4.at_ (by simp),?_⟩;have h4:=h3.setT hu4.fr hu4.at_;have h5:=h4.keep0 hf5;have ht5:=(ht3.trans (C2.t hu4.fr)).trans (C2.w hf5)
 refine Aq (v:=vq vy (CJ (c.tp+1))) (λw' hw=>⟨_,_,_,hw,rfl⟩) (Aq (v:=vq vy cf.pages) (λw' hw=>⟨_,_,_,hw,rfl⟩) ?_);unfold Co.look at hk;by_cases z:CJ (c.tp+1)=cf.pages
 ·simp only[zv,vl,z];rw[vn z]at hk;refine AM h5.tb rfl rfl (by simp) λw6 hu6=>?_;exact hk lv' w6 (ht5.trans (C2.t hu6.fr)) (h5.setT hu6.fr hu6.at_)
 ·simp only[zv,z];rw[vm z]at hk;exact hk lv' w5 ht5 h5
def TW{e:Int × Int}(h:Cy H lv cf w c)(hk:∀lv' w',C2 H lv w lv' w'->Cy H lv' cf w' (c.entry cf e)->K (vu #[]) w'):
  I vp 322 #[vr (vz ⟨H.tr,0,v6⟩),Eb e] w K:=by
 have hfr:=GJ (s:=c.s) e.1;have hck:=h.ck;refine F322.sh (Ay λx w1 hn=>?_);have ln:=hn.is;have nx:∀lv',(∀g∈H.S lv',g<w.heap.size∨w.heap.size<g)->x∉H.S lv':=λlv' hh hx=>by have:=hh x hx;omega
 have nx0:x∉H.all lv:=λhx=>by have:=h.lt x hx;omega
 have sub:∀y∈H.S lv,y∈H.all lv:=λy hy=>by
  simp only[Cp.S,CS.S,un,j4]at hy;rcases hy with d|d|(d|d|d)|d
  ·simp[Cp.all,Cp.fix,d]
  ·simp[Cp.all,Cp.fix,d]
  ·simp[Cp.all,Cp.fix,d]
  ·simp[Cp.all,Cp.fix,d]
  ·simp[Cp.all,d]
  ·simp[Cp.all,H.D.sub y d]
 refine A8 (λw'=>w'.heap[H.tr]?=vz (wj #[vr (vz ⟨H.D.st,0,v6⟩),vr (vz ⟨H.G.gr,0,v6⟩),vq vy cf.pages,vq vy cf.chunk,vq vy c.tp] 188 (0,0))/\w'.heap[x]?=vz (wj (Eb e).cells 310 (0,0))) λw2 hf2 _=>⟨⟨hf2.at_ (hn.fr.at_ h.tb (by simp)) (by simp),hf2.at_ hn.at_ (by simp)⟩,?_⟩;have f2:=hn.fr.trans hf2;have h2:=h.keep0 f2;have x2:=hf2.at_ hn.at_ (by simp)
 try simp only[zv]
 refine Aq (v:=vr (vz ⟨H.D.st,0,v6⟩)) (λw' hw=>⟨_,_,_,hw.1,rfl⟩) (Aq (v:=vq vy e.1) (λw' hw=>⟨_,_,_,hw.2,rfl⟩) ⟨Gp h2.st ⟨⟨h2.tb,x2⟩,?_⟩,trivial⟩);unfold Co.entry at hk;simp only at hk;refine Ac (v:=vq vy e.2) x2 rfl ?_;by_cases z1:e.2<0
 ·rw[vn (.inl z1)]at hk;simp only[zv,z1];exact hk lv w2 (C2.w f2) h2
 simp only[zv,z1];refine Ac (v:=vq vy e.2) x2 rfl ?_;by_cases z2:c.s.fields e.1<=e.2
 ·rw[vn (.inr z2)]at hk;simp only[zv,show e.2≥c.s.fields e.1 from z2];exact hk lv w2 (C2.w f2) h2
 rw[vm (by omega)]at hk;simp only[zv,show ¬(e.2≥c.s.fields e.1) from z2];refine F322.k3.to (A8 (λw'=>w'.heap[H.tr]?=vz (wj #[vr (vz ⟨H.D.st,0,v6⟩),vr (vz ⟨H.G.gr,0,v6⟩),vq vy cf.pages,vq vy cf.chunk,vq vy c.tp] 188 (0,0))/\w'.heap[x]?=vz (wj (Eb e).cells 310 (0,0))) λw3 hf3 _=>⟨⟨hf3.at_ h2.tb (by simp),hf3.at_ x2 (by simp)⟩,?_⟩);have f3:=f2.trans hf3;have h3:=h2.keep0 hf3
 have x3:=hf3.at_ x2 (by simp)
 try simp only[zv]
 refine Aq (v:=vq vy e.2) (λw' hw=>⟨_,_,_,hw.2,rfl⟩) (Aq (v:=vq vy cf.chunk) (λw' hw=>⟨_,_,_,hw.1,rfl⟩) ?_)
 try simp only[AC]
 refine⟨_,λw' _=>G2 _ _ _ _ _ _,?_⟩;have ew:CJ (e.2+cf.chunk)=e.2+cf.chunk:=BN (by omega);have ew':IntKind.i64.wrap (e.2+cf.chunk)=e.2+cf.chunk:=BN (by omega);rw[ew]at hk;rw[ew'];generalize hto:min (e.2+cf.chunk) (c.s.fields e.1)=to at hk ⊢;have to1:to<=127:=by omega
 have fin:∀lv4 w4 g4,C2 H lv w lv4 w4->Cy H lv4 cf w4 { c with g:=g4 }->w4.heap[x]?=vz (wj (Eb e).cells 310 (0,0))->
   (∀lv' w',C2 H lv w lv' w'->Cy H lv' cf w' { c with g:=Fa cf c.s e.1 (to-e.2).toNat e.2 g4 }->K (vu #[]) w')->
   F322.k6 K (vr (vz ⟨H.tr,0,v6⟩)) (vr (vz ⟨x,0,v6⟩)) (vq vy to) w4:=λlv4 w4 g4 ht4 h4 x4 hk=>by
  refine F322.k6.to ?_
  try simp only[zv]
  refine Ac (v:=vq vy e.1) x4 rfl ?_;refine Ac (v:=vq vy e.2) x4 rfl ?_;exact L6 (c:={ c with g:=g4 }) h4 (by omega) to1 λlv' w' ht' h'=>hk lv' w' (ht4.trans ht') h'
 by_cases z3:to<c.s.fields e.1
 ·simp only[zv,z3];rw[vn z3]at hk;refine A8 (λw'=>w'.heap[H.tr]?=vz (wj #[vr (vz ⟨H.D.st,0,v6⟩),vr (vz ⟨H.G.gr,0,v6⟩),vq vy cf.pages,vq vy cf.chunk,vq vy c.tp] 188 (0,0))/\w'.heap[x]?=vz (wj (Eb e).cells 310 (0,0))) λw4 hf4 _=>⟨⟨hf4.at_ h3.tb (by simp),hf4.at_ x3 (by simp)⟩,?_⟩;have h4:=h3.keep0 hf4
  refine Aq (v:=vr (vz ⟨H.G.gr,0,v6⟩)) (λw' hw=>⟨_,_,_,hw.1,rfl⟩) (Aq (v:=vq vy e.1) (λw' hw=>⟨_,_,_,hw.2,rfl⟩) ⟨Eb (e.1,to),λw' _=>by kernel_rfl,?_⟩);refine⟨Oa (e:=(e.1,to)) h4.gy λb lv' w5 hf5 h5=>?_,trivial⟩;have h5':=h4.setG hf5 h5;have x5:=hf5.fr.at_ (hf4.at_ x3 (by simp)) (λee=>nx0 (sub x (by simp[Cp.S,ee])))
  exact⟨⟨h5'.tb,x5⟩,fin lv' w5 _ ((C2.w (f3.trans hf4)).trans (C2.g hf5)) h5' x5 hk⟩
 ·simp only[zv,z3];rw[vm z3]at hk;exact fin lv w3 c.g (C2.w f3) h3 x3 hk
end
section
variable{K:VK}{w w':wd}{H:Cp}{lv:wc}{cf:Cf}{c:Co}
def Cp.subS(H:Cp)(lv:wc):∀y∈H.S lv,y∈H.all lv:=λy hy=>by
 simp only[Cp.S,CS.S,un,j4]at hy;rcases hy with d|d|(d|d|d)|d
 ·simp[Cp.all,Cp.fix,d]
 ·simp[Cp.all,Cp.fix,d]
 ·simp[Cp.all,Cp.fix,d]
 ·simp[Cp.all,Cp.fix,d]
 ·simp[Cp.all,d]
 ·simp[Cp.all,H.D.sub y d]
def U3(h:Cy H lv cf w c)(hk:∀lv' w',C2 H lv w lv' w'->Cy H lv' cf w' (c.tUnit cf).1->K (vw (c.tUnit cf).2) w'):
  I vp 303 #[vr (vz ⟨H.tr,0,v6⟩)] w K:=by
 refine F303.sh (PT h λw1 hf1=>?_);have h1:=h.keep0 hf1;unfold Co.tUnit at hk;cases z:c.tIdle with
 | true=>
  rw[z]at hk;simp only[vj]at hk;simp only[Ai];exact hk lv w1 (C2.w hf1) h1
 | false=>
  rw[z]at hk;simp only[yT,vg]at hk;simp only[Ae];refine F303.k3.to ?_
  try simp only[zv]
  refine Ac (v:=vr (vz ⟨H.G.gr,0,v6⟩)) h1.tb rfl (Ua h1.gy (λhl w2 hf2=>?_) λe he lv' w2 hf2 h2=>?_)
  ·have hg:c.g.l.getLast?=v6:=by rw[hl];rfl
   rw[hg]at hk;simp only at hk;have h2:=h1.keep0 hf2
   try simp only[zv]
   refine Ay λx w3 hn3=>AB hn3.at_ rfl (EB (e:=(0,0))) rfl λw4 hu4=>?_;have l3:=hn3.is;have f4:Fr [] w2 w4:=hn3.fr.then hu4.fr (by simp;omega);have h4:=h2.keep0 f4;have ht4:C2 H lv w lv w4:=C2.w ((hf1.trans hf2).trans f4);refine Ac (v:=vq vy c.tp) h4.tb rfl ?_;by_cases y:c.tp = -1
   ·simp only[zv,vl,y];rw[vn y]at hk;refine Ac (v:=vr (vz ⟨H.G.gr,0,v6⟩)) h4.tb rfl (PR h4.gy λw5 hf5 h5=>?_);have h5':=h4.setG hf5 h5;refine AM h5'.tb rfl rfl (by simp) λw6 hu6=>?_;have h6:=h5'.setT hu6.fr hu6.at_;refine F303.k10.to (PX h6 λlv' w7 ht7 h7=>?_);exact hk lv' w7 (((ht4.trans (C2.g hf5)).trans (C2.t hu6.fr)).trans ht7) h7
   ·simp only[zv,y];rw[vm y]at hk;refine F303.k10.to (PX h4 λlv' w7 ht7 h7=>?_);exact hk lv' w7 (ht4.trans ht7) h7
  ·rw[he]at hk;simp only at hk;have h2':=h1.setG hf2 h2;have ht2:C2 H lv w lv' w2:=(C2.w hf1).trans (C2.g hf2)
   try simp only[zv]
   refine Ay λx w3 hn3=>AB hn3.at_ rfl (EB (e:=e)) rfl λw4 hu4=>?_;have l3:=hn3.is;have f4:Fr [] w2 w4:=hn3.fr.then hu4.fr (by simp;omega);have h4:=h2'.keep0 f4;refine A5 hu4.at_ rfl (TW h4 λlv'' w5 ht5 h5=>?_);exact hk lv'' w5 ((ht2.trans (C2.w f4)).trans ht5) h5
def U2(h:Cy H lv cf w c)(hk:∀w',C2 H lv w lv w'->Cy H lv cf w' { c with at_:=0,freed:=0 }->K (vu #[]) w'):I vp 218 #[vr (vz ⟨H.sw,0,v6⟩)] w K:=by
 refine F218.sh ⟨_,CN _ _ _ Tryz.underlying127,?_⟩
 try simp only[zv]
 refine AM h.sb rfl rfl (by simp) λw1 hu1=>?_;have h1:=h.setW (a:=0) (f:=c.freed) hu1.fr hu1.at_;refine AM h1.sb rfl rfl (by simp) λw2 hu2=>?_;exact hk w2 ((C2.s hu1.fr).trans (C2.s hu2.fr)) (h1.setW (a:=0) (f:=0) hu2.fr hu2.at_)
def Vk(h:Cy H lv cf w c)(hk:K (vq vy c.at_) w):I vp 220 #[vr (vz ⟨H.sw,0,v6⟩)] w K:=by
 refine F220.sh ⟨_,Cj _ _ _ Tryz.underlying127,?_⟩
 try simp only[Ae]
 refine F220.k3.to ?_
 try simp only[zv]
 exact Ac (v:=vq vy c.at_) h.sb rfl hk
def PN(h:Cy H lv cf w c)(hk:∀w',Fr [] w w'->K (vw (decide (cf.pages<=c.at_))) w'):I vp 305 #[vr (vz ⟨H.sw,0,v6⟩)] w K:=by
 refine F305.sh (A8 (λw'=>w'.heap[H.sw]?=vz (wj #[vr (vz ⟨H.D.st,0,v6⟩),vr (vz ⟨H.G.gr,0,v6⟩),vq vy cf.pages,vq vy c.at_,vq vy c.freed] 190 (0,0))) λw1 hf1 _=>⟨hf1.at_ h.sb (by simp),⟨_,λw' _=>Cj _ _ _ Tryz.underlying127,?_⟩⟩)
 try simp only[zv]
 refine Aq (v:=vq vy c.at_) (λw' hw=>⟨_,_,_,hw,rfl⟩) ?_;refine Aq (v:=vq vy cf.pages) (λw' hw=>⟨_,_,_,hw,rfl⟩) ?_;have:=hk w1 hf1
 try simp only[AF]
 exact this
def Pf{W:wd}{v:wc}{l:List Int}(hl:l.length<=2048){lv0:wc}{cf':Co}(hN:∀g∈BM v,H.N<=g)(hk:∀lv' w',C2 H lv0 W lv' w'->Cy H lv' cf w' cf'->F304.k9 K (vr (vz ⟨H.sw,0,v6⟩)) w'):
  ∀(d i:Nat) (c:Co) (lv:wc) (w:wd),i+d=l.length->C2 H lv0 W lv w->Cy H lv cf w c->BO w v 3 1 (Ca l)->c.sweepAll (l.drop i)=cf'->
   F304.l4 K (vr (vz ⟨H.sw,0,v6⟩)) v (vq vy (l.length:Int)) (vq vy (i:Int)) w:=by
 intro d;induction d with
 | zero=>
  intro i c lv w hi ht h hv he;have e:i=l.length:=by omega
  subst e;refine F304.l4.to ?_;simp only[zv,show ¬((l.length:Int)<(l.length:Int)) by omega];rw[zU]at he;simp only[Co.sweepAll]at he;subst he;exact hk lv w ht h
 | succ d ih=>
  intro i c lv w hi ht h hv he;have hlt:i<l.length:=by omega
  refine F304.l4.to ?_;simp only[zv,show (i:Int)<(l.length:Int) by omega];rw[xG hlt,Co.sweepAll]at he;have step:∀w',C2 H lv w lv w'->Cy H lv cf w' (c.sweepOne l[i])->
    F304.k8 K (vr (vz ⟨H.sw,0,v6⟩)) v (vq vy (l.length:Int)) (vq vy (i:Int)) w':=λw' ht' h'=>by
   refine F304.k8.to ?_
   try simp only[AC]
   rw[BN (n:=(i:Int)+1) (by omega)];exact ih (i+1) _ lv w' (by omega) (ht.trans ht') h' (hv.keep' ht'.fr (h.far hv (by decide) hN)) he
  refine F304.k5.to (Bd hv.rd hlt λgg o cs e fz hg hc=>Ac hg hc ?_)
  try simp only[zv]
  refine Ac (v:=vr (vz ⟨H.G.gr,0,v6⟩)) h.sb rfl (RV h.gy λw1 hf1 h1=>?_);have h1':=h.setG (DI.m hf1) h1;have ht1:C2 H lv w lv w1:=C2.g (DI.m hf1);unfold Co.sweepOne at step;cases z:c.g.is l[i] with
  | true=>
   rw[z]at step;simp only[vj]at step;simp only[zv];exact step w1 ht1 h1'
  | false=>
   have ec:c.g.clear l[i]=c.g:=by unfold Gy.clear;rw[z];rfl
   rw[ec]at h1';rw[z]at step;simp only[yT,vg]at step;simp only[zv];refine Ac (v:=vr (vz ⟨H.D.st,0,v6⟩)) h1'.sb rfl (Ux h1'.st λw2 hf2 h2=>?_);have h2':=h1'.setS hf2 h2;have ht2:=ht1.trans (C2.d hf2);cases y:(c.s.c.give l[i]).2 with
   | false=>
    simp only[y,yT,vg]at step;simp only[Ae];exact step w2 ht2 h2'
   | true=>
    simp only[y,vj]at step;simp only[Ai];refine Ac (v:=vq vy c.freed) h2'.sb rfl ?_
    try simp only[AC]
    refine AM h2'.sb rfl rfl (by simp) λw3 hu3=>?_;exact step w3 (ht2.trans (C2.s hu3.fr)) (h2'.setW (a:=c.at_) (f:=CJ (c.freed+1)) hu3.fr hu3.at_)
def U7(h:Cy H lv cf w c)(hk:∀lv' w',C2 H lv w lv' w'->Cy H lv' cf w' (c.wUnit cf).1->K (vw (c.wUnit cf).2) w'):
  I vp 304 #[vr (vz ⟨H.sw,0,v6⟩)] w K:=by
 refine F304.sh (PN h λw1 hf1=>?_);have h1:=h.keep0 hf1;unfold Co.wUnit at hk;by_cases z:cf.pages<=c.at_
 ·rw[vn z]at hk;simp only[zv,z];exact hk lv w1 (C2.w hf1) h1
 rw[vm z]at hk;simp only at hk;simp only[zv,z];refine F304.k3.to (A8 (λw'=>w'.heap[H.sw]?=vz (wj #[vr (vz ⟨H.D.st,0,v6⟩),vr (vz ⟨H.G.gr,0,v6⟩),vq vy cf.pages,vq vy c.at_,vq vy c.freed] 190 (0,0))) λw2 hf2 _=>⟨hf2.at_ h1.sb (by simp),?_⟩);have h2:=h1.keep0 hf2
 try simp only[zv]
 refine Aq (v:=vr (vz ⟨H.D.st,0,v6⟩)) (λw' hw=>⟨_,_,_,hw,rfl⟩) (Aq (v:=vq vy c.at_) (λw' hw=>⟨_,_,_,hw,rfl⟩) ⟨Vy h2.st λv w3 hf3 hn3 hv3=>⟨hf3.at_ h2.sb (by simp),?_⟩,trivial⟩);have h3:=h2.keep0 hf3;have hl:=O7 h c.at_;refine AK hv3.rd ?_;rw[Cm];have hN:∀g∈BM v,H.N<=g:=λg hg=>by have:=hn3.blk g hg;have:=h2.le;omega
 refine Pf (W:=w) (lv0:=lv) (cf':=c.sweepAll (c.s.inP c.at_)) hl hN (λlv' w4 ht4 h4=>?_) (c.s.inP c.at_).length 0 c lv w3 (by omega) (C2.w ((hf1.trans hf2).trans hf3)) h3 hv3 rfl;generalize c.sweepAll (c.s.inP c.at_)=e at hk h4
 refine F304.k9.to (A8 (λw'=>w'.heap[H.sw]?=vz (wj #[vr (vz ⟨H.D.st,0,v6⟩),vr (vz ⟨H.G.gr,0,v6⟩),vq vy cf.pages,vq vy e.at_,vq vy e.freed] 190 (0,0))) λw5 hf5 _=>⟨hf5.at_ h4.sb (by simp),?_⟩);have h5:=h4.keep0 hf5
 try simp only[zv]
 refine Aq (v:=vr (vz ⟨H.D.st,0,v6⟩)) (λw' hw=>⟨_,_,_,hw,rfl⟩) (Aq (v:=vq vy e.at_) (λw' hw=>⟨_,_,_,hw,rfl⟩) ⟨VZ h5.st λb w6 hf6 h6=>?_,trivial⟩);have h6':=h5.setS hf6 h6;refine⟨h6'.sb,?_⟩;refine Ac (v:=vq vy e.at_) h6'.sb rfl ?_
 try simp only[AC]
 refine AM h6'.sb rfl rfl (by simp) λw7 hu7=>?_;exact hk lv' w7 (((ht4.trans (C2.w hf5)).trans (C2.d hf6)).trans (C2.s hu7.fr)) (h6'.setW (a:=CJ (e.at_+1)) (f:=e.freed) hu7.fr hu7.at_)
end
end
noncomputable section
variable{K:VK}{w:wd}{x0 x1 x2 y0 y1 y2 y3 y4 y5 y7 y8 y9 y10 y11 y12 y13 y14 y15:wc}
def F75.sh(h:(I vp 66 #[x0,(vq vy 0),(vq vy 8)] w λa b=>Am vp (Instr.makeSlice 181 a a) b λc d=>Am vp (Instr.build 183 #[(0,(vw v7)),(2,c)]) d λf g=>Aw (wj (wc.cells f) 183) g λi j=>K i j)):I vp 75 #[x0] w K:=BK (A:=A0) (args:=[x0]) (qq h)
def F95.sh(h:(AG vp .neq 124 (.tmp 5) (.const (vr v6)) x0 (vr v6) w λa b=>Aa v7 a (λK=>K x1 b) b λc d=>Aa v7 a (U .geq c (vq vy 0) d) d λf g=>Ar (vz a) (vz f) (vz (vw v8)) g λi j=>Aa v7 i (λK=>K x1 j) j λk m=>Aa v7 i (λK=>K x0 m) m λo p=>Aa v7 i (Ag o p) p λq r=>Aa v7 i (Ab 2 q r) r λs t=>Aa v7 i (Ad s t) t λu v=>Aa v7 i (AH u v) v λx y=>Aa v7 i (U .lss k x y) y λz aa=>Ar (vz i) (vz z) (vz (vw v8)) aa λab ac=>Aa v7 ab (λK=>K x0 ac) ac λad ae=>Aa v7 ab (Ag ad ae) ae λaf ag=>Aa v7 ab (Ab 2 af ag) ag λah ai=>Aa v7 ab (Ad ah ai) ai λaj ak=>Aa v7 ab (λK=>K x1 ak) ak λal am=>Aa v7 ab (A6 2 aj al am) am λan ao=>Aa v7 ab (Ab 0 an ao) ao λap aq=>Aa v7 ab (Ad ap aq) aq λar au=>Ar (vz ab) (vz ar) (vz (vw v8)) au λav aw=>K av aw)):I vp 95 #[x0,x1] w K:=BK (A:=A0) (args:=[x0,x1]) (qq h)
namespace F142
def ann:Cd:=⟨[(3,[0,1])],[],[],[(3,(tk [0,1,2,4,5,6,7,3,8,9,10] (.go 11 .fin .fin)))],v6⟩
def code:=cd f142
def BL:=tp f142
variable(K:VK)(y0 y1:wc)(w:wd)
@[irreducible]def k3:=nk ann 41 [(0,y0),(1,y1)] w [1,1] code (BL K)
end F142
def F142.k3.to(h:(A4 w λS a=>Ag y0 a λb c=>Ab 2 b c λd f=>Ag y0 f λg i=>Ab 1 g i λj k=>Al S d k λm o=>Al S j o λp q=>∃r,(∀w',S w'->(Instr.build 212 #[(0,(vw v7)),(1,p)]).run vp w'=.ok r w')/\(A6 2 m y1 q λs t=>(Aj 2 s r t λu=>(S u/\
 K (vw v7) u))/\True))):F142.k3 K y0 y1 w:=qq h
def F142.sh(h:(AG vp .eql 124 (.tmp 5) (.const (vr v6)) x0 (vr v6) w λa b=>Aa v8 a (λK=>K x1 b) b λc d=>Aa v8 a (U .lss c (vq vy 0) d) d λf g=>Ar (vz a) (vz (vw v7)) (vz f) g λi j=>Aa v8 i (λK=>K x1 j) j λk m=>Aa v8 i (λK=>K x0 m) m λo p=>Aa v8 i (Ag o p) p λq r=>Aa v8 i (Ab 2 q r) r λs t=>Aa v8 i (Ad s t) t λu v=>Aa v8 i (AH u v) v λx y=>Aa v8 i (U .geq k x y) y λz aa=>Ar (vz i) (vz (vw v7)) (vz z) aa λab ac=>Aa v8 ab (λK=>K x0 ac) ac λad ae=>Aa v8 ab (Ag ad ae) ae λaf ag=>Aa v8 ab (Ab 2 af ag) ag λah ai=>Aa v8 ab (Ad ah ai) ai λaj ak=>Aa v8 ab (λK=>K x1 ak) ak λal am=>Aa v8 ab (A6 2 aj al am) am λan ao=>Aa v8 ab (Ab 0 an ao) ao λap aq=>Aa v8 ab (Ad ap aq) aq λar au=>Ar (vz ab) (vz (vw v7)) (vz ar) au λav aw=>Af av (K (vw v8) aw) (F142.k3 K x0 x1 aw))):I vp 142 #[x0,x1] w K:=BK (A:=F142.ann) (args:=[x0,x1]) (qq h)
namespace F148
def ann:=a1 [(3,[0,1])]
def code:=cd f148
def BL:=tp f148
variable(K:VK)(y0 y1:wc)(w:wd)
@[irreducible]def k3:=nk ann 16 [(0,y0),(1,y1)] w [1,1] code (BL K)
end F148
def F148.k3.to(h:(Ag y0 w λa b=>Ab 2 a b λc d=>Ad c d λf g=>Am vp (Instr.build 212 #[]) g λi j=>A6 2 f y1 j λk m=>Aj 2 k i m λo=>K (vw v7) o)):F148.k3 K y0 y1 w:=qq h
def F148.sh(h:(I vp 95 #[x0,x1] w λa b=>AE a b λc d=>Af c (K (vw v8) d) (F148.k3 K x0 x1 d))):I vp 148 #[x0,x1] w K:=BK (A:=F148.ann) (args:=[x0,x1]) (qq h)
namespace F160
def ann:Cd:=⟨[(3,[0,1])],[],[],[(1,(tk [0,1] (.go 2 (tk [3,4,5,6,7,9,13,14,15,8,10,11,16] (.go 12 (tk [17,18] .fin) .fin)) .fin))),(3,(tk [0,1,2,4,5,6,7,3,8,9,10] (.go 11 .fin .fin)))],v6⟩
def code:=cd f160
def BL:=tp f160
variable(K:VK)(y0 y1:wc)(w:wd)
@[irreducible]def k3:=nk ann 35 [(0,y0),(1,y1)] w [1,1] code (BL K)
end F160
def F160.k3.to(h:(A4 w λS a=>Ag y0 a λb c=>Ab 2 b c λd f=>Ag y0 f λg i=>Ab 1 g i λj k=>Al S d k λm o=>Al S j o λp q=>A6 2 m y1 q λr s=>Ab 1 r s λt u=>(Aj 1 t p u λv=>(S v/\
 K (vw v7) v))/\True)):F160.k3 K y0 y1 w:=qq h
def F160.sh(h:(A4 w λS a=>(I vp 95 #[x0,x1] a λb c=>(S c/\
 AE b c λd f=>Aa v8 d (λK=>K x0 f) f λg i=>Aa v8 d (Ag g i) i λj k=>Aa v8 d (Ab 2 j k) k λm o=>Aa v8 d (λK=>K x1 o) o λp q=>Aa v8 d (λK=>K x0 q) q λr s=>Aa v8 d (Ag r s) s λt u=>Aa v8 d (Ab 1 t u) u λv x=>Aa v8 d (Al S m x) x λy z=>Aa v8 d (A6 2 y p z) z λaa ab=>Aa v8 d (Ab 1 aa ab) ab λac ad=>Aa v8 d (Al S v ad) ad λae af=>(Aa v8 d (Ad ac af) af λag ah=>(S ah/\
 Aa v8 d (U .geq ag ae ah) ah λai aj=>Ar (vz d) (vz (vw v7)) (vz ai) aj λak al=>Af ak (K (vw v8) al) (F160.k3 K x0 x1 al)))/\True))/\True)):I vp 160 #[x0,x1] w K:=BK (A:=F160.ann) (args:=[x0,x1]) (qq h)
def F213.sh(h:(I vp 265 #[x0] w λa b=>AH a b λc d=>U .eql c (vq vy 0) d λf g=>K f g)):I vp 213 #[x0] w K:=BK (A:=A0) (args:=[x0]) (qq h)
def F265.sh(h:(Aw (wj (wc.cells x0) 124) w λa b=>Ad a b λc d=>I vp 296 #[c,(.func (.func 297) #[] #[a])] d λf g=>K f g)):I vp 265 #[x0] w K:=BK (A:=A0) (args:=[x0]) (qq h)
namespace F266
def ann:=a1 [(3,[0])]
def code:=cd f266
def BL:=tp f266
variable(K:VK)(y0:wc)(w:wd)
@[irreducible]def k3:=nk ann 23 [(0,y0)] w [1,1] code (BL K)
end F266
def F266.k3.to(h:(Ag y0 w λa b=>Ab 1 a b λc d=>Ad c d λf g=>U .add f (vq vy 1) g λi j=>Ag y0 j λk m=>Ab 1 k m λo p=>Aj 1 o i p λq=>Ag y0 q λr s=>Ab 1 r s λt u=>Ad t u λv x=>K v x)):F266.k3 K y0 w:=qq h
def F266.sh(h:(AG vp .eql 124 (.tmp 3) (.const (vr v6)) x0 (vr v6) w λa b=>Aa v8 a (λK=>K x0 b) b λc d=>Aa v8 a (Ag c d) d λf g=>Aa v8 a (Ab 0 f g) g λi j=>Aa v8 a (Ad i j) j λk m=>Aa v8 a (AE k m) m λo p=>Ar (vz a) (vz (vw v7)) (vz o) p λq r=>Af q (K (vq vy 0) r) (F266.k3 K x0 r))):I vp 266 #[x0] w K:=BK (A:=F266.ann) (args:=[x0]) (qq h)
namespace F277
def ann:=a1 [(3,[0,1])]
def code:=cd f277
def BL:=tp f277
variable(K:VK)(y0 y1:wc)(w:wd)
@[irreducible]def k3:=nk ann 17 [(0,y0),(1,y1)] w [1,1] code (BL K)
end F277
def F277.k3.to(h:(Ag y0 w λa b=>Ab 2 a b λc d=>Ad c d λf g=>A6 2 f y1 g λi j=>Ab 1 i j λk m=>Ad k m λo p=>K o p)):F277.k3 K y0 y1 w:=qq h
def F277.sh(h:(I vp 95 #[x0,x1] w λa b=>AE a b λc d=>Af c (K (vq vy (-1)) d) (F277.k3 K x0 x1 d))):I vp 277 #[x0,x1] w K:=BK (A:=F277.ann) (args:=[x0,x1]) (qq h)
namespace F278
def ann:=a1 [(3,[0])]
def code:=cd f278
def BL:=tp f278
variable(K:VK)(y0:wc)(w:wd)
@[irreducible]def k3:=nk ann 9 [(0,y0)] w [1,1] code (BL K)
end F278
def F278.k3.to(h:(Ag y0 w λa b=>Ab 1 a b λc d=>Ad c d λf g=>K f g)):F278.k3 K y0 w:=qq h
def F278.sh(h:(AG vp .eql 124 (.tmp 3) (.const (vr v6)) x0 (vr v6) w λa b=>Af a (K (vq vy 0) b) (F278.k3 K x0 b))):I vp 278 #[x0] w K:=BK (A:=F278.ann) (args:=[x0]) (qq h)
namespace F296
def ann:Cd:=⟨[(3,[0,1]),(6,[1,5,13,14,15]),(9,[1,5,13,14,15]),(10,[5])],[(5,[1,5,13,14,15])],[],[],v6⟩
def code:=cd f296
def BL:=tp f296
variable(K:VK)(y0 y1 y5 y13 y14 y15:wc)(w:wd)
def k3:=nk ann 33 [(0,y0),(1,y1)] w [1,1] code (BL K)
def k10:=nk ann 33 [(5,y5)] w [1,1,1,1] code (BL K)
def l5:=nl ann 33 [(1,y1),(5,y5),(13,y13),(14,y14),(15,y15)] w [1,1,1,0,1,0] code (BL K)
def k6:=nk ann 33 [(1,y1),(5,y5),(13,y13),(14,y14),(15,y15)] w [1,1,1,0,1,0,0,1,1] code (BL K)
def k9:=nk ann 33 [(1,y1),(5,y5),(13,y13),(14,y14),(15,y15)] w [1,1,1,0,1,0,0,1,1,1] code (BL K)
attribute [irreducible] k3 k10 l5 k6 k9
end F296
def F296.k3.to(h:(Ag y0 w λa b=>Ab 2 a b λc d=>Ad c d λf g=>AH f g λi j=>F296.l5 K y1 (vt v6 0 0) f i (vq vy 0) j)):F296.k3 K y0 y1 w:=qq h
def F296.k10.to(h:(K y5 w)):F296.k10 K y5 w:=qq h
def F296.l5.to(h:(U .lss y15 y14 w λa b=>Af a (F296.k6 K y1 y5 y13 y14 y15 b) (F296.k10 K y5 b))):F296.l5 K y1 y5 y13 y14 y15 w:=by unfold F296.l5 nl;exact BW (qq h)
def F296.k6.to(h:(A6 2 y13 y15 w λa b=>Ak 2 a b λc d=>Aw (wj #[vw v8,vq vy 0] 212) d λf g=>Aj 2 f c g λi=>Ab 0 f i λj k=>Ad j k λm o=>Aa v7 m (λK=>K y1 o) o λp q=>Aa v7 m (Ak 2 f q) q λr s=>Aa v7 m (λK=>DK vp p [r] s K) s λt u=>Ar (vz m) (vz t) (vz (vw v8)) u λv x=>Af v (Am vp (Instr.buildSlice 54 1 #[(0,y15)]) x λy z=>Am vp (Builtin.append_ #[54,54] 54 #[y5,y]) z λaa ab=>F296.k9 K y1 aa y13 y14 y15 ab) (F296.k9 K y1 y5 y13 y14 y15 x))):F296.k6 K y1 y5 y13 y14 y15 w:=qq h
def F296.k9.to(h:(U .add y15 (vq vy 1) w λa b=>F296.l5 K y1 y5 y13 y14 a b)):F296.k9 K y1 y5 y13 y14 y15 w:=qq h
def F296.sh(h:(AG vp .eql 124 (.tmp 8) (.const (vr v6)) x0 (vr v6) w λa b=>Af a (K (vt v6 0 0) b) (F296.k3 K x0 x1 b))):I vp 296 #[x0,x1] w K:=BK (A:=F296.ann) (args:=[x0,x1]) (qq h)
namespace F297
def ann:Cd:=⟨[],[],[],[(1,(tk [0,1,2,3,4,5,6,7] .fin))],v6⟩
end F297
def F297.sh(h:(Aw (wj (wc.cells x0) 212) w λa b=>A4 b λS c=>Ab 1 a c λd f=>Al S d f λg i=>Al S x1 i λj k=>Ag j k λm o=>Ab 1 m o λp q=>Al S p q λr s=>U .lss g r s λt u=>K t u)):I vp 297 #[x0,x1] w K:=BK (A:=F297.ann) (args:=[x0,x1]) (qq h)
def F76.sh(h:(I vp 66 #[x0,(vq vy 0),(vq vy 8)] w λa b=>Am vp (Instr.makeSlice 184 a a) b λc d=>Am vp (Instr.build 186 #[(0,(vw v7)),(1,c)]) d λf g=>Aw (wj (wc.cells f) 186) g λi j=>K i j)):I vp 76 #[x0] w K:=BK (A:=A0) (args:=[x0]) (qq h)
namespace F143
def ann:=a1 [(4,[5])]
def code:=cd f143
def BL:=tp f143
variable(K:VK)(y5:wc)(w:wd)
@[irreducible]def k4:=nk ann 21 [(5,y5)] w [1,1,1] code (BL K)
end F143
def F143.k4.to(h:(K y5 w)):F143.k4 K y5 w:=qq h
def F143.sh(h:(I vp 209 #[x0,x1] w λa b=>Av 0 a b λc d=>Av 1 a d λf g=>Af f (Ag x0 g λi j=>Ab 1 i j λk m=>Ad k m λo p=>A6 1 o x1 p λq r=>Aj 1 q (vt v6 0 0) r λs=>F143.k4 K c s) (F143.k4 K c g))):I vp 143 #[x0,x1] w K:=BK (A:=F143.ann) (args:=[x0,x1]) (qq h)
namespace F209
def ann:=a1 [(3,[0,1])]
def code:=cd f209
def BL:=tp f209
variable(K:VK)(y0 y1:wc)(w:wd)
@[irreducible]def k3:=nk ann 28 [(0,y0),(1,y1)] w [1,1] code (BL K)
end F209
def F209.k3.to(h:(Ag y0 w λa b=>Ab 1 a b λc d=>Ad c d λf g=>A6 1 f y1 g λi j=>Ad i j λk m=>K (vu #[k,(vw v7)]) m)):F209.k3 K y0 y1 w:=qq h
def F209.sh(h:(AG vp .eql 125 (.tmp 6) (.const (vr v6)) x0 (vr v6) w λa b=>Aa v8 a (λK=>K x1 b) b λc d=>Aa v8 a (U .lss c (vq vy 0) d) d λf g=>Ar (vz a) (vz (vw v7)) (vz f) g λi j=>Aa v8 i (λK=>K x1 j) j λk m=>Aa v8 i (λK=>K x0 m) m λo p=>Aa v8 i (Ag o p) p λq r=>Aa v8 i (Ab 1 q r) r λs t=>Aa v8 i (Ad s t) t λu v=>Aa v8 i (AH u v) v λx y=>Aa v8 i (U .geq k x y) y λz aa=>Ar (vz i) (vz (vw v7)) (vz z) aa λab ac=>Af ab (K (vu #[(vt v6 0 0),(vw v8)]) ac) (F209.k3 K x0 x1 ac))):I vp 209 #[x0,x1] w K:=BK (A:=F209.ann) (args:=[x0,x1]) (qq h)
namespace F214
def ann:Cd:=⟨[(3,[0]),(6,[0,3,11,12]),(8,[0,3,11,12]),(9,[3])],[(5,[0,3,11,12])],[],[],v6⟩
def code:=cd f214
def BL:=tp f214
variable(K:VK)(y0 y3 y11 y12:wc)(w:wd)
def k3:=nk ann 23 [(0,y0)] w [1,1] code (BL K)
def k9:=nk ann 23 [(3,y3)] w [1,1,1,1] code (BL K)
def l5:=nl ann 23 [(0,y0),(3,y3),(11,y11),(12,y12)] w [1,1,1,0,1,0] code (BL K)
def k6:=nk ann 23 [(0,y0),(3,y3),(11,y11),(12,y12)] w [1,1,1,0,1,0,0,1,1] code (BL K)
def k8:=nk ann 23 [(0,y0),(3,y3),(11,y11),(12,y12)] w [1,1,1,0,1,0,0,1,1,1] code (BL K)
attribute [irreducible] k3 k9 l5 k6 k8
end F214
def F214.k3.to(h:(Ag y0 w λa b=>Ab 1 a b λc d=>Ad c d λf g=>AH f g λi j=>F214.l5 K y0 (vq vy 0) i (vq vy 0) j)):F214.k3 K y0 w:=qq h
def F214.k9.to(h:(K y3 w)):F214.k9 K y3 w:=qq h
def F214.l5.to(h:(U .lss y12 y11 w λa b=>Af a (F214.k6 K y0 y3 y11 y12 b) (F214.k9 K y3 b))):F214.l5 K y0 y3 y11 y12 w:=by unfold F214.l5 nl;exact BW (qq h)
def F214.k6.to(h:(I vp 143 #[y0,y12] w λa b=>AH a b λc d=>U .add y3 c d λf g=>F214.k8 K y0 f y11 y12 g)):F214.k6 K y0 y3 y11 y12 w:=qq h
def F214.k8.to(h:(U .add y12 (vq vy 1) w λa b=>F214.l5 K y0 y3 y11 a b)):F214.k8 K y0 y3 y11 y12 w:=qq h
def F214.sh(h:(AG vp .eql 125 (.tmp 5) (.const (vr v6)) x0 (vr v6) w λa b=>Af a (K (vq vy 0) b) (F214.k3 K x0 b))):I vp 214 #[x0] w K:=BK (A:=F214.ann) (args:=[x0]) (qq h)
def F216.sh(h:(AG vp .eql 125 (.tmp 3) (.const (vr v6)) x0 (vr v6) w λa b=>Aa v8 a (λK=>K x0 b) b λc d=>Aa v8 a (Ag c d) d λf g=>Aa v8 a (Ab 1 f g) g λi j=>Aa v8 a (Ad i j) j λk m=>Aa v8 a (λK=>I vp 267 #[k,(.func (.func 268) #[] #[])] m K) m λo p=>Aa v8 a (AE o p) p λq r=>Ar (vz a) (vz (vw v7)) (vz q) r λs t=>K s t)):I vp 216 #[x0] w K:=BK (A:=A0) (args:=[x0]) (qq h)
namespace F232
def ann:Cd:=⟨[(4,[0,1,2,7])],[],[],[(4,(tk [0,1,2,4,5,6,3] (.go 7 (.go 8 (.take 9 (.go 10 .fin .fin)) .fin) .fin)))],v6⟩
def code:=cd f232
def BL:=tp f232
variable(K:VK)(y0 y1 y2 y7:wc)(w:wd)
@[irreducible]def k4:=nk ann 37 [(0,y0),(1,y1),(2,y2),(7,y7)] w [1,1,1] code (BL K)
end F232
def F232.k4.to(h:(A4 w λS a=>Ag y0 a λb c=>Ab 1 b c λd f=>Al S d f λg i=>(Am vp (Instr.buildSlice 54 1 #[(0,y2)]) i λj k=>(S k/\
 (Am vp (Builtin.append_ #[54,54] 54 #[y7,j]) k λm o=>(S o/\
 A6 1 g y1 o λp q=>(Aj 1 p m q λr=>(S r/\
 K (vw v7) r))/\True))/\True))/\True)):F232.k4 K y0 y1 y2 y7 w:=qq h
def F232.sh(h:(I vp 209 #[x0,x1] w λa b=>Av 0 a b λc d=>Av 1 a d λf g=>AE f g λi j=>Aa v8 i (λK=>K x2 j) j λk m=>Aa v8 i (λK=>I vp 272 #[k] m K) m λo p=>Aa v8 i (U .lss o (vq vy 0) p) p λq r=>Ar (vz i) (vz (vw v7)) (vz q) r λs t=>Aa v8 s (λK=>K c t) t λu v=>Aa v8 s (λK=>K x2 v) v λx y=>Aa v8 s (λK=>I vp 85 #[u,x] y K) y λz aa=>Ar (vz s) (vz (vw v7)) (vz z) aa λab ac=>Af ab (K (vw v8) ac) (F232.k4 K x0 x1 x2 c ac))):I vp 232 #[x0,x1,x2] w K:=BK (A:=F232.ann) (args:=[x0,x1,x2]) (qq h)
def F268.sh(h:(AH x0 w λa b=>U .gtr a (vq vy 0) b λc d=>K c d)):I vp 268 #[x0] w K:=BK (A:=A0) (args:=[x0]) (qq h)
namespace F82
def ann:=a1 [(3,[0])]
def code:=cd f82
def BL:=tp f82
variable(K:VK)(y0:wc)(w:wd)
@[irreducible]def k3:=nk ann 10 [(0,y0)] w [1,1] code (BL K)
end F82
def F82.k3.to(h:(Ag y0 w λa b=>Ab 0 a b λc d=>Ad c d λf g=>I vp 80 #[f] g λi j=>K i j)):F82.k3 K y0 w:=qq h
def F82.sh(h:(AG vp .eql 194 (.tmp 3) (.const (vr v6)) x0 (vr v6) w λa b=>Af a (K (vt v6 0 0) b) (F82.k3 K x0 b))):I vp 82 #[x0] w K:=BK (A:=F82.ann) (args:=[x0]) (qq h)
def F146.sh(h:(AG vp .neq 194 (.tmp 2) (.const (vr v6)) x0 (vr v6) w λa b=>Af a (Ag x0 b λc d=>Ab 0 c d λf g=>Aj 1 f (vt v6 0 0) g λi=>K (vu #[]) i) (K (vu #[]) b))):I vp 146 #[x0] w K:=BK (A:=A0) (args:=[x0]) (qq h)
namespace F156
def ann:Cd:=⟨[(4,[2,4,5])],[],[],[(3,(tk [0,1,2,3,5,6,7] (.go 4 (.go 8 (tk [9,10,11,12,13] (.go 14 .fin .fin)) .fin) (.go 8 (tk [9,10] (.go 4 (tk [11,12,13] (.go 14 .fin .fin)) .fin)) .fin))))],v6⟩
def code:=cd f156
def BL:=tp f156
variable(K:VK)(y2 y4 y5:wc)(w:wd)
@[irreducible]def k4:=nk ann 31 [(2,y2),(4,y4),(5,y5)] w [1,1,1] code (BL K)
end F156
def F156.k4.to(h:(Ak 2 y4 w λa b=>Aj 2 y2 a b λc=>Ak 2 y2 c λr3 _=>K (vu #[r3,y5]) c)):F156.k4 K y2 y4 y5 w:=qq h
def F156.sh(h:(Aw (wj #[vq vy 0,vq vy 0] 60) w λa b=>I vp 229 #[x0] b λc d=>U .sub c (vq vy 1) d λf g=>I vp 228 #[x0,f] g λi j=>Av 0 i j λk m=>Av 1 i m λo p=>Aw (wj #[vq vy 0,vq vy 0] 60) p λq r=>Aj 2 q k r λs=>Af o (A4 s λS t=>Ag x0 t λu v=>Ab 0 u v λx y=>Ag x0 y λz aa=>Ab 0 z aa λab ac=>(Ad x ac λad ae=>(S ae/\
 (Ad ab ae λaf ag=>(S ag/\
 AH af ag λah ai=>U .sub ah (vq vy 1) ai λaj ak=>∃al,(∀w',S w'->(Instr.sliceAt 56 ad v6 (vz aj) v6).run vp w'=.ok al w')/\(Ag x0 ak λam an=>Ab 0 am an λao ap=>(Aj 1 ao al ap λaq=>(S aq/\
 F156.k4 K a q o aq))/\True)))/\True))/\((Ad ab ac λar au=>(S au/\
 AH ar au λav aw=>U .sub av (vq vy 1) aw λax ay=>(Ad x ay λaz ba=>(S ba/\
 ∃bb,(∀w',S w'->(Instr.sliceAt 56 az v6 (vz ax) v6).run vp w'=.ok bb w')/\(Ag x0 ba λbc bd=>Ab 0 bc bd λbe bf=>(Aj 1 be bb bf λbg=>(S bg/\
 F156.k4 K a q o bg))/\True)))/\True))/\True)) (F156.k4 K a q o s))):I vp 156 #[x0] w K:=BK (A:=F156.ann) (args:=[x0]) (qq h)
namespace F161
def ann:Cd:=⟨[(4,[3,8,9,10]),(8,[3,8,9,10]),(9,[3])],[(3,[3,8,9,10])],[],[],v6⟩
def code:=cd f161
def BL:=tp f161
variable(K:VK)(y3 y8 y9 y10:wc)(w:wd)
def k9:=nk ann 31 [(3,y3)] w [1,1,1] code (BL K)
def l3:=nl ann 31 [(3,y3),(8,y8),(9,y9),(10,y10)] w [1,1,0,1,0] code (BL K)
def k4:=nk ann 31 [(3,y3),(8,y8),(9,y9),(10,y10)] w [1,1,0,1,0,0,1,1] code (BL K)
def k8:=nk ann 31 [(3,y3),(8,y8),(9,y9),(10,y10)] w [1,1,0,1,0,0,1,1,1] code (BL K)
attribute [irreducible] k9 l3 k4 k8
end F161
def F161.k9.to(h:(K y3 w)):F161.k9 K y3 w:=qq h
def F161.l3.to(h:(U .lss y10 y9 w λa b=>Af a (F161.k4 K y3 y8 y9 y10 b) (F161.k9 K y3 b))):F161.l3 K y3 y8 y9 y10 w:=by unfold F161.l3 nl;exact BW (qq h)
def F161.k4.to(h:(A6 2 y8 y10 w λa b=>Ak 2 a b λc d=>Aw (wj #[vq vy 0,vq vy 0] 60) d λf g=>Aj 2 f c g λi=>Ab 1 f i λj k=>Ad j k λm o=>Ab 0 f o λp q=>Ad p q λr s=>U .eql r (vq vy 2) s λt u=>Aa v7 t (λK=>K y3 u) u λv x=>Aa v7 t (λK=>K m x) x λy z=>Aa v7 t (λK=>I vp 85 #[v,y] z K) z λaa ab=>Aa v7 t (AE aa ab) ab λac ad=>Ar (vz t) (vz ac) (vz (vw v8)) ad λae af=>Af ae (Am vp (Instr.buildSlice 54 1 #[(0,m)]) af λag ah=>Am vp (Builtin.append_ #[54,54] 54 #[y3,ag]) ah λai aj=>F161.k8 K ai y8 y9 y10 aj) (F161.k8 K y3 y8 y9 y10 af))):F161.k4 K y3 y8 y9 y10 w:=qq h
def F161.k8.to(h:(U .add y10 (vq vy 1) w λa b=>F161.l3 K y3 y8 y9 a b)):F161.k8 K y3 y8 y9 y10 w:=qq h
def F161.sh(h:(I vp 82 #[x0] w λa b=>AH a b λc d=>F161.l3 K (vt v6 0 0) a c (vq vy 0) d)):I vp 161 #[x0] w K:=BK (A:=F161.ann) (args:=[x0]) (qq h)
namespace F226
def ann:Cd:=⟨[(3,[0,3]),(4,[])],[],[],[(3,(tk [0,1,2,3,5] (.go 4 (.go 6 (.go 7 (tk [8,9] (.go 10 .fin .fin)) .fin) .fin) (.go 6 (.go 4 (.go 7 (tk [8,9] (.go 10 .fin .fin)) .fin) .fin) .fin))))],v6⟩
def code:=cd f226
def BL:=tp f226
variable(K:VK)(y0 y3:wc)(w:wd)
def k3:=nk ann 30 [(0,y0),(3,y3)] w [1,1] code (BL K)
def k4:=nk ann 30 [] w [1,1,1] code (BL K)
attribute [irreducible] k3 k4
end F226
def F226.k3.to(h:(A4 w λS a=>Ag y0 a λb c=>Ab 0 b c λd f=>AN S 2 y3 f λg i=>(Ad d i λj k=>(S k/\
 (Am vp (Instr.buildSlice 56 1 #[(0,g)]) k λm o=>(S o/\
 (Am vp (Builtin.append_ #[56,56] 56 #[j,m]) o λp q=>(S q/\
 Ag y0 q λr s=>Ab 0 r s λt u=>(Aj 1 t p u λv=>(S v/\
 F226.k4 K v))/\True))/\True))/\True))/\((Am vp (Instr.buildSlice 56 1 #[(0,g)]) i λx y=>(S y/\
 (Ad d y λz aa=>(S aa/\
 (Am vp (Builtin.append_ #[56,56] 56 #[z,x]) aa λab ac=>(S ac/\
 Ag y0 ac λad ae=>Ab 0 ad ae λaf ag=>(Aj 1 af ab ag λah=>(S ah/\
 F226.k4 K ah))/\True))/\True))/\True))/\True))):F226.k3 K y0 y3 w:=qq h
def F226.k4.to(h:(K (vw v7) w)):F226.k4 K w:=qq h
def F226.sh(h:(Aw (wj (wc.cells x1) 60) w λa b=>AG vp .eql 194 (.tmp 5) (.const (vr v6)) x0 (vr v6) b λc d=>Aa v8 c (Ak 2 a d) d λf g=>Aa v8 c (λK=>I vp 227 #[f] g K) g λi j=>Aa v8 c (U .neq i (vq vy 0) j) j λk m=>Ar (vz c) (vz (vw v7)) (vz k) m λo p=>Aa v8 o (λK=>K x0 p) p λq r=>Aa v8 o (Ag q r) r λs t=>Aa v8 o (Ab 0 s t) t λu v=>Aa v8 o (Ad u v) v λx y=>Aa v8 o (AH x y) y λz aa=>Aa v8 o (U .geq z (vq vy 16) aa) aa λab ac=>Ar (vz o) (vz (vw v7)) (vz ab) ac λad ae=>Af ad (K (vw v8) ae) (F226.k3 K x0 a ae))):I vp 226 #[x0,x1] w K:=BK (A:=F226.ann) (args:=[x0,x1]) (qq h)
namespace F228
def ann:=a1 [(3,[0,1,4])]
def code:=cd f228
def BL:=tp f228
variable(K:VK)(y0 y1 y4:wc)(w:wd)
@[irreducible]def k3:=nk ann 22 [(0,y0),(1,y1),(4,y4)] w [1,1] code (BL K)
end F228
def F228.k3.to(h:(Ag y0 w λa b=>Ab 0 a b λc d=>Ad c d λf g=>A6 2 f y1 g λi j=>Ak 2 i j λk m=>Aj 2 y4 k m λo=>Ak 2 y4 o λr7 _=>K (vu #[r7,(vw v7)]) o)):F228.k3 K y0 y1 y4 w:=qq h
def F228.sh(h:(Aw (wj #[vq vy 0,vq vy 0] 60) w λa b=>U .lss x1 (vq vy 0) b λc d=>Aa v8 c (λK=>K x1 d) d λf g=>Aa v8 c (λK=>K x0 g) g λi j=>Aa v8 c (λK=>I vp 229 #[i] j K) j λk m=>Aa v8 c (U .geq f k m) m λo p=>Ar (vz c) (vz (vw v7)) (vz o) p λq r=>Af q (Am vp (Instr.build 60 #[]) r λs t=>Aj 2 a s t λu=>Ak 2 a u λr10 _=>K (vu #[r10,(vw v8)]) u) (F228.k3 K x0 x1 a r))):I vp 228 #[x0,x1] w K:=BK (A:=F228.ann) (args:=[x0,x1]) (qq h)
namespace F229
def ann:=a1 [(3,[0])]
def code:=cd f229
def BL:=tp f229
variable(K:VK)(y0:wc)(w:wd)
@[irreducible]def k3:=nk ann 10 [(0,y0)] w [1,1] code (BL K)
end F229
def F229.k3.to(h:(Ag y0 w λa b=>Ab 0 a b λc d=>Ad c d λf g=>AH f g λi j=>K i j)):F229.k3 K y0 w:=qq h
def F229.sh(h:(AG vp .eql 194 (.tmp 3) (.const (vr v6)) x0 (vr v6) w λa b=>Af a (K (vq vy 0) b) (F229.k3 K x0 b))):I vp 229 #[x0] w K:=BK (A:=F229.ann) (args:=[x0]) (qq h)
end
end Go.Proofs.QV
