/- Part 6 of what the law needs: own lemmas, in the order in which they build. -/
import Derived.Test.YtcakfaakbpdklaaGreatDoorProg
import Derived.Test.YtcakfaakbpdklaaGreatDoorTopEnds05
set_option linter.defProp false
set_option linter.unusedSimpArgs false
set_option linter.unusedVariables false
set_option maxRecDepth 100000
namespace Go.Proofs.QV
open Go Go.Proofs Go.Proofs.Tryz
open Go.Proofs.Tryz renaming prog->Z
open Go.IntKind renaming i64->wg
open Go.Value renaming int->v6,pointer->v7,slice->v8,tuple->wc,bool->wd
open Option renaming some->wh
open Option renaming none->wj
open Bool renaming true->wk
open Bool renaming false->wl
open Go renaming Value->wm
open Go renaming World->wn
open Go.Obj renaming cells->wt
section
open Go.RowKit
section
variable{K:VK}{w w':wn}{D:DG}{np:Nat}{nt:Int}{s:St}
def Ct.lt{A:EH}{c:Ce}(h:Ct A w c):∀x∈A.all,x<w.heap.size:=λx hx=>by
 obtain⟨cs,c1,_⟩:=h.blk;obtain⟨ts,t1,_⟩:=h.tk.blk;simp only[EH.all,ux,n7]at hx;rcases hx with rfl|rfl|rfl|rfl|hx|hx
 ·exact BP c1
 ·exact BP h.pg.blk
 ·exact BP h.mm.blk
 ·exact BP t1
 ·exact h.pg.own.lt (Cb.1 hx)
 ·exact h.mm.own.lt (Cb.1 hx)
def EX.lt{b m:Nat}{n:Int}{f:Om}(h:EX w b m n f):b<w.heap.size/\m<w.heap.size:=by obtain⟨_,l,c,h1,_⟩:=h;exact⟨BP h1.blk,BP h1.map⟩
def C8.lt(h:C8 D np nt w s):∀x∈D.all,x<w.heap.size:=λx hx=>by
 simp only[DG.all,ux]at hx;rcases hx with rfl|rfl|rfl|rfl|hx
 ·obtain⟨_,_,_,h0,_⟩:=h.tz;exact BP h0
 ·exact BP h.blk
 ·exact h.own.lt.1
 ·exact h.own.lt.2
 ·exact h.cel.lt x hx
def C8.ltS(h:C8 D np nt w s):∀x∈D.S,x<w.heap.size:=λx hx=>h.lt x (by
 have:=D.sub x hx;exact this)
def RF{W:wn}{v:wm}{l:List Int}(hl:l.length<=2048)(hW:∀x∈D.S,x<W.heap.size)(hn:BY W v){s1:St}(hk:∀n w',Fr D.S W w'->C8 D np nt w' s1->K (v6 wg n) w'):
  ∀(d i:Nat) (w:wn) (n:Int) (s:St),i+d=l.length->Fr D.S W w->C8 D np nt w s->BQ w v 3 1 (BX l)->s.dropAll (l.drop i)=s1->
   F147.l5 K (v7 (wh ⟨D.st,0,wj⟩)) (v6 wg n) v (v6 wg (l.length:Int)) (v6 wg (i:Int)) w:=by
 intro d;induction d with
 | zero=>
  intro i w n s hi hf h hv he;have e:i=l.length:=by omega
  subst e;refine F147.l5.to ?_;simp only[zv,show ¬((l.length:Int)<(l.length:Int)) by omega];rw[b6]at he;simp only[St.dropAll]at he;subst he;exact F147.k10.to (hk n w hf h)
 | succ d ih=>
  intro i w n s hi hf h hv he;have hlt:i<l.length:=by omega
  refine F147.l5.to ?_;simp only[zv,show (i:Int)<(l.length:Int) by omega];rw[xJ hlt,St.dropAll]at he;refine F147.k6.to (AV hv.rd hlt λg o cs e fz hg hc=>Ad hg hc ?_);simp only[zv];refine Ad (v:=v7 (wh ⟨D.A.cel,0,wj⟩)) h.blk rfl (Px h.cel λw1 hf1 h1=>?_);have h1:=h.setCel hf1 h1;have hv1:=hv.keep' hf1 λg hg hg'=>by have:=hn.blk g hg;have:=hW g (by simp[DG.S,hg']);omega
  cases hb:(s.c.drop l[i]).2<;>simp only[zv]<;>refine F147.k9.to ?_<;>simp only[A7]<;>rw[BO (n:=(i:Int)+1) (by omega)] <;>
   exact ih (i+1) w1 _ _ (by omega) (hf.trans hf1.ofA) h1 hv1 he
def Ui(f:Om)(t:Int):(Fz f t).length<=4:=by unfold Fz;exact va (List.length_filterMap_le _ _) (by simp)
def Xc{t:Int}(h:C8 D np nt w s)(hk:∀n w',Fr D.S w w'->C8 D np nt w' (s.quit t)->K (v6 wg n) w'):
  I Z 147 #[v7 (wh ⟨D.st,0,wj⟩),v6 wg t] w K:=by
 refine F147.sh (Ht h ?_);simp only[zv];refine F147.k3.to ?_;simp only[zv];refine Ad (v:=v7 (wh ⟨D.ob,0,wj⟩)) h.blk rfl (V1 h.own λv w1 hf1 h1 hn hv=>?_);have h1:=h.setOwn hf1 h1;have hl:((Fz s.own t).mergeSort λx y=>decide (x<=y)).length<=2048:=by rw[List.length_mergeSort];have:=Ui s.own t;omega
 refine AH hv.rd ?_;rw[Ca];exact RF (W:=w) hl h.ltS hn (s1:=s.quit t) hk ((Fz s.own t).mergeSort λx y=>decide (x<=y)).length 0 w1 0 _ (by omega) hf1.ofM h1 hv rfl
def RC{W:wn}{k:Int}(h0:C8 D np nt W s)(hk1:∀p w',s.openAt k np 0=wh p->Fr [] W w'->K (wc #[v6 wg (p:Int),wd wk]) w')(hk2:s.openAt k np 0=wj->∀w',Fr [] W w'->F123.k8 K (v7 (wh ⟨D.st,0,wj⟩)) (v6 wg k) w'):
  ∀(d p:Nat) (w:wn),p+d=np->Fr [] W w->s.openAt k np 0=s.openAt k d p->
   F123.l2 K (v7 (wh ⟨D.st,0,wj⟩)) (v6 wg k) (v6 wg (np:Int)) (v6 wg (p:Int)) w:=by
 have hnp:=h0.np;intro d;induction d with
 | zero=>
  intro p w hp hf he;refine F123.l2.to ?_;simp only[zv,show ¬((p:Int)<(np:Int)) by omega];exact hk2 he w hf
 | succ d ih=>
  intro p w hp hf he;have h:=h0.keep0 hf;refine F123.l2.to ?_;simp only[zv,show (p:Int)<(np:Int) by omega];refine F123.k3.to ?_;simp only[zv];have he':s.openAt k (d+1) p=if (Dx s.own p).1<0/\BT s.c.ks p=k/\0<s.c.left p then wh p else s.openAt k d (p+1):=rfl;rw[he']at he
  have next:∀w',Fr [] W w'->¬((Dx s.own p).1<0/\BT s.c.ks p=k/\0<s.c.left p)->F123.k7 K (v7 (wh ⟨D.st,0,wj⟩)) (v6 wg k) (v6 wg (np:Int)) (v6 wg (p:Int)) w':=λw' hf' hn=>by
   rw[vx hn]at he;refine F123.k7.to ?_;simp only[A7];rw[BO (n:=(p:Int)+1) (by omega)];exact ih (p+1) w' (by omega) hf' he
  refine Ad (v:=v7 (wh ⟨D.ob,0,wj⟩)) h.blk rfl (NH h.own λw1 hf1=>?_);have h1:=h.keep0 hf1;simp only[zv];by_cases z:(Dx s.own p).1<0
  ·simp only[zv,z];refine Ad (v:=v7 (wh ⟨D.A.cel,0,wj⟩)) h1.blk rfl (H2 h1.cel λw2 hf2=>?_);have h2:=h1.keep0 hf2;by_cases y:BT s.c.ks p=k
   ·simp only[zv,vw,y];refine Ad (v:=v7 (wh ⟨D.A.cel,0,wj⟩)) h2.blk rfl (NF h2.cel λw3 hf3=>?_);by_cases x:s.c.left p>0
    ·simp only[zv,x];rw[vy ⟨z,y,x⟩]at he;exact hk1 p w3 he (((hf.trans hf1).trans hf2).trans hf3)
    ·simp only[zv,x];exact next w3 (((hf.trans hf1).trans hf2).trans hf3) λhc=>x hc.2.2
   ·simp only[zv,y];exact next w2 ((hf.trans hf1).trans hf2) λhc=>y hc.2.1
  ·simp only[zv,z];exact next w1 (hf.trans hf1) λhc=>z hc.1
def V4{k:Int}(h:C8 D np nt w s)(hk:∀w',Fr D.S w w'->C8 D np nt w' (s.openP np k).1->K (match (s.openP np k).2 with | wh p=>wc #[v6 wg p,wd wk] | wj=>wc #[v6 wg 0,wd wl]) w'):
  I Z 123 #[v7 (wh ⟨D.st,0,wj⟩),v6 wg k] w K:=by
 refine F123.sh ?_;simp only[zv];unfold St.openP at hk;refine Ad (v:=v6 wg (np:Int)) h.blk rfl (RC h (λp w1 he hf1=>?_) (λhe w1 hf1=>?_) np 0 w (by omega) (Fr.refl _ _) rfl)
 ·rw[he]at hk;exact hk w1 hf1.w (h.keep0 hf1)
 ·rw[he]at hk;have h1:=h.keep0 hf1;refine F123.k8.to ?_;simp only[zv];refine Ad (v:=v7 (wh ⟨D.A.cel,0,wj⟩)) h1.blk rfl (Vk h1.cel λw2 hf2 h2=>?_);have hk:=hk w2 (hf1.w.trans hf2.ofA) (h1.setCel hf2 h2);cases e:(s.c.carve k).2 with
  | none=>simp only[e,A5,A6]at hk ⊢;exact hk
  | some p=>simp only[e,A5,A6]at hk ⊢;exact hk
def Sg(n:Int):Ez n<=64:=by
 unfold Ez;by_cases h:CD n=5
 ·rw[vy h];unfold CD at h;by_cases c:n<0∨n>127
  ·rw[vy c]at h;omega
  ·omega
 ·rw[vx h];omega
def PG{t n:Int}(h:C8 D np nt w s)(hk:∀w',Fr D.S w w'->C8 D np nt w' (s.slow np nt t n).1->K (wc #[v6 wg (s.slow np nt t n).2.1,v6 wg (s.slow np nt t n).2.2]) w'):
  I Z 79 #[v7 (wh ⟨D.st,0,wj⟩),v6 wg t,v6 wg n] w K:=by
 refine F79.sh (Qz (Ht h ?_));simp only[zv];unfold St.slow at hk;simp only at hk;by_cases z1:CD n=0
 ·rw[vy (.inl z1)]at hk;simp only[zv,vw,z1];exact hk w (Fr.refl _ _) h
 by_cases z2:t<0
 ·rw[vy (.inr (.inl z2))]at hk;simp only[zv,z1,z2];exact hk w (Fr.refl _ _) h
 simp only[zv,z1,z2];refine Ad (v:=v6 wg nt) h.blk rfl ?_;by_cases z3:nt<=t
 ·rw[vy (.inr (.inr z3))]at hk;simp only[zv,show t≥nt from z3];exact hk w (Fr.refl _ _) h
 rw[vx (by omega)]at hk;simp only[zv,show ¬(t≥nt) from z3];by_cases k5:CD n=5
 ·rw[vy k5]at hk;simp only[zv,vw,k5];refine A9 (λw'=>w'.heap[D.st]?=wh (wt #[v7 (wh ⟨D.A.cel,0,wj⟩),v7 (wh ⟨D.ob,0,wj⟩),v6 wg nt,v6 wg (np:Int),v6 wg s.made] 171 (0,0))) λw1 hf1 _=>⟨hf1.at_ h.blk (by simp),?_⟩;have h1:=h.keep0 hf1;simp only[]
  refine Au (v:=v7 (wh ⟨D.A.cel,0,wj⟩)) (λw' hw=>⟨_,_,_,hw,rfl⟩) ⟨V6 ⟨h1.blk,Vy h1.cel (Sg n) λw2 hf2 h2=>⟨hf2.at_ h1.blk (λe=>h.ok.s (D.A.sub _ e)),?_⟩,trivial⟩,trivial⟩;have h2:=h1.setCel hf2 h2;cases e:(s.c.large (Ez n)).2 with
  | none=>
   have e0:s.c.large (Ez n)=(s.c,wj):=by
    unfold Ce.large at e ⊢;split at e
    ·rfl
    ·simp at e
   rw[e0]at hk h2;simp only[Ah,Av,A5,A6,q9];exact hk w2 (hf1.w.trans hf2.ofA) h2
  | some a=>
   have e0:s.c.large (Ez n)=((s.c.large (Ez n)).1,wh a):=by rw[<-e]
   rw[e0]at hk;simp only[Ag,Av,A5,A6,uu];refine F79.k10.to (Pv h2 λw3 hf3 h3=>?_);exact hk w3 ((hf1.w.trans hf2.ofA).trans hf3) h3
 rw[vx k5]at hk;simp only[zv,k5];refine F79.k11.to (ND h λw1 hf1 h1=>?_);cases e:(s.fast t n).2 with
 | some a=>
  have e0:s.fast t n=((s.fast t n).1,wh a):=by rw[<-e]
  rw[e0]at hk;simp only[Ah,A5,A6];exact hk w1 hf1 h1
 | none=>
  have e0:s.fast t n=(s,wj):=by
   unfold St.fast at e ⊢;split at e
   ·rename_i y;rw[vy y]
   ·rename_i y;rw[vx y];split at e
    ·rfl
    ·simp at e
  rw[e0]at hk h1;simp only[Ag,A5,A6];refine F79.k14.to (V4 h1 λw2 hf2 h2=>?_);cases ep:(s.openP np (CD n)).2 with
  | none=>
   have ep0:s.openP np (CD n)=((s.openP np (CD n)).1,wj):=by rw[<-ep]
   have ep1:(s.openP np (CD n)).1=s:=by
    unfold St.openP at ep ⊢;split at ep
    ·simp at ep
    ·simp only[Option.map_eq_none_iff]at ep;simp only;have:(s.c.carve (CD n)).1=s.c:=by
      unfold Ce.carve at ep ⊢;split at ep
      ·rfl
      ·simp at ep
     rw[this]
   rw[ep0]at hk;rw[ep1]at h2;simp only[Ah,Av,A5,A6,q9];exact hk w2 (hf1.trans hf2) h2
  | some p=>
   have ep0:s.openP np (CD n)=((s.openP np (CD n)).1,wh p):=by rw[<-ep]
   rw[ep0]at hk;simp only[Ag,Av,A5,A6,uu];generalize (s.openP np (CD n)).1=s' at hk h2;refine F79.k17.to ?_;simp only[zv];have fin:∀s2 w3,Fr D.S w w3->C8 D np nt w3 s2->(∀w',Fr D.S w w'->C8 D np nt w' (s2.fast t n).1->K (wc #[v6 wg ((s2.fast t n).2.getD 0),v6 wg 0]) w')->
     I Z 122 #[v7 (wh ⟨D.st,0,wj⟩),v6 wg t,v6 wg n] w3 λx86_5 w5=>Ao 0 x86_5 w5 λx87_6 w6=>Ao 1 x86_5 w6 λx88_7 w7=>K (wc #[x87_6,(v6 wg 0)]) w7:=λs2 w3 hf3 h3 hk=>by
    refine ND h3 λw4 hf4 h4=>?_;have hk:=hk w4 (hf3.trans hf4) h4;cases e:(s2.fast t n).2 with
    | none=>simp only[e,Option.getD_none,A5,A6]at hk ⊢;exact hk
    | some a=>simp only[e,j5,A5,A6]at hk ⊢;exact hk
   refine Ad (v:=v7 (wh ⟨D.ob,0,wj⟩)) h2.blk rfl (WX h2.own (λhno w3 hf3=>?_) λhye w3 hf3 h3=>?_)
   ·simp only[vx (show ¬M3 nt s'.own t (CD n) p from hno)]at hk;exact fin s' w3 ((hf1.trans hf2).trans hf3.w) (h2.keep0 hf3) hk
   ·simp only[vy (show M3 nt s'.own t (CD n) p from hye)]at hk;exact fin _ w3 ((hf1.trans hf2).trans hf3.ofM) (h2.setOwn hf3 h3) hk
end
end
noncomputable section
variable{K:VK}{w:wn}{x0 x1 y0 y1 y2 y3 y4 y5:wm}
def F115.sh(h:(I Z 66 #[x0,(v6 wg 1),(v6 wg 256)] w λa b=>Am Z (Instr.build 252 #[(1,a)]) b λc d=>Aq (wt (wm.cells c) 252) d λf g=>K f g)):I Z 115 #[x0] w K:=BK (A:=A0) (args:=[x0]) (qq h)
namespace F309
def ann:Cg:=⟨[(6,[0,3])],[],[],[(3,(tk [0,1,2,3,6,7,8,4,5,9,10,11] .fin)),(6,(tk [0,1,2,3] (.go 4 .fin .fin)))],wj⟩
def code:=cd f309
def BM:=tp f309
variable(K:VK)(y0 y3:wm)(w:wn)
@[irreducible]def k6:=nk ann 35 [(0,y0),(3,y3)] w [1,1] code (BM K)
end F309
def F309.k6.to(h:(A2 w λS a=>Ae y0 a λb c=>Ab 0 b c λd f=>AM S 2 y3 f λg i=>(I Z 329 #[d,g] i λj k=>(S k/\
 K (wd wk) k))/\True)):F309.k6 K y0 y3 w:=qq h
def F309.sh(h:(Aq (wt (wm.cells x1) 310) w λa b=>AB Z .eql 173 (.tmp 6) (.const (v7 wj)) x0 (v7 wj) b λc d=>Aa wl c (λK=>K x0 d) d λf g=>Aa wl c (Ae f g) g λi j=>Aa wl c (Ab 1 i j) j λk m=>Aa wl c (Ac k m) m λo p=>Aa wl c (U .eql o (v6 wg 0) p) p λq r=>Aw (wh c) (wh (wd wk)) (wh q) r λs t=>Af s (K (wd wl) t) (A2 t λS u=>Ae x0 u λv x=>Ab 0 v x λy z=>Ab 0 y z λaa ab=>Ae x0 ab λac ad=>Ab 1 ac ad λae af=>An S aa af λag ah=>AD ag ah λai aj=>An S ae aj λak al=>U .eql ai ak al λam an=>Af am (Ae x0 an λao ap=>Ab 2 ao ap λaq ar=>Aj 1 aq (wd wk) ar λau=>K (wd wl) au) (F309.k6 K x0 a an)))):I Z 309 #[x0,x1] w K:=BK (A:=F309.ann) (args:=[x0,x1]) (qq h)
namespace F319
def ann:=a1 [(3,[0])]
def code:=cd f319
def BM:=tp f319
variable(K:VK)(y0:wm)(w:wn)
@[irreducible]def k3:=nk ann 11 [(0,y0)] w [1,1] code (BM K)
end F319
def F319.k3.to(h:(Ae y0 w λa b=>Ab 0 a b λc d=>Ab 0 c d λf g=>Ac f g λi j=>AD i j λk m=>K k m)):F319.k3 K y0 w:=qq h
def F319.sh(h:(AB Z .eql 173 (.tmp 3) (.const (v7 wj)) x0 (v7 wj) w λa b=>Af a (K (v6 wg 0) b) (F319.k3 K x0 b))):I Z 319 #[x0] w K:=BK (A:=F319.ann) (args:=[x0]) (qq h)
def F320.sh(h:(AB Z .neq 173 (.tmp 3) (.const (v7 wj)) x0 (v7 wj) w λa b=>Aa wk a (λK=>K x0 b) b λc d=>Aa wk a (Ae c d) d λf g=>Aa wk a (Ab 2 f g) g λi j=>Aa wk a (Ac i j) j λk m=>Aw (wh a) (wh k) (wh (wd wl)) m λo p=>K o p)):I Z 320 #[x0] w K:=BK (A:=A0) (args:=[x0]) (qq h)
namespace F329
def ann:Cg:=⟨[],[],[],[(1,(tk [0,1,2,3,5] (.go 4 (.go 6 (.go 7 (tk [8,9] (.go 10 .fin .fin)) .fin) .fin) (.go 6 (.go 4 (.go 7 (tk [8,9] (.go 10 .fin .fin)) .fin) .fin) .fin))))],wj⟩
end F329
def F329.sh(h:(Aq (wt (wm.cells x1) 310) w λa b=>A2 b λS c=>Ae x0 c λd f=>Ab 0 d f λg i=>AM S 2 a i λj k=>(Ac g k λm o=>(S o/\
 (Am Z (Instr.buildSlice 248 1 #[(0,j)]) o λp q=>(S q/\
 (Am Z (Builtin.append_ #[248,248] 248 #[m,p]) q λr s=>(S s/\
 Ae x0 s λt u=>Ab 0 t u λv x=>(Aj 1 v r x λy=>(S y/\
 K (wc #[]) y))/\True))/\True))/\True))/\((Am Z (Instr.buildSlice 248 1 #[(0,j)]) k λz aa=>(S aa/\
 (Ac g aa λab ac=>(S ac/\
 (Am Z (Builtin.append_ #[248,248] 248 #[ab,z]) ac λad ae=>(S ae/\
 Ae x0 ae λaf ag=>Ab 0 af ag λah ai=>(Aj 1 ah ad ai λaj=>(S aj/\
 K (wc #[]) aj))/\True))/\True))/\True))/\True))):I Z 329 #[x0,x1] w K:=BK (A:=F329.ann) (args:=[x0,x1]) (qq h)
namespace F341
def ann:=a1 [(3,[0,2])]
def code:=cd f341
def BM:=tp f341
variable(K:VK)(y0 y2:wm)(w:wn)
@[irreducible]def k3:=nk ann 13 [(0,y0),(2,y2)] w [1,1] code (BM K)
end F341
def F341.k3.to(h:(Ae y0 w λa b=>Ab 0 a b λc d=>I Z 345 #[c] d λf g=>Ao 0 f g λi j=>Ao 1 f j λk m=>Aj 2 y2 i m λo=>Ak 2 y2 o λr7 _=>K (wc #[r7,k]) o)):F341.k3 K y0 y2 w:=qq h
def F341.sh(h:(Aq (wt #[v6 wg 0,v6 wg 0] 310) w λa b=>AB Z .eql 173 (.tmp 4) (.const (v7 wj)) x0 (v7 wj) b λc d=>Af c (Am Z (Instr.build 310 #[]) d λf g=>Aj 2 a f g λi=>Ak 2 a i λr5 _=>K (wc #[r5,(wd wl)]) i) (F341.k3 K x0 a d))):I Z 341 #[x0] w K:=BK (A:=F341.ann) (args:=[x0]) (qq h)
namespace F342
def ann:=a1 [(4,[3])]
def code:=cd f342
def BM:=tp f342
variable(K:VK)(y3:wm)(w:wn)
@[irreducible]def k4:=nk ann 11 [(3,y3)] w [1,1,1] code (BM K)
end F342
def F342.k4.to(h:(K y3 w)):F342.k4 K y3 w:=qq h
def F342.sh(h:(I Z 320 #[x0] w λa b=>Af a (Ae x0 b λc d=>Ab 2 c d λf g=>Aj 1 f (wd wl) g λi=>F342.k4 K a i) (F342.k4 K a b))):I Z 342 #[x0] w K:=BK (A:=F342.ann) (args:=[x0]) (qq h)
namespace F345
def ann:=a1 [(5,[0,2,4,5])]
def code:=cd f345
def BM:=tp f345
variable(K:VK)(y0 y2 y4 y5:wm)(w:wn)
@[irreducible]def k5:=nk ann 33 [(0,y0),(2,y2),(4,y4),(5,y5)] w [1,1,1,1] code (BM K)
end F345
def F345.k5.to(h:(Ae y0 w λa b=>Ab 0 a b λc d=>Ac c d λf g=>U .sub y5 (v6 wg 1) g λi j=>AC 2 f i j λk m=>Ak 2 k m λo p=>Aj 2 y4 o p λq=>Ae y0 q λr s=>Ab 0 r s λt u=>Ac t u λv x=>U .sub y5 (v6 wg 1) x λy z=>Am Z (Instr.sliceAt 248 v wj (wh y) wj) z λaa ab=>Ae y0 ab λac ad=>Ab 0 ac ad λae af=>Aj 1 ae aa af λag=>Ak 2 y4 ag λah ai=>Aj 2 y2 ah ai λaj=>Ak 2 y2 aj λr18 _=>K (wc #[r18,(wd wk)]) aj)):F345.k5 K y0 y2 y4 y5 w:=qq h
def F345.sh(h:(Aq (wt #[v6 wg 0,v6 wg 0] 310) w λa b=>Aq (wt #[v6 wg 0,v6 wg 0] 310) b λc d=>Ae x0 d λf g=>Ab 0 f g λi j=>Ac i j λk m=>AD k m λo p=>U .eql o (v6 wg 0) p λq r=>Af q (Ak 2 c r λs t=>Aj 2 a s t λu=>Ak 2 a u λr10 _=>K (wc #[r10,(wd wl)]) u) (F345.k5 K x0 a c o r))):I Z 345 #[x0] w K:=BK (A:=F345.ann) (args:=[x0]) (qq h)
def F74.sh(h:(I Z 115 #[x0] w λa b=>Am Z (Instr.build 176 #[(0,a)]) b λc d=>Aq (wt (wm.cells c) 176) d λf g=>I Z 116 #[(v6 wg 2048)] g λi j=>Am Z (Instr.build 180 #[(0,f),(1,i)]) j λk m=>Aq (wt (wm.cells k) 180) m λo p=>K o p)):I Z 74 #[x0] w K:=BK (A:=A0) (args:=[x0]) (qq h)
namespace F210
def ann:=a1 [(3,[0,1])]
def code:=cd f210
def BM:=tp f210
variable(K:VK)(y0 y1:wm)(w:wn)
@[irreducible]def k3:=nk ann 13 [(0,y0),(1,y1)] w [1,1] code (BM K)
end F210
def F210.k3.to(h:(Am Z (Instr.build 310 #[(0,y1)]) w λa b=>I Z 261 #[y0,a] b λc d=>K (wd wk) d)):F210.k3 K y0 y1 w:=qq h
def F210.sh(h:(I Z 260 #[x0,x1] w λa b=>A8 a b λc d=>Af c (K (wd wl) d) (F210.k3 K x0 x1 d))):I Z 210 #[x0,x1] w K:=BK (A:=F210.ann) (args:=[x0,x1]) (qq h)
def F230.sh(h:(I Z 276 #[x0] w λa b=>I Z 244 #[a,x1] b λc d=>K c d)):I Z 230 #[x0,x1] w K:=BK (A:=A0) (args:=[x0,x1]) (qq h)
def F260.sh(h:(I Z 276 #[x0] w λa b=>I Z 178 #[a,x1] b λc d=>K c d)):I Z 260 #[x0,x1] w K:=BK (A:=A0) (args:=[x0,x1]) (qq h)
namespace F261
def ann:Cg:=⟨[],[],[],[(1,(tk [0,4] (.go 1 (.take 2 (.go 3 (.go 5 (.take 6 .fin) .fin) .fin)) .fin)))],wj⟩
end F261
def F261.sh(h:(Aq (wt (wm.cells x1) 310) w λa b=>A2 b λS c=>AM S 2 a c λd f=>(I Z 292 #[x0] f λg i=>(S i/\
 Ae g i λj k=>(Ak 1 j k λm o=>(S o/\
 (I Z 293 #[m,d] o λp q=>(S q/\
 K p q))/\True))/\True))/\True)):I Z 261 #[x0,x1] w K:=BK (A:=F261.ann) (args:=[x0,x1]) (qq h)
def F270.sh(h:(I Z 292 #[x0] w λa b=>Ae a b λc d=>Ak 1 c d λf g=>I Z 299 #[f] g λi j=>K i j)):I Z 270 #[x0] w K:=BK (A:=A0) (args:=[x0]) (qq h)
def F271.sh(h:(I Z 292 #[x0] w λa b=>Ae a b λc d=>Ak 1 c d λf g=>I Z 300 #[f] g λi j=>K i j)):I Z 271 #[x0] w K:=BK (A:=A0) (args:=[x0]) (qq h)
namespace F276
def ann:=a1 [(3,[0])]
def code:=cd f276
def BM:=tp f276
variable(K:VK)(y0:wm)(w:wn)
@[irreducible]def k3:=nk ann 9 [(0,y0)] w [1,1] code (BM K)
end F276
def F276.k3.to(h:(Ae y0 w λa b=>Ab 1 a b λc d=>Ac c d λf g=>K f g)):F276.k3 K y0 w:=qq h
def F276.sh(h:(AB Z .eql 120 (.tmp 3) (.const (v7 wj)) x0 (v7 wj) w λa b=>Af a (K (v7 wj) b) (F276.k3 K x0 b))):I Z 276 #[x0] w K:=BK (A:=F276.ann) (args:=[x0]) (qq h)
namespace F292
def ann:=a1 [(3,[0])]
def code:=cd f292
def BM:=tp f292
variable(K:VK)(y0:wm)(w:wn)
@[irreducible]def k3:=nk ann 18 [(0,y0)] w [1,1] code (BM K)
end F292
def F292.k3.to(h:(Ae y0 w λa b=>Ab 0 a b λc d=>Ac c d λf g=>K f g)):F292.k3 K y0 w:=qq h
def F292.sh(h:(AB Z .eql 120 (.tmp 3) (.const (v7 wj)) x0 (v7 wj) w λa b=>Aa wl a (λK=>K x0 b) b λc d=>Aa wl a (Ae c d) d λf g=>Aa wl a (Ab 0 f g) g λi j=>Aa wl a (Ac i j) j λk m=>Aa wl a (λK=>AB Z .eql 172 (.tmp 9) (.const (v7 wj)) k (v7 wj) m K) m λo p=>Aw (wh a) (wh (wd wk)) (wh o) p λq r=>Af q (Am Z (Instr.build 176 #[]) r λs t=>Aq (wt (wm.cells s) 176) t λu v=>K u v) (F292.k3 K x0 r))):I Z 292 #[x0] w K:=BK (A:=F292.ann) (args:=[x0]) (qq h)
def F293.sh(h:(Aq (wt (wm.cells x0) 176) w λa b=>Aq (wt (wm.cells x1) 310) b λc d=>Ab 0 a d λf g=>Ac f g λi j=>Ak 2 c j λk m=>I Z 309 #[i,k] m λo p=>K o p)):I Z 293 #[x0,x1] w K:=BK (A:=A0) (args:=[x0,x1]) (qq h)
def F299.sh(h:(Aq (wt (wm.cells x0) 176) w λa b=>Ab 0 a b λc d=>Ac c d λf g=>I Z 319 #[f] g λi j=>K i j)):I Z 299 #[x0] w K:=BK (A:=A0) (args:=[x0]) (qq h)
def F300.sh(h:(Aq (wt (wm.cells x0) 176) w λa b=>Ab 0 a b λc d=>Ac c d λf g=>I Z 320 #[f] g λi j=>K i j)):I Z 300 #[x0] w K:=BK (A:=A0) (args:=[x0]) (qq h)
def F321.sh(h:(Aq (wt #[v6 wg 0,v6 wg 0] 310) w λa b=>I Z 292 #[x0] b λc d=>Ae c d λf g=>Ak 1 f g λi j=>I Z 334 #[i] j λk m=>Ao 0 k m λo p=>Ao 1 k p λq r=>Aj 2 a o r λs=>Ak 2 a s λr9 _=>K (wc #[r9,q]) s)):I Z 321 #[x0] w K:=BK (A:=A0) (args:=[x0]) (qq h)
def F323.sh(h:(I Z 292 #[x0] w λa b=>Ae a b λc d=>Ak 1 c d λf g=>I Z 336 #[f] g λi j=>K i j)):I Z 323 #[x0] w K:=BK (A:=A0) (args:=[x0]) (qq h)
def F326.sh(h:(I Z 276 #[x0] w λa b=>I Z 337 #[a,x1] b λc d=>K c d)):I Z 326 #[x0,x1] w K:=BK (A:=A0) (args:=[x0,x1]) (qq h)
def F334.sh(h:(Aq (wt (wm.cells x0) 176) w λa b=>Aq (wt #[v6 wg 0,v6 wg 0] 310) b λc d=>Ab 0 a d λf g=>Ac f g λi j=>I Z 341 #[i] j λk m=>Ao 0 k m λo p=>Ao 1 k p λq r=>Aj 2 c o r λs=>Ak 2 c s λr9 _=>K (wc #[r9,q]) s)):I Z 334 #[x0] w K:=BK (A:=A0) (args:=[x0]) (qq h)
def F336.sh(h:(Aq (wt (wm.cells x0) 176) w λa b=>Ab 0 a b λc d=>Ac c d λf g=>I Z 342 #[f] g λi j=>K i j)):I Z 336 #[x0] w K:=BK (A:=A0) (args:=[x0]) (qq h)
end
section
open Go.RowKit
def Et(e:Int × Int):wm := .agg #[v6 wg e.1,v6 wg e.2]
def Fb(l:List (Int × Int)):List (List wm):=l.map λe=>[v6 wg e.1,v6 wg e.2]
def Fd(l:List (Int × Int)):(Fb l).length=l.length:=by simp[Fb]
def Oe{l:List (Int × Int)}:∀y∈Fb l,∀u∈y,u.oneCell'=wk:=by intro y hy u hu;simp only[Fb,u7]at hy;obtain⟨x,_,rfl⟩:=hy;simp only[ux,i9,vt]at hu;rcases hu with rfl|rfl<;>rfl
def ES{e:Int × Int}:∀v∈(Et e).cells.toList,v.oneCell'=wk:=by intro v hv;simp only[Et,wm.cells,ux,i9,vt]at hv;rcases hv with rfl|rfl<;>rfl
structure Fw(w:wn)(b:Nat)(lv:wm)(room:Int)(l:List (Int × Int))(over:Bool):Prop where
 blk:w.heap[b]?=wh (wt #[lv,v6 wg room,wd over] 252 (0,0))
 own:BQ w lv 310 2 (Fb l)
 rm:1<=room/\room<=256
 le:(l.length:Int)<=room
def Fw.keep{S:List Nat}{w w':wn}{b:Nat}{lv:wm}{room:Int}{l:List (Int × Int)}{over:Bool}(h:Fw w b lv room l over)(hf:Fr S w w')(hb:b∉S)(hl:∀g∈BN lv,g∉S):Fw w' b lv room l over:=
 ⟨hf.at_ h.blk hb,h.own.keep' hf hl,h.rm,h.le⟩
section
variable{K:VK}{w:wn}{b:Nat}{lv:wm}{room:Int}{l:List (Int × Int)}{over:Bool}
def YJ(e:Int × Int):(Instr.buildSlice 248 1 #[(0,.agg #[v6 wg e.1,v6 wg e.2])]).run Z w=.ok (v8 (wh ⟨w.heap.size,0,wj⟩) 1 1) (w.alloc (wt #[v6 wg e.1,v6 wg e.2] 310)):=by kernel_rfl
def YD{e:Int × Int}(h:w.heap[b]?=wh (wt #[lv,v6 wg room,wd over] 252 (0,0)))(ho:BQ w lv 310 2 (Fb l))(hl:l.length<=1000)(hk:∀lv' w',Fr (b::BN lv) w w'->w'.heap[b]?=wh (wt #[lv',v6 wg room,wd over] 252 (0,0))->BQ w' lv' 310 2 (Fb (l++[e]))->(∀g∈BN lv',g∈BN lv∨w.heap.size<=g)->K (wc #[]) w'):
  I Z 329 #[v7 (wh ⟨b,0,wj⟩),Et e] w K:=by
 refine F329.sh (Ar λx w1 hn=>?_);have ln:=hn.is;have hxb:x≠b:=by have:=BP h;omega
 refine A9 (λw'=>w'.heap[x]?=wh (wt #[v6 wg e.1,v6 wg e.2] 310 (0,0))) λw2 hf2 _=>⟨hf2.at_ hn.at_ (by simp),?_⟩;have h2:=hf2.at_ (hn.fr.at_ h (by simp)) (by simp);have o2:=(ho.keep hn.fr (by simp)).keep hf2 (by simp);have f2:=hn.fr.trans hf2
 try simp only[zv]
 refine AO (vs:=[v6 wg e.1,v6 wg e.2]) (λw' hw=>⟨_,_,_,hw,by simp,rfl⟩) ?_;have ox:∀w',Fr [] w w'->x∉BN lv:=λ_ _ hg=>by have:=ho.lt (Cb.1 hg);omega
 have fin:∀w3 lv3 w4,Fr [] w w3->BQ w4 lv3 310 2 (Fb l++[[v6 wg e.1,v6 wg e.2]])->Fr (BN lv) w3 w4->(∀g∈BN lv3,g∈BN lv∨w3.heap.size<=g)->w3.heap[b]?=wh (wt #[lv,v6 wg room,wd over] 252 (0,0))->w3.heap[x]?=wh (wt #[v6 wg e.1,v6 wg e.2] 310 (0,0))->
   w4.heap[x]?=wh (wt #[v6 wg e.1,v6 wg e.2] 310 (0,0))/\Aj 1 (v7 (wh ⟨b,0,wj⟩)) lv3 w4 λw5=>(w5.heap[x]?=wh (wt #[v6 wg e.1,v6 wg e.2] 310 (0,0))/\K (wc #[]) w5):=by
  intro w3 lv3 w4 f3 o4 f4 g4 b3 x3;have nb:=ho.nb h (by decide:310≠252);refine⟨f4.at_ x3 (ox _ f3),AI (f4.at_ b3 nb) o4.one.2 o4.one.1 (by simp) λw5 hu=>⟨hu.fr.at_ (f4.at_ x3 (ox _ f3)) (by simpa using hxb),?_⟩⟩;have e5:Fb (l++[e])=Fb l++[[v6 wg e.1,v6 wg e.2]]:=by simp[Fb]
  have gn:∀g∈BN lv3,g∈BN lv∨w.heap.size<=g:=λg hg=>by
   rcases g4 g hg with c|c
   ·exact .inl c
   ·have:=f3.size;exact .inr (by omega)
  refine hk lv3 w5 (((f3.w.trans (f4.mono λz hz=>by simp[hz])).trans (hu.fr.mono λz hz=>by simp only[zF]at hz;simp[hz]))) ?_ ?_ gn
  ·have:=hu.at_;simpa using this
  ·rw[e5];exact o4.keep' hu.fr λg hg hg'=>by
    simp only[zF]at hg';subst hg';rcases gn g hg with c|c
    ·exact nb c
    ·have:=BP h;omega
 refine⟨Ad h2 rfl ⟨hf2.at_ hn.at_ (by simp),A4 (YJ e) ?_,trivial⟩,A4 (YJ e) ?_,trivial⟩
 ·have hw:=DE.mk' w2 (wt #[v6 wg e.1,v6 wg e.2] 310)
  refine⟨hw.fr.at_ (hf2.at_ hn.at_ (by simp)) (by simp),Bg (W0:=IK _) (ys:=[[v6 wg e.1,v6 wg e.2]]) (z:=Et (0,0)) (sz:=2) (bytes:=16) Tryz.underlying248 (by kernel_rfl) rfl (by decide) (I9 _) (HM _ _) (o2.keep hw.fr (by simp)) (Cp.of_block hw.at_ rfl (by simp) (by simp) (by simp) (by simp)) (Oe (l:=[e])) (by rw[Fd];simp;omega) (by rw[Fd];simp;omega) λv' w' a _ c d e'=>?_,trivial⟩
  have:=fin _ v' w' (f2.trans hw.fr) c d e' (hw.fr.at_ h2 (by simp)) (hw.fr.at_ (hf2.at_ hn.at_ (by simp)) (by simp));exact⟨this.1,this.2,trivial⟩
 ·have hw:=DE.mk' w2 (wt #[v6 wg e.1,v6 wg e.2] 310)
  refine⟨hw.fr.at_ (hf2.at_ hn.at_ (by simp)) (by simp),Ad (hw.fr.at_ h2 (by simp)) rfl ⟨hw.fr.at_ (hf2.at_ hn.at_ (by simp)) (by simp),Bg (W0:=IK _) (ys:=[[v6 wg e.1,v6 wg e.2]]) (z:=Et (0,0)) (sz:=2) (bytes:=16) Tryz.underlying248 (by kernel_rfl) rfl (by decide) (I9 _) (HM _ _) (o2.keep hw.fr (by simp)) (Cp.of_block hw.at_ rfl (by simp) (by simp) (by simp) (by simp)) (Oe (l:=[e])) (by rw[Fd];simp;omega) (by rw[Fd];simp;omega) λv' w' a _ c d e'=>?_,trivial⟩,trivial⟩
  have:=fin _ v' w' (f2.trans hw.fr) c d e' (hw.fr.at_ h2 (by simp)) (hw.fr.at_ (hf2.at_ hn.at_ (by simp)) (by simp));exact⟨this.1,this.2,trivial⟩
def Xa{e:Int × Int}(h:Fw w b lv room l over)(h1:(l.length:Int)=room->∀w',Fr [b] w w'->Fw w' b lv room l wk->K (wd wl) w')(h2:(l.length:Int)≠room->∀lv' w',Fr (b::BN lv) w w'->Fw w' b lv' room (l++[e]) over->(∀g∈BN lv',g∈BN lv∨w.heap.size<=g)->K (wd wk) w'):
  I Z 309 #[v7 (wh ⟨b,0,wj⟩),Et e] w K:=by
 have hr:=h.rm;refine F309.sh (Ar λx w1 hn=>⟨_,Ck _ _ _ Tryz.underlying173,?_⟩);have b1:=hn.fr.at_ h.blk (by simp);have ln:=hn.is
 try simp only[zv]
 refine Ad (v:=v6 wg room) b1 rfl ?_;simp only[zv,show ¬room=0 by omega];refine A9 (λw'=>w'.heap[b]?=wh (wt #[lv,v6 wg room,wd over] 252 (0,0))) λw2 hf2 _=>⟨hf2.at_ b1 (by simp),?_⟩;have b2:=hf2.at_ b1 (by simp);have o2:=(h.own.keep hn.fr (by simp)).keep hf2 (by simp);have f2:=hn.fr.trans hf2;refine Au (v:=lv) (λw' hw=>⟨_,_,_,hw,rfl⟩) (AH o2.rd (Au (v:=v6 wg room) (λw' hw=>⟨_,_,_,hw,rfl⟩) ?_));rw[Fd]
 by_cases c:(l.length:Int)=room
 ·simp only[zv,vw,c];refine AI b2 rfl rfl (by simp) λw3 hu=>?_;refine h1 c w3 (f2.w.trans hu.fr) ⟨by simpa using hu.at_,o2.keep' hu.fr (λg hg hg'=>by
   simp only[zF]at hg';subst hg';exact o2.nb b2 (by decide) hg),hr,h.le⟩
 ·simp only[zv,c];have x2:=hf2.at_ hn.at_ (by simp);have nx:x∉b::BN lv:=by simp only[ux,not_or];exact⟨by have:=BP h.blk;omega,λhg=>by have:=h.own.lt (Cb.1 hg);omega⟩
  refine F309.k6.to (A9 (λw'=>w'.heap[x]?=wh (wt #[v6 wg e.1,v6 wg e.2] 310 (0,0))) λw3 hf3 _=>⟨hf3.at_ x2 (by simp),?_⟩)
  try simp only[zv]
  refine AO (vs:=[v6 wg e.1,v6 wg e.2]) (λw' hw=>⟨_,_,_,hw,by simp,rfl⟩) ?_;have f3:=f2.trans hf3;have hle:=h.le;refine⟨YD (e:=e) (l:=l) (hf3.at_ b2 (by simp)) (o2.keep hf3 (by simp)) (by omega) λlv' w4 hf4 b4 o4 g4=>⟨hf4.at_ (hf3.at_ x2 (by simp)) nx,?_⟩,trivial⟩;refine h2 c lv' w4 (f3.w.trans hf4) ⟨b4,o4,hr,by simp;omega⟩ λg hg=>?_;rcases g4 g hg with d|d
  ·exact .inl d
  ·have:=f3.size;exact .inr (by omega)
def BI{k:IntKind}{i:Nat}(h:Cp w lv 2 (Fb l))(hi:i<l.length)(hk:∀g o cs e fz,w.heap[g]?=wh (wt cs e fz)->(cs.toList.drop o).take 2=[v6 wg l[i].1,v6 wg l[i].2]->o+2<=cs.size->K (v7 (wh ⟨g,o,wj⟩)) w):
  AC 2 lv (v6 k (i:Int)) w K:=by
 refine AU h (by omega) (x:=[v6 wg l[i].1,v6 wg l[i].2]) (by rw[zK];simp[Fb,hi]) λg o cs e fz hg _ hc=>?_;have c0:=hc 0 (by omega);have c1:=hc 1 (by omega);simp only[u9,xW,xV]at c0 c1;have hs:o+1<cs.size:=(xB.1 c1).1;refine hk g o cs e fz hg ?_ (by omega);apply zL;intro j;rw[zD,zC]
 match j with
 | 0=>simpa using c0
 | 1=>simpa using c1
 | j+2=>rw[vx (by omega)];rfl
def J2(A:Option Addr)(n n' c c':Nat):BN (v8 A n c)=BN (v8 A n' c'):=by cases A<;>rfl
def Yp(h:Fw w b lv room l over)(h1:l=[]->∀w',Fr [] w w'->K (wc #[Et (0,0),wd wl]) w')(h2:∀e,l.getLast?=wh e->∀lv' w',Fr [b] w w'->Fw w' b lv' room l.dropLast over->BN lv'=BN lv->K (wc #[Et e,wd wk]) w'):
  I Z 341 #[v7 (wh ⟨b,0,wj⟩)] w K:=by
 have hr:=h.rm;have hle:=h.le;refine F341.sh (Ar λx w1 hn=>⟨_,Ck _ _ _ Tryz.underlying173,?_⟩);have ln:=hn.is
 try simp only[Ag]
 refine F341.k3.to ?_
 try simp only[zv]
 have fin:∀(e:Int × Int) (c:Bool) w2,w2.heap[x]?=wh (wt #[v6 wg 0,v6 wg 0] 310 (0,0))->(∀w',Fr [x] w2 w'->K (wc #[Et e,wd c]) w')->
   Aj 2 (v7 (wh ⟨x,0,wj⟩)) (Et e) w2 λw6=>Ak 2 (v7 (wh ⟨x,0,wj⟩)) w6 λr7 _=>K (wc #[r7,wd c]) w6:=λe c w2 hx hk=>AA hx rfl ES rfl λw3 hu=>A3 hu.at_ rfl (hk w3 hu.fr)
 refine F345.sh (Ar λx2 w2 hn2=>Ar λx4 w4 hn4=>?_);have l2:=hn2.is;have l4:=hn4.is;have s1:=hn.fr.size;have s2:=hn2.fr.size;have f4:=(hn.fr.trans hn2.fr).trans hn4.fr;have b4:=f4.at_ h.blk (by simp);have o4:=h.own.keep f4 (by simp);have x24:=hn4.fr.at_ hn2.at_ (by simp);have x44:=hn4.at_;have xx4:=(hn2.fr.trans hn4.fr).at_ hn.at_ (by simp);have hb:=BP h.blk;have sx:=BP hn.at_;have sx2:=BP hn2.at_
 try simp only[zv]
 refine Ad (v:=lv) b4 rfl (AH o4.rd ?_);rw[Fd];by_cases c:l=[]
 ·simp only[zv,vw,show ((l.length:Nat):Int)=0 by rw[c];rfl];refine A3 x44 rfl (AA x24 rfl (ES (e:=(0,0))) rfl λw5 hu=>A3 hu.at_ rfl ?_);refine fin (0,0) wl w5 (hu.fr.at_ xx4 (by simp;omega)) λw6 hf6=>h1 c w6 ?_;exact (f4.then hu.fr (by simp;omega)).then hf6 (by simp;omega)
 ·have hpos:0<l.length:=List.length_pos_iff.2 c;simp only[zv,show ¬((l.length:Nat):Int)=0 by omega];refine F345.k5.to ?_
  try simp only[zv]
  refine Ad (v:=lv) b4 rfl ?_;rw[BO (n:=(l.length:Int)-1) (by omega),show (l.length:Int)-1=((l.length-1:Nat):Int) by omega];refine BI o4.rd (by omega) λg o cs e fz hg hcs ho=>AS hg (by omega) hcs ?_;obtain⟨la,hla⟩:∃la,l.getLast?=wh la:=by
   cases hx:l.getLast? with
   | none=>simp[c]at hx
   | some y=>exact⟨y,rfl⟩
  have hlast:l[l.length-1]=la:=by rw[List.getLast?_eq_getElem?,xS (by omega)]at hla;simpa using hla
  rw[hlast];refine AA x44 rfl (ES (e:=la)) rfl λw5 hu5=>?_;have b5:=hu5.fr.at_ b4 (by simp;omega);have o5:=o4.keep' hu5.fr λg hg hg'=>by
   simp only[zF]at hg';have:=h.own.lt (Cb.1 hg);omega
  refine Ad (v:=lv) b5 rfl ?_;obtain⟨A,cp,rfl,hcp,hA⟩:=o5.cap;have hnn:A≠wj:=λe=>by have:=hA e;simp[Fb,c]at this
  have hcm:((Fb l).length:Int)<=(cp:Int):=by omega
  refine A4 (GT (e:=310) (sz:=2) A _ cp wg ((l.length-1:Nat):Int) Tryz.underlying248 (by kernel_rfl) (by omega) (by rw[Fd]at hcm;omega)) ?_;have o5':=o5.take (l.length-1) (by rw[Fd];omega) (λe=>absurd e hnn);simp only[zK];refine AI b5 rfl rfl (by simp) λw6 hu6=>?_;have x46:=hu6.fr.at_ hu5.at_ (by simp;omega);have x26:=hu6.fr.at_ (hu5.fr.at_ x24 (by simp;omega)) (by simp;omega)
  have xx6:=hu6.fr.at_ (hu5.fr.at_ xx4 (by simp;omega)) (by simp;omega);have o6:=o5'.keep' hu6.fr λg hg hg'=>by
   simp only[zF]at hg';subst hg';exact o5'.nb b5 (by decide) hg
  refine A3 x46 rfl (AA x26 rfl (ES (e:=la)) rfl λw7 hu7=>A3 hu7.at_ rfl ?_);refine fin la wk w7 (hu7.fr.at_ xx6 (by simp;omega)) λw8 hf8=>h2 la hla (v8 A (l.length-1) cp) w8 ?_ ?_ (J2 _ _ _ _ _)
  ·exact (((f4.then hu5.fr (by simp;omega)).w.trans hu6.fr).then hu7.fr (by simp;omega)).then hf8 (by simp;omega)
  ·refine⟨hf8.at_ (hu7.fr.at_ (by simpa using hu6.at_) (by simp;omega)) (by simp;omega),?_,hr,by simp;omega⟩;have e6:Fb l.dropLast=(Fb l).take (l.length-1):=by simp[Fb,List.dropLast_eq_take]
   rw[e6];have lt6:∀g∈BN (wm.slice A (l.length-1) cp),g<w.heap.size:=λg hg=>h.own.lt (by
    rw[J2 A _ (Fb l).length _ cp]at hg;exact Cb.1 hg)
   exact (o6.keep' hu7.fr λg hg hg'=>by simp only[zF]at hg';have:=lt6 g hg;omega).keep' hf8 λg hg hg'=>by simp only[zF]at hg';have:=lt6 g hg;omega
def Xi(h:Fw w b lv room l over)(hk:K (v6 wg (l.length:Int)) w):I Z 319 #[v7 (wh ⟨b,0,wj⟩)] w K:=by
 refine F319.sh ⟨_,Ck _ _ _ Tryz.underlying173,?_⟩
 try simp only[Ag]
 refine F319.k3.to ?_
 try simp only[zv]
 refine Ad (v:=lv) h.blk rfl (AH h.own.rd ?_);rw[Fd];exact hk
def PE(h:Fw w b lv room l over)(hk:K (wd over) w):I Z 320 #[v7 (wh ⟨b,0,wj⟩)] w K:=by
 refine F320.sh ⟨_,CJ _ _ _ Tryz.underlying173,?_⟩
 try simp only[zv]
 refine Ad (v:=wd over) h.blk rfl ?_;exact hk
def RP(h:Fw w b lv room l over)(hk:∀w',Fr [b] w w'->Fw w' b lv room l wl->K (wd over) w'):I Z 342 #[v7 (wh ⟨b,0,wj⟩)] w K:=by
 refine F342.sh (PE h ?_);cases over with
 | false=>
  try simp only[zv]
  exact F342.k4.to (hk w (Fr.refl _ _) h)
 | true=>
  try simp only[zv]
  refine AI h.blk rfl rfl (by simp) λw1 hu=>F342.k4.to (hk w1 hu.fr ⟨by simpa using hu.at_,h.own.keep' hu.fr (λg hg hg'=>by
   simp only[zF]at hg';subst hg';exact h.own.nb h.blk (by decide) hg),h.rm,h.le⟩)
end
structure CR where
 gr:Nat
 wa:Nat
 sk:Nat
 mb:Nat
structure CY(G:CR)(lv:wm)(room:Int)(w:wn)(g:Gy):Prop where
 gb:w.heap[G.gr]?=wh (wt #[v7 (wh ⟨G.wa,0,wj⟩),v7 (wh ⟨G.mb,0,wj⟩)] 180 (0,0))
 wb:w.heap[G.wa]?=wh (wt #[v7 (wh ⟨G.sk,0,wj⟩)] 176 (0,0))
 stk:Fw w G.sk lv room g.l g.over
 mb:Da w G.mb 2048 g.mks
def CR.S(G:CR)(lv:wm):List Nat:=G.sk::G.mb::BN lv
def CR.all(G:CR)(lv:wm):List Nat:=G.gr::G.wa::G.S lv
def Gr(w:wn)(v v':wm):Prop:=∀x∈BN v',x∈BN v∨w.heap.size<=x
def Gr.refl(w:wn)(v:wm):Gr w v v:=λx hx => .inl hx
def Gr.trans{w w':wn}{v v' v'':wm}(h:Gr w v v')(k:Gr w' v' v'')(hs:w.heap.size<=w'.heap.size):Gr w v v'':=λx hx=>by
 rcases k x hx with c|c
 ·exact h x c
 ·exact .inr (by omega)
structure DW(G:CR)(lv:wm)(w:wn)(lv':wm)(w':wn):Prop where
 fr:Fr (G.S lv) w w'
 gr:Gr w lv lv'
def DW.trans{G:CR}{lv lv' lv'':wm}{w w' w'':wn}(h:DW G lv w lv' w')(k:DW G lv' w' lv'' w''):DW G lv w lv'' w'':=
 ⟨h.fr.then k.fr λx hx=>by
  simp only[CR.S,ux]at hx ⊢;rcases hx with c|c|c
  ·exact .inl (.inl c)
  ·exact .inl (.inr (.inl c))
  ·rcases h.gr x c with d|d
   ·exact .inl (.inr (.inr d))
   ·exact .inr d,h.gr.trans k.gr h.fr.size⟩
def DW.w{G:CR}{lv:wm}{w w':wn}(h:Fr [] w w'):DW G lv w lv w':=⟨h.w,Gr.refl _ _⟩
def DW.m{G:CR}{lv:wm}{w w':wn}(h:Fr [G.mb] w w'):DW G lv w lv w':=⟨h.mono λx hx=>by simp only[zF]at hx;simp[CR.S,hx],Gr.refl _ _⟩
def DW.s{G:CR}{lv lv':wm}{w w':wn}(h:Fr [G.sk] w w')(hg:Gr w lv lv'):DW G lv w lv' w':=⟨h.mono λx hx=>by simp only[zF]at hx;simp[CR.S,hx],hg⟩
def DW.l{G:CR}{lv lv':wm}{w w':wn}(h:Fr (G.sk::BN lv) w w')(hg:Gr w lv lv'):DW G lv w lv' w':=⟨h.mono λx hx=>by simp only[ux]at hx;rcases hx with c | c<;>simp[CR.S,c],hg⟩
section
variable{K:VK}{w w':wn}{G:CR}{lv:wm}{room:Int}{g:Gy}
def CY.keep{S:List Nat}(h:CY G lv room w g)(hf:Fr S w w')(ha:∀x∈G.all lv,x∉S):CY G lv room w' g:=
 ⟨hf.at_ h.gb (ha _ (by simp[CR.all])),hf.at_ h.wb (ha _ (by simp[CR.all])),h.stk.keep hf (ha _ (by simp[CR.all,CR.S])) (λx hx=>ha x (by simp[CR.all,CR.S,hx])),h.mb.keep hf (ha _ (by simp[CR.all,CR.S]))⟩
def CY.keep0(h:CY G lv room w g)(hf:Fr [] w w'):CY G lv room w' g:=h.keep hf (by simp)
def CY.lt(h:CY G lv room w g):∀x∈G.all lv,x<w.heap.size:=λx hx=>by
 obtain⟨ts,t1,_⟩:=h.mb.blk;simp only[CR.all,CR.S,ux]at hx;rcases hx with rfl|rfl|rfl|rfl|hx
 ·exact BP h.gb
 ·exact BP h.wb
 ·exact BP h.stk.blk
 ·exact BP t1
 ·exact h.stk.own.lt (Cb.1 hx)
def CY.setMk{m:Bs}(h:CY G lv room w g)(hf:Fr [G.mb] w w')(hm:Da w' G.mb 2048 m):CY G lv room w' { g with mks:=m }:=by
 obtain⟨ts,t1,_⟩:=h.mb.blk;exact⟨hf.at_ h.gb (by simp only[zF];exact CZ h.gb t1 (by simp)),hf.at_ h.wb (by simp only[zF];exact CZ h.wb t1 (by simp)),h.stk.keep hf (by simp only[zF];exact CZ h.stk.blk t1 (by simp)) (λx hx e=>by
  simp only[zF]at e;subst e;exact h.stk.own.nb t1 (by decide) hx),hm⟩
def CY.setSt{lv':wm}{l:List (Int × Int)}{o:Bool}(h:CY G lv room w g)(hf:Fr (G.sk::BN lv) w w')(hm:Fw w' G.sk lv' room l o):CY G lv' room w' { g with l:=l,over:=o }:=by
 obtain⟨ts,t1,_⟩:=h.mb.blk;have no:∀ {b:Nat} {cs:Array wm} {e:TypeId},w.heap[b]?=wh (wt cs e (0,0))->e≠252->e≠310->b∉G.sk::BN lv:=λhb h1 h2 hx=>by
  simp only[ux]at hx;rcases hx with c|c
  ·exact CZ hb h.stk.blk (by simp[h1]) c
  ·exact h.stk.own.nb hb (vv h2) c
 exact⟨hf.at_ h.gb (no h.gb (by decide) (by decide)),hf.at_ h.wb (no h.wb (by decide) (by decide)),hm,h.mb.keep hf (no t1 (by decide) (by decide))⟩
def JH(h:CY G lv room w g)(hk:K (v7 (wh ⟨G.wa,0,wj⟩)) w):I Z 292 #[v7 (wh ⟨G.gr,0,wj⟩)] w K:=by
 refine F292.sh ⟨_,Ck _ _ _ Tryz.underlying120,?_⟩
 try simp only[zv]
 refine Ad (v:=v7 (wh ⟨G.wa,0,wj⟩)) h.gb rfl ⟨_,Ck _ _ _ Tryz.underlying172,?_⟩
 try simp only[Ag]
 refine F292.k3.to ?_
 try simp only[zv]
 exact Ad (v:=v7 (wh ⟨G.wa,0,wj⟩)) h.gb rfl hk
def Rk(h:CY G lv room w g)(hk:K (v7 (wh ⟨G.mb,0,wj⟩)) w):I Z 276 #[v7 (wh ⟨G.gr,0,wj⟩)] w K:=by
 refine F276.sh ⟨_,Ck _ _ _ Tryz.underlying120,?_⟩
 try simp only[Ag]
 refine F276.k3.to ?_
 try simp only[zv]
 exact Ad (v:=v7 (wh ⟨G.mb,0,wj⟩)) h.gb rfl hk
def UU{a:Int}(h:CY G lv room w g)(hk:K (wd (g.is a)) w):I Z 230 #[v7 (wh ⟨G.gr,0,wj⟩),v6 wg a] w K:=
 F230.sh (Rk h (Nz h.mb hk))
def TL{a:Int}:({ g with mks:=J1 2048 g.mks a }:Gy)=g.black a:=by unfold Gy.black J1;split<;>rfl
def NE{a:Int}(h:CY G lv room w g)(hk:∀w',Fr [G.mb] w w'->CY G lv room w' (g.black a)->K (wd (decide (0<=a/\a<2048/\¬g.is a))) w'):I Z 260 #[v7 (wh ⟨G.gr,0,wj⟩),v6 wg a] w K:=by
 refine F260.sh (Rk h (Qq h.mb λw1 hf1 h1=>?_));have:=hk w1 hf1 (TL ▸ h.setMk hf1 h1);have e:(decide (0<=a) && decide (a<2048) && !g.mks a.toNat)=decide (0<=a/\a<2048/\¬g.is a):=by
  unfold Gy.is Fu;by_cases c1:0<=a
  ·by_cases c2:a<2048
   ·cases c3:g.mks a.toNat<;>simp[c1,c2]
   ·simp[c2]
  ·simp[c1]
 rw[e];exact this
def T3{a:Int}(h:CY G lv room w g)(hk:∀w',Fr [G.mb] w w'->CY G lv room w' (g.clear a)->K (wd (g.is a)) w'):I Z 326 #[v7 (wh ⟨G.gr,0,wj⟩),v6 wg a] w K:=by
 refine F326.sh (Rk h (NK h.mb λw1 hf1 h1=>?_));have e:({ g with mks:=KQ 2048 g.mks a }:Gy)=g.clear a:=by unfold Gy.clear KQ Gy.is;split<;>rfl
 exact hk w1 hf1 (e ▸ h.setMk hf1 h1)
def P4{e:Int × Int}(h:CY G lv room w g)(hk:∀b lv' w',DW G lv w lv' w'->CY G lv' room w' (g.push room e)->K (wd b) w'):I Z 261 #[v7 (wh ⟨G.gr,0,wj⟩),Et e] w K:=by
 refine F261.sh (Ar λx w1 hn=>A9 (λw'=>w'.heap[x]?=wh (wt #[v6 wg e.1,v6 wg e.2] 310 (0,0))) λw2 hf2 _=>⟨hf2.at_ hn.at_ (by simp),?_⟩);have ln:=hn.is;have x2:=hf2.at_ hn.at_ (by simp);have f2:=hn.fr.trans hf2;have h2:=h.keep0 f2;refine AO (vs:=[v6 wg e.1,v6 wg e.2]) (λw' hw=>⟨_,_,_,hw,by simp,rfl⟩) ⟨JH h2 ⟨x2,?_⟩,trivial⟩
 try simp only[Al]
 refine⟨A3 h2.wb rfl ⟨x2,?_⟩,trivial⟩;refine⟨F293.sh (Ar λy w3 hn3=>Ar λz w4 hn4=>?_),trivial⟩;have f4:=hn3.fr.trans hn4.fr;have h4:=h2.keep0 f4;have l3:=hn3.is
 try simp only[zv]
 refine Ad (v:=v7 (wh ⟨G.sk,0,wj⟩)) (hn4.fr.at_ hn3.at_ (by simp)) rfl (A3 hn4.at_ rfl ?_);have nx:∀g∈G.S lv,g<w.heap.size:=λg hg=>h.lt g (by simp[CR.all,hg]);have x4:=f4.at_ x2 (by simp);have hx:x∉G.S lv:=λhg=>by have:=nx x hg;omega
 unfold Gy.push at hk;refine Xa (e:=e) h4.stk (λc w5 hf5 h5=>⟨hf5.at_ x4 (by simp only[zF];intro ee;exact hx (by simp[CR.S,ee])),?_⟩) λc lv' w5 hf5 h5 hg5=>⟨hf5.at_ x4 (λee=>hx (by simp only[ux]at ee;rcases ee with d | d<;>simp[CR.S,d])),?_⟩
 ·rw[vy c]at hk;exact hk wl lv w5 ((DW.w (f2.trans f4)).trans (DW.s hf5 (Gr.refl _ _))) (h4.setSt (hf5.mono (by simp)) h5)
 ·rw[vx c]at hk;exact hk wk lv' w5 ((DW.w (f2.trans f4)).trans (DW.l hf5 hg5)) (h4.setSt hf5 h5)
def Qu(h:CY G lv room w g)(hk:∀w',Fr [] w w'->K (v6 wg (g.l.length:Int)) w'):I Z 270 #[v7 (wh ⟨G.gr,0,wj⟩)] w K:=by
 refine F270.sh (JH h ?_)
 try simp only[Al]
 refine A3 h.wb rfl (F299.sh (Ar λy w1 hn=>?_))
 try simp only[zv]
 exact Ad (v:=v7 (wh ⟨G.sk,0,wj⟩)) hn.at_ rfl (Xi (h.keep0 hn.fr).stk (hk w1 hn.fr))
def Vu(h:CY G lv room w g)(hk:∀w',Fr [] w w'->K (wd g.over) w'):I Z 271 #[v7 (wh ⟨G.gr,0,wj⟩)] w K:=by
 refine F271.sh (JH h ?_)
 try simp only[Al]
 refine A3 h.wb rfl (F300.sh (Ar λy w1 hn=>?_))
 try simp only[zv]
 exact Ad (v:=v7 (wh ⟨G.sk,0,wj⟩)) hn.at_ rfl (PE (h.keep0 hn.fr).stk (hk w1 hn.fr))
def Rz(h:CY G lv room w g)(hk:∀w',DW G lv w lv w'->CY G lv room w' { g with over:=wl }->K (wd g.over) w'):I Z 323 #[v7 (wh ⟨G.gr,0,wj⟩)] w K:=by
 refine F323.sh (JH h ?_)
 try simp only[Al]
 refine A3 h.wb rfl (F336.sh (Ar λy w1 hn=>?_))
 try simp only[zv]
 have h1:=h.keep0 hn.fr;exact Ad (v:=v7 (wh ⟨G.sk,0,wj⟩)) hn.at_ rfl (RP h1.stk λw2 hf2 h2=>hk w2 ((DW.w hn.fr).trans (DW.s hf2 (Gr.refl _ _))) (h1.setSt (hf2.mono (by simp)) h2))
def Vt(h:CY G lv room w g)(h1:g.l=[]->∀w',Fr [] w w'->K (wc #[Et (0,0),wd wl]) w')(h2:∀e,g.l.getLast?=wh e->∀lv' w',DW G lv w lv' w'->CY G lv' room w' { g with l:=g.l.dropLast }->K (wc #[Et e,wd wk]) w'):
  I Z 321 #[v7 (wh ⟨G.gr,0,wj⟩)] w K:=by
 refine F321.sh (Ar λx w1 hn=>JH (h.keep0 hn.fr) ?_)
 try simp only[Al]
 refine A3 (hn.fr.at_ h.wb (by simp)) rfl (F334.sh (Ar λy w2 hn2=>Ar λz w3 hn3=>?_));have l1:=hn.is;have l2:=hn2.is;have l3:=hn3.is;have s1:=hn.fr.size;have s2:=hn2.fr.size;have f3:=(hn.fr.trans hn2.fr).trans hn3.fr;have h3:=h.keep0 f3;have x3:=(hn2.fr.trans hn3.fr).at_ hn.at_ (by simp);have z3:=hn3.at_;have lx:=BP hn.at_
 try simp only[zv]
 have fin:∀(e:Int × Int) (c:Bool) w4,w4.heap[x]?=wh (wt #[v6 wg 0,v6 wg 0] 310 (0,0))->w4.heap[z]?=wh (wt #[v6 wg 0,v6 wg 0] 310 (0,0))->(∀w',Fr [x,z] w4 w'->K (wc #[Et e,wd c]) w')->
   Aj 2 (v7 (wh ⟨z,0,wj⟩)) (Et e) w4 λw5=>Ak 2 (v7 (wh ⟨z,0,wj⟩)) w5 λr6 _=>Aj 2 (v7 (wh ⟨x,0,wj⟩)) r6 w5 λw8=>Ak 2 (v7 (wh ⟨x,0,wj⟩)) w8 λr9 _=>K (wc #[r9,wd c]) w8:=λe c w4 hx hz hk=>by
  refine AA hz rfl ES rfl λw5 hu=>A3 hu.at_ rfl ?_;refine AA (hu.fr.at_ hx (by simp;omega)) rfl (ES (e:=e)) rfl λw6 hu6=>A3 hu6.at_ rfl ?_;exact hk w6 ((hu.fr.mono (by simp)).trans (hu6.fr.mono (by simp)))
 refine Ad (v:=v7 (wh ⟨G.sk,0,wj⟩)) (hn3.fr.at_ hn2.at_ (by simp)) rfl (Yp h3.stk (λc w4 hf4=>?_) λe c lv' w4 hf4 h4 hb4=>?_)
 ·try simp only[zv]
  refine fin (0,0) wl w4 (hf4.at_ x3 (by simp)) (hf4.at_ z3 (by simp)) λw5 hf5=>h1 c w5 ((f3.trans hf4).then hf5 (by simp;omega))
 ·have lk:=h.lt G.sk (by simp[CR.all,CR.S]);have h4':=h3.setSt (hf4.mono (by simp)) h4
  try simp only[zv]
  refine fin e wk w4 (hf4.at_ x3 (by simp;omega)) (hf4.at_ z3 (by simp;omega)) λw5 hf5=>h2 e c lv' w5 ?_ ?_
  ·have f4:DW G lv w lv' w4:=(DW.w f3).trans (DW.s hf4 (λx hx => .inl (hb4 ▸ hx)));exact⟨f4.fr.then hf5 (by simp;omega),f4.gr⟩
  ·refine h4'.keep hf5 λg hg=>?_;have:g<w.heap.size:=h.lt g (by
    simp only[CR.all,CR.S,hb4]at hg ⊢;exact hg)
   simp;omega
def Mm{a:Int}(h:CY G lv room w g)(hk:∀b lv' w',DW G lv w lv' w'->CY G lv' room w' (g.shade room a)->K (wd b) w'):I Z 210 #[v7 (wh ⟨G.gr,0,wj⟩),v6 wg a] w K:=by
 refine F210.sh (NE h λw1 hf1 h1=>?_);unfold Gy.shade at hk;by_cases c:0<=a/\a<2048/\¬g.is a
 ·rw[vy c]at hk;rw[ur c]
  try simp only[zv]
  refine F210.k3.to (A4 (v:=Et (a,0)) (by kernel_rfl) (P4 (e:=(a,0)) h1 λb lv' w2 hf2 h2=>?_));exact hk wk lv' w2 ((DW.m hf1).trans hf2) h2
 ·rw[vx c]at hk;rw[p9 c]
  try simp only[zv]
  have e:g.black a=g:=by
   unfold Gy.black;split
   ·rename_i d;have hm:g.is a=wk:=by
     cases hh:g.is a with
     | true=>rfl
     | false=>exact absurd ⟨d.1,d.2,by simp[hh]⟩ c
    simp only[Gy.is,Fu,zY]at hm;have:C9 g.mks a.toNat wk=g.mks:=by
     funext j
     unfold C9;split
     ·rename_i ej;rw[ej,hm.2]
     ·rfl
    rw[this]
   ·rfl
  rw[e]at h1;exact hk wl lv w1 (DW.m hf1) h1
end
end
noncomputable section
variable{K:VK}{w:wn}{x0 x1 x2 x3 x4 y0 y1 y2 y3 y4 y5 y6 y7 y8 y9 y11 y12 y13 y14 y15 y16 y17:wm}
def F77.sh(h:(I Z 66 #[x2,(v6 wg 1),(v6 wg 64)] w λa b=>I Z 66 #[x3,(v6 wg 1),(v6 wg 16)] b λc d=>Am Z (Instr.build 188 #[(0,x0),(1,x1),(2,a),(3,c),(4,(v6 wg (-1)))]) d λf g=>Aq (wt (wm.cells f) 188) g λi j=>K i j)):I Z 77 #[x0,x1,x2,x3] w K:=BK (A:=A0) (args:=[x0,x1,x2,x3]) (qq h)
def F217.sh(h:(I Z 269 #[x0] w λa b=>A8 a b λc d=>Aa wl c (λK=>K x0 d) d λf g=>Aa wl c (Ae f g) g λi j=>Aa wl c (Ab 1 i j) j λk m=>Aa wl c (Ac k m) m λo p=>Aa wl c (λK=>I Z 270 #[o] p K) p λq r=>Aa wl c (U .eql q (v6 wg 0) r) r λs t=>Aa wl c (λK=>K s t) t λu v=>Aa wk u (λK=>K x0 v) v λx y=>Aa wk u (Ae x y) y λz aa=>Aa wk u (Ab 4 z aa) aa λab ac=>Aa wk u (Ac ab ac) ac λad ae=>Aa wk u (λK=>U .eql ad (v6 wg (-1)) ae K) ae λaf ag=>Aa wl c (λK=>Aw (wh u) (wh af) (wh (wd wl)) ag K) ag λah ai=>Aa wl c (λK=>K ah ai) ai λaj ak=>Aa wk aj (λK=>K x0 ak) ak λal am=>Aa wk aj (Ae al am) am λan ao=>Aa wk aj (Ab 1 an ao) ao λap aq=>Aa wk aj (Ac ap aq) aq λar au=>Aa wk aj (λK=>I Z 271 #[ar] au K) au λav aw=>Aa wk aj (A8 av aw) aw λax ay=>Aa wl c (λK=>Aw (wh aj) (wh ax) (wh (wd wl)) ay K) ay λaz ba=>Aw (wh c) (wh (wd wk)) (wh az) ba λbb bc=>K bb bc)):I Z 217 #[x0] w K:=BK (A:=A0) (args:=[x0]) (qq h)
def F269.sh(h:(AB Z .neq 126 (.tmp 3) (.const (v7 wj)) x0 (v7 wj) w λa b=>Aa wk a (λK=>K x0 b) b λc d=>Aa wk a (Ae c d) d λf g=>Aa wk a (Ab 2 f g) g λi j=>Aa wk a (Ac i j) j λk m=>Aa wk a (U .gtr k (v6 wg 0) m) m λo p=>Aw (wh a) (wh o) (wh (wd wl)) p λq r=>K q r)):I Z 269 #[x0] w K:=BK (A:=A0) (args:=[x0]) (qq h)
namespace F303
def ann:=a1 [(3,[0]),(10,[0])]
def code:=cd f303
def BM:=tp f303
variable(K:VK)(y0:wm)(w:wn)
def k3:=nk ann 36 [(0,y0)] w [1,1] code (BM K)
def k10:=nk ann 36 [(0,y0)] w [1,1,1,1] code (BM K)
attribute [irreducible] k3 k10
end F303
def F303.k3.to(h:(Ae y0 w λa b=>Ab 1 a b λc d=>Ac c d λf g=>I Z 321 #[f] g λi j=>Ao 0 i j λk m=>Ao 1 i m λo p=>Aq (wt #[v6 wg 0,v6 wg 0] 310) p λq r=>Aj 2 q k r λs=>Af o (Ak 2 q s λt u=>I Z 322 #[y0,t] u λv x=>K (wd wk) x) (Ae y0 s λy z=>Ab 4 y z λaa ab=>Ac aa ab λac ad=>U .eql ac (v6 wg (-1)) ad λae af=>Af ae (Ae y0 af λag ah=>Ab 1 ag ah λai aj=>Ac ai aj λak al=>I Z 323 #[ak] al λam an=>Ae y0 an λao ap=>Ab 4 ao ap λaq ar=>Aj 1 aq (v6 wg 0) ar λau=>F303.k10 K y0 au) (F303.k10 K y0 af)))):F303.k3 K y0 w:=qq h
def F303.k10.to(h:(I Z 324 #[y0] w λa b=>K (wd wk) b)):F303.k10 K y0 w:=qq h
def F303.sh(h:(I Z 217 #[x0] w λa b=>Af a (K (wd wl) b) (F303.k3 K x0 b))):I Z 303 #[x0] w K:=BK (A:=F303.ann) (args:=[x0]) (qq h)
namespace F322
def ann:Cg:=⟨[(3,[0,3,4]),(6,[0,3,5])],[],[],[(1,(tk [0,1,2,4,3,5] (.go 6 (.take 7 .fin) .fin))),(3,(tk [0,2,3,4,7,1,5,6,8,9] .fin)),(5,(tk [0,1,2,4,6,3,5,7] (.go 8 .fin .fin)))],wj⟩
def code:=cd f322
def BM:=tp f322
variable(K:VK)(y0 y3 y4 y5:wm)(w:wn)
def k3:=nk ann 50 [(0,y0),(3,y3),(4,y4)] w [1,1,1] code (BM K)
def k6:=nk ann 50 [(0,y0),(3,y3),(5,y5)] w [1,1,1,1,1] code (BM K)
attribute [irreducible] k3 k6
end F322
def F322.k3.to(h:(A2 w λS a=>Ab 1 y3 a λb c=>Ae y0 c λd f=>Ab 3 d f λg i=>An S b i λj k=>An S g k λm o=>U .add j m o λp q=>∃r,(∀w',S w'->(builtin .min #[3,3] 3 #[wl,wl] #[p,y4]).run Z w'=.ok (.value r) w')/\(U .lss r y4 q λs t=>Af s (A2 t λS u=>Ae y0 u λv x=>Ab 1 v x λy z=>Ab 0 y3 z λaa ab=>An S y ab λac ad=>An S aa ad λae af=>∃ag,(∀w',S w'->(Instr.build 310 #[(0,ae),(1,r)]).run Z w'=.ok ag w')/\((I Z 261 #[ac,ag] af λah ai=>(S ai/\
 F322.k6 K y0 y3 r ai))/\True)) (F322.k6 K y0 y3 r t)))):F322.k3 K y0 y3 y4 w:=qq h
def F322.k6.to(h:(Ab 0 y3 w λa b=>Ac a b λc d=>Ab 1 y3 d λf g=>Ac f g λi j=>I Z 335 #[y0,c,i,y5] j λk m=>K (wc #[]) m)):F322.k6 K y0 y3 y5 w:=qq h
def F322.sh(h:(Aq (wt (wm.cells x1) 310) w λa b=>A2 b λS c=>Ae x0 c λd f=>Ab 0 d f λg i=>Ab 0 a i λj k=>An S g k λm o=>An S j o λp q=>(I Z 128 #[m,p] q λr s=>(S s/\
 Ab 1 a s λt u=>Ac t u λv x=>U .lss v (v6 wg 0) x λy z=>Aa wl y (Ab 1 a z) z λaa ab=>Aa wl y (Ac aa ab) ab λac ad=>Aa wl y (λK=>K r ad) ad λae af=>Aa wl y (U .geq ac ae af) af λag ah=>Aw (wh y) (wh (wd wk)) (wh ag) ah λai aj=>Af ai (K (wc #[]) aj) (F322.k3 K x0 a r aj)))/\True)):I Z 322 #[x0,x1] w K:=BK (A:=F322.ann) (args:=[x0,x1]) (qq h)
namespace F324
def ann:Cg:=⟨[(2,[0,12,13,14]),(5,[0,12,13,14]),(6,[0])],[(1,[0,12,13,14])],[],[(0,(tk [0,1,2,4,5,6,10,3,7] (.go 8 (.take 9 .fin) .fin))),(7,(tk [0,1,2,4,5,6,3,7,8] .fin))],wj⟩
def code:=cd f324
def BM:=tp f324
variable(K:VK)(y0 y12 y13 y14:wm)(w:wn)
def k6:=nk ann 53 [(0,y0)] w [1] code (BM K)
def l1:=nl ann 53 [(0,y0),(12,y12),(13,y13),(14,y14)] w [0,1,0] code (BM K)
def k2:=nk ann 53 [(0,y0),(12,y12),(13,y13),(14,y14)] w [0,1,0,0,1,1] code (BM K)
def k5:=nk ann 53 [(0,y0),(12,y12),(13,y13),(14,y14)] w [0,1,0,0,1,1,1] code (BM K)
attribute [irreducible] k6 l1 k2 k5
end F324
def F324.k6.to(h:(Ae y0 w λa b=>Ab 4 a b λc d=>Ac c d λf g=>U .add f (v6 wg 1) g λi j=>Ae y0 j λk m=>Ab 4 k m λo p=>Aj 1 o i p λq=>A2 q λS r=>Ae y0 r λs t=>Ab 4 s t λu v=>Ae y0 v λx y=>Ab 2 x y λz aa=>An S u aa λab ac=>An S z ac λad ae=>U .eql ab ad ae λaf ag=>Af af (Ae y0 ag λah ai=>Ab 4 ah ai λaj ak=>Aj 1 aj (v6 wg (-1)) ak λal=>K (wc #[]) al) (K (wc #[]) ag))):F324.k6 K y0 w:=qq h
def F324.l1.to(h:(U .lss y14 y13 w λa b=>Af a (F324.k2 K y0 y12 y13 y14 b) (F324.k6 K y0 b))):F324.l1 K y0 y12 y13 y14 w:=by unfold F324.l1 nl;exact BW (qq h)
def F324.k2.to(h:(AC 1 y12 y14 w λa b=>Ac a b λc d=>Ae y0 d λf g=>Ab 1 f g λi j=>Ac i j λk m=>I Z 230 #[k,c] m λo p=>Af o (Ae y0 p λq r=>Ab 0 q r λs t=>Ac s t λu v=>I Z 128 #[u,c] v λx y=>I Z 335 #[y0,c,(v6 wg 0),x] y λz aa=>F324.k5 K y0 y12 y13 y14 aa) (F324.k5 K y0 y12 y13 y14 p))):F324.k2 K y0 y12 y13 y14 w:=qq h
def F324.k5.to(h:(U .add y14 (v6 wg 1) w λa b=>F324.l1 K y0 y12 y13 a b)):F324.k5 K y0 y12 y13 y14 w:=qq h
def F324.sh(h:(A2 w λS a=>Ae x0 a λb c=>Ab 0 b c λd f=>Ae x0 f λg i=>Ab 4 g i λj k=>An S d k λm o=>An S j o λp q=>(I Z 325 #[m,p] q λr s=>(S s/\
 AD r s λt u=>F324.l1 K x0 r t (v6 wg 0) u))/\True)):I Z 324 #[x0] w K:=BK (A:=F324.ann) (args:=[x0]) (qq h)
namespace F335
def ann:Cg:=⟨[(2,[0,1,3,8]),(3,[0,1,3,8])],[(1,[0,1,3,8])],[],[(5,(tk [0,1,2,4,3,5] (.go 6 .fin .fin)))],wj⟩
def code:=cd f335
def BM:=tp f335
variable(K:VK)(y0 y1 y3 y8:wm)(w:wn)
def l1:=nl ann 37 [(0,y0),(1,y1),(3,y3),(8,y8)] w [1,0] code (BM K)
def k3:=nk ann 37 [(0,y0),(1,y1),(3,y3),(8,y8)] w [1,0,0,1] code (BM K)
def k2:=nk ann 37 [(0,y0),(1,y1),(3,y3),(8,y8)] w [1,0,0,1,1] code (BM K)
attribute [irreducible] l1 k3 k2
end F335
def F335.l1.to(h:(U .lss y8 y3 w λa b=>Af a (F335.k3 K y0 y1 y3 y8 b) (K (wc #[]) b))):F335.l1 K y0 y1 y3 y8 w:=by unfold F335.l1 nl;exact BW (qq h)
def F335.k3.to(h:(Ae y0 w λa b=>Ab 0 a b λc d=>Ac c d λf g=>I Z 129 #[f,y1,y8] g λi j=>Ao 0 i j λk m=>Ao 1 i m λo p=>Aq (wt #[v6 wg 0,v6 wg 0] 60) p λq r=>Aj 2 q k r λs=>Ab 0 q s λt u=>Ac t u λv x=>U .eql v (v6 wg 2) x λy z=>Af y (A2 z λS aa=>Ae y0 aa λab ac=>Ab 1 ab ac λad ae=>Ab 1 q ae λaf ag=>An S ad ag λah ai=>An S af ai λaj ak=>(I Z 210 #[ah,aj] ak λal am=>(S am/\
 F335.k2 K y0 y1 y3 y8 am))/\True) (F335.k2 K y0 y1 y3 y8 z))):F335.k3 K y0 y1 y3 y8 w:=qq h
def F335.k2.to(h:(U .add y8 (v6 wg 1) w λa b=>F335.l1 K y0 y1 y3 a b)):F335.k2 K y0 y1 y3 y8 w:=qq h
def F335.sh(h:(F335.l1 K x0 x1 x3 x2 w)):I Z 335 #[x0,x1,x2,x3] w K:=BK (A:=F335.ann) (args:=[x0,x1,x2,x3]) (qq h)
def F78.sh(h:(I Z 66 #[x2,(v6 wg 1),(v6 wg 64)] w λa b=>Am Z (Instr.build 190 #[(0,x0),(1,x1),(2,a),(3,a)]) b λc d=>Aq (wt (wm.cells c) 190) d λf g=>K f g)):I Z 78 #[x0,x1,x2] w K:=BK (A:=A0) (args:=[x0,x1,x2]) (qq h)
def F218.sh(h:(AB Z .neq 127 (.tmp 2) (.const (v7 wj)) x0 (v7 wj) w λa b=>Af a (Ae x0 b λc d=>Ab 3 c d λf g=>Aj 1 f (v6 wg 0) g λi=>Ae x0 i λj k=>Ab 4 j k λm o=>Aj 1 m (v6 wg 0) o λp=>K (wc #[]) p) (K (wc #[]) b))):I Z 218 #[x0] w K:=BK (A:=A0) (args:=[x0]) (qq h)
namespace F220
def ann:=a1 [(3,[0])]
def code:=cd f220
def BM:=tp f220
variable(K:VK)(y0:wm)(w:wn)
@[irreducible]def k3:=nk ann 9 [(0,y0)] w [1,1] code (BM K)
end F220
def F220.k3.to(h:(Ae y0 w λa b=>Ab 3 a b λc d=>Ac c d λf g=>K f g)):F220.k3 K y0 w:=qq h
def F220.sh(h:(AB Z .eql 127 (.tmp 3) (.const (v7 wj)) x0 (v7 wj) w λa b=>Af a (K (v6 wg 0) b) (F220.k3 K x0 b))):I Z 220 #[x0] w K:=BK (A:=F220.ann) (args:=[x0]) (qq h)
namespace F304
def ann:Cg:=⟨[(3,[0]),(5,[0,15,16,17]),(8,[0,15,16,17]),(9,[0])],[(4,[0,15,16,17])],[],[(3,(tk [0,1,2,4,5,6,10,3,7] (.go 8 (.take 9 .fin) .fin))),(9,(tk [0,1,2,4,5,6,3,7] (.go 8 .fin .fin)))],wj⟩
def code:=cd f304
def BM:=tp f304
variable(K:VK)(y0 y15 y16 y17:wm)(w:wn)
def k3:=nk ann 60 [(0,y0)] w [1,1] code (BM K)
def k9:=nk ann 60 [(0,y0)] w [1,1,1] code (BM K)
def l4:=nl ann 60 [(0,y0),(15,y15),(16,y16),(17,y17)] w [1,1,0,1,0] code (BM K)
def k5:=nk ann 60 [(0,y0),(15,y15),(16,y16),(17,y17)] w [1,1,0,1,0,0,1,1] code (BM K)
def k8:=nk ann 60 [(0,y0),(15,y15),(16,y16),(17,y17)] w [1,1,0,1,0,0,1,1,1] code (BM K)
attribute [irreducible] k3 k9 l4 k5 k8
end F304
def F304.k3.to(h:(A2 w λS a=>Ae y0 a λb c=>Ab 0 b c λd f=>Ae y0 f λg i=>Ab 3 g i λj k=>An S d k λm o=>An S j o λp q=>(I Z 325 #[m,p] q λr s=>(S s/\
 AD r s λt u=>F304.l4 K y0 r t (v6 wg 0) u))/\True)):F304.k3 K y0 w:=qq h
def F304.k9.to(h:(A2 w λS a=>Ae y0 a λb c=>Ab 0 b c λd f=>Ae y0 f λg i=>Ab 3 g i λj k=>An S d k λm o=>An S j o λp q=>(I Z 328 #[m,p] q λr s=>(S s/\
 Ae y0 s λt u=>Ab 3 t u λv x=>Ac v x λy z=>U .add y (v6 wg 1) z λaa ab=>Ae y0 ab λac ad=>Ab 3 ac ad λae af=>Aj 1 ae aa af λag=>K (wd wk) ag))/\True)):F304.k9 K y0 w:=qq h
def F304.l4.to(h:(U .lss y17 y16 w λa b=>Af a (F304.k5 K y0 y15 y16 y17 b) (F304.k9 K y0 b))):F304.l4 K y0 y15 y16 y17 w:=by unfold F304.l4 nl;exact BW (qq h)
def F304.k5.to(h:(AC 1 y15 y17 w λa b=>Ac a b λc d=>Ae y0 d λf g=>Ab 1 f g λi j=>Ac i j λk m=>I Z 326 #[k,c] m λo p=>A8 o p λq r=>Aa wk q (λK=>K y0 r) r λs t=>Aa wk q (Ae s t) t λu v=>Aa wk q (Ab 0 u v) v λx y=>Aa wk q (Ac x y) y λz aa=>Aa wk q (λK=>K c aa) aa λab ac=>Aa wk q (λK=>I Z 327 #[z,ab] ac K) ac λad ae=>Aw (wh q) (wh ad) (wh (wd wl)) ae λaf ag=>Af af (Ae y0 ag λah ai=>Ab 4 ah ai λaj ak=>Ac aj ak λal am=>U .add al (v6 wg 1) am λan ao=>Ae y0 ao λap aq=>Ab 4 ap aq λar au=>Aj 1 ar an au λav=>F304.k8 K y0 y15 y16 y17 av) (F304.k8 K y0 y15 y16 y17 ag))):F304.k5 K y0 y15 y16 y17 w:=qq h
def F304.k8.to(h:(U .add y17 (v6 wg 1) w λa b=>F304.l4 K y0 y15 y16 a b)):F304.k8 K y0 y15 y16 y17 w:=qq h
def F304.sh(h:(I Z 305 #[x0] w λa b=>Af a (K (wd wl) b) (F304.k3 K x0 b))):I Z 304 #[x0] w K:=BK (A:=F304.ann) (args:=[x0]) (qq h)
namespace F305
def ann:Cg:=⟨[],[],[],[(1,(tk [0,1,2,3,4,5,7,8,9,6,10,11,12,13] .fin))],wj⟩
end F305
def F305.sh(h:(A2 w λS a=>∃b,(∀w',S w'->((do eqGuard .eql 127 (.tmp 3) (.const (v7 wj)) x0 (v7 wj);binOp .eql 127 x0 (v7 wj):Sem wm)).run Z w'=.ok b w')/\(Aa wl b (λK=>K x0 a) a λc d=>Aa wl b (Ae c d) d λf g=>Aa wl b (Ab 3 f g) g λi j=>Aa wl b (λK=>K x0 j) j λk m=>Aa wl b (Ae k m) m λo p=>Aa wl b (Ab 2 o p) p λq r=>Aa wl b (An S i r) r λs t=>Aa wl b (An S q t) t λu v=>Aa wl b (U .geq s u v) v λx y=>Aw (wh b) (wh (wd wk)) (wh x) y λz aa=>K z aa))):I Z 305 #[x0] w K:=BK (A:=F305.ann) (args:=[x0]) (qq h)
namespace F47
def ann:=a1 [(3,[0,1])]
def code:=cd f47
def BM:=tp f47
variable(K:VK)(y0 y1:wm)(w:wn)
@[irreducible]def k3:=nk ann 15 [(0,y0),(1,y1)] w [1,1] code (BM K)
end F47
def F47.k3.to(h:(Ae y0 w λa b=>Ab 16 a b λc d=>AQ 8 1 c y1 d λf g=>I Z 82 #[f] g λi j=>K i j)):F47.k3 K y0 y1 w:=qq h
def F47.sh(h:(I Z 53 #[x0,x1] w λa b=>A8 a b λc d=>Af c (K (v8 wj 0 0) d) (F47.k3 K x0 x1 d))):I Z 47 #[x0,x1] w K:=BK (A:=F47.ann) (args:=[x0,x1]) (qq h)
namespace F49
def ann:=a1 [(3,[0,1])]
def code:=cd f49
def BM:=tp f49
variable(K:VK)(y0 y1:wm)(w:wn)
@[irreducible]def k3:=nk ann 15 [(0,y0),(1,y1)] w [1,1] code (BM K)
end F49
def F49.k3.to(h:(Ae y0 w λa b=>Ab 0 a b λc d=>Ab 0 c d λf g=>Ac f g λi j=>I Z 89 #[i,y1] j λk m=>K k m)):F49.k3 K y0 y1 w:=qq h
def F49.sh(h:(I Z 88 #[x0] w λa b=>A8 a b λc d=>Af c (K (v6 wg (-1)) d) (F49.k3 K x0 x1 d))):I Z 49 #[x0,x1] w K:=BK (A:=F49.ann) (args:=[x0,x1]) (qq h)
namespace F51
def ann:=a1 [(3,[0])]
def code:=cd f51
def BM:=tp f51
variable(K:VK)(y0:wm)(w:wn)
@[irreducible]def k3:=nk ann 12 [(0,y0)] w [1,1] code (BM K)
end F51
def F51.k3.to(h:(Ae y0 w λa b=>Ab 0 a b λc d=>Ab 0 c d λf g=>Ac f g λi j=>I Z 92 #[i] j λk m=>K k m)):F51.k3 K y0 w:=qq h
def F51.sh(h:(I Z 88 #[x0] w λa b=>A8 a b λc d=>Af c (K (v8 wj 0 0) d) (F51.k3 K x0 d))):I Z 51 #[x0] w K:=BK (A:=F51.ann) (args:=[x0]) (qq h)
def F53.sh(h:(I Z 88 #[x0] w λa b=>Aa wk a (λK=>K x0 b) b λc d=>Aa wk a (Ae c d) d λf g=>Aa wk a (Ab 12 f g) g λi j=>Aa wk a (Ac i j) j λk m=>Aa wk a (λK=>K x1 m) m λo p=>Aa wk a (λK=>I Z 95 #[k,o] p K) p λq r=>Aw (wh a) (wh q) (wh (wd wl)) r λs t=>K s t)):I Z 53 #[x0,x1] w K:=BK (A:=A0) (args:=[x0,x1]) (qq h)
namespace F59
def ann:=a1 [(3,[0])]
def code:=cd f59
def BM:=tp f59
variable(K:VK)(y0:wm)(w:wn)
@[irreducible]def k3:=nk ann 10 [(0,y0)] w [1,1] code (BM K)
end F59
def F59.k3.to(h:(Ae y0 w λa b=>Ab 25 a b λc d=>Ac c d λf g=>K f g)):F59.k3 K y0 w:=qq h
def F59.sh(h:(I Z 88 #[x0] w λa b=>A8 a b λc d=>Af c (K (v6 wg 0) d) (F59.k3 K x0 d))):I Z 59 #[x0] w K:=BK (A:=F59.ann) (args:=[x0]) (qq h)
namespace F83
def ann:=a1 [(3,[0])]
def code:=cd f83
def BM:=tp f83
variable(K:VK)(y0:wm)(w:wn)
@[irreducible]def k3:=nk ann 10 [(0,y0)] w [1,1] code (BM K)
end F83
def F83.k3.to(h:(Ae y0 w λa b=>Ab 24 a b λc d=>Ac c d λf g=>K f g)):F83.k3 K y0 w:=qq h
def F83.sh(h:(I Z 88 #[x0] w λa b=>A8 a b λc d=>Af c (K (v6 wg 0) d) (F83.k3 K x0 d))):I Z 83 #[x0] w K:=BK (A:=F83.ann) (args:=[x0]) (qq h)
def F88.sh(h:(AB Z .neq 86 (.tmp 3) (.const (v7 wj)) x0 (v7 wj) w λa b=>Aa wk a (λK=>K x0 b) b λc d=>Aa wk a (Ae c d) d λf g=>Aa wk a (Ab 0 f g) g λi j=>Aa wk a (Ab 0 i j) j λk m=>Aa wk a (Ac k m) m λo p=>Aa wk a (λK=>AB Z .neq 118 (.tmp 10) (.const (v7 wj)) o (v7 wj) p K) p λq r=>Aw (wh a) (wh q) (wh (wd wl)) r λs t=>K s t)):I Z 88 #[x0] w K:=BK (A:=A0) (args:=[x0]) (qq h)
namespace F90
def ann:=a1 [(3,[0,1])]
def code:=cd f90
def BM:=tp f90
variable(K:VK)(y0 y1:wm)(w:wn)
@[irreducible]def k3:=nk ann 15 [(0,y0),(1,y1)] w [1,1] code (BM K)
end F90
def F90.k3.to(h:(Ae y0 w λa b=>Ab 0 a b λc d=>Ab 0 c d λf g=>Ac f g λi j=>I Z 128 #[i,y1] j λk m=>K k m)):F90.k3 K y0 y1 w:=qq h
def F90.sh(h:(I Z 88 #[x0] w λa b=>A8 a b λc d=>Af c (K (v6 wg (-1)) d) (F90.k3 K x0 x1 d))):I Z 90 #[x0,x1] w K:=BK (A:=F90.ann) (args:=[x0,x1]) (qq h)
namespace F91
def ann:=a1 [(3,[0,1,2,6])]
def code:=cd f91
def BM:=tp f91
variable(K:VK)(y0 y1 y2 y6:wm)(w:wn)
@[irreducible]def k3:=nk ann 22 [(0,y0),(1,y1),(2,y2),(6,y6)] w [1,1] code (BM K)
end F91
def F91.k3.to(h:(Ae y0 w λa b=>Ab 0 a b λc d=>Ab 0 c d λf g=>Ac f g λi j=>I Z 129 #[i,y1,y2] j λk m=>Ao 0 k m λo p=>Ao 1 k p λq r=>Aj 2 y6 o r λs=>Ak 2 y6 s λr9 _=>K (wc #[r9,q]) s)):F91.k3 K y0 y1 y2 y6 w:=qq h
def F91.sh(h:(Aq (wt #[v6 wg 0,v6 wg 0] 60) w λa b=>I Z 88 #[x0] b λc d=>A8 c d λf g=>Af f (Am Z (Instr.build 60 #[]) g λi j=>Aj 2 a i j λk=>Ak 2 a k λr6 _=>K (wc #[r6,(wd wl)]) k) (F91.k3 K x0 x1 x2 a g))):I Z 91 #[x0,x1,x2] w K:=BK (A:=F91.ann) (args:=[x0,x1,x2]) (qq h)
def F98.sh(h:(I Z 88 #[x0] w λa b=>Aa wk a (λK=>K x0 b) b λc d=>Aa wk a (Ae c d) d λf g=>Aa wk a (Ab 12 f g) g λi j=>Aa wk a (Ac i j) j λk m=>Aa wk a (λK=>K x1 m) m λo p=>Aa wk a (λK=>I Z 142 #[k,o] p K) p λq r=>Aw (wh a) (wh q) (wh (wd wl)) r λs t=>K s t)):I Z 98 #[x0,x1] w K:=BK (A:=A0) (args:=[x0,x1]) (qq h)
namespace F99
def ann:=a1 [(3,[0,1]),(6,[0,1])]
def code:=cd f99
def BM:=tp f99
variable(K:VK)(y0 y1:wm)(w:wn)
def k3:=nk ann 45 [(0,y0),(1,y1)] w [1,1] code (BM K)
def k6:=nk ann 45 [(0,y0),(1,y1)] w [1,1,1] code (BM K)
attribute [irreducible] k3 k6
end F99
def F99.k3.to(h:(Ae y0 w λa b=>Ab 13 a b λc d=>Ac c d λf g=>I Z 143 #[f,y1] g λi j=>I Z 144 #[y0] j λk m=>Af k (Ae y0 m λo p=>Ab 0 o p λq r=>Ak 2 q r λs t=>I Z 145 #[s,i] t λu v=>F99.k6 K y0 y1 v) (F99.k6 K y0 y1 m))):F99.k3 K y0 y1 w:=qq h
def F99.k6.to(h:(Ae y0 w λa b=>Ab 16 a b λc d=>AQ 8 1 c y1 d λf g=>I Z 146 #[f] g λi j=>Ae y0 j λk m=>Ab 0 k m λo p=>Ab 0 o p λq r=>Ac q r λs t=>I Z 147 #[s,y1] t λu v=>Ae y0 v λx y=>Ab 12 x y λz aa=>Ac z aa λab ac=>I Z 148 #[ab,y1] ac λad ae=>I Z 149 #[y0] ae λaf ag=>K (wd wk) ag)):F99.k6 K y0 y1 w:=qq h
def F99.sh(h:(I Z 53 #[x0,x1] w λa b=>A8 a b λc d=>Af c (K (wd wl) d) (F99.k3 K x0 x1 d))):I Z 99 #[x0,x1] w K:=BK (A:=F99.ann) (args:=[x0,x1]) (qq h)
namespace F102
def ann:=a1 [(3,[0,1,4])]
def code:=cd f102
def BM:=tp f102
variable(K:VK)(y0 y1 y4:wm)(w:wn)
@[irreducible]def k3:=nk ann 19 [(0,y0),(1,y1),(4,y4)] w [1,1] code (BM K)
end F102
def F102.k3.to(h:(Ae y0 w λa b=>Ab 16 a b λc d=>AQ 8 1 c y1 d λf g=>I Z 156 #[f] g λi j=>Ao 0 i j λk m=>Ao 1 i m λo p=>Aj 2 y4 k p λq=>Ak 2 y4 q λr8 _=>K (wc #[r8,o]) q)):F102.k3 K y0 y1 y4 w:=qq h
def F102.sh(h:(Aq (wt #[v6 wg 0,v6 wg 0] 60) w λa b=>I Z 53 #[x0,x1] b λc d=>A8 c d λf g=>Af f (Am Z (Instr.build 60 #[]) g λi j=>Aj 2 a i j λk=>Ak 2 a k λr6 _=>K (wc #[r6,(wd wl)]) k) (F102.k3 K x0 x1 a g))):I Z 102 #[x0,x1] w K:=BK (A:=F102.ann) (args:=[x0,x1]) (qq h)
namespace F105
def ann:Cg:=⟨[(3,[0,1]),(8,[0])],[],[],[(5,(tk [0,1,2,4,5,6,7,8,3] (.go 9 (.go 10 .fin .fin) .fin))),(7,(tk [0,1,2,4,5,6,8,3,7] (.go 9 (.go 10 .fin .fin) .fin)))],wj⟩
def code:=cd f105
def BM:=tp f105
variable(K:VK)(y0 y1:wm)(w:wn)
def k3:=nk ann 49 [(0,y0),(1,y1)] w [1,1] code (BM K)
def k8:=nk ann 49 [(0,y0)] w [1,1,1] code (BM K)
attribute [irreducible] k3 k8
end F105
def F105.k3.to(h:(Ae y0 w λa b=>Ab 25 a b λc d=>Ac c d λf g=>U .eql f (v6 wg 2) g λi j=>Af i (A2 j λS k=>Ae y0 k λm o=>Ab 0 m o λp q=>Ae y0 q λr s=>Ab 16 r s λt u=>AQ 8 1 t y1 u λv x=>AM S 2 p x λy z=>(I Z 161 #[v] z λaa ab=>(S ab/\
 (I Z 145 #[y,aa] ab λac ad=>(S ad/\
 F105.k8 K y0 ad))/\True))/\True) (U .eql f (v6 wg 4) j λae af=>Af ae (A2 af λS ag=>Ae y0 ag λah ai=>Ab 0 ah ai λaj ak=>Ae y0 ak λal am=>Ab 13 al am λan ao=>AM S 2 aj ao λap aq=>An S an aq λar au=>(I Z 143 #[ar,y1] au λav aw=>(S aw/\
 (I Z 145 #[ap,av] aw λax ay=>(S ay/\
 F105.k8 K y0 ay))/\True))/\True) (F105.k8 K y0 af)))):F105.k3 K y0 y1 w:=qq h
def F105.k8.to(h:(I Z 149 #[y0] w λa b=>K (wd wk) b)):F105.k8 K y0 w:=qq h
def F105.sh(h:(I Z 88 #[x0] w λa b=>A8 a b λc d=>Aa wl c (λK=>K x0 d) d λf g=>Aa wl c (Ae f g) g λi j=>Aa wl c (Ab 12 i j) j λk m=>Aa wl c (Ac k m) m λo p=>Aa wl c (λK=>K x1 p) p λq r=>Aa wl c (λK=>I Z 160 #[o,q] r K) r λs t=>Aa wl c (A8 s t) t λu v=>Aw (wh c) (wh (wd wk)) (wh u) v λx y=>Af x (K (wd wl) y) (F105.k3 K x0 x1 y))):I Z 105 #[x0,x1] w K:=BK (A:=F105.ann) (args:=[x0,x1]) (qq h)
def F144.sh(h:(Ae x0 w λa b=>Ab 25 a b λc d=>Ac c d λf g=>U .geq f (v6 wg 2) g λi j=>Aa wk i (λK=>K x0 j) j λk m=>Aa wk i (Ae k m) m λo p=>Aa wk i (Ab 25 o p) p λq r=>Aa wk i (Ac q r) r λs t=>Aa wk i (U .leq s (v6 wg 4) t) t λu v=>Aw (wh i) (wh u) (wh (wd wl)) v λx y=>K x y)):I Z 144 #[x0] w K:=BK (A:=A0) (args:=[x0]) (qq h)
namespace F145
def ann:Cg:=⟨[(3,[2,6,7,8]),(5,[2,6,7,8])],[(2,[2,6,7,8])],[],[],wj⟩
def code:=cd f145
def BM:=tp f145
variable(K:VK)(y2 y6 y7 y8:wm)(w:wn)
def l2:=nl ann 17 [(2,y2),(6,y6),(7,y7),(8,y8)] w [1,1,0] code (BM K)
def k3:=nk ann 17 [(2,y2),(6,y6),(7,y7),(8,y8)] w [1,1,0,0,1,1] code (BM K)
def k5:=nk ann 17 [(2,y2),(6,y6),(7,y7),(8,y8)] w [1,1,0,0,1,1,1] code (BM K)
attribute [irreducible] l2 k3 k5
end F145
def F145.l2.to(h:(U .lss y8 y7 w λa b=>Af a (F145.k3 K y2 y6 y7 y8 b) (K (wc #[]) b))):F145.l2 K y2 y6 y7 y8 w:=by unfold F145.l2 nl;exact BW (qq h)
def F145.k3.to(h:(AC 1 y6 y8 w λa b=>Ac a b λc d=>Ab 1 y2 d λf g=>Ac f g λi j=>I Z 210 #[i,c] j λk m=>F145.k5 K y2 y6 y7 y8 m)):F145.k3 K y2 y6 y7 y8 w:=qq h
def F145.k5.to(h:(U .add y8 (v6 wg 1) w λa b=>F145.l2 K y2 y6 y7 a b)):F145.k5 K y2 y6 y7 y8 w:=qq h
def F145.sh(h:(Aq (wt (wm.cells x0) 123) w λa b=>AD x1 b λc d=>F145.l2 K a x1 c (v6 wg 0) d)):I Z 145 #[x0,x1] w K:=BK (A:=F145.ann) (args:=[x0,x1]) (qq h)
namespace F149
def ann:Cg:=⟨[(1,[0])],[(0,[0])],[],[(3,(tk [0,1,2,4,5,6,3,7] (.go 8 (.go 9 .fin .fin) .fin)))],wj⟩
def code:=cd f149
def BM:=tp f149
variable(K:VK)(y0:wm)(w:wn)
def l0:=nl ann 76 [(0,y0)] w [0] code (BM K)
def k1:=nk ann 76 [(0,y0)] w [0,0,1] code (BM K)
attribute [irreducible] l0 k1
end F149
def F149.l0.to(h:(Ae y0 w λa b=>Ab 12 a b λc d=>Ac c d λf g=>I Z 213 #[f] g λi j=>Af i (F149.k1 K y0 j) (K (wc #[]) j))):F149.l0 K y0 w:=by unfold F149.l0 nl;exact BW (qq h)
def F149.k1.to(h:(Ae y0 w λa b=>Ab 25 a b λc d=>Ac c d λf g=>U .eql f (v6 wg 1) g λi j=>Af i (Ae y0 j λk m=>Ab 13 k m λo p=>Ac o p λq r=>I Z 214 #[q] r λs t=>A2 t λS u=>Ae y0 u λv x=>Ab 0 v x λy z=>Ae y0 z λaa ab=>Ab 24 aa ab λac ad=>AM S 2 y ad λae af=>An S ac af λag ah=>(Am Z (Instr.buildSlice 54 1 #[(0,ag)]) ah λai aj=>(S aj/\
 (I Z 145 #[ae,ai] aj λak al=>(S al/\
 I Z 215 #[y0,(v6 wg 2)] al λam an=>F149.l0 K y0 an))/\True))/\True) (Ae y0 j λao ap=>Ab 25 ao ap λaq ar=>Ac aq ar λau av=>U .eql au (v6 wg 2) av λaw ax=>Af aw (Ae y0 ax λay az=>Ab 25 ay az λba bb=>Aj 1 ba (v6 wg 3) bb λbc=>F149.l0 K y0 bc) (Ae y0 ax λbd be=>Ab 25 bd be λbf bg=>Ac bf bg λbh bi=>U .eql bh (v6 wg 4) bi λbj bk=>Aa wk bj (λK=>K y0 bk) bk λbl bm=>Aa wk bj (Ae bl bm) bm λbn bo=>Aa wk bj (Ab 13 bn bo) bo λbp bq=>Aa wk bj (Ac bp bq) bq λbr bs=>Aa wk bj (λK=>I Z 216 #[br] bs K) bs λbt bu=>Aw (wh bj) (wh bt) (wh (wd wl)) bu λbv bw=>Aa wk bv (λK=>K y0 bw) bw λbx bz=>Aa wk bv (Ae bx bz) bz λca cb=>Aa wk bv (Ab 14 ca cb) cb λcc ce=>Aa wk bv (Ac cc ce) ce λcf cg=>Aa wk bv (λK=>I Z 217 #[cf] cg K) cg λch ci=>Aw (wh bv) (wh ch) (wh (wd wl)) ci λcj ck=>Af cj (Ae y0 ck λcl cm=>Ab 25 cl cm λcn co=>Aj 1 cn (v6 wg 5) co λcp=>Ae y0 cp λcq cr=>Ab 15 cq cr λcs ct=>Ac cs ct λcu cv=>
 I Z 218 #[cu] cv λcw cx=>F149.l0 K y0 cx) (Ae y0 ck λcy cz=>Ab 25 cy cz λda db=>Ac da db λdc dd=>U .eql dc (v6 wg 4) dd λde df=>Af de (Ae y0 df λdg dh=>Ab 25 dg dh λdi dj=>Aj 1 di (v6 wg 3) dj λdk=>F149.l0 K y0 dk) (K (wc #[]) df)))))):F149.k1 K y0 w:=qq h
def F149.sh(h:(F149.l0 K x0 w)):I Z 149 #[x0] w K:=BK (A:=F149.ann) (args:=[x0]) (qq h)
namespace F151
def ann:Cg:=⟨[(3,[0,1,2]),(6,[8,9])],[],[],[(5,(tk [0,1,2,4,5,6,7,9,10,11,3,8,12] (.go 13 (.go 14 .fin .fin) .fin)))],wj⟩
def code:=cd f151
def BM:=tp f151
variable(K:VK)(y0 y1 y2 y8 y9:wm)(w:wn)
def k3:=nk ann 43 [(0,y0),(1,y1),(2,y2)] w [1,1] code (BM K)
def k6:=nk ann 43 [(8,y8),(9,y9)] w [1,1,1,1] code (BM K)
attribute [irreducible] k3 k6
end F151
def F151.k3.to(h:(Ae y0 w λa b=>Ab 0 a b λc d=>Ab 0 c d λf g=>Ac f g λi j=>I Z 122 #[i,y1,y2] j λk m=>Ao 0 k m λo p=>Ao 1 k p λq r=>Af q (A2 r λS s=>Ae y0 s λt u=>Ab 0 t u λv x=>Ae y0 x λy z=>Ab 25 y z λaa ab=>Ae y0 ab λac ad=>Ab 15 ac ad λae af=>AM S 2 v af λag ah=>An S aa ah λai aj=>An S ae aj λak al=>(I Z 220 #[ak] al λam an=>(S an/\
 (I Z 219 #[ag,o,ai,am] an λao ap=>(S ap/\
 F151.k6 K o q ap))/\True))/\True) (F151.k6 K o q r))):F151.k3 K y0 y1 y2 w:=qq h
def F151.k6.to(h:(K (wc #[y8,y9]) w)):F151.k6 K y8 y9 w:=qq h
def F151.sh(h:(I Z 53 #[x0,x1] w λa b=>A8 a b λc d=>Af c (K (wc #[(v6 wg 0),(wd wl)]) d) (F151.k3 K x0 x1 x2 d))):I Z 151 #[x0,x1,x2] w K:=BK (A:=F151.ann) (args:=[x0,x1,x2]) (qq h)
namespace F154
def ann:Cg:=⟨[],[],[],[(1,(tk [0,1] (.go 2 (tk [3,4,5] (.go 6 (tk [7,8,9,10,11,12,13,14] (.go 15 (tk [16,17] .fin) .fin)) .fin)) .fin)))],wj⟩
end F154
def F154.sh(h:(Aq (wt (wm.cells x2) 60) w λa b=>A2 b λS c=>(I Z 53 #[x0,x1] c λd f=>(S f/\
 Aa wk d (λK=>K x0 f) f λg i=>Aa wk d (AM S 2 a i) i λj k=>(Aa wk d (λK=>I Z 225 #[g,j] k K) k λm o=>(S o/\
 Aw (wh d) (wh m) (wh (wd wl)) o λp q=>Aa wk p (λK=>K x0 q) q λr s=>Aa wk p (λK=>K x1 s) s λt u=>Aa wk p (Ae r u) u λv x=>Aa wk p (Ab 16 v x) x λy z=>Aa wk p (AQ 8 1 y t z) z λaa ab=>Aa wk p (AM S 2 a ab) ab λac ad=>(Aa wk p (λK=>I Z 226 #[aa,ac] ad K) ad λae af=>(S af/\
 Aw (wh p) (wh ae) (wh (wd wl)) af λag ah=>K ag ah))/\True))/\True))/\True)):I Z 154 #[x0,x1,x2] w K:=BK (A:=F154.ann) (args:=[x0,x1,x2]) (qq h)
namespace F159
def ann:Cg:=⟨[(3,[0,1,2,3,9]),(6,[0,1,2,3,9,11]),(9,[0,2,3,9])],[],[],[(9,(tk [0,1,2,3,5,6,4,7] (.go 8 (.take 9 .fin) .fin)))],wj⟩
def code:=cd f159
def BM:=tp f159
variable(K:VK)(y0 y1 y2 y3 y9 y11:wm)(w:wn)
def k3:=nk ann 73 [(0,y0),(1,y1),(2,y2),(3,y3),(9,y9)] w [1,1] code (BM K)
def k6:=nk ann 73 [(0,y0),(1,y1),(2,y2),(3,y3),(9,y9),(11,y11)] w [1,1,1,1] code (BM K)
def k9:=nk ann 73 [(0,y0),(2,y2),(3,y3),(9,y9)] w [1,1,1,1,1] code (BM K)
attribute [irreducible] k3 k6 k9
end F159
def F159.k3.to(h:(Ae y0 w λa b=>Ab 0 a b λc d=>Ab 0 c d λf g=>Ac f g λi j=>I Z 129 #[i,y2,y3] j λk m=>Ao 0 k m λo p=>Ao 1 k p λq r=>Aq (wt #[v6 wg 0,v6 wg 0] 60) r λs t=>Aj 2 s o t λu=>A8 q u λv x=>Af v (K (wd wl) x) (F159.k6 K y0 y1 y2 y3 y9 s x))):F159.k3 K y0 y1 y2 y3 y9 w:=qq h
def F159.k6.to(h:(Ab 1 y11 w λa b=>Ac a b λc d=>Ab 0 y11 d λf g=>Ac f g λi j=>U .eql i (v6 wg 2) j λk m=>Aa wk k (λK=>K y0 m) m λo p=>Aa wk k (Ae o p) p λq r=>Aa wk k (Ab 0 q r) r λs t=>Aa wk k (Ab 1 s t) t λu v=>Aa wk k (Ac u v) v λx y=>Aa wk k (λK=>K c y) y λz aa=>Aa wk k (λK=>I Z 230 #[x,z] aa K) aa λab ac=>Aa wk k (A8 ab ac) ac λad ae=>Aw (wh k) (wh ad) (wh (wd wl)) ae λaf ag=>Aa wk af (λK=>K y0 ag) ag λah ai=>Aa wk af (λK=>K y1 ai) ai λaj ak=>Aa wk af (λK=>I Z 231 #[ah,aj] ak K) ak λal am=>Aw (wh af) (wh al) (wh (wd wl)) am λan ao=>Af an (Ae y0 ao λap aq=>Ab 13 ap aq λar au=>Ac ar au λav aw=>I Z 232 #[av,y1,c] aw λax ay=>F159.k9 K y0 y2 y3 y9 ay) (F159.k9 K y0 y2 y3 y9 ao))):F159.k6 K y0 y1 y2 y3 y9 y11 w:=qq h
def F159.k9.to(h:(A2 w λS a=>Ae y0 a λb c=>Ab 0 b c λd f=>Ab 0 d f λg i=>An S g i λj k=>AM S 2 y9 k λm o=>(I Z 233 #[j,y2,y3,m] o λp q=>(S q/\
 K p q))/\True)):F159.k9 K y0 y2 y3 y9 w:=qq h
def F159.sh(h:(Aq (wt (wm.cells x4) 60) w λa b=>I Z 53 #[x0,x1] b λc d=>A8 c d λf g=>Aa wl f (λK=>K x0 g) g λi j=>Aa wl f (Ak 2 a j) j λk m=>Aa wl f (λK=>I Z 225 #[i,k] m K) m λo p=>Aa wl f (A8 o p) p λq r=>Aw (wh f) (wh (wd wk)) (wh q) r λs t=>Af s (K (wd wl) t) (F159.k3 K x0 x1 x2 x3 a t))):I Z 159 #[x0,x1,x2,x3,x4] w K:=BK (A:=F159.ann) (args:=[x0,x1,x2,x3,x4]) (qq h)
namespace F162
def ann:=a1 [(3,[0])]
def code:=cd f162
def BM:=tp f162
variable(K:VK)(y0:wm)(w:wn)
@[irreducible]def k3:=nk ann 20 [(0,y0)] w [1,1] code (BM K)
end F162
def F162.k3.to(h:(Ae y0 w λa b=>Ab 27 a b λc d=>Aj 1 c (v6 wg 0) d λf=>I Z 215 #[y0,(v6 wg 1)] f λg i=>I Z 149 #[y0] i λj k=>K (wd wk) k)):F162.k3 K y0 w:=qq h
def F162.sh(h:(I Z 88 #[x0] w λa b=>A8 a b λc d=>Aa wl c (λK=>K x0 d) d λf g=>Aa wl c (Ae f g) g λi j=>Aa wl c (Ab 25 i j) j λk m=>Aa wl c (Ac k m) m λo p=>Aa wl c (U .neq o (v6 wg 0) p) p λq r=>Aw (wh c) (wh (wd wk)) (wh q) r λs t=>Af s (K (wd wl) t) (F162.k3 K x0 t))):I Z 162 #[x0] w K:=BK (A:=F162.ann) (args:=[x0]) (qq h)
def F215.sh(h:(Ae x0 w λa b=>Ab 25 a b λc d=>Aj 1 c x1 d λf=>Ae x0 f λg i=>Ab 12 g i λj k=>Ac j k λm o=>I Z 266 #[m] o λp q=>K (wc #[]) q)):I Z 215 #[x0,x1] w K:=BK (A:=A0) (args:=[x0,x1]) (qq h)
def F219.sh(h:(Aq (wt (wm.cells x0) 123) w λa b=>U .eql x2 (v6 wg 2) b λc d=>Af c (Ab 1 a d λf g=>Ac f g λi j=>I Z 210 #[i,x1] j λk m=>K (wc #[]) m) (U .eql x2 (v6 wg 3) d λo p=>Af o (Af o (Ab 1 a p λq r=>Ac q r λs t=>I Z 260 #[s,x1] t λu v=>K (wc #[]) v) (K (wc #[]) p)) (U .eql x2 (v6 wg 4) p λx y=>Af x (Af x (Ab 1 a y λz aa=>Ac z aa λab ac=>I Z 260 #[ab,x1] ac λad ae=>K (wc #[]) ae) (K (wc #[]) y)) (U .eql x2 (v6 wg 5) y λaf ag=>Aa wk af (λK=>K x1 ag) ag λah ai=>Aa wk af (λK=>I Z 272 #[ah] ai K) ai λaj ak=>Aa wk af (λK=>K x3 ak) ak λal am=>Aa wk af (U .geq aj al am) am λan ao=>Aw (wh af) (wh an) (wh (wd wl)) ao λap aq=>Af ap (Ab 1 a aq λar au=>Ac ar au λav aw=>I Z 260 #[av,x1] aw λax ay=>K (wc #[]) ay) (K (wc #[]) aq)))))):I Z 219 #[x0,x1,x2,x3] w K:=BK (A:=A0) (args:=[x0,x1,x2,x3]) (qq h)
namespace F221
def ann:=a1 [(3,[0])]
def code:=cd f221
def BM:=tp f221
variable(K:VK)(y0:wm)(w:wn)
@[irreducible]def k3:=nk ann 12 [(0,y0)] w [1,1] code (BM K)
end F221
def F221.k3.to(h:(Ae y0 w λa b=>Ab 0 a b λc d=>Ab 0 c d λf g=>Ac f g λi j=>I Z 273 #[i] j λk m=>K k m)):F221.k3 K y0 w:=qq h
def F221.sh(h:(I Z 88 #[x0] w λa b=>A8 a b λc d=>Af c (K (v6 wg 0) d) (F221.k3 K x0 d))):I Z 221 #[x0] w K:=BK (A:=F221.ann) (args:=[x0]) (qq h)
namespace F223
def ann:Cg:=⟨[(5,[0,1,2]),(8,[8,9])],[],[],[(7,(tk [0,1,2,4,5,6,7,9,10,11,3,8,12] (.go 13 (.go 14 .fin .fin) .fin)))],wj⟩
def code:=cd f223
def BM:=tp f223
variable(K:VK)(y0 y1 y2 y8 y9:wm)(w:wn)
def k5:=nk ann 49 [(0,y0),(1,y1),(2,y2)] w [1,1] code (BM K)
def k8:=nk ann 49 [(8,y8),(9,y9)] w [1,1,1,1] code (BM K)
attribute [irreducible] k5 k8
end F223
def F223.k5.to(h:(Ae y0 w λa b=>Ab 0 a b λc d=>Ab 0 c d λf g=>Ac f g λi j=>I Z 79 #[i,y1,y2] j λk m=>Ao 0 k m λo p=>Ao 1 k p λq r=>U .eql q (v6 wg 0) r λs t=>Af s (A2 t λS u=>Ae y0 u λv x=>Ab 0 v x λy z=>Ae y0 z λaa ab=>Ab 25 aa ab λac ad=>Ae y0 ad λae af=>Ab 15 ae af λag ah=>AM S 2 y ah λai aj=>An S ac aj λak al=>An S ag al λam an=>(I Z 220 #[am] an λao ap=>(S ap/\
 (I Z 219 #[ai,o,ak,ao] ap λaq ar=>(S ar/\
 F223.k8 K o q ar))/\True))/\True) (F223.k8 K o q t))):F223.k5 K y0 y1 y2 w:=qq h
def F223.k8.to(h:(K (wc #[y8,y9]) w)):F223.k8 K y8 y9 w:=qq h
def F223.sh(h:(I Z 88 #[x0] w λa b=>A8 a b λc d=>Af c (K (wc #[(v6 wg 0),(v6 wg 9)]) d) (I Z 53 #[x0,x1] d λf g=>A8 f g λi j=>Af i (K (wc #[(v6 wg 0),(v6 wg 4)]) j) (F223.k5 K x0 x1 x2 j)))):I Z 223 #[x0,x1,x2] w K:=BK (A:=F223.ann) (args:=[x0,x1,x2]) (qq h)
namespace F225
def ann:Cg:=⟨[],[],[],[(1,(.take 0 (.go 1 (tk [2,3,4,5,6,7,8,9,10,11,13,12,14] (.go 15 (tk [16,17,18,19] .fin) .fin)) .fin)))],wj⟩
end F225
def F225.sh(h:(Aq (wt (wm.cells x1) 60) w λa b=>A2 b λS c=>AM S 2 a c λd f=>(I Z 227 #[d] f λg i=>(S i/\
 U .eql g (v6 wg 0) i λj k=>Aa wk j (Ab 0 a k) k λm o=>Aa wk j (An S m o) o λp q=>Aa wk j (U .neq p (v6 wg 2) q) q λr s=>Aa wk j (λK=>K r s) s λt u=>Aa wl t (λK=>K x0 u) u λv x=>Aa wl t (Ae v x) x λy z=>Aa wl t (Ab 0 y z) z λaa ab=>Aa wl t (Ab 0 aa ab) ab λac ad=>Aa wl t (Ab 1 a ad) ad λae af=>Aa wl t (An S ac af) af λag ah=>Aa wl t (An S ae ah) ah λai aj=>(Aa wl t (λK=>I Z 128 #[ag,ai] aj K) aj λak al=>(S al/\
 Aa wl t (U .geq ak (v6 wg 0) al) al λam an=>Aa wk j (λK=>Aw (wh t) (wh (wd wk)) (wh am) an K) an λao ap=>Aw (wh j) (wh ao) (wh (wd wl)) ap λaq ar=>K aq ar))/\True))/\True)):I Z 225 #[x0,x1] w K:=BK (A:=F225.ann) (args:=[x0,x1]) (qq h)
namespace F231
def ann:Cg:=⟨[],[],[],[(1,(.take 0 (.go 1 (tk [2,3,4,5,6,7,8,9,10,11,13,15,16,17,12,18] (.go 14 (.go 19 (tk [20,21,22,23] .fin) .fin) .fin)) .fin)))],wj⟩
end F231
def F231.sh(h:(A2 w λS a=>(I Z 144 #[x0] a λb c=>(S c/\
 Aa wl b (λK=>K x0 c) c λd f=>Aa wl b (Ae d f) f λg i=>Aa wl b (Ab 25 g i) i λj k=>Aa wl b (An S j k) k λm o=>Aa wl b (U .eql m (v6 wg 1) o) o λp q=>Aa wl b (λK=>K p q) q λr s=>Aa wk r (λK=>K x0 s) s λt u=>Aa wk r (Ae t u) u λv x=>Aa wk r (Ab 12 v x) x λy z=>Aa wk r (λK=>K x1 z) z λaa ab=>Aa wk r (λK=>K x0 ab) ab λac ad=>Aa wk r (Ae ac ad) ad λae af=>Aa wk r (Ab 12 ae af) af λag ah=>Aa wk r (An S y ah) ah λai aj=>Aa wk r (An S ag aj) aj λak al=>(Aa wk r (λK=>I Z 277 #[ai,aa] al K) al λam an=>(S an/\
 (Aa wk r (λK=>I Z 278 #[ak] an K) an λao ap=>(S ap/\
 Aa wk r (U .eql am ao ap) ap λaq ar=>Aa wl b (λK=>Aw (wh r) (wh aq) (wh (wd wl)) ar K) ar λau av=>Aw (wh b) (wh (wd wk)) (wh au) av λaw ax=>K aw ax))/\True))/\True))/\True)):I Z 231 #[x0,x1] w K:=BK (A:=F231.ann) (args:=[x0,x1]) (qq h)
namespace F280
def ann:=a1 [(13,[0,3]),(15,[3])]
def code:=cd f280
def BM:=tp f280
variable(K:VK)(y0 y3:wm)(w:wn)
def k13:=nk ann 50 [(0,y0),(3,y3)] w [1,1,1] code (BM K)
def k15:=nk ann 50 [(3,y3)] w [1,1,1,1] code (BM K)
attribute [irreducible] k13 k15
end F280
def F280.k13.to(h:(Af y3 (Ae y0 w λa b=>Ab 27 a b λc d=>Ac c d λf g=>U .add f (v6 wg 1) g λi j=>Ae y0 j λk m=>Ab 27 k m λo p=>Aj 1 o i p λq=>F280.k15 K y3 q) (F280.k15 K y3 w))):F280.k13 K y0 y3 w:=qq h
def F280.k15.to(h:(K y3 w)):F280.k15 K y3 w:=qq h
def F280.sh(h:(I Z 59 #[x0] w λa b=>U .eql a (v6 wg 3) b λc d=>Af c (Ae x0 d λf g=>Ab 14 f g λi j=>Ac i j λk m=>I Z 303 #[k] m λo p=>A8 o p λq r=>Af q (I Z 215 #[x0,(v6 wg 4)] r λs t=>I Z 149 #[x0] t λu v=>F280.k13 K x0 o v) (F280.k13 K x0 o r)) (U .eql a (v6 wg 5) d λx y=>Af x (Ae x0 y λz aa=>Ab 15 z aa λab ac=>Ac ab ac λad ae=>I Z 304 #[ad] ae λaf ag=>Ae x0 ag λah ai=>Ab 15 ah ai λaj ak=>Ac aj ak λal am=>I Z 305 #[al] am λan ao=>Af an (Ae x0 ao λap aq=>Ab 25 ap aq λar au=>Aj 1 ar (v6 wg 0) au λav=>Ae x0 av λaw ax=>Ab 26 aw ax λay az=>Ac ay az λba bb=>U .add ba (v6 wg 1) bb λbc bd=>Ae x0 bd λbe bf=>Ab 26 be bf λbg bh=>Aj 1 bg bc bh λbi=>F280.k13 K x0 af bi) (F280.k13 K x0 af ao)) (F280.k13 K x0 (wd wl) y)))):I Z 280 #[x0] w K:=BK (A:=F280.ann) (args:=[x0]) (qq h)
end
section
open Go.RowKit
structure Cm where
 D:DG
 G:CR
 tr:Nat
 sw:Nat
 N:Nat
def Cm.fix(H:Cm):List Nat:=[H.tr,H.sw,H.G.gr,H.G.wa,H.G.sk,H.G.mb]
structure Cm.Ok(H:Cm):Prop where
 nd:H.fix.Nodup
 dj:∀x∈H.fix,x∉H.D.all
 lo:∀x∈H.fix++H.D.all,x<H.N
def Cm.S(H:Cm)(lv:wm):List Nat:=H.tr::H.sw::(H.G.S lv++H.D.S)
def Cm.all(H:Cm)(lv:wm):List Nat:=H.fix++(H.D.all++BN lv)
structure Cv(H:Cm)(lv:wm)(cf:Cf)(w:wn)(c:Co):Prop where
 ok:H.Ok
 st:C8 H.D cf.pages.toNat (cf.threads+1) w c.s
 gy:CY H.G lv cf.stack w c.g
 tb:w.heap[H.tr]?=wh (wt #[v7 (wh ⟨H.D.st,0,wj⟩),v7 (wh ⟨H.G.gr,0,wj⟩),v6 wg cf.pages,v6 wg cf.chunk,v6 wg c.tp] 188 (0,0))
 sb:w.heap[H.sw]?=wh (wt #[v7 (wh ⟨H.D.st,0,wj⟩),v7 (wh ⟨H.G.gr,0,wj⟩),v6 wg cf.pages,v6 wg c.at_,v6 wg c.freed] 190 (0,0))
 hi:∀x∈BN lv,H.N<=x
 le:H.N<=w.heap.size
 pg:1<=cf.pages/\cf.pages<=64
 ck:1<=cf.chunk/\cf.chunk<=16
structure C2(H:Cm)(lv:wm)(w:wn)(lv':wm)(w':wn):Prop where
 fr:Fr (H.S lv) w w'
 gr:Gr w lv lv'
def C2.refl(H:Cm)(lv:wm)(w:wn):C2 H lv w lv w:=⟨Fr.refl _ _,Gr.refl _ _⟩
def C2.trans{H:Cm}{lv lv' lv'':wm}{w w' w'':wn}(h:C2 H lv w lv' w')(k:C2 H lv' w' lv'' w''):C2 H lv w lv'' w'':=
 ⟨h.fr.then k.fr λx hx=>by
  simp only[Cm.S,CR.S,ux,n7]at hx ⊢;rcases hx with c|c|(c|c|c)|c
  ·simp[c]
  ·simp[c]
  ·simp[c]
  ·simp[c]
  ·rcases h.gr x c with d|d
   ·simp[d]
   ·exact .inr d
  ·simp[c],h.gr.trans k.gr h.fr.size⟩
def C2.w{H:Cm}{lv:wm}{a b:wn}(h:Fr [] a b):C2 H lv a lv b:=⟨h.w,Gr.refl _ _⟩
section
variable{H:Cm}{lv lv':wm}{w w':wn}
def C2.d(h:Fr H.D.S w w'):C2 H lv w lv w':=⟨h.mono λx hx=>by simp[Cm.S,hx],Gr.refl _ _⟩
def C2.g(h:DW H.G lv w lv' w'):C2 H lv w lv' w':=⟨h.fr.mono λx hx=>by simp[Cm.S,hx],h.gr⟩
def C2.t(h:Fr [H.tr] w w'):C2 H lv w lv w':=⟨h.mono λx hx=>by simp only[zF]at hx;simp[Cm.S,hx],Gr.refl _ _⟩
def C2.s(h:Fr [H.sw] w w'):C2 H lv w lv w':=⟨h.mono λx hx=>by simp only[zF]at hx;simp[Cm.S,hx],Gr.refl _ _⟩
end
section
variable{K:VK}{w w':wn}{H:Cm}{lv:wm}{cf:Cf}{c:Co}
def Cv.keep{S:List Nat}(h:Cv H lv cf w c)(hf:Fr S w w')(ha:∀x∈H.all lv,x∉S):Cv H lv cf w' c:=
 ⟨h.ok,h.st.keep hf (λx hx=>ha x (by simp[Cm.all,hx])),h.gy.keep hf (λx hx=>ha x (by
  simp only[CR.all,CR.S,ux]at hx;rcases hx with d|d|d|d|d<;>simp[Cm.all,Cm.fix,d])),hf.at_ h.tb (ha _ (by simp[Cm.all,Cm.fix])),hf.at_ h.sb (ha _ (by simp[Cm.all,Cm.fix])),h.hi,by have:=hf.size;have:=h.le;omega,h.pg,h.ck⟩
def Cv.keep0(h:Cv H lv cf w c)(hf:Fr [] w w'):Cv H lv cf w' c:=h.keep hf (by simp)
def Cv.nS(h:Cv H lv cf w c){x:Nat}(hx:x∈H.fix):x∉H.D.S:=λe=>h.ok.dj x hx (H.D.sub x e)
def Cv.nl(h:Cv H lv cf w c){x:Nat}(hx:x∈H.fix++H.D.all):x∉BN lv:=λe=>by
 have h1:=h.ok.lo x hx;have h2:=h.hi x e;omega
def Cv.setS{s:St}(h:Cv H lv cf w c)(hf:Fr H.D.S w w')(hs:C8 H.D cf.pages.toNat (cf.threads+1) w' s):Cv H lv cf w' { c with s:=s }:=
 ⟨h.ok,hs,h.gy.keep hf (λx hx=>by
  simp only[CR.all,CR.S,ux]at hx;rcases hx with d|d|d|d|d
  iterate 4 exact h.nS (by simp[Cm.fix,d])
  exact λe=>h.nl (x:=x) (by simp[H.D.sub x e]) d),hf.at_ h.tb (h.nS (by simp[Cm.fix])),hf.at_ h.sb (h.nS (by simp[Cm.fix])),h.hi,by have:=hf.size;have:=h.le;omega,h.pg,h.ck⟩
def Cv.setG{lv':wm}{g:Gy}(h:Cv H lv cf w c)(hf:DW H.G lv w lv' w')(hg:CY H.G lv' cf.stack w' g):Cv H lv' cf w' { c with g:=g }:=by
 have nd:=h.ok.nd;simp only[Cm.fix,o7,ux,i9,vt,not_or]at nd;have no:∀x,x∈H.D.all∨x=H.tr∨x=H.sw->x∉H.G.S lv:=λx hx e=>by
  simp only[CR.S,ux]at e;rcases e with e|e|e
  ·rcases hx with c|c|c
   ·exact h.ok.dj _ (by simp[Cm.fix]) (e ▸ c)
   ·rw[c]at e;exact nd.1.2.2.2.1 e
   ·rw[c]at e;exact nd.2.1.2.2.1 e
  ·rcases hx with c|c|c
   ·exact h.ok.dj _ (by simp[Cm.fix]) (e ▸ c)
   ·rw[c]at e;exact nd.1.2.2.2.2 e
   ·rw[c]at e;exact nd.2.1.2.2.2 e
  ·exact h.nl (x:=x) (by rcases hx with c | c | c<;>simp[Cm.fix,c]) e
 exact⟨h.ok,h.st.keep hf.fr (λx hx=>no x (.inl hx)),hg,hf.fr.at_ h.tb (no _ (.inr (.inl rfl))),hf.fr.at_ h.sb (no _ (.inr (.inr rfl))),λx hx=>by
  rcases hf.gr x hx with d|d
  ·exact h.hi x d
  ·have:=h.le;omega,by have:=hf.fr.size;have:=h.le;omega,h.pg,h.ck⟩
def Cv.setT{tp:Int}(h:Cv H lv cf w c)(hf:Fr [H.tr] w w')(hb:w'.heap[H.tr]?=wh (wt #[v7 (wh ⟨H.D.st,0,wj⟩),v7 (wh ⟨H.G.gr,0,wj⟩),v6 wg cf.pages,v6 wg cf.chunk,v6 wg tp] 188 (0,0))):Cv H lv cf w' { c with tp:=tp }:=by
 have nd:=h.ok.nd;simp only[Cm.fix,o7,ux,i9,vt,not_or]at nd;exact⟨h.ok,h.st.keep hf (λx hx e=>by simp only[zF]at e;subst e;exact h.ok.dj _ (by simp[Cm.fix]) hx),h.gy.keep hf (λx hx e=>by
  simp only[zF]at e;subst e;simp only[CR.all,CR.S,ux]at hx;rcases hx with d|d|d|d|d
  ·exact nd.1.2.1 d
  ·exact nd.1.2.2.1 d
  ·exact nd.1.2.2.2.1 d
  ·exact nd.1.2.2.2.2 d
  ·exact h.nl (by simp[Cm.fix]) d),hb,hf.at_ h.sb (by simp only[zF];exact λe=>nd.1.1 e.symm),h.hi,by have:=hf.size;have:=h.le;omega,h.pg,h.ck⟩
def Cv.setW{a f:Int}(h:Cv H lv cf w c)(hf:Fr [H.sw] w w')(hb:w'.heap[H.sw]?=wh (wt #[v7 (wh ⟨H.D.st,0,wj⟩),v7 (wh ⟨H.G.gr,0,wj⟩),v6 wg cf.pages,v6 wg a,v6 wg f] 190 (0,0))):Cv H lv cf w' { c with at_:=a,freed:=f }:=by
 have nd:=h.ok.nd;simp only[Cm.fix,o7,ux,i9,vt,not_or]at nd;exact⟨h.ok,h.st.keep hf (λx hx e=>by simp only[zF]at e;subst e;exact h.ok.dj _ (by simp[Cm.fix]) hx),h.gy.keep hf (λx hx e=>by
  simp only[zF]at e;subst e;simp only[CR.all,CR.S,ux]at hx;rcases hx with d|d|d|d|d
  ·exact nd.2.1.1 d
  ·exact nd.2.1.2.1 d
  ·exact nd.2.1.2.2.1 d
  ·exact nd.2.1.2.2.2 d
  ·exact h.nl (by simp[Cm.fix]) d),hf.at_ h.tb (by simp only[zF];exact nd.1.1),hb,h.hi,by have:=hf.size;have:=h.le;omega,h.pg,h.ck⟩
def Cv.lt(h:Cv H lv cf w c):∀x∈H.all lv,x<w.heap.size:=λx hx=>by
 simp only[Cm.all,n7]at hx;have:=h.le;rcases hx with d|d|d
 ·have:=h.ok.lo x (by simp[d]);omega
 ·have:=h.ok.lo x (by simp[d]);omega
 ·exact h.gy.stk.own.lt (Cb.1 d)
def Hv{s:St}(a:Int) : -1<=s.fields a/\s.fields a<=127:=by
 unfold St.fields St.read;split
 ·unfold Gs;split
  ·simp only;omega
  ·simp
 ·simp
def NN{a to:Int}(hto:to<=127){W:wn}{lv0:wm}{gf:Gy}(hk:∀lv' w',C2 H lv0 W lv' w'->Cv H lv' cf w' { c with g:=gf }->K (wc #[]) w'):
  ∀(d:Nat) (i:Int) (g:Gy) (lv:wm) (w:wn),(to-i).toNat=d->0<=i->C2 H lv0 W lv w->Cv H lv cf w { c with g:=g }->thru cf c.s a d i g=gf->
   F335.l1 K (v7 (wh ⟨H.tr,0,wj⟩)) (v6 wg a) (v6 wg to) (v6 wg i) w:=by
 intro d;induction d with
 | zero=>
  intro i g lv w hd hi ht h he;refine F335.l1.to ?_;simp only[zv,show ¬(i<to) by omega];simp only[thru]at he;subst he;exact hk lv w ht h
 | succ d ih=>
  intro i g lv w hd hi ht h he;refine F335.l1.to ?_;simp only[zv,show i<to by omega];rw[thru]at he;refine F335.k3.to ?_
  try simp only[zv]
  refine Ad (v:=v7 (wh ⟨H.D.st,0,wj⟩)) h.tb rfl (Qv h.st λw1 hf1=>?_);have h1:=h.keep0 hf1
  try simp only[zv]
  refine Ar λx w2 hn2=>AA hn2.at_ rfl Cc rfl λw3 hu3=>?_;have l2:=hn2.is;have s1:=hf1.size;have f2:=hf1.trans hn2.fr;have f3:Fr [] w w3:=f2.then hu3.fr (by simp;omega);have h3:=h.keep0 f3;have x3:=hu3.at_
  try simp only[zv]
  refine Ad (v:=v6 wg (c.s.get a i).1.1) x3 rfl ?_;have step:∀lv' w',C2 H lv0 W lv' w'->Cv H lv' cf w' { c with g:=if (c.s.get a i).1.1=2 then g.shade cf.stack (c.s.get a i).1.2 else g }->F335.k2 K (v7 (wh ⟨H.tr,0,wj⟩)) (v6 wg a) (v6 wg to) (v6 wg i) w':=λlv' w' ht' h'=>by
   refine F335.k2.to ?_
   try simp only[A7]
   rw[BO (n:=i+1) (by omega)];exact ih (i+1) _ lv' w' (by omega) (by omega) ht' h' he
  by_cases z:(c.s.get a i).1.1=2
  ·simp only[zv,vw,z];refine A9 (λw'=>w'.heap[H.tr]?=wh (wt #[v7 (wh ⟨H.D.st,0,wj⟩),v7 (wh ⟨H.G.gr,0,wj⟩),v6 wg cf.pages,v6 wg cf.chunk,v6 wg c.tp] 188 (0,0))/\w'.heap[x]?=wh (wt (V (c.s.get a i).1.1 (c.s.get a i).1.2).cells 60 (0,0))) λw4 hf4 _=>⟨⟨hf4.at_ h3.tb (by simp),hf4.at_ x3 (by simp)⟩,?_⟩;have h4:=h3.keep0 hf4
   refine Au (v:=v7 (wh ⟨H.G.gr,0,wj⟩)) (λw' hw=>⟨_,_,_,hw.1,rfl⟩) (Au (v:=v6 wg (c.s.get a i).1.2) (λw' hw=>⟨_,_,_,hw.2,rfl⟩) ⟨Mm h4.gy λb lv' w5 hf5 h5=>?_,trivial⟩);have h5':=h4.setG hf5 h5;have ht5:=(ht.trans (C2.w (f3.trans hf4))).trans (C2.g hf5);refine⟨⟨h5'.tb,hf5.fr.at_ (hf4.at_ x3 (by simp)) (λe=>?_)⟩,step lv' w5 ht5 ?_⟩
   ·have hl:=h.lt x (by
     simp only[CR.S,ux]at e;rcases e with e|e|e<;>simp[Cm.all,Cm.fix,e])
    have:=hf1.size;omega
   ·rw[vy z];exact h5'
  ·simp only[zv,z];refine step lv w3 (ht.trans (C2.w f3)) ?_;rw[vx z];exact h3
def ML{a i to:Int}(h:Cv H lv cf w c)(hi:0<=i)(hto:to<=127)(hk:∀lv' w',C2 H lv w lv' w'->Cv H lv' cf w' { c with g:=thru cf c.s a (to-i).toNat i c.g }->K (wc #[]) w'):
  I Z 335 #[v7 (wh ⟨H.tr,0,wj⟩),v6 wg a,v6 wg i,v6 wg to] w K:=
 F335.sh (NN hto hk _ i c.g lv w rfl hi (C2.refl _ _ _) h rfl)
end
section
variable{K:VK}{w w':wn}{H:Cm}{lv:wm}{cf:Cf}{c:Co}
def Cv.far{v:wm}{e:TypeId}{sz:Nat}{xs:List (List wm)}(h:Cv H lv cf w c)(hv:BQ w v e sz xs)(hne:e≠310)(hN:∀g∈BN v,H.N<=g):∀g∈BN v,g∉H.S lv:=λg hg hx=>by
 have hg':=hN g hg;simp only[Cm.S,CR.S,ux,n7]at hx;have lo:∀x∈H.fix++H.D.all,x<H.N:=h.ok.lo;rcases hx with d|d|(d|d|d)|d
 ·have:=lo g (by simp[Cm.fix,d]);omega
 ·have:=lo g (by simp[Cm.fix,d]);omega
 ·have:=lo g (by simp[Cm.fix,d]);omega
 ·have:=lo g (by simp[Cm.fix,d]);omega
 ·exact hv.ne h.gy.stk.own hne g hg d
 ·have:=lo g (by simp[H.D.sub g d]);omega
def Yu(h:Cv H lv cf w c)(hk:K (wd wk) w):I Z 269 #[v7 (wh ⟨H.tr,0,wj⟩)] w K:=by
 have hp:=h.pg;refine F269.sh ⟨_,CJ _ _ _ Tryz.underlying126,?_⟩
 try simp only[zv]
 refine Ad (v:=v6 wg cf.pages) h.tb rfl ?_;simp only[zv,show cf.pages>0 by omega];exact hk
def R1(h:Cv H lv cf w c)(hk:∀w',Fr [] w w'->K (wd c.tIdle) w'):I Z 217 #[v7 (wh ⟨H.tr,0,wj⟩)] w K:=by
 refine F217.sh (Yu h ?_)
 try simp only[zv]
 refine Ad (v:=v7 (wh ⟨H.G.gr,0,wj⟩)) h.tb rfl (Qu h.gy λw1 hf1=>?_);have h1:=h.keep0 hf1;unfold Co.tIdle at hk;by_cases z:c.g.l=[]
 ·simp only[zv,vw,show ((c.g.l.length:Nat):Int)=0 by rw[z];rfl];refine Ad (v:=v6 wg c.tp) h1.tb rfl ?_;have e1:c.g.l.isEmpty=wk:=by rw[z];rfl
  rw[e1]at hk;by_cases y:c.tp = -1
  ·simp only[zv,vw,y];rw[ur y]at hk;refine Ad (v:=v7 (wh ⟨H.G.gr,0,wj⟩)) h1.tb rfl (Vu h1.gy λw2 hf2=>?_);have:=hk w2 (hf1.trans hf2);simp only[Bool.true_and]at this
   try simp only[Av]
   exact this
  ·simp only[zv,y];rw[p9 y]at hk;exact hk w1 hf1
 ·have e1:c.g.l.isEmpty=wl:=by cases hh:c.g.l with | nil=>exact absurd hh z | cons _ _=>rfl
  have:0<c.g.l.length:=List.length_pos_iff.2 z;simp only[zv,show ¬((c.g.l.length:Nat):Int)=0 by omega];rw[e1]at hk;exact hk w1 hf1
def R7{W:wn}{v:wm}{l:List Int}(hl:l.length<=2048){lv0:wm}{gf:Gy}(hN:∀g∈BN v,H.N<=g)(hk:∀lv' w',C2 H lv0 W lv' w'->Cv H lv' cf w' { c with g:=gf }->F324.k6 K (v7 (wh ⟨H.tr,0,wj⟩)) w'):
  ∀(d i:Nat) (g:Gy) (lv:wm) (w:wn),i+d=l.length->C2 H lv0 W lv w->Cv H lv cf w { c with g:=g }->BQ w v 3 1 (BX l)->lookAll cf c.s (l.drop i) g=gf->
   F324.l1 K (v7 (wh ⟨H.tr,0,wj⟩)) v (v6 wg (l.length:Int)) (v6 wg (i:Int)) w:=by
 intro d;induction d with
 | zero=>
  intro i g lv w hi ht h hv he;have e:i=l.length:=by omega
  subst e;refine F324.l1.to ?_;simp only[zv,show ¬((l.length:Int)<(l.length:Int)) by omega];rw[b6]at he;simp only[lookAll]at he;subst he;exact hk lv w ht h
 | succ d ih=>
  intro i g lv w hi ht h hv he;have hlt:i<l.length:=by omega
  refine F324.l1.to ?_;simp only[zv,show (i:Int)<(l.length:Int) by omega];rw[xJ hlt,lookAll]at he;have step:∀lv' w',C2 H lv0 W lv' w'->Cv H lv' cf w' { c with g:=if g.is l[i] then thru cf c.s l[i] (c.s.fields l[i]).toNat 0 g else g }->BQ w' v 3 1 (BX l)->
    F324.k5 K (v7 (wh ⟨H.tr,0,wj⟩)) v (v6 wg (l.length:Int)) (v6 wg (i:Int)) w':=λlv' w' ht' h' hv'=>by
   refine F324.k5.to ?_
   try simp only[A7]
   rw[BO (n:=(i:Int)+1) (by omega)];exact ih (i+1) _ lv' w' (by omega) ht' h' hv' he
  refine F324.k2.to (AV hv.rd hlt λgg o cs e fz hg hc=>Ad hg hc ?_)
  try simp only[zv]
  refine Ad (v:=v7 (wh ⟨H.G.gr,0,wj⟩)) h.tb rfl (UU h.gy ?_);have hfr:=Hv (s:=c.s) l[i];cases z:g.is l[i] with
  | false=>
   simp only[Ag];refine step lv w ht ?_ hv;rw[z];exact h
  | true=>
   simp only[Ah];refine Ad (v:=v7 (wh ⟨H.D.st,0,wj⟩)) h.tb rfl (GX h.st ?_);refine ML (c:={ c with g:=g }) h (by omega) hfr.2 λlv' w1 ht1 h1=>?_;refine step lv' w1 (ht.trans ht1) ?_ (hv.keep' ht1.fr (h.far hv (by decide) hN));rw[z];have:(c.s.fields l[i]-0).toNat=(c.s.fields l[i]).toNat:=by rw[Int.sub_zero]
   rw[this]at h1;exact h1
def PX(h:Cv H lv cf w c)(p:Int):(c.s.inP p).length<=2048:=va (yI _ _) (I1 h.st)
def R6(h:Cv H lv cf w c)(hk:∀lv' w',C2 H lv w lv' w'->Cv H lv' cf w' (c.look cf)->K (wc #[]) w'):
  I Z 324 #[v7 (wh ⟨H.tr,0,wj⟩)] w K:=by
 refine F324.sh (A9 (λw'=>w'.heap[H.tr]?=wh (wt #[v7 (wh ⟨H.D.st,0,wj⟩),v7 (wh ⟨H.G.gr,0,wj⟩),v6 wg cf.pages,v6 wg cf.chunk,v6 wg c.tp] 188 (0,0))) λw1 hf1 _=>⟨hf1.at_ h.tb (by simp),?_⟩);have h1:=h.keep0 hf1
 try simp only[zv]
 refine Au (v:=v7 (wh ⟨H.D.st,0,wj⟩)) (λw' hw=>⟨_,_,_,hw,rfl⟩) (Au (v:=v6 wg c.tp) (λw' hw=>⟨_,_,_,hw,rfl⟩) ⟨WR h1.st λv w2 hf2 hn2 hv2=>⟨hf2.at_ h1.tb (by simp),?_⟩,trivial⟩);have h2:=h1.keep0 hf2;have hl:=PX h c.tp;refine AH hv2.rd ?_;rw[Ca];have hN:∀g∈BN v,H.N<=g:=λg hg=>by have:=hn2.blk g hg;have:=h1.le;omega
 refine R7 (c:=c) (W:=w) (lv0:=lv) hl hN (λlv' w3 ht3 h3=>?_) (c.s.inP c.tp).length 0 c.g lv w2 (by omega) (C2.w (hf1.trans hf2)) h2 hv2 rfl;refine F324.k6.to ?_
 try simp only[zv]
 refine Ad (v:=v6 wg c.tp) h3.tb rfl ?_
 try simp only[A7]
 refine AI h3.tb rfl rfl (by simp) λw4 hu4=>A9 (λw'=>w'.heap[H.tr]?=wh (wt #[v7 (wh ⟨H.D.st,0,wj⟩),v7 (wh ⟨H.G.gr,0,wj⟩),v6 wg cf.pages,v6 wg cf.chunk,v6 wg (C7 (c.tp+1))] 188 (0,0))) λw5 hf5 _=>⟨hf5.at_ hu4.at_ (by simp),?_⟩;have h4:=h3.setT hu4.fr hu4.at_;have h5:=h4.keep0 hf5;have ht5:=(ht3.trans (C2.t hu4.fr)).trans (C2.w hf5)
 refine Au (v:=v6 wg (C7 (c.tp+1))) (λw' hw=>⟨_,_,_,hw,rfl⟩) (Au (v:=v6 wg cf.pages) (λw' hw=>⟨_,_,_,hw,rfl⟩) ?_);unfold Co.look at hk;by_cases z:C7 (c.tp+1)=cf.pages
 ·simp only[zv,vw,z];rw[vy z]at hk;refine AI h5.tb rfl rfl (by simp) λw6 hu6=>?_;exact hk lv' w6 (ht5.trans (C2.t hu6.fr)) (h5.setT hu6.fr hu6.at_)
 ·simp only[zv,z];rw[vx z]at hk;exact hk lv' w5 ht5 h5
def Vp{e:Int × Int}(h:Cv H lv cf w c)(hk:∀lv' w',C2 H lv w lv' w'->Cv H lv' cf w' (c.entry cf e)->K (wc #[]) w'):
  I Z 322 #[v7 (wh ⟨H.tr,0,wj⟩),Et e] w K:=by
 have hfr:=Hv (s:=c.s) e.1;have hck:=h.ck;refine F322.sh (Ar λx w1 hn=>?_);have ln:=hn.is;have nx:∀lv',(∀g∈H.S lv',g<w.heap.size∨w.heap.size<g)->x∉H.S lv':=λlv' hh hx=>by have:=hh x hx;omega
 have nx0:x∉H.all lv:=λhx=>by have:=h.lt x hx;omega
 have sub:∀y∈H.S lv,y∈H.all lv:=λy hy=>by
  simp only[Cm.S,CR.S,ux,n7]at hy;rcases hy with d|d|(d|d|d)|d
  ·simp[Cm.all,Cm.fix,d]
  ·simp[Cm.all,Cm.fix,d]
  ·simp[Cm.all,Cm.fix,d]
  ·simp[Cm.all,Cm.fix,d]
  ·simp[Cm.all,d]
  ·simp[Cm.all,H.D.sub y d]
 refine A9 (λw'=>w'.heap[H.tr]?=wh (wt #[v7 (wh ⟨H.D.st,0,wj⟩),v7 (wh ⟨H.G.gr,0,wj⟩),v6 wg cf.pages,v6 wg cf.chunk,v6 wg c.tp] 188 (0,0))/\w'.heap[x]?=wh (wt (Et e).cells 310 (0,0))) λw2 hf2 _=>⟨⟨hf2.at_ (hn.fr.at_ h.tb (by simp)) (by simp),hf2.at_ hn.at_ (by simp)⟩,?_⟩;have f2:=hn.fr.trans hf2;have h2:=h.keep0 f2;have x2:=hf2.at_ hn.at_ (by simp)
 try simp only[zv]
 refine Au (v:=v7 (wh ⟨H.D.st,0,wj⟩)) (λw' hw=>⟨_,_,_,hw.1,rfl⟩) (Au (v:=v6 wg e.1) (λw' hw=>⟨_,_,_,hw.2,rfl⟩) ⟨GX h2.st ⟨⟨h2.tb,x2⟩,?_⟩,trivial⟩);unfold Co.entry at hk;simp only at hk;refine Ad (v:=v6 wg e.2) x2 rfl ?_;by_cases z1:e.2<0
 ·rw[vy (.inl z1)]at hk;simp only[zv,z1];exact hk lv w2 (C2.w f2) h2
 simp only[zv,z1];refine Ad (v:=v6 wg e.2) x2 rfl ?_;by_cases z2:c.s.fields e.1<=e.2
 ·rw[vy (.inr z2)]at hk;simp only[zv,show e.2≥c.s.fields e.1 from z2];exact hk lv w2 (C2.w f2) h2
 rw[vx (by omega)]at hk;simp only[zv,show ¬(e.2≥c.s.fields e.1) from z2];refine F322.k3.to (A9 (λw'=>w'.heap[H.tr]?=wh (wt #[v7 (wh ⟨H.D.st,0,wj⟩),v7 (wh ⟨H.G.gr,0,wj⟩),v6 wg cf.pages,v6 wg cf.chunk,v6 wg c.tp] 188 (0,0))/\w'.heap[x]?=wh (wt (Et e).cells 310 (0,0))) λw3 hf3 _=>⟨⟨hf3.at_ h2.tb (by simp),hf3.at_ x2 (by simp)⟩,?_⟩);have f3:=f2.trans hf3;have h3:=h2.keep0 hf3
 have x3:=hf3.at_ x2 (by simp)
 try simp only[zv]
 refine Au (v:=v6 wg e.2) (λw' hw=>⟨_,_,_,hw.2,rfl⟩) (Au (v:=v6 wg cf.chunk) (λw' hw=>⟨_,_,_,hw.1,rfl⟩) ?_)
 try simp only[A7]
 refine⟨_,λw' _=>Hi _ _ _ _ _ _,?_⟩;have ew:C7 (e.2+cf.chunk)=e.2+cf.chunk:=BO (by omega);have ew':IntKind.i64.wrap (e.2+cf.chunk)=e.2+cf.chunk:=BO (by omega);rw[ew]at hk;rw[ew'];generalize hto:min (e.2+cf.chunk) (c.s.fields e.1)=to at hk ⊢;have to1:to<=127:=by omega
 have fin:∀lv4 w4 g4,C2 H lv w lv4 w4->Cv H lv4 cf w4 { c with g:=g4 }->w4.heap[x]?=wh (wt (Et e).cells 310 (0,0))->
   (∀lv' w',C2 H lv w lv' w'->Cv H lv' cf w' { c with g:=thru cf c.s e.1 (to-e.2).toNat e.2 g4 }->K (wc #[]) w')->
   F322.k6 K (v7 (wh ⟨H.tr,0,wj⟩)) (v7 (wh ⟨x,0,wj⟩)) (v6 wg to) w4:=λlv4 w4 g4 ht4 h4 x4 hk=>by
  refine F322.k6.to ?_
  try simp only[zv]
  refine Ad (v:=v6 wg e.1) x4 rfl ?_;refine Ad (v:=v6 wg e.2) x4 rfl ?_;exact ML (c:={ c with g:=g4 }) h4 (by omega) to1 λlv' w' ht' h'=>hk lv' w' (ht4.trans ht') h'
 by_cases z3:to<c.s.fields e.1
 ·simp only[zv,z3];rw[vy z3]at hk;refine A9 (λw'=>w'.heap[H.tr]?=wh (wt #[v7 (wh ⟨H.D.st,0,wj⟩),v7 (wh ⟨H.G.gr,0,wj⟩),v6 wg cf.pages,v6 wg cf.chunk,v6 wg c.tp] 188 (0,0))/\w'.heap[x]?=wh (wt (Et e).cells 310 (0,0))) λw4 hf4 _=>⟨⟨hf4.at_ h3.tb (by simp),hf4.at_ x3 (by simp)⟩,?_⟩;have h4:=h3.keep0 hf4
  refine Au (v:=v7 (wh ⟨H.G.gr,0,wj⟩)) (λw' hw=>⟨_,_,_,hw.1,rfl⟩) (Au (v:=v6 wg e.1) (λw' hw=>⟨_,_,_,hw.2,rfl⟩) ⟨Et (e.1,to),λw' _=>by kernel_rfl,?_⟩);refine⟨P4 (e:=(e.1,to)) h4.gy λb lv' w5 hf5 h5=>?_,trivial⟩;have h5':=h4.setG hf5 h5;have x5:=hf5.fr.at_ (hf4.at_ x3 (by simp)) (λee=>nx0 (sub x (by simp[Cm.S,ee])))
  exact⟨⟨h5'.tb,x5⟩,fin lv' w5 _ ((C2.w (f3.trans hf4)).trans (C2.g hf5)) h5' x5 hk⟩
 ·simp only[zv,z3];rw[vx z3]at hk;exact fin lv w3 c.g (C2.w f3) h3 x3 hk
end
section
variable{K:VK}{w w':wn}{H:Cm}{lv:wm}{cf:Cf}{c:Co}
def Cm.subS(H:Cm)(lv:wm):∀y∈H.S lv,y∈H.all lv:=λy hy=>by
 simp only[Cm.S,CR.S,ux,n7]at hy;rcases hy with d|d|(d|d|d)|d
 ·simp[Cm.all,Cm.fix,d]
 ·simp[Cm.all,Cm.fix,d]
 ·simp[Cm.all,Cm.fix,d]
 ·simp[Cm.all,Cm.fix,d]
 ·simp[Cm.all,d]
 ·simp[Cm.all,H.D.sub y d]
def VO(h:Cv H lv cf w c)(hk:∀lv' w',C2 H lv w lv' w'->Cv H lv' cf w' (c.tUnit cf).1->K (wd (c.tUnit cf).2) w'):
  I Z 303 #[v7 (wh ⟨H.tr,0,wj⟩)] w K:=by
 refine F303.sh (R1 h λw1 hf1=>?_);have h1:=h.keep0 hf1;unfold Co.tUnit at hk;cases z:c.tIdle with
 | true=>
  rw[z]at hk;simp only[vu]at hk;simp only[Ah];exact hk lv w1 (C2.w hf1) h1
 | false=>
  rw[z]at hk;simp only[yZ,vq]at hk;simp only[Ag];refine F303.k3.to ?_
  try simp only[zv]
  refine Ad (v:=v7 (wh ⟨H.G.gr,0,wj⟩)) h1.tb rfl (Vt h1.gy (λhl w2 hf2=>?_) λe he lv' w2 hf2 h2=>?_)
  ·have hg:c.g.l.getLast?=wj:=by rw[hl];rfl
   rw[hg]at hk;simp only at hk;have h2:=h1.keep0 hf2
   try simp only[zv]
   refine Ar λx w3 hn3=>AA hn3.at_ rfl (ES (e:=(0,0))) rfl λw4 hu4=>?_;have l3:=hn3.is;have f4:Fr [] w2 w4:=hn3.fr.then hu4.fr (by simp;omega);have h4:=h2.keep0 f4;have ht4:C2 H lv w lv w4:=C2.w ((hf1.trans hf2).trans f4);refine Ad (v:=v6 wg c.tp) h4.tb rfl ?_;by_cases y:c.tp = -1
   ·simp only[zv,vw,y];rw[vy y]at hk;refine Ad (v:=v7 (wh ⟨H.G.gr,0,wj⟩)) h4.tb rfl (Rz h4.gy λw5 hf5 h5=>?_);have h5':=h4.setG hf5 h5;refine AI h5'.tb rfl rfl (by simp) λw6 hu6=>?_;have h6:=h5'.setT hu6.fr hu6.at_;refine F303.k10.to (R6 h6 λlv' w7 ht7 h7=>?_);exact hk lv' w7 (((ht4.trans (C2.g hf5)).trans (C2.t hu6.fr)).trans ht7) h7
   ·simp only[zv,y];rw[vx y]at hk;refine F303.k10.to (R6 h4 λlv' w7 ht7 h7=>?_);exact hk lv' w7 (ht4.trans ht7) h7
  ·rw[he]at hk;simp only at hk;have h2':=h1.setG hf2 h2;have ht2:C2 H lv w lv' w2:=(C2.w hf1).trans (C2.g hf2)
   try simp only[zv]
   refine Ar λx w3 hn3=>AA hn3.at_ rfl (ES (e:=e)) rfl λw4 hu4=>?_;have l3:=hn3.is;have f4:Fr [] w2 w4:=hn3.fr.then hu4.fr (by simp;omega);have h4:=h2'.keep0 f4;refine A3 hu4.at_ rfl (Vp h4 λlv'' w5 ht5 h5=>?_);exact hk lv'' w5 ((ht2.trans (C2.w f4)).trans ht5) h5
def VN(h:Cv H lv cf w c)(hk:∀w',C2 H lv w lv w'->Cv H lv cf w' { c with at_:=0,freed:=0 }->K (wc #[]) w'):I Z 218 #[v7 (wh ⟨H.sw,0,wj⟩)] w K:=by
 refine F218.sh ⟨_,CJ _ _ _ Tryz.underlying127,?_⟩
 try simp only[zv]
 refine AI h.sb rfl rfl (by simp) λw1 hu1=>?_;have h1:=h.setW (a:=0) (f:=c.freed) hu1.fr hu1.at_;refine AI h1.sb rfl rfl (by simp) λw2 hu2=>?_;exact hk w2 ((C2.s hu1.fr).trans (C2.s hu2.fr)) (h1.setW (a:=0) (f:=0) hu2.fr hu2.at_)
def WF(h:Cv H lv cf w c)(hk:K (v6 wg c.at_) w):I Z 220 #[v7 (wh ⟨H.sw,0,wj⟩)] w K:=by
 refine F220.sh ⟨_,Ck _ _ _ Tryz.underlying127,?_⟩
 try simp only[Ag]
 refine F220.k3.to ?_
 try simp only[zv]
 exact Ad (v:=v6 wg c.at_) h.sb rfl hk
def Ru(h:Cv H lv cf w c)(hk:∀w',Fr [] w w'->K (wd (decide (cf.pages<=c.at_))) w'):I Z 305 #[v7 (wh ⟨H.sw,0,wj⟩)] w K:=by
 refine F305.sh (A9 (λw'=>w'.heap[H.sw]?=wh (wt #[v7 (wh ⟨H.D.st,0,wj⟩),v7 (wh ⟨H.G.gr,0,wj⟩),v6 wg cf.pages,v6 wg c.at_,v6 wg c.freed] 190 (0,0))) λw1 hf1 _=>⟨hf1.at_ h.sb (by simp),⟨_,λw' _=>Ck _ _ _ Tryz.underlying127,?_⟩⟩)
 try simp only[zv]
 refine Au (v:=v6 wg c.at_) (λw' hw=>⟨_,_,_,hw,rfl⟩) ?_;refine Au (v:=v6 wg cf.pages) (λw' hw=>⟨_,_,_,hw,rfl⟩) ?_;have:=hk w1 hf1
 try simp only[AE]
 exact this
def Q5{W:wn}{v:wm}{l:List Int}(hl:l.length<=2048){lv0:wm}{cf':Co}(hN:∀g∈BN v,H.N<=g)(hk:∀lv' w',C2 H lv0 W lv' w'->Cv H lv' cf w' cf'->F304.k9 K (v7 (wh ⟨H.sw,0,wj⟩)) w'):
  ∀(d i:Nat) (c:Co) (lv:wm) (w:wn),i+d=l.length->C2 H lv0 W lv w->Cv H lv cf w c->BQ w v 3 1 (BX l)->c.sweepAll (l.drop i)=cf'->
   F304.l4 K (v7 (wh ⟨H.sw,0,wj⟩)) v (v6 wg (l.length:Int)) (v6 wg (i:Int)) w:=by
 intro d;induction d with
 | zero=>
  intro i c lv w hi ht h hv he;have e:i=l.length:=by omega
  subst e;refine F304.l4.to ?_;simp only[zv,show ¬((l.length:Int)<(l.length:Int)) by omega];rw[b6]at he;simp only[Co.sweepAll]at he;subst he;exact hk lv w ht h
 | succ d ih=>
  intro i c lv w hi ht h hv he;have hlt:i<l.length:=by omega
  refine F304.l4.to ?_;simp only[zv,show (i:Int)<(l.length:Int) by omega];rw[xJ hlt,Co.sweepAll]at he;have step:∀w',C2 H lv w lv w'->Cv H lv cf w' (c.sweepOne l[i])->
    F304.k8 K (v7 (wh ⟨H.sw,0,wj⟩)) v (v6 wg (l.length:Int)) (v6 wg (i:Int)) w':=λw' ht' h'=>by
   refine F304.k8.to ?_
   try simp only[A7]
   rw[BO (n:=(i:Int)+1) (by omega)];exact ih (i+1) _ lv w' (by omega) (ht.trans ht') h' (hv.keep' ht'.fr (h.far hv (by decide) hN)) he
  refine F304.k5.to (AV hv.rd hlt λgg o cs e fz hg hc=>Ad hg hc ?_)
  try simp only[zv]
  refine Ad (v:=v7 (wh ⟨H.G.gr,0,wj⟩)) h.sb rfl (T3 h.gy λw1 hf1 h1=>?_);have h1':=h.setG (DW.m hf1) h1;have ht1:C2 H lv w lv w1:=C2.g (DW.m hf1);unfold Co.sweepOne at step;cases z:c.g.is l[i] with
  | true=>
   rw[z]at step;simp only[vu]at step;simp only[zv];exact step w1 ht1 h1'
  | false=>
   have ec:c.g.clear l[i]=c.g:=by unfold Gy.clear;rw[z];rfl
   rw[ec]at h1';rw[z]at step;simp only[yZ,vq]at step;simp only[zv];refine Ad (v:=v7 (wh ⟨H.D.st,0,wj⟩)) h1'.sb rfl (VH h1'.st λw2 hf2 h2=>?_);have h2':=h1'.setS hf2 h2;have ht2:=ht1.trans (C2.d hf2);cases y:(c.s.c.give l[i]).2 with
   | false=>
    simp only[y,yZ,vq]at step;simp only[Ag];exact step w2 ht2 h2'
   | true=>
    simp only[y,vu]at step;simp only[Ah];refine Ad (v:=v6 wg c.freed) h2'.sb rfl ?_
    try simp only[A7]
    refine AI h2'.sb rfl rfl (by simp) λw3 hu3=>?_;exact step w3 (ht2.trans (C2.s hu3.fr)) (h2'.setW (a:=c.at_) (f:=C7 (c.freed+1)) hu3.fr hu3.at_)
def VR(h:Cv H lv cf w c)(hk:∀lv' w',C2 H lv w lv' w'->Cv H lv' cf w' (c.wUnit cf).1->K (wd (c.wUnit cf).2) w'):
  I Z 304 #[v7 (wh ⟨H.sw,0,wj⟩)] w K:=by
 refine F304.sh (Ru h λw1 hf1=>?_);have h1:=h.keep0 hf1;unfold Co.wUnit at hk;by_cases z:cf.pages<=c.at_
 ·rw[vy z]at hk;simp only[zv,z];exact hk lv w1 (C2.w hf1) h1
 rw[vx z]at hk;simp only at hk;simp only[zv,z];refine F304.k3.to (A9 (λw'=>w'.heap[H.sw]?=wh (wt #[v7 (wh ⟨H.D.st,0,wj⟩),v7 (wh ⟨H.G.gr,0,wj⟩),v6 wg cf.pages,v6 wg c.at_,v6 wg c.freed] 190 (0,0))) λw2 hf2 _=>⟨hf2.at_ h1.sb (by simp),?_⟩);have h2:=h1.keep0 hf2
 try simp only[zv]
 refine Au (v:=v7 (wh ⟨H.D.st,0,wj⟩)) (λw' hw=>⟨_,_,_,hw,rfl⟩) (Au (v:=v6 wg c.at_) (λw' hw=>⟨_,_,_,hw,rfl⟩) ⟨WR h2.st λv w3 hf3 hn3 hv3=>⟨hf3.at_ h2.sb (by simp),?_⟩,trivial⟩);have h3:=h2.keep0 hf3;have hl:=PX h c.at_;refine AH hv3.rd ?_;rw[Ca];have hN:∀g∈BN v,H.N<=g:=λg hg=>by have:=hn3.blk g hg;have:=h2.le;omega
 refine Q5 (W:=w) (lv0:=lv) (cf':=c.sweepAll (c.s.inP c.at_)) hl hN (λlv' w4 ht4 h4=>?_) (c.s.inP c.at_).length 0 c lv w3 (by omega) (C2.w ((hf1.trans hf2).trans hf3)) h3 hv3 rfl;generalize c.sweepAll (c.s.inP c.at_)=e at hk h4
 refine F304.k9.to (A9 (λw'=>w'.heap[H.sw]?=wh (wt #[v7 (wh ⟨H.D.st,0,wj⟩),v7 (wh ⟨H.G.gr,0,wj⟩),v6 wg cf.pages,v6 wg e.at_,v6 wg e.freed] 190 (0,0))) λw5 hf5 _=>⟨hf5.at_ h4.sb (by simp),?_⟩);have h5:=h4.keep0 hf5
 try simp only[zv]
 refine Au (v:=v7 (wh ⟨H.D.st,0,wj⟩)) (λw' hw=>⟨_,_,_,hw,rfl⟩) (Au (v:=v6 wg e.at_) (λw' hw=>⟨_,_,_,hw,rfl⟩) ⟨Xs h5.st λb w6 hf6 h6=>?_,trivial⟩);have h6':=h5.setS hf6 h6;refine⟨h6'.sb,?_⟩;refine Ad (v:=v6 wg e.at_) h6'.sb rfl ?_
 try simp only[A7]
 refine AI h6'.sb rfl rfl (by simp) λw7 hu7=>?_;exact hk lv' w7 (((ht4.trans (C2.w hf5)).trans (C2.d hf6)).trans (C2.s hu7.fr)) (h6'.setW (a:=C7 (e.at_+1)) (f:=e.freed) hu7.fr hu7.at_)
end
end
noncomputable section
variable{K:VK}{w:wn}{x0 x1 x2 y0 y1 y2 y3 y4 y5 y7 y8 y9 y10 y11 y12 y13 y14 y15:wm}
def F75.sh(h:(I Z 66 #[x0,(v6 wg 0),(v6 wg 8)] w λa b=>Am Z (Instr.makeSlice 181 a a) b λc d=>Am Z (Instr.build 183 #[(0,(wd wk)),(2,c)]) d λf g=>Aq (wt (wm.cells f) 183) g λi j=>K i j)):I Z 75 #[x0] w K:=BK (A:=A0) (args:=[x0]) (qq h)
def F95.sh(h:(AB Z .neq 124 (.tmp 5) (.const (v7 wj)) x0 (v7 wj) w λa b=>Aa wk a (λK=>K x1 b) b λc d=>Aa wk a (U .geq c (v6 wg 0) d) d λf g=>Aw (wh a) (wh f) (wh (wd wl)) g λi j=>Aa wk i (λK=>K x1 j) j λk m=>Aa wk i (λK=>K x0 m) m λo p=>Aa wk i (Ae o p) p λq r=>Aa wk i (Ab 2 q r) r λs t=>Aa wk i (Ac s t) t λu v=>Aa wk i (AD u v) v λx y=>Aa wk i (U .lss k x y) y λz aa=>Aw (wh i) (wh z) (wh (wd wl)) aa λab ac=>Aa wk ab (λK=>K x0 ac) ac λad ae=>Aa wk ab (Ae ad ae) ae λaf ag=>Aa wk ab (Ab 2 af ag) ag λah ai=>Aa wk ab (Ac ah ai) ai λaj ak=>Aa wk ab (λK=>K x1 ak) ak λal am=>Aa wk ab (AC 2 aj al am) am λan ao=>Aa wk ab (Ab 0 an ao) ao λap aq=>Aa wk ab (Ac ap aq) aq λar au=>Aw (wh ab) (wh ar) (wh (wd wl)) au λav aw=>K av aw)):I Z 95 #[x0,x1] w K:=BK (A:=A0) (args:=[x0,x1]) (qq h)
namespace F142
def ann:Cg:=⟨[(3,[0,1])],[],[],[(3,(tk [0,1,2,4,5,6,7,3,8,9,10] (.go 11 .fin .fin)))],wj⟩
def code:=cd f142
def BM:=tp f142
variable(K:VK)(y0 y1:wm)(w:wn)
@[irreducible]def k3:=nk ann 41 [(0,y0),(1,y1)] w [1,1] code (BM K)
end F142
def F142.k3.to(h:(A2 w λS a=>Ae y0 a λb c=>Ab 2 b c λd f=>Ae y0 f λg i=>Ab 1 g i λj k=>An S d k λm o=>An S j o λp q=>∃r,(∀w',S w'->(Instr.build 212 #[(0,(wd wk)),(1,p)]).run Z w'=.ok r w')/\(AC 2 m y1 q λs t=>(Aj 2 s r t λu=>(S u/\
 K (wd wk) u))/\True))):F142.k3 K y0 y1 w:=qq h
def F142.sh(h:(AB Z .eql 124 (.tmp 5) (.const (v7 wj)) x0 (v7 wj) w λa b=>Aa wl a (λK=>K x1 b) b λc d=>Aa wl a (U .lss c (v6 wg 0) d) d λf g=>Aw (wh a) (wh (wd wk)) (wh f) g λi j=>Aa wl i (λK=>K x1 j) j λk m=>Aa wl i (λK=>K x0 m) m λo p=>Aa wl i (Ae o p) p λq r=>Aa wl i (Ab 2 q r) r λs t=>Aa wl i (Ac s t) t λu v=>Aa wl i (AD u v) v λx y=>Aa wl i (U .geq k x y) y λz aa=>Aw (wh i) (wh (wd wk)) (wh z) aa λab ac=>Aa wl ab (λK=>K x0 ac) ac λad ae=>Aa wl ab (Ae ad ae) ae λaf ag=>Aa wl ab (Ab 2 af ag) ag λah ai=>Aa wl ab (Ac ah ai) ai λaj ak=>Aa wl ab (λK=>K x1 ak) ak λal am=>Aa wl ab (AC 2 aj al am) am λan ao=>Aa wl ab (Ab 0 an ao) ao λap aq=>Aa wl ab (Ac ap aq) aq λar au=>Aw (wh ab) (wh (wd wk)) (wh ar) au λav aw=>Af av (K (wd wl) aw) (F142.k3 K x0 x1 aw))):I Z 142 #[x0,x1] w K:=BK (A:=F142.ann) (args:=[x0,x1]) (qq h)
namespace F148
def ann:=a1 [(3,[0,1])]
def code:=cd f148
def BM:=tp f148
variable(K:VK)(y0 y1:wm)(w:wn)
@[irreducible]def k3:=nk ann 16 [(0,y0),(1,y1)] w [1,1] code (BM K)
end F148
def F148.k3.to(h:(Ae y0 w λa b=>Ab 2 a b λc d=>Ac c d λf g=>Am Z (Instr.build 212 #[]) g λi j=>AC 2 f y1 j λk m=>Aj 2 k i m λo=>K (wd wk) o)):F148.k3 K y0 y1 w:=qq h
def F148.sh(h:(I Z 95 #[x0,x1] w λa b=>A8 a b λc d=>Af c (K (wd wl) d) (F148.k3 K x0 x1 d))):I Z 148 #[x0,x1] w K:=BK (A:=F148.ann) (args:=[x0,x1]) (qq h)
namespace F160
def ann:Cg:=⟨[(3,[0,1])],[],[],[(1,(tk [0,1] (.go 2 (tk [3,4,5,6,7,9,13,14,15,8,10,11,16] (.go 12 (tk [17,18] .fin) .fin)) .fin))),(3,(tk [0,1,2,4,5,6,7,3,8,9,10] (.go 11 .fin .fin)))],wj⟩
def code:=cd f160
def BM:=tp f160
variable(K:VK)(y0 y1:wm)(w:wn)
@[irreducible]def k3:=nk ann 35 [(0,y0),(1,y1)] w [1,1] code (BM K)
end F160
def F160.k3.to(h:(A2 w λS a=>Ae y0 a λb c=>Ab 2 b c λd f=>Ae y0 f λg i=>Ab 1 g i λj k=>An S d k λm o=>An S j o λp q=>AC 2 m y1 q λr s=>Ab 1 r s λt u=>(Aj 1 t p u λv=>(S v/\
 K (wd wk) v))/\True)):F160.k3 K y0 y1 w:=qq h
def F160.sh(h:(A2 w λS a=>(I Z 95 #[x0,x1] a λb c=>(S c/\
 A8 b c λd f=>Aa wl d (λK=>K x0 f) f λg i=>Aa wl d (Ae g i) i λj k=>Aa wl d (Ab 2 j k) k λm o=>Aa wl d (λK=>K x1 o) o λp q=>Aa wl d (λK=>K x0 q) q λr s=>Aa wl d (Ae r s) s λt u=>Aa wl d (Ab 1 t u) u λv x=>Aa wl d (An S m x) x λy z=>Aa wl d (AC 2 y p z) z λaa ab=>Aa wl d (Ab 1 aa ab) ab λac ad=>Aa wl d (An S v ad) ad λae af=>(Aa wl d (Ac ac af) af λag ah=>(S ah/\
 Aa wl d (U .geq ag ae ah) ah λai aj=>Aw (wh d) (wh (wd wk)) (wh ai) aj λak al=>Af ak (K (wd wl) al) (F160.k3 K x0 x1 al)))/\True))/\True)):I Z 160 #[x0,x1] w K:=BK (A:=F160.ann) (args:=[x0,x1]) (qq h)
def F213.sh(h:(I Z 265 #[x0] w λa b=>AD a b λc d=>U .eql c (v6 wg 0) d λf g=>K f g)):I Z 213 #[x0] w K:=BK (A:=A0) (args:=[x0]) (qq h)
def F265.sh(h:(Aq (wt (wm.cells x0) 124) w λa b=>Ac a b λc d=>I Z 296 #[c,(.func (.func 297) #[] #[a])] d λf g=>K f g)):I Z 265 #[x0] w K:=BK (A:=A0) (args:=[x0]) (qq h)
namespace F266
def ann:=a1 [(3,[0])]
def code:=cd f266
def BM:=tp f266
variable(K:VK)(y0:wm)(w:wn)
@[irreducible]def k3:=nk ann 23 [(0,y0)] w [1,1] code (BM K)
end F266
def F266.k3.to(h:(Ae y0 w λa b=>Ab 1 a b λc d=>Ac c d λf g=>U .add f (v6 wg 1) g λi j=>Ae y0 j λk m=>Ab 1 k m λo p=>Aj 1 o i p λq=>Ae y0 q λr s=>Ab 1 r s λt u=>Ac t u λv x=>K v x)):F266.k3 K y0 w:=qq h
def F266.sh(h:(AB Z .eql 124 (.tmp 3) (.const (v7 wj)) x0 (v7 wj) w λa b=>Aa wl a (λK=>K x0 b) b λc d=>Aa wl a (Ae c d) d λf g=>Aa wl a (Ab 0 f g) g λi j=>Aa wl a (Ac i j) j λk m=>Aa wl a (A8 k m) m λo p=>Aw (wh a) (wh (wd wk)) (wh o) p λq r=>Af q (K (v6 wg 0) r) (F266.k3 K x0 r))):I Z 266 #[x0] w K:=BK (A:=F266.ann) (args:=[x0]) (qq h)
namespace F277
def ann:=a1 [(3,[0,1])]
def code:=cd f277
def BM:=tp f277
variable(K:VK)(y0 y1:wm)(w:wn)
@[irreducible]def k3:=nk ann 17 [(0,y0),(1,y1)] w [1,1] code (BM K)
end F277
def F277.k3.to(h:(Ae y0 w λa b=>Ab 2 a b λc d=>Ac c d λf g=>AC 2 f y1 g λi j=>Ab 1 i j λk m=>Ac k m λo p=>K o p)):F277.k3 K y0 y1 w:=qq h
def F277.sh(h:(I Z 95 #[x0,x1] w λa b=>A8 a b λc d=>Af c (K (v6 wg (-1)) d) (F277.k3 K x0 x1 d))):I Z 277 #[x0,x1] w K:=BK (A:=F277.ann) (args:=[x0,x1]) (qq h)
namespace F278
def ann:=a1 [(3,[0])]
def code:=cd f278
def BM:=tp f278
variable(K:VK)(y0:wm)(w:wn)
@[irreducible]def k3:=nk ann 9 [(0,y0)] w [1,1] code (BM K)
end F278
def F278.k3.to(h:(Ae y0 w λa b=>Ab 1 a b λc d=>Ac c d λf g=>K f g)):F278.k3 K y0 w:=qq h
def F278.sh(h:(AB Z .eql 124 (.tmp 3) (.const (v7 wj)) x0 (v7 wj) w λa b=>Af a (K (v6 wg 0) b) (F278.k3 K x0 b))):I Z 278 #[x0] w K:=BK (A:=F278.ann) (args:=[x0]) (qq h)
namespace F296
def ann:Cg:=⟨[(3,[0,1]),(6,[1,5,13,14,15]),(9,[1,5,13,14,15]),(10,[5])],[(5,[1,5,13,14,15])],[],[],wj⟩
def code:=cd f296
def BM:=tp f296
variable(K:VK)(y0 y1 y5 y13 y14 y15:wm)(w:wn)
def k3:=nk ann 33 [(0,y0),(1,y1)] w [1,1] code (BM K)
def k10:=nk ann 33 [(5,y5)] w [1,1,1,1] code (BM K)
def l5:=nl ann 33 [(1,y1),(5,y5),(13,y13),(14,y14),(15,y15)] w [1,1,1,0,1,0] code (BM K)
def k6:=nk ann 33 [(1,y1),(5,y5),(13,y13),(14,y14),(15,y15)] w [1,1,1,0,1,0,0,1,1] code (BM K)
def k9:=nk ann 33 [(1,y1),(5,y5),(13,y13),(14,y14),(15,y15)] w [1,1,1,0,1,0,0,1,1,1] code (BM K)
attribute [irreducible] k3 k10 l5 k6 k9
end F296
def F296.k3.to(h:(Ae y0 w λa b=>Ab 2 a b λc d=>Ac c d λf g=>AD f g λi j=>F296.l5 K y1 (v8 wj 0 0) f i (v6 wg 0) j)):F296.k3 K y0 y1 w:=qq h
def F296.k10.to(h:(K y5 w)):F296.k10 K y5 w:=qq h
def F296.l5.to(h:(U .lss y15 y14 w λa b=>Af a (F296.k6 K y1 y5 y13 y14 y15 b) (F296.k10 K y5 b))):F296.l5 K y1 y5 y13 y14 y15 w:=by unfold F296.l5 nl;exact BW (qq h)
def F296.k6.to(h:(AC 2 y13 y15 w λa b=>Ak 2 a b λc d=>Aq (wt #[wd wl,v6 wg 0] 212) d λf g=>Aj 2 f c g λi=>Ab 0 f i λj k=>Ac j k λm o=>Aa wk m (λK=>K y1 o) o λp q=>Aa wk m (Ak 2 f q) q λr s=>Aa wk m (λK=>Du Z p [r] s K) s λt u=>Aw (wh m) (wh t) (wh (wd wl)) u λv x=>Af v (Am Z (Instr.buildSlice 54 1 #[(0,y15)]) x λy z=>Am Z (Builtin.append_ #[54,54] 54 #[y5,y]) z λaa ab=>F296.k9 K y1 aa y13 y14 y15 ab) (F296.k9 K y1 y5 y13 y14 y15 x))):F296.k6 K y1 y5 y13 y14 y15 w:=qq h
def F296.k9.to(h:(U .add y15 (v6 wg 1) w λa b=>F296.l5 K y1 y5 y13 y14 a b)):F296.k9 K y1 y5 y13 y14 y15 w:=qq h
def F296.sh(h:(AB Z .eql 124 (.tmp 8) (.const (v7 wj)) x0 (v7 wj) w λa b=>Af a (K (v8 wj 0 0) b) (F296.k3 K x0 x1 b))):I Z 296 #[x0,x1] w K:=BK (A:=F296.ann) (args:=[x0,x1]) (qq h)
namespace F297
def ann:Cg:=⟨[],[],[],[(1,(tk [0,1,2,3,4,5,6,7] .fin))],wj⟩
end F297
def F297.sh(h:(Aq (wt (wm.cells x0) 212) w λa b=>A2 b λS c=>Ab 1 a c λd f=>An S d f λg i=>An S x1 i λj k=>Ae j k λm o=>Ab 1 m o λp q=>An S p q λr s=>U .lss g r s λt u=>K t u)):I Z 297 #[x0,x1] w K:=BK (A:=F297.ann) (args:=[x0,x1]) (qq h)
def F76.sh(h:(I Z 66 #[x0,(v6 wg 0),(v6 wg 8)] w λa b=>Am Z (Instr.makeSlice 184 a a) b λc d=>Am Z (Instr.build 186 #[(0,(wd wk)),(1,c)]) d λf g=>Aq (wt (wm.cells f) 186) g λi j=>K i j)):I Z 76 #[x0] w K:=BK (A:=A0) (args:=[x0]) (qq h)
namespace F143
def ann:=a1 [(4,[5])]
def code:=cd f143
def BM:=tp f143
variable(K:VK)(y5:wm)(w:wn)
@[irreducible]def k4:=nk ann 21 [(5,y5)] w [1,1,1] code (BM K)
end F143
def F143.k4.to(h:(K y5 w)):F143.k4 K y5 w:=qq h
def F143.sh(h:(I Z 209 #[x0,x1] w λa b=>Ao 0 a b λc d=>Ao 1 a d λf g=>Af f (Ae x0 g λi j=>Ab 1 i j λk m=>Ac k m λo p=>AC 1 o x1 p λq r=>Aj 1 q (v8 wj 0 0) r λs=>F143.k4 K c s) (F143.k4 K c g))):I Z 143 #[x0,x1] w K:=BK (A:=F143.ann) (args:=[x0,x1]) (qq h)
namespace F209
def ann:=a1 [(3,[0,1])]
def code:=cd f209
def BM:=tp f209
variable(K:VK)(y0 y1:wm)(w:wn)
@[irreducible]def k3:=nk ann 28 [(0,y0),(1,y1)] w [1,1] code (BM K)
end F209
def F209.k3.to(h:(Ae y0 w λa b=>Ab 1 a b λc d=>Ac c d λf g=>AC 1 f y1 g λi j=>Ac i j λk m=>K (wc #[k,(wd wk)]) m)):F209.k3 K y0 y1 w:=qq h
def F209.sh(h:(AB Z .eql 125 (.tmp 6) (.const (v7 wj)) x0 (v7 wj) w λa b=>Aa wl a (λK=>K x1 b) b λc d=>Aa wl a (U .lss c (v6 wg 0) d) d λf g=>Aw (wh a) (wh (wd wk)) (wh f) g λi j=>Aa wl i (λK=>K x1 j) j λk m=>Aa wl i (λK=>K x0 m) m λo p=>Aa wl i (Ae o p) p λq r=>Aa wl i (Ab 1 q r) r λs t=>Aa wl i (Ac s t) t λu v=>Aa wl i (AD u v) v λx y=>Aa wl i (U .geq k x y) y λz aa=>Aw (wh i) (wh (wd wk)) (wh z) aa λab ac=>Af ab (K (wc #[(v8 wj 0 0),(wd wl)]) ac) (F209.k3 K x0 x1 ac))):I Z 209 #[x0,x1] w K:=BK (A:=F209.ann) (args:=[x0,x1]) (qq h)
namespace F214
def ann:Cg:=⟨[(3,[0]),(6,[0,3,11,12]),(8,[0,3,11,12]),(9,[3])],[(5,[0,3,11,12])],[],[],wj⟩
def code:=cd f214
def BM:=tp f214
variable(K:VK)(y0 y3 y11 y12:wm)(w:wn)
def k3:=nk ann 23 [(0,y0)] w [1,1] code (BM K)
def k9:=nk ann 23 [(3,y3)] w [1,1,1,1] code (BM K)
def l5:=nl ann 23 [(0,y0),(3,y3),(11,y11),(12,y12)] w [1,1,1,0,1,0] code (BM K)
def k6:=nk ann 23 [(0,y0),(3,y3),(11,y11),(12,y12)] w [1,1,1,0,1,0,0,1,1] code (BM K)
def k8:=nk ann 23 [(0,y0),(3,y3),(11,y11),(12,y12)] w [1,1,1,0,1,0,0,1,1,1] code (BM K)
attribute [irreducible] k3 k9 l5 k6 k8
end F214
def F214.k3.to(h:(Ae y0 w λa b=>Ab 1 a b λc d=>Ac c d λf g=>AD f g λi j=>F214.l5 K y0 (v6 wg 0) i (v6 wg 0) j)):F214.k3 K y0 w:=qq h
def F214.k9.to(h:(K y3 w)):F214.k9 K y3 w:=qq h
def F214.l5.to(h:(U .lss y12 y11 w λa b=>Af a (F214.k6 K y0 y3 y11 y12 b) (F214.k9 K y3 b))):F214.l5 K y0 y3 y11 y12 w:=by unfold F214.l5 nl;exact BW (qq h)
def F214.k6.to(h:(I Z 143 #[y0,y12] w λa b=>AD a b λc d=>U .add y3 c d λf g=>F214.k8 K y0 f y11 y12 g)):F214.k6 K y0 y3 y11 y12 w:=qq h
def F214.k8.to(h:(U .add y12 (v6 wg 1) w λa b=>F214.l5 K y0 y3 y11 a b)):F214.k8 K y0 y3 y11 y12 w:=qq h
def F214.sh(h:(AB Z .eql 125 (.tmp 5) (.const (v7 wj)) x0 (v7 wj) w λa b=>Af a (K (v6 wg 0) b) (F214.k3 K x0 b))):I Z 214 #[x0] w K:=BK (A:=F214.ann) (args:=[x0]) (qq h)
def F216.sh(h:(AB Z .eql 125 (.tmp 3) (.const (v7 wj)) x0 (v7 wj) w λa b=>Aa wl a (λK=>K x0 b) b λc d=>Aa wl a (Ae c d) d λf g=>Aa wl a (Ab 1 f g) g λi j=>Aa wl a (Ac i j) j λk m=>Aa wl a (λK=>I Z 267 #[k,(.func (.func 268) #[] #[])] m K) m λo p=>Aa wl a (A8 o p) p λq r=>Aw (wh a) (wh (wd wk)) (wh q) r λs t=>K s t)):I Z 216 #[x0] w K:=BK (A:=A0) (args:=[x0]) (qq h)
namespace F232
def ann:Cg:=⟨[(4,[0,1,2,7])],[],[],[(4,(tk [0,1,2,4,5,6,3] (.go 7 (.go 8 (.take 9 (.go 10 .fin .fin)) .fin) .fin)))],wj⟩
def code:=cd f232
def BM:=tp f232
variable(K:VK)(y0 y1 y2 y7:wm)(w:wn)
@[irreducible]def k4:=nk ann 37 [(0,y0),(1,y1),(2,y2),(7,y7)] w [1,1,1] code (BM K)
end F232
def F232.k4.to(h:(A2 w λS a=>Ae y0 a λb c=>Ab 1 b c λd f=>An S d f λg i=>(Am Z (Instr.buildSlice 54 1 #[(0,y2)]) i λj k=>(S k/\
 (Am Z (Builtin.append_ #[54,54] 54 #[y7,j]) k λm o=>(S o/\
 AC 1 g y1 o λp q=>(Aj 1 p m q λr=>(S r/\
 K (wd wk) r))/\True))/\True))/\True)):F232.k4 K y0 y1 y2 y7 w:=qq h
def F232.sh(h:(I Z 209 #[x0,x1] w λa b=>Ao 0 a b λc d=>Ao 1 a d λf g=>A8 f g λi j=>Aa wl i (λK=>K x2 j) j λk m=>Aa wl i (λK=>I Z 272 #[k] m K) m λo p=>Aa wl i (U .lss o (v6 wg 0) p) p λq r=>Aw (wh i) (wh (wd wk)) (wh q) r λs t=>Aa wl s (λK=>K c t) t λu v=>Aa wl s (λK=>K x2 v) v λx y=>Aa wl s (λK=>I Z 85 #[u,x] y K) y λz aa=>Aw (wh s) (wh (wd wk)) (wh z) aa λab ac=>Af ab (K (wd wl) ac) (F232.k4 K x0 x1 x2 c ac))):I Z 232 #[x0,x1,x2] w K:=BK (A:=F232.ann) (args:=[x0,x1,x2]) (qq h)
def F268.sh(h:(AD x0 w λa b=>U .gtr a (v6 wg 0) b λc d=>K c d)):I Z 268 #[x0] w K:=BK (A:=A0) (args:=[x0]) (qq h)
namespace F82
def ann:=a1 [(3,[0])]
def code:=cd f82
def BM:=tp f82
variable(K:VK)(y0:wm)(w:wn)
@[irreducible]def k3:=nk ann 10 [(0,y0)] w [1,1] code (BM K)
end F82
def F82.k3.to(h:(Ae y0 w λa b=>Ab 0 a b λc d=>Ac c d λf g=>I Z 80 #[f] g λi j=>K i j)):F82.k3 K y0 w:=qq h
def F82.sh(h:(AB Z .eql 194 (.tmp 3) (.const (v7 wj)) x0 (v7 wj) w λa b=>Af a (K (v8 wj 0 0) b) (F82.k3 K x0 b))):I Z 82 #[x0] w K:=BK (A:=F82.ann) (args:=[x0]) (qq h)
def F146.sh(h:(AB Z .neq 194 (.tmp 2) (.const (v7 wj)) x0 (v7 wj) w λa b=>Af a (Ae x0 b λc d=>Ab 0 c d λf g=>Aj 1 f (v8 wj 0 0) g λi=>K (wc #[]) i) (K (wc #[]) b))):I Z 146 #[x0] w K:=BK (A:=A0) (args:=[x0]) (qq h)
namespace F156
def ann:Cg:=⟨[(4,[2,4,5])],[],[],[(3,(tk [0,1,2,3,5,6,7] (.go 4 (.go 8 (tk [9,10,11,12,13] (.go 14 .fin .fin)) .fin) (.go 8 (tk [9,10] (.go 4 (tk [11,12,13] (.go 14 .fin .fin)) .fin)) .fin))))],wj⟩
def code:=cd f156
def BM:=tp f156
variable(K:VK)(y2 y4 y5:wm)(w:wn)
@[irreducible]def k4:=nk ann 31 [(2,y2),(4,y4),(5,y5)] w [1,1,1] code (BM K)
end F156
def F156.k4.to(h:(Ak 2 y4 w λa b=>Aj 2 y2 a b λc=>Ak 2 y2 c λr3 _=>K (wc #[r3,y5]) c)):F156.k4 K y2 y4 y5 w:=qq h
def F156.sh(h:(Aq (wt #[v6 wg 0,v6 wg 0] 60) w λa b=>I Z 229 #[x0] b λc d=>U .sub c (v6 wg 1) d λf g=>I Z 228 #[x0,f] g λi j=>Ao 0 i j λk m=>Ao 1 i m λo p=>Aq (wt #[v6 wg 0,v6 wg 0] 60) p λq r=>Aj 2 q k r λs=>Af o (A2 s λS t=>Ae x0 t λu v=>Ab 0 u v λx y=>Ae x0 y λz aa=>Ab 0 z aa λab ac=>(Ac x ac λad ae=>(S ae/\
 (Ac ab ae λaf ag=>(S ag/\
 AD af ag λah ai=>U .sub ah (v6 wg 1) ai λaj ak=>∃al,(∀w',S w'->(Instr.sliceAt 56 ad wj (wh aj) wj).run Z w'=.ok al w')/\(Ae x0 ak λam an=>Ab 0 am an λao ap=>(Aj 1 ao al ap λaq=>(S aq/\
 F156.k4 K a q o aq))/\True)))/\True))/\((Ac ab ac λar au=>(S au/\
 AD ar au λav aw=>U .sub av (v6 wg 1) aw λax ay=>(Ac x ay λaz ba=>(S ba/\
 ∃bb,(∀w',S w'->(Instr.sliceAt 56 az wj (wh ax) wj).run Z w'=.ok bb w')/\(Ae x0 ba λbc bd=>Ab 0 bc bd λbe bf=>(Aj 1 be bb bf λbg=>(S bg/\
 F156.k4 K a q o bg))/\True)))/\True))/\True)) (F156.k4 K a q o s))):I Z 156 #[x0] w K:=BK (A:=F156.ann) (args:=[x0]) (qq h)
namespace F161
def ann:Cg:=⟨[(4,[3,8,9,10]),(8,[3,8,9,10]),(9,[3])],[(3,[3,8,9,10])],[],[],wj⟩
def code:=cd f161
def BM:=tp f161
variable(K:VK)(y3 y8 y9 y10:wm)(w:wn)
def k9:=nk ann 31 [(3,y3)] w [1,1,1] code (BM K)
def l3:=nl ann 31 [(3,y3),(8,y8),(9,y9),(10,y10)] w [1,1,0,1,0] code (BM K)
def k4:=nk ann 31 [(3,y3),(8,y8),(9,y9),(10,y10)] w [1,1,0,1,0,0,1,1] code (BM K)
def k8:=nk ann 31 [(3,y3),(8,y8),(9,y9),(10,y10)] w [1,1,0,1,0,0,1,1,1] code (BM K)
attribute [irreducible] k9 l3 k4 k8
end F161
def F161.k9.to(h:(K y3 w)):F161.k9 K y3 w:=qq h
def F161.l3.to(h:(U .lss y10 y9 w λa b=>Af a (F161.k4 K y3 y8 y9 y10 b) (F161.k9 K y3 b))):F161.l3 K y3 y8 y9 y10 w:=by unfold F161.l3 nl;exact BW (qq h)
def F161.k4.to(h:(AC 2 y8 y10 w λa b=>Ak 2 a b λc d=>Aq (wt #[v6 wg 0,v6 wg 0] 60) d λf g=>Aj 2 f c g λi=>Ab 1 f i λj k=>Ac j k λm o=>Ab 0 f o λp q=>Ac p q λr s=>U .eql r (v6 wg 2) s λt u=>Aa wk t (λK=>K y3 u) u λv x=>Aa wk t (λK=>K m x) x λy z=>Aa wk t (λK=>I Z 85 #[v,y] z K) z λaa ab=>Aa wk t (A8 aa ab) ab λac ad=>Aw (wh t) (wh ac) (wh (wd wl)) ad λae af=>Af ae (Am Z (Instr.buildSlice 54 1 #[(0,m)]) af λag ah=>Am Z (Builtin.append_ #[54,54] 54 #[y3,ag]) ah λai aj=>F161.k8 K ai y8 y9 y10 aj) (F161.k8 K y3 y8 y9 y10 af))):F161.k4 K y3 y8 y9 y10 w:=qq h
def F161.k8.to(h:(U .add y10 (v6 wg 1) w λa b=>F161.l3 K y3 y8 y9 a b)):F161.k8 K y3 y8 y9 y10 w:=qq h
def F161.sh(h:(I Z 82 #[x0] w λa b=>AD a b λc d=>F161.l3 K (v8 wj 0 0) a c (v6 wg 0) d)):I Z 161 #[x0] w K:=BK (A:=F161.ann) (args:=[x0]) (qq h)
namespace F226
def ann:Cg:=⟨[(3,[0,3]),(4,[])],[],[],[(3,(tk [0,1,2,3,5] (.go 4 (.go 6 (.go 7 (tk [8,9] (.go 10 .fin .fin)) .fin) .fin) (.go 6 (.go 4 (.go 7 (tk [8,9] (.go 10 .fin .fin)) .fin) .fin) .fin))))],wj⟩
def code:=cd f226
def BM:=tp f226
variable(K:VK)(y0 y3:wm)(w:wn)
def k3:=nk ann 30 [(0,y0),(3,y3)] w [1,1] code (BM K)
def k4:=nk ann 30 [] w [1,1,1] code (BM K)
attribute [irreducible] k3 k4
end F226
def F226.k3.to(h:(A2 w λS a=>Ae y0 a λb c=>Ab 0 b c λd f=>AM S 2 y3 f λg i=>(Ac d i λj k=>(S k/\
 (Am Z (Instr.buildSlice 56 1 #[(0,g)]) k λm o=>(S o/\
 (Am Z (Builtin.append_ #[56,56] 56 #[j,m]) o λp q=>(S q/\
 Ae y0 q λr s=>Ab 0 r s λt u=>(Aj 1 t p u λv=>(S v/\
 F226.k4 K v))/\True))/\True))/\True))/\((Am Z (Instr.buildSlice 56 1 #[(0,g)]) i λx y=>(S y/\
 (Ac d y λz aa=>(S aa/\
 (Am Z (Builtin.append_ #[56,56] 56 #[z,x]) aa λab ac=>(S ac/\
 Ae y0 ac λad ae=>Ab 0 ad ae λaf ag=>(Aj 1 af ab ag λah=>(S ah/\
 F226.k4 K ah))/\True))/\True))/\True))/\True))):F226.k3 K y0 y3 w:=qq h
def F226.k4.to(h:(K (wd wk) w)):F226.k4 K w:=qq h
def F226.sh(h:(Aq (wt (wm.cells x1) 60) w λa b=>AB Z .eql 194 (.tmp 5) (.const (v7 wj)) x0 (v7 wj) b λc d=>Aa wl c (Ak 2 a d) d λf g=>Aa wl c (λK=>I Z 227 #[f] g K) g λi j=>Aa wl c (U .neq i (v6 wg 0) j) j λk m=>Aw (wh c) (wh (wd wk)) (wh k) m λo p=>Aa wl o (λK=>K x0 p) p λq r=>Aa wl o (Ae q r) r λs t=>Aa wl o (Ab 0 s t) t λu v=>Aa wl o (Ac u v) v λx y=>Aa wl o (AD x y) y λz aa=>Aa wl o (U .geq z (v6 wg 16) aa) aa λab ac=>Aw (wh o) (wh (wd wk)) (wh ab) ac λad ae=>Af ad (K (wd wl) ae) (F226.k3 K x0 a ae))):I Z 226 #[x0,x1] w K:=BK (A:=F226.ann) (args:=[x0,x1]) (qq h)
namespace F228
def ann:=a1 [(3,[0,1,4])]
def code:=cd f228
def BM:=tp f228
variable(K:VK)(y0 y1 y4:wm)(w:wn)
@[irreducible]def k3:=nk ann 22 [(0,y0),(1,y1),(4,y4)] w [1,1] code (BM K)
end F228
def F228.k3.to(h:(Ae y0 w λa b=>Ab 0 a b λc d=>Ac c d λf g=>AC 2 f y1 g λi j=>Ak 2 i j λk m=>Aj 2 y4 k m λo=>Ak 2 y4 o λr7 _=>K (wc #[r7,(wd wk)]) o)):F228.k3 K y0 y1 y4 w:=qq h
def F228.sh(h:(Aq (wt #[v6 wg 0,v6 wg 0] 60) w λa b=>U .lss x1 (v6 wg 0) b λc d=>Aa wl c (λK=>K x1 d) d λf g=>Aa wl c (λK=>K x0 g) g λi j=>Aa wl c (λK=>I Z 229 #[i] j K) j λk m=>Aa wl c (U .geq f k m) m λo p=>Aw (wh c) (wh (wd wk)) (wh o) p λq r=>Af q (Am Z (Instr.build 60 #[]) r λs t=>Aj 2 a s t λu=>Ak 2 a u λr10 _=>K (wc #[r10,(wd wl)]) u) (F228.k3 K x0 x1 a r))):I Z 228 #[x0,x1] w K:=BK (A:=F228.ann) (args:=[x0,x1]) (qq h)
namespace F229
def ann:=a1 [(3,[0])]
def code:=cd f229
def BM:=tp f229
variable(K:VK)(y0:wm)(w:wn)
@[irreducible]def k3:=nk ann 10 [(0,y0)] w [1,1] code (BM K)
end F229
def F229.k3.to(h:(Ae y0 w λa b=>Ab 0 a b λc d=>Ac c d λf g=>AD f g λi j=>K i j)):F229.k3 K y0 w:=qq h
def F229.sh(h:(AB Z .eql 194 (.tmp 3) (.const (v7 wj)) x0 (v7 wj) w λa b=>Af a (K (v6 wg 0) b) (F229.k3 K x0 b))):I Z 229 #[x0] w K:=BK (A:=F229.ann) (args:=[x0]) (qq h)
end
section
open Go.RowKit
def Hn{f:FuncId}{cap:Array wm}{args:List wm}{w:wn}{K:VK}(hb:DK Z f=wk)(h:I Z f (args++cap.toList).toArray w K):Du Z (.func (.func f) #[] cap) args w K:=by simp only[Du,hb,vp,n9];exact h
def BQ.spot{K:VK}{w:wn}{v:wm}{e:TypeId}{sz:Nat}{xs:List (List wm)}{k:IntKind}{j:Nat}(ho:BQ w v e sz xs)(hj:j<xs.length)(hk:∀g o cs,w.heap[g]?=wh (wt cs e (0,0))->BN v=[g]->o+sz<=cs.size->(∀i,i<sz->cs[o+i]?=xs[j][i]?)->
   (∀(y:List wm) w',y.length=sz->(∀u∈y,u.oneCell'=wk)->w'.heap[g]?=wh (wt (CO cs.toList o y).toArray e (0,0))->BQ w' v e sz (xs.set j y))->K (v7 (wh ⟨g,o,wj⟩)) w):AC sz v (v6 k (j:Int)) w K:=by
 obtain⟨⟨h2,h3⟩,h4⟩:=ho;rcases h3 with⟨rfl,h3⟩|⟨g,cap,cur,rfl,hb,hh,h5,h6,h7,h8⟩
 ·omega
 ·rw[Bt];have hle:(j+1)*sz<=cap*sz:=yT _ (by omega);have hle2:(j+1)*sz<=xs.length*sz:=yT _ hj;have hle3:xs.length*sz<=cap*sz:=yT _ h5;rw[vk]at hle hle2;refine⟨⟨by omega,by omega⟩,?_⟩;rw[zK,vd];have ht:(cur.toList.take (xs.length*sz)).length=xs.length*sz:=List.length_take_of_le (by simp;omega);refine hk g (j*sz) cur hh (by simp[BN,wm.ownBlock]) (by omega) (λi hi=>?_) λy w' hy h1 hw=>?_
  ·have:=EB xs (λx hx=>(h4 x hx).1) j xs[j] (xS hj) i hi;rw[<-h8,zD,vy (by omega)]at this;rw[<-this,yF]
  ·have hsz:(CO cur.toList (j*sz) y).length=cur.toList.length:=Gu (by rw[hy];simp;omega);refine BQ.of_block (n:=xs.length) hw (by simp) h5 (by unfold maxLen at h6;omega) (by rw[List.size_toArray,hsz];simpa using h7) (λz hz=>?_) ?_
   ·rcases xO hz with hz|rfl
    ·exact h4 z hz
    ·exact⟨hy,h1⟩
   ·rw[Ix hy xs (λz hz=>(h4 z hz).1) _ hj, <-h8];show (CO cur.toList (j*sz) y).take (xs.length*sz)=CO (cur.toList.take (xs.length*sz)) (j*sz) y;generalize hT:cur.toList.take (xs.length*sz)=T at *;have hc:cur.toList=T++cur.toList.drop (xs.length*sz):=by rw[<-hT];exact (yL _ _).symm
    rw[hc,JR (by rw[hy,ht];omega)];exact List.take_left' (by rw[Gu (by rw[hy,ht];omega),ht])
def JS{cs:Array wm}{o:Nat}{a x:wm}(h0:cs[o]?=wh a)(hn:o+2<=cs.size):(CO cs.toList o [a,x]).toArray=cs.setIfInBounds (o+1) x:=by
 apply Array.ext_getElem?;intro i;rw[wY,yH];unfold CO;have e1:(cs.toList.take o).length=o:=by rw[i8];simp;omega
 rw[yP];by_cases b1:i<o+2
 ·rw[vy (by rw[zE,e1];exact b1),yP,e1];by_cases b2:i<o
  ·rw[vy b2,zD,vy b2,vx (by omega),yF]
  ·rw[vx b2];by_cases b3:i=o
   ·subst b3;simp[h0]
   ·have:i=o+1:=by omega
    subst this;rw[vy rfl,vy (by omega),show o+1-o=1 by omega];rfl
 ·rw[vx (by rw[zE,e1];exact b1),zC,vx (by omega),zE,e1];simp only[d9,m7];rw[yF];congr 1;omega
def HK(l:List (Bool × Int)):List (List wm):=l.map λm=>[wd m.1,v6 wg m.2]
def IZ(l:List (Bool × Int)):(HK l).length=l.length:=by simp[HK]
def Uy(l:List (Bool × Int))(j:Nat)(m:Bool × Int):HK (l.set j m)=(HK l).set j [wd m.1,v6 wg m.2]:=by simp[HK]
structure D5(re:Nat)(rv:wm)(w:wn)(r:Rg):Prop where
 blk:w.heap[re]?=wh (wt #[wd wk,v6 wg r.ep,rv] 183 (0,0))
 own:BQ w rv 212 2 (HK r.l)
 le:r.l.length<=8
section
variable{K:VK}{w w':wn}{re:Nat}{rv:wm}{r:Rg}
def D5.keep{S:List Nat}(h:D5 re rv w r)(hf:Fr S w w')(h1:re∉S)(h2:∀g∈BN rv,g∉S):D5 re rv w' r:=⟨hf.at_ h.blk h1,h.own.keep' hf h2,h.le⟩
def D5.keep0(h:D5 re rv w r)(hf:Fr [] w w'):D5 re rv w' r:=h.keep hf (by simp) (by simp)
def D5.setL{l:List (Bool × Int)}(h:D5 re rv w r)(hf:Fr (BN rv) w w')(ho:BQ w' rv 212 2 (HK l))(hl:l.length=r.l.length):D5 re rv w' { r with l:=l }:=
 ⟨hf.at_ h.blk (h.own.nb h.blk (by decide)),ho,by have:=h.le;simp only;omega⟩
def Bb{k:IntKind}{j:Nat}(h:D5 re rv w r)(hj:j<r.l.length)(hk:∀g o cs,w.heap[g]?=wh (wt cs 212 (0,0))->BN rv=[g]->o+2<=cs.size->cs[o]?=wh (wd r.l[j].1)->cs[o+1]?=wh (v6 wg r.l[j].2)->
   (∀(m:Bool × Int) w',Fr [g] w w'->w'.heap[g]?=wh (wt (CO cs.toList o [wd m.1,v6 wg m.2]).toArray 212 (0,0))->D5 re rv w' { r with l:=r.l.set j m })->K (v7 (wh ⟨g,o,wj⟩)) w):AC 2 rv (v6 k (j:Int)) w K:=by
 refine h.own.spot (by rw[IZ];exact hj) λg o cs hg hb ho hc hs=>hk g o cs hg hb ho ?_ ?_ λm w' hf hw=>h.setL (hb ▸ hf) (by rw[Uy];exact hs _ w' rfl (by simp[wm.oneCell']) hw) (by simp)
 ·have:=hc 0 (by omega);simpa[HK] using this
 ·have:=hc 1 (by omega);simpa[HK] using this
def Wk{t:Int}:r.live t=wk↔0<=t/\t<r.l.length/\(r.l.getD t.toNat (wl,0)).1=wk:=by unfold Rg.live;simp[and_assoc]
def Ls{t:Int}(h:D5 re rv w r)(hk:K (wd (r.live t)) w):I Z 95 #[v7 (wh ⟨re,0,wj⟩),v6 wg t] w K:=by
 refine F95.sh ⟨_,CJ _ _ _ Tryz.underlying124,?_⟩
 try simp only[zv]
 unfold Rg.live at hk;by_cases z1:t≥0
 ·simp only[zv,z1];refine Ad (v:=rv) h.blk rfl (AH h.own.rd ?_);rw[IZ];rw[ur (show 0<=t from z1)]at hk;by_cases z2:t<(r.l.length:Int)
  ·simp only[zv,z2];rw[ur z2]at hk;refine Ad (v:=rv) h.blk rfl ?_;obtain⟨j,rfl⟩:=xU z1;have hj:j<r.l.length:=by omega
   refine Bb h hj λg o cs hg _ ho c0 c1 _=>?_
   try simp only[Ai]
   refine Ad (v:=wd r.l[j].1) hg c0 ?_;simpa[hj] using hk
  ·simp only[zv,z2];rw[p9 z2]at hk;simpa using hk
 ·simp only[zv,z1];rw[p9 (show ¬ 0<=t from z1)]at hk;simpa using hk
def RH{t:Int}(h:D5 re rv w r)(hk:∀w',Fr (re::BN rv) w w'->D5 re rv w' (r.attach t).1->K (wd (r.attach t).2) w'):I Z 142 #[v7 (wh ⟨re,0,wj⟩),v6 wg t] w K:=by
 refine F142.sh ⟨_,Ck _ _ _ Tryz.underlying124,?_⟩
 try simp only[zv]
 unfold Rg.attach at hk;by_cases z1:t<0
 ·simp only[zv,z1];rw[vx (by omega)]at hk;exact hk w (Fr.refl _ _) h
 simp only[zv,z1];refine Ad (v:=rv) h.blk rfl (AH h.own.rd ?_);rw[IZ];by_cases z2:t≥(r.l.length:Int)
 ·simp only[zv,z2];rw[vx (by omega)]at hk;exact hk w (Fr.refl _ _) h
 simp only[zv,z2];refine Ad (v:=rv) h.blk rfl ?_;obtain⟨j,rfl⟩:=xU (show 0<=t by omega);have hj:j<r.l.length:=by omega
 have hlive:r.live (j:Int)=r.l[j].1:=by unfold Rg.live;simp[hj]
 refine Bb h hj λg o cs hg _ ho c0 c1 _=>?_
 try simp only[Ai]
 refine Ad (v:=wd r.l[j].1) hg c0 ?_;rw[hlive]at hk;cases z3:r.l[j].1 with
 | true=>
  rw[z3]at hk;simp only[zW,and_false,vq]at hk;simp only[Ah];exact hk w (Fr.refl _ _) h
 | false=>
  rw[z3]at hk;rw[vy ⟨by omega,by omega,by simp⟩]at hk;simp only[Ag];refine F142.k3.to (A9 (λw'=>w'.heap[re]?=wh (wt #[wd wk,v6 wg r.ep,rv] 183 (0,0))) λw1 hf1 _=>⟨hf1.at_ h.blk (by simp),?_⟩);have h1:=h.keep0 hf1
  try simp only[zv]
  refine Au (v:=rv) (λw' hw=>⟨_,_,_,hw,rfl⟩) (Au (v:=v6 wg r.ep) (λw' hw=>⟨_,_,_,hw,rfl⟩) ⟨.agg #[wd wk,v6 wg r.ep],λw' _=>by kernel_rfl,?_⟩);refine Bb h1 hj λg o cs hg hb ho c0 c1 hset=>⟨Bl hg rfl (by simp[wm.cells,wm.oneCell']) ho λw2 hu=>?_,trivial⟩;have h2:=hset (wk,r.ep) w2 hu.fr hu.at_;exact⟨h2.blk,hk w2 (hf1.w.trans (hu.fr.mono λz hz=>by simp only[zF]at hz;rw[hb];simp[hz])) h2⟩
def Ko{t:Int}(h:r.live t=wk):∃j:Nat,t=(j:Int)/\∃hj:j<r.l.length,r.l[j].1=wk:=by
 obtain⟨h1,h2,h3⟩:=Wk.1 h;obtain⟨j,rfl⟩:=xU h1;have hj:j<r.l.length:=by omega
 exact⟨j,rfl,hj,by simpa[hj] using h3⟩
def RJ{t:Int}(h:D5 re rv w r)(hk:∀b w',Fr (re::BN rv) w w'->D5 re rv w' (r.detach t)->K (wd b) w'):I Z 148 #[v7 (wh ⟨re,0,wj⟩),v6 wg t] w K:=by
 refine F148.sh (Ls h ?_);unfold Rg.detach at hk;cases z:r.live t with
 | false=>
  rw[z]at hk;simp only[yZ,vq]at hk;simp only[zv];exact hk _ w (Fr.refl _ _) h
 | true=>
  rw[z]at hk;simp only[vu]at hk;obtain⟨j,rfl,hj,hl⟩:=Ko z;simp only[zv];refine F148.k3.to ?_
  try simp only[zv]
  refine Ad (v:=rv) h.blk rfl (A4 (w':=w) (v := .agg #[wd wl,v6 wg 0]) (by kernel_rfl) ?_);refine Bb h hj λg o cs hg hb ho c0 c1 hset=>Bl hg rfl (by simp[wm.cells,wm.oneCell']) ho λw2 hu=>?_;exact hk _ w2 (hu.fr.mono λz hz=>by simp only[zF]at hz;rw[hb];simp[hz]) (hset (wl,0) w2 hu.fr hu.at_)
def Vq(h:D5 re rv w r)(hk:K (v6 wg r.ep) w):I Z 278 #[v7 (wh ⟨re,0,wj⟩)] w K:=by
 refine F278.sh ⟨_,Ck _ _ _ Tryz.underlying124,?_⟩
 try simp only[Ag]
 refine F278.k3.to ?_
 try simp only[zv]
 exact Ad (v:=v6 wg r.ep) h.blk rfl hk
def VC(h:D5 re rv w r)(hk:∀v w',Fr (re::BN rv) w w'->D5 re rv w' r.raise->K v w'):I Z 266 #[v7 (wh ⟨re,0,wj⟩)] w K:=by
 refine F266.sh ⟨_,Ck _ _ _ Tryz.underlying124,?_⟩
 try simp only[zv]
 refine Ad (v:=wd wk) h.blk rfl ?_
 try simp only[zv]
 refine F266.k3.to ?_
 try simp only[zv]
 refine Ad (v:=v6 wg r.ep) h.blk rfl ?_
 try simp only[A7]
 refine AI h.blk rfl rfl (by simp) λw1 hu=>?_;refine Ad (v:=v6 wg (C7 (r.ep+1))) hu.at_ rfl ?_;exact hk _ w1 (hu.fr.mono (by simp)) ⟨by simpa[Rg.raise,C7] using hu.at_,h.own.keep' hu.fr (λg hg e=>by simp only[zF]at e;subst e;exact h.own.nb h.blk (by decide) hg),h.le⟩
def Yq{t:Int}(h:D5 re rv w r)(hk:K (v6 wg (r.ofT t)) w):I Z 277 #[v7 (wh ⟨re,0,wj⟩),v6 wg t] w K:=by
 refine F277.sh (Ls h ?_);unfold Rg.ofT at hk;cases z:r.live t with
 | false=>
  rw[z]at hk;simp only[yZ,vq]at hk;simp only[zv];exact hk
 | true=>
  rw[z]at hk;simp only[vu]at hk;obtain⟨j,rfl,hj,hl⟩:=Ko z;simp only[zv];refine F277.k3.to ?_
  try simp only[zv]
  refine Ad (v:=rv) h.blk rfl (Bb h hj λg o cs hg hb ho c0 c1 hset=>?_)
  try simp only[Ai]
  refine Ad (v:=v6 wg r.l[j].2) hg c1 ?_;simpa[hj] using hk
def Rt{t:Int}(h:D5 re rv w r)(hk:∀w',Fr (re::BN rv) w w'->D5 re rv w' (r.confirm t).1->K (wd (r.confirm t).2) w'):I Z 160 #[v7 (wh ⟨re,0,wj⟩),v6 wg t] w K:=by
 refine F160.sh (A9 (λw'=>D5 re rv w' r) λw1 hf1 _=>⟨h.keep0 hf1,?_⟩);have h1:=h.keep0 hf1;refine⟨Ls h1 ⟨h1,?_⟩,trivial⟩;unfold Rg.confirm at hk;cases z:r.live t with
 | false=>
  rw[z]at hk;simp only[yZ,false_and,vq]at hk;simp only[zv];exact⟨⟨h1,hk w1 hf1.w h1⟩,trivial⟩
 | true=>
  rw[z]at hk;obtain⟨j,rfl,hj,hl⟩:=Ko z;have eo:r.ofT (j:Int)=r.l[j].2:=by unfold Rg.ofT;rw[z];simp[hj]
  rw[eo]at hk;simp only[zv];refine Au (v:=rv) (λw' hw=>⟨_,_,_,hw.blk,rfl⟩) (Bb h1 hj λg o cs hg hb ho c0 c1 hset=>?_)
  try simp only[Ai]
  refine Au (v:=v6 wg r.ep) (λw' hw=>⟨_,_,_,hw.blk,rfl⟩) ⟨Ad (v:=v6 wg r.l[j].2) hg c1 ⟨h1,?_⟩,trivial⟩;by_cases y:r.l[j].2≥r.ep
  ·simp only[zv,y];rw[vx (by omega)]at hk;exact hk w1 hf1.w h1
  ·simp only[zv,y];rw[vy ⟨rfl,by omega⟩]at hk;refine F160.k3.to (A9 (λw'=>w'.heap[re]?=wh (wt #[wd wk,v6 wg r.ep,rv] 183 (0,0))) λw2 hf2 _=>⟨hf2.at_ h1.blk (by simp),?_⟩);have h2:=h1.keep0 hf2
   try simp only[zv]
   refine Au (v:=rv) (λw' hw=>⟨_,_,_,hw,rfl⟩) (Au (v:=v6 wg r.ep) (λw' hw=>⟨_,_,_,hw,rfl⟩) (Bb h2 hj λg o cs hg hb ho c0 c1 hset=>?_))
   try simp only[Ai]
   refine⟨AI hg rfl rfl (by omega) λw3 hu=>?_,trivial⟩;have h3:=hset (wk,r.ep) w3 hu.fr (by rw[JS (by rw[c0,hl]) ho];exact hu.at_);exact⟨h3.blk,hk w3 ((hf1.trans hf2).w.trans (hu.fr.mono λz hz=>by simp only[zF]at hz;rw[hb];simp[hz])) h3⟩
def Nt:DK Z 297=wk:=by kernel_rfl
def Uq(r:Rg):List Int:=((List.range r.l.length).filter λj=>(r.l.getD j (wl,0)).1 && decide ((r.l.getD j (wl,0)).2<r.ep)).map Int.ofNat
def RX(r:Rg):decide (((Uq r).length:Int)=0)=r.agreed:=by
 rw[j7];simp only[zV,Uq,j9,Rg.agreed,zZ];constructor
 ·intro h m hm;obtain⟨j,hj,rfl⟩:=yW hm;have hnil:=List.length_eq_zero_iff.1 (show _=0 by exact_mod_cast h);have:=List.filter_eq_nil_iff.1 hnil j (uq.2 hj);simp only[List.getD,xS hj,j5]at this;cases hh:(r.l[j].1 && decide (r.l[j].2<r.ep)) with
  | true=>rw[hh]at this;exact absurd rfl this
  | false=>rfl
 ·intro h;have:((List.range r.l.length).filter λj=>(r.l.getD j (wl,0)).1 && decide ((r.l.getD j (wl,0)).2<r.ep))=[]:=by rw[List.filter_eq_nil_iff];intro j hj;have hj:=uq.1 hj;have:=h r.l[j] (d7 hj);simp only[List.getD,xS hj,j5];intro hc;rw[hc]at this;cases this
  rw[this];rfl
def Q9{W:wn}{x:Nat}(h0:D5 re rv W r)(hx0:W.heap[x]?=wh (wt #[v7 (wh ⟨re,0,wj⟩)] 124 (0,0)))(hk:∀v w',Fr [] W w'->BQ w' v 3 1 (BX (Uq r))->K v w'):
  ∀(d i:Nat) (w:wn) (v:wm),i+d=r.l.length->Fr [] W w->BY W v->BQ w v 3 1 (BX (((List.range i).filter λj=>(r.l.getD j (wl,0)).1 && decide ((r.l.getD j (wl,0)).2<r.ep)).map Int.ofNat))->
   F296.l5 K (.func (.func 297) #[] #[v7 (wh ⟨x,0,wj⟩)]) v rv (v6 wg (r.l.length:Int)) (v6 wg (i:Int)) w:=by
 have hle:=h0.le;intro d;induction d with
 | zero=>
  intro i w v hi hf hn hv;have e:i=r.l.length:=by omega
  subst e;refine F296.l5.to ?_;simp only[zv,show ¬((r.l.length:Int)<(r.l.length:Int)) by omega];exact F296.k10.to (hk v w hf hv)
 | succ d ih=>
  intro i w v hi hf hn hv;have hlt:i<r.l.length:=by omega
  have h:=h0.keep0 hf;refine F296.l5.to ?_;simp only[zv,show (i:Int)<(r.l.length:Int) by omega];have eg:r.l.getD i (wl,0)=r.l[i]:=by simp[List.getD,hlt]
  have step:∀w' v',Fr [] W w'->BY W v'->BQ w' v' 3 1 (BX (((List.range i).filter λj=>(r.l.getD j (wl,0)).1 && decide ((r.l.getD j (wl,0)).2<r.ep)).map Int.ofNat++if r.l[i].1 && decide (r.l[i].2<r.ep) then[(i:Int)] else[]))->
    F296.k9 K (.func (.func 297) #[] #[v7 (wh ⟨x,0,wj⟩)]) v' rv (v6 wg (r.l.length:Int)) (v6 wg (i:Int)) w':=λw' v' hf' hn' hv'=>by
   refine F296.k9.to ?_
   try simp only[A7]
   rw[BO (n:=(i:Int)+1) (by omega)];refine ih (i+1) w' v' (by omega) hf' hn' ?_;have e1:List.map Int.ofNat ((List.range (i+1)).filter λj=>(r.l.getD j (wl,0)).1 && decide ((r.l.getD j (wl,0)).2<r.ep))=((List.range i).filter λj=>(r.l.getD j (wl,0)).1 && decide ((r.l.getD j (wl,0)).2<r.ep)).map Int.ofNat++if r.l[i].1 && decide (r.l[i].2<r.ep) then[(i:Int)] else[]:=by rw[o8,zA,m9];congr 1;rw[List.filter_cons,eg];cases r.l[i].1 && decide (r.l[i].2<r.ep)<;>simp
   rw[e1];exact hv'
  have hl2:(((List.range i).filter λj=>(r.l.getD j (wl,0)).1 && decide ((r.l.getD j (wl,0)).2<r.ep)).map Int.ofNat).length<=8:=by rw[j9];exact va (yI _ _) (by rw[zP];omega)
  refine F296.k6.to (Bb h hlt λg o cs hg hb ho c0 c1 _=>?_);have hcs:(cs.toList.drop o).take 2=[wd r.l[i].1,v6 wg r.l[i].2]:=by
   apply zL;intro q;rw[zD,zC]
   match q with
   | 0=>simpa using c0
   | 1=>simpa using c1
   | q+2=>rw[vx (by omega)];rfl
  refine AS hg ho hcs (Ar λy w1 hn1=>AA hn1.at_ rfl (by simp[wm.cells,wm.oneCell']) rfl λw2 hu2=>?_);have l1:=hn1.is;have f2:Fr [] w w2:=hn1.fr.then hu2.fr (by simp;omega);have h2:=h.keep0 f2;have y2:=hu2.at_
  try simp only[zv]
  refine Ad (v:=wd r.l[i].1) y2 rfl ?_;have hv2:=hv.keep f2 (by simp);cases z1:r.l[i].1 with
  | false=>
   simp only[zv];refine step w2 v (hf.trans f2) hn ?_;rw[z1];simpa using hv2
  | true=>
   simp only[zv];refine AS (vs:=[wd wk,v6 wg r.l[i].2]) y2 (by simp[wm.cells]) (by simp[wm.cells,z1]) (Hn Nt (F297.sh (Ar λq w3 hn3=>A9 (λw'=>D5 re rv w' r/\w'.heap[q]?=wh (wt #[wd wk,v6 wg r.l[i].2] 212 (0,0))/\w'.heap[x]?=wh (wt #[v7 (wh ⟨re,0,wj⟩)] 124 (0,0))) λw4 hf4 _=>⟨⟨(h2.keep0 hn3.fr).keep0 hf4,hf4.at_ hn3.at_ (by simp),(((hf.trans f2).trans hn3.fr).trans hf4).at_ hx0 (by simp)⟩,?_⟩)))
   have f4:=hn3.fr.trans hf4
   try simp only[zv]
   refine Au (v:=v6 wg r.l[i].2) (λw' hw=>⟨_,_,_,hw.2.1,rfl⟩) (Au (v:=v7 (wh ⟨re,0,wj⟩)) (λw' hw=>⟨_,_,_,hw.2.2,rfl⟩) ?_)
   try simp only[zv]
   refine Au (v:=v6 wg r.ep) (λw' hw=>⟨_,_,_,hw.1.blk,rfl⟩) ?_;have hv4:=hv2.keep f4 (by simp);by_cases z2:r.l[i].2<r.ep
   ·simp only[zv,z2];refine Bn ((hf.trans f2).trans f4) hn hv4 (by omega) λv' w5 hf5 hn5 ho5 _ _=>step w5 v' hf5 hn5 ?_;rw[z1];simpa[z2] using ho5
   ·simp only[zv,z2];refine step w4 v ((hf.trans f2).trans f4) hn ?_;rw[z1];simpa[z2] using hv4
def Tu(h:D5 re rv w r)(hk:∀w',Fr [] w w'->K (wd r.agreed) w'):I Z 213 #[v7 (wh ⟨re,0,wj⟩)] w K:=by
 refine F213.sh (F265.sh (Ar λx w1 hn=>Ad (v:=v7 (wh ⟨re,0,wj⟩)) hn.at_ rfl ?_));refine F296.sh ⟨_,Ck _ _ _ Tryz.underlying124,?_⟩;have h1:=h.keep0 hn.fr
 try simp only[zv]
 refine F296.k3.to ?_
 try simp only[zv]
 refine Ad (v:=rv) h1.blk rfl (AH h1.own.rd ?_);rw[IZ];refine Q9 (W:=w1) h1 hn.at_ (λv w2 hf2 hv2=>?_) r.l.length 0 w1 _ (by omega) (Fr.refl _ _) (BY.nil _) (BQ.nil _ _ _);refine AH hv2.rd ?_;rw[Ca]
 try simp only[Ay]
 rw[RX];exact hk w2 (hn.fr.trans hf2)
end
end
noncomputable section
variable{K:VK}{w:wn}{x0 x1 y0 y1 y7 y8:wm}
namespace F298
def ann:Cg:=⟨[(3,[0,1,7,8]),(6,[0,1,7,8]),(7,[])],[(2,[0,1,7,8])],[],[],wj⟩
def code:=cd f298
def BM:=tp f298
variable(K:VK)(y0 y1 y7 y8:wm)(w:wn)
def k7:=nk ann 19 [] w [1,1] code (BM K)
def l2:=nl ann 19 [(0,y0),(1,y1),(7,y7),(8,y8)] w [1,0,1,0] code (BM K)
def k3:=nk ann 19 [(0,y0),(1,y1),(7,y7),(8,y8)] w [1,0,1,0,0,1,1] code (BM K)
def k6:=nk ann 19 [(0,y0),(1,y1),(7,y7),(8,y8)] w [1,0,1,0,0,1,1,1] code (BM K)
attribute [irreducible] k7 l2 k3 k6
end F298
def F298.k7.to(h:(K (v6 wg (-1)) w)):F298.k7 K w:=qq h
def F298.l2.to(h:(U .lss y8 y7 w λa b=>Af a (F298.k3 K y0 y1 y7 y8 b) (F298.k7 K b))):F298.l2 K y0 y1 y7 y8 w:=by unfold F298.l2 nl;exact BW (qq h)
def F298.k3.to(h:(AC 1 y0 y8 w λa b=>Ac a b λc d=>Du Z y1 [c] d λf g=>Af f (K y8 g) (F298.k6 K y0 y1 y7 y8 g))):F298.k3 K y0 y1 y7 y8 w:=qq h
def F298.k6.to(h:(U .add y8 (v6 wg 1) w λa b=>F298.l2 K y0 y1 y7 a b)):F298.k6 K y0 y1 y7 y8 w:=qq h
def F298.sh(h:(AD x0 w λa b=>F298.l2 K x0 x1 a (v6 wg 0) b)):I Z 298 #[x0,x1] w K:=BK (A:=F298.ann) (args:=[x0,x1]) (qq h)
def F267.sh(h:(I Z 298 #[x0,x1] w λa b=>U .geq a (v6 wg 0) b λc d=>K c d)):I Z 267 #[x0,x1] w K:=BK (A:=A0) (args:=[x0,x1]) (qq h)
namespace F80
def ann:=a1 [(3,[0])]
def code:=cd f80
def BM:=tp f80
variable(K:VK)(y0:wm)(w:wn)
@[irreducible]def k3:=nk ann 8 [(0,y0)] w [1,1] code (BM K)
end F80
def F80.k3.to(h:(Am Z (Instr.buildSlice 56 0 #[]) w λa b=>Am Z (Builtin.append_ #[56,56] 56 #[a,y0]) b λc d=>K c d)):F80.k3 K y0 w:=qq h
def F80.sh(h:(AB Z .eql 56 (.tmp 3) (.const (v8 wj 0 0)) x0 (v8 wj 0 0) w λa b=>Af a (K (v8 wj 0 0) b) (F80.k3 K x0 b))):I Z 80 #[x0] w K:=BK (A:=F80.ann) (args:=[x0]) (qq h)
namespace F240
def ann:=a1 [(3,[0])]
def code:=cd f240
def BM:=tp f240
variable(K:VK)(y0:wm)(w:wn)
@[irreducible]def k3:=nk ann 8 [(0,y0)] w [1,1] code (BM K)
end F240
def F240.k3.to(h:(Am Z (Instr.buildSlice 54 0 #[]) w λa b=>Am Z (Builtin.append_ #[54,54] 54 #[a,y0]) b λc d=>K c d)):F240.k3 K y0 w:=qq h
def F240.sh(h:(AB Z .eql 54 (.tmp 3) (.const (v8 wj 0 0)) x0 (v8 wj 0 0) w λa b=>Af a (K (v8 wj 0 0) b) (F240.k3 K x0 b))):I Z 240 #[x0] w K:=BK (A:=F240.ann) (args:=[x0]) (qq h)
end
end Go.Proofs.QV
