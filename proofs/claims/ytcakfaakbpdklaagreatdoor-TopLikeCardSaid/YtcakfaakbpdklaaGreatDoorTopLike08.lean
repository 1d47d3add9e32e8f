/- Part 8 of what the law needs: own lemmas, in the order in which they build. -/
import Derived.Test.YtcakfaakbpdklaaGreatDoorProg
import Derived.Test.YtcakfaakbpdklaaGreatDoorTopLike07
set_option linter.defProp false
set_option linter.unusedSimpArgs false
set_option linter.unusedVariables false
set_option maxRecDepth 100000
namespace Go.Proofs.QV
open Go Go.Proofs Go.Proofs.Tryz
open Go.Proofs.Tryz renaming prog->vp
open Go.IntKind renaming i64->vy
open Go.Value renaming int->vq,pointer->vr,slice->vt,tuple->vu,bool->vw,agg->vx
open Option renaming some->vz
open Option renaming none->v6
open Bool renaming true->v7
open Bool renaming false->v8
open Go renaming Value->wc
open Go renaming World->wd
open Or renaming inl->wg
open Or renaming inr->wh
open Go.Obj renaming cells->wj
section
open Go.RowKit
structure Ci where
 Q:C3
 ma:Nat
 lg:Nat
 bb:Nat
 bn:Nat
def Ci.fix(A:Ci):List Nat:=[A.ma,A.lg,A.bb,A.bn]
def Ci.low(A:Ci):List Nat:=A.Q.fix++(A.Q.H.fix++A.Q.H.D.all)
structure Ci.Ok(A:Ci):Prop where
 nd:A.fix.Nodup
 dj:∀x∈A.fix,x∉A.low
 lo:∀x∈A.fix,x<A.Q.H.N
structure Gw where
 m:Mv
 S:Nat->wc
def Lr(T:Nat)(S:Nat->wc):List Nat:=(List.range T).flatMap λt=>BM (S t)
def EO{T:Nat}{S:Nat->wc}{x:Nat}:x∈Lr T S↔∃t,t<T/\x∈BM (S t):=by simp[Lr]
def Gw.all(T:Nat)(g:Gw):List Nat:=g.m.all++Lr T g.S
def Ci.S(A:Ci)(T:Nat)(g:Gw):List Nat:=A.fix++(A.Q.fix++(A.Q.H.fix++(A.Q.H.D.all.tail++g.all T)))
def Ci.all(A:Ci)(T:Nat)(g:Gw):List Nat:=A.fix++(A.low++g.all T)
structure BU(A:Ci)(T:Nat)(g:Gw)(w:wd)(g':Gw)(w':wd):Prop where
 fr:Fr (A.S T g) w w'
 gr:∀x∈g'.all T,x∈g.all T∨w.heap.size<=x
section
variable{A:Ci}{T:Nat}{g g' g'':Gw}
def BU.refl(A:Ci)(T:Nat)(g:Gw)(w:wd):BU A T g w g w:=⟨Fr.refl _ _,λx hx=>wg hx⟩
def BU.w{a b:wd}(h:Fr [] a b):BU A T g a g b:=⟨h.w,λx hx=>wg hx⟩
def BU.trans{w w' w'':wd}(h:BU A T g w g' w')(k:BU A T g' w' g'' w''):BU A T g w g'' w'':=
 ⟨h.fr.then k.fr λx hx=>by
  simp only[Ci.S,j4]at hx ⊢;rcases hx with c|c|c|c|c
  ·exact wg (wg c)
  ·exact wg (wh (wg c))
  ·exact wg (wh (wh (wg c)))
  ·exact wg (wh (wh (wh (wg c))))
  ·rcases h.gr x c with d|d
   ·exact wg (wh (wh (wh (wh d))))
   ·exact wh d,λx hx=>by
  rcases k.gr x hx with c|c
  ·exact h.gr x c
  ·have:=h.fr.size;exact wh (by omega)⟩
def BU.c{m':Mv}{a b:wd}(h:Ch A.Q g.m a m' b):BU A T g a { g with m:=m' } b:=
 ⟨h.fr.mono λx hx=>by
  simp only[C3.S,j4]at hx;simp only[Ci.S,Gw.all,j4];rcases hx with c|c|c|c
  ·exact wh (wg c)
  ·exact wh (wh (wg c))
  ·exact wh (wh (wh (wg c)))
  ·exact wh (wh (wh (wh (wg c)))),λx hx=>by
  simp only[Gw.all,j4]at hx ⊢;rcases hx with c|c
  ·rcases h.gr x c with d|d
   ·exact wg (wg d)
   ·exact wh d
  ·exact wg (wh c)⟩
def BU.b{a b:wd}(h:Fr [A.bn] a b):BU A T g a g b:=⟨h.mono λx hx=>by simp only[yZ]at hx;simp[Ci.S,Ci.fix,hx],λx hx=>wg hx⟩
def BU.l{t:Nat}{s:wc}{a b:wd}(ht:t<T)(h:PU a b A.bb t g.S s):BU A T g a { g with S:=upd g.S t s } b:=
 ⟨h.fr.mono λx hx=>by
  simp only[un]at hx;simp only[Ci.S,Ci.fix,Gw.all,j4,un];rcases hx with c|c
  ·exact wg (wh (wh (wg c)))
  ·exact wh (wh (wh (wh (wh (EO.2 ⟨t,ht,c⟩))))),λx hx=>by
  simp only[Gw.all,j4]at hx ⊢;rcases hx with c|c
  ·exact wg (wg c)
  ·obtain⟨u,hu,c⟩:=EO.1 c;by_cases e:u=t
   ·subst e;simp only[upd]at c;exact wh (h.new x c)
   ·simp only[upd,vm e]at c;exact wg (wh (EO.2 ⟨u,hu,c⟩))⟩
end
structure Cf.Fine(cf:Cf):Prop where
 th:1<=cf.threads/\cf.threads<=8
 wi:1<=cf.window/\cf.window<=64
 mo:0<=cf.most/\cf.most<=cf.window
 qu:1<=cf.quantum/\cf.quantum<=64
 ca:0<=cf.cap/\cf.cap<=65535
 ta:0<=cf.tax/\cf.tax<=64
def C9(cf:Cf):List wc:=[vq vy cf.pages,vq vy cf.threads,vq vy cf.window,vq vy cf.quantum,vq vy cf.target,vq vy cf.cap,vq vy cf.tax,vq vy cf.chunk,vq vy cf.stack,vq vy cf.trigger]
def DZ(A:Ci)(cf:Cf):Obj:=wj #[vr (vz ⟨A.lg,0,v6⟩),vr (vz ⟨A.bn,0,v6⟩),vq vy cf.pages,vq vy cf.threads,vq vy cf.window,vq vy cf.quantum,vq vy cf.target,vq vy cf.cap,vq vy cf.tax,vq vy cf.chunk,vq vy cf.stack,vq vy cf.trigger,vr (vz ⟨A.Q.co,0,v6⟩)] 96 (0,0)
structure BV(A:Ci)(g:Gw)(cf:Cf)(B:Int)(w:wd)(x:Ma):Prop where
 ok:A.Ok
 fine:cf.Fine
 co:BX A.Q g.m cf w x.co
 blk:w.heap[A.ma]?=vz (DZ A cf)
 led:Ec w A.lg A.bb cf.threads.toNat cf.window cf.most g.S x.lg
 bnk:w.heap[A.bn]?=vz (bk x.bi x.bo x.bl v7 cf.cap)
 bin:Mq B x.bi x.bo x.bl cf.cap
 l64:∀t,(x.lg t).length<=64
 hs:∀y∈Lr cf.threads.toNat g.S,A.Q.H.N<=y
 rl:x.co.r.l.length=cf.threads.toNat
section
variable{A:Ci}{g:Gw}{cf:Cf}{B:Int}{w w':wd}{x:Ma}
def BV.keep{S:List Nat}(h:BV A g cf B w x)(hf:Fr S w w')(ha:∀y∈A.all cf.threads.toNat g,y∉S):BV A g cf B w' x:=by
 refine⟨h.ok,h.fine,h.co.keep hf (λy hy=>ha y ?_),hf.at_ h.blk (ha _ (by simp[Ci.all,Ci.fix])),h.led.keep hf (ha _ (by simp[Ci.all,Ci.fix])) (ha _ (by simp[Ci.all,Ci.fix])) (λt ht y hy=>ha y ?_),hf.at_ h.bnk (ha _ (by simp[Ci.all,Ci.fix])),h.bin,h.l64,h.hs,h.rl⟩
 ·simp only[C3.all,j4]at hy;simp only[Ci.all,Ci.low,Gw.all,j4];rcases hy with d|d|d|d
  ·exact wh (wg (wg d))
  ·exact wh (wg (wh (wg d)))
  ·exact wh (wg (wh (wh d)))
  ·exact wh (wh (wg d))
 ·simp only[Ci.all,Gw.all,j4];exact wh (wh (wh (EO.2 ⟨t,ht,hy⟩)))
def BV.keep0(h:BV A g cf B w x)(hf:Fr [] w w'):BV A g cf B w' x:=h.keep hf (by simp)
def BV.setC{m':Mv}{c':Co}(h:BV A g cf B w x)(hf:Ch A.Q g.m w m' w')(hc:BX A.Q m' cf w' c')(hl:c'.r.l.length=x.co.r.l.length):BV A { g with m:=m' } cf B w' { x with co:=c' }:=by
 obtain⟨cs,b1,b2⟩:=h.led.bk;have sub:∀y∈A.Q.S g.m,y∈A.low∨y∈g.m.all:=λy hy=>by
  simp only[C3.S,j4]at hy;simp only[Ci.low,j4];rcases hy with d|d|d|d
  ·exact wg (wg d)
  ·exact wg (wh (wg d))
  ·exact wg (wh (wh (List.mem_of_mem_tail d)))
  ·exact wh d
 have hi:∀y∈g.m.all,A.Q.H.N<=y:=λy hy=>by
  simp only[Mv.all,j4]at hy;rcases hy with d|d|d
  ·exact h.co.hp.hi y d
  ·exact h.co.hv y d
  ·exact h.co.ht y d
 have nf:∀y∈A.fix,y∉A.Q.S g.m:=λy hy e=>by
  rcases sub y e with d|d
  ·exact h.ok.dj y hy d
  ·have h1:=h.ok.lo y hy;have h2:=hi y d;omega
 have ns:∀t,t<cf.threads.toNat->∀y∈BM (g.S t),y∉A.Q.S g.m:=λt ht y hy e=>by
  rcases sub y e with d|d
  ·have h1:=h.co.low (x:=y) d;have h2:=h.hs y (EO.2 ⟨t,ht,hy⟩);omega
  ·have ho:=h.led.own t ht;simp only[Mv.all,j4]at d;rcases d with d|d|d
   ·exact ho.ne h.co.hp.gy.stk.own (by decide) y hy d
   ·exact h.co.fb.fam.ne ho (by decide) y d hy
   ·exact h.co.th.ne ho (by decide) y d hy
 exact⟨h.ok,h.fine,hc,hf.fr.at_ h.blk (nf _ (by simp[Ci.fix])),h.led.keep hf.fr (nf _ (by simp[Ci.fix])) (nf _ (by simp[Ci.fix])) ns,hf.fr.at_ h.bnk (nf _ (by simp[Ci.fix])),h.bin,h.l64,h.hs,hl.trans h.rl⟩
def BV.nfC(h:BV A g cf B w x){y:Nat}(hy:y∈A.fix∨∃t,t<cf.threads.toNat/\y∈BM (g.S t)):y∉A.Q.all g.m:=λe=>by
 have e':y∈A.low∨y∈g.m.all:=by
  simp only[C3.all,j4]at e;simp only[Ci.low,j4];rcases e with d|d|d|d
  ·exact wg (wg d)
  ·exact wg (wh (wg d))
  ·exact wg (wh (wh d))
  ·exact wh d
 have hi:∀y∈g.m.all,A.Q.H.N<=y:=λy hy=>by
  simp only[Mv.all,j4]at hy;rcases hy with d|d|d
  ·exact h.co.hp.hi y d
  ·exact h.co.hv y d
  ·exact h.co.ht y d
 rcases hy with hy|⟨t,ht,hy⟩
 ·rcases e' with d|d
  ·exact h.ok.dj y hy d
  ·have h1:=h.ok.lo y hy;have h2:=hi y d;omega
 ·rcases e' with d|d
  ·have h1:=h.co.low (x:=y) d;have h2:=h.hs y (EO.2 ⟨t,ht,hy⟩);omega
  ·have ho:=h.led.own t ht;simp only[Mv.all,j4]at d;rcases d with d|d|d
   ·exact ho.ne h.co.hp.gy.stk.own (by decide) y hy d
   ·exact h.co.fb.fam.ne ho (by decide) y d hy
   ·exact h.co.th.ne ho (by decide) y d hy
def BV.setB{B' bi bo bl:Int}(h:BV A g cf B w x)(hf:Fr [A.bn] w w')(hb:w'.heap[A.bn]?=vz (bk bi bo bl v7 cf.cap))(hk:Mq B' bi bo bl cf.cap):BV A g cf B' w' { x with bi:=bi,bo:=bo,bl:=bl }:=by
 have nd:=h.ok.nd;simp only[Ci.fix,j6,un,b8,vi,not_or]at nd;have lt:=h.ok.lo;exact⟨h.ok,h.fine,h.co.keep hf (λy hy e=>by simp only[yZ]at e;subst e;exact h.nfC (wg (by simp[Ci.fix])) hy),hf.at_ h.blk (by simp only[yZ];exact nd.1.2.2),h.led.keep hf (by simp only[yZ];exact nd.2.1.2) (by simp only[yZ];exact nd.2.2.1) (λt ht y hy e=>by
  simp only[yZ]at e;subst e;exact (h.led.own t ht).nb h.bnk (by decide) hy),hb,hk,h.l64,h.hs,h.rl⟩
def BV.setL{t:Nat}{s:wc}{l:List Bool}(h:BV A g cf B w x)(ht:t<cf.threads.toNat)(hf:PU w w' A.bb t g.S s)(hl:Ec w' A.lg A.bb cf.threads.toNat cf.window cf.most (upd g.S t s) (upd x.lg t l))(h64:l.length<=64):BV A { g with S:=upd g.S t s } cf B w' { x with lg:=upd x.lg t l }:=by
 have nd:=h.ok.nd;simp only[Ci.fix,j6,un,b8,vi,not_or]at nd;have ho:=h.led.own t ht;refine⟨h.ok,h.fine,h.co.keep hf.fr (λy hy e=>?_),hf.fr.at_ h.blk ?_,hl,hf.fr.at_ h.bnk ?_,h.bin,λu=>?_,λy hy=>?_,h.rl⟩
 ·simp only[un]at e;rcases e with e|e
  ·subst e;exact h.nfC (wg (by simp[Ci.fix])) hy
  ·exact h.nfC (wh ⟨t,ht,e⟩) hy
 ·simp only[un,not_or];exact⟨nd.1.2.1,ho.nb h.blk (by decide)⟩
 ·simp only[un,not_or];exact⟨λe=>nd.2.2.1 e.symm,ho.nb h.bnk (by decide)⟩
 ·show (upd x.lg t l u).length<=64;by_cases e:u=t
  ·simp only[upd,vn e];exact h64
  ·simp only[upd,vm e];exact h.l64 u
 ·obtain⟨u,hu,c⟩:=EO.1 hy;by_cases e:u=t
  ·subst e;simp only[upd]at c;have:=hf.new y c;have:=h.co.hp.le;omega
  ·simp only[upd,vm e]at c;exact h.hs y (EO.2 ⟨u,hu,c⟩)
end
def Cg(a:BZ):wc:=vx #[vq vy a.code,vq vy a.kd,vq vy a.n,vq vy a.done,vq vy a.credit]
def C5(x:BY):wc:=vx #[vq vy x.kd,vq vy x.t,vq vy x.i,vq vy x.f,vq vy x.j,vq vy x.cost,vq vy x.n]
def CU{a:BZ}:∀v∈(Cg a).cells.toList,v.oneCell'=v7:=by intro v hv;simp only[Cg,wc.cells,un,b8,vi]at hv;rcases hv with rfl|rfl|rfl|rfl|rfl<;>rfl
section
variable{K:VK}{w w':wd}{A:Ci}{g:Gw}{cf:Cf}{B:Int}{x:Ma}
def Wq(e:Int):(Instr.build 38 #[(0,vq vy e)]).run vp w=.ok (Cg (BZ.err e)) w:=by kernel_rfl
def QD(k n:Int):(Instr.build 38 #[(1,vq vy k),(2,vq vy n)]).run vp w=.ok (Cg ⟨0,k,n,0,0⟩) w:=by kernel_rfl
def Jq:(Instr.build 38 #[]).run vp w=.ok (Cg BZ.ok) w:=by kernel_rfl
def Kt{b:Nat}{cs:Array wc}{a:BZ}(hb:w.heap[b]?=vz (wj cs 38 (0,0)))(hs:cs.size=5)(hk:∀w',Fr [b] w w'->K (Cg a) w'):
  Aj 5 (vr (vz ⟨b,0,v6⟩)) (Cg a) w λw2=>Ak 5 (vr (vz ⟨b,0,v6⟩)) w2 λr _=>K r w2:=
 AB hb rfl CU hs λw3 hu=>A5 hu.at_ rfl (hk w3 hu.fr)
def PO{e:Int}(hk:∀w',Fr [] w w'->K (Cg (BZ.err e)) w'):I vp 54 #[vq vy e] w K:=by refine F54.sh (Ay λb w1 hn=>A7 (Wq e) (Kt (a:=BZ.err e) hn.at_ rfl λw2 hf2=>hk w2 (hn.fr.then hf2 ?_)));have:=hn.is;simp;omega
def H1{n lo hi:Int}(hk:K (vw (decide (n<lo∨hi<n))) w):I vp 150 #[vq vy n,vq vy lo,vq vy hi] w K:=by
 refine F150.sh ?_;by_cases z1:n<lo
 ·rw[o8 (wg z1)]at hk;simp only[zv,z1];exact hk
 ·by_cases z2:n>hi
  ·rw[o8 (wh z2)]at hk;simp only[zv,z1,z2];exact hk
  ·rw[m8 (by omega)]at hk;simp only[zv,z1,z2];exact hk
def Vf(a:Int):Et a=if D8 2 a=0 then (2,a) else (0,0):=by
 unfold Et D8;by_cases h:0<=a/\a<2048
 ·simp[h]
 ·simp[h]
def J5{a:Int}(hk:∀w',Fr [] w w'->K (V (Et a).1 (Et a).2) w'):I vp 153 #[vq vy a] w K:=by
 rw[Vf]at hk;refine F153.sh (Ay λb w1 hn1=>A7 (Kw 2 a) (F224.sh (Ay λy w2 hn2=>Ay λz w3 hn3=>?_)));have l1:=hn1.is;have l2:=hn2.is;have l3:=hn3.is;have s1:=hn1.fr.size;have s2:=hn2.fr.size;have lb:=BP hn1.at_;have ly:=BP hn2.at_;refine A5 (hn3.fr.at_ hn2.at_ (by simp)) rfl (FV 2 a λw4 hf4=>?_);have f4:=(hn1.fr.trans (hn2.fr.trans hn3.fr)).trans hf4;have b4:=(hn2.fr.trans (hn3.fr.trans hf4)).at_ hn1.at_ (by simp)
 have y4:=(hn3.fr.trans hf4).at_ hn2.at_ (by simp);have z4:=hf4.at_ hn3.at_ (by simp);have fin:∀(v:V2) w5,w5.heap[b]?=vz (wj #[vq vy 0,vq vy 0] 60 (0,0))->(∀w',Fr [b] w5 w'->K (V v.1 v.2) w')->Aj 2 (vr (vz ⟨b,0,v6⟩)) (V v.1 v.2) w5 λw6=>Ak 2 (vr (vz ⟨b,0,v6⟩)) w6 λr _=>K r w6:=λv w5 hb hk=>AB hb rfl Cb rfl λw6 hu=>A5 hu.at_ rfl (hk w6 hu.fr);by_cases c:D8 2 a=0
 ·simp only[zv,vl,c,vo,zQ];simp only[vn c]at hk;refine F224.k3.to (A5 y4 rfl (AB (x:=V 2 a) z4 rfl Cb rfl λw5 hu5=>A5 hu5.at_ rfl ?_));refine fin (2,a) w5 (hu5.fr.at_ b4 (by simp;omega)) λw6 hf6=>hk w6 ?_;exact (f4.then hu5.fr (by simp;omega)).then hf6 (by simp;omega)
 ·simp only[zv,c,vo,zR];simp only[vm c]at hk;refine A7 EI (AB (x:=V 0 0) z4 rfl Cb rfl λw5 hu5=>A5 hu5.at_ rfl ?_);refine fin (0,0) w5 (hu5.fr.at_ b4 (by simp;omega)) λw6 hf6=>hk w6 ?_;exact (f4.then hu5.fr (by simp;omega)).then hf6 (by simp;omega)
def Um{c:Co}{Q:C3}{m:Mv}(h:BX Q m cf w c)(hk:∀w',Fr [] w w'->K (vq vy (D4 c.s.c.ks)) w'):I vp 221 #[vr (vz ⟨Q.co,0,v6⟩)] w K:=by
 obtain⟨cs,b1,b2⟩:=h.blk;refine F221.sh (FN h ?_)
 try simp only[zv]
 refine F221.k3.to ?_
 try simp only[zv]
 refine Ac (v:=vr (vz ⟨Q.H.D.st,0,v6⟩)) b1 b2.s0 (F273.sh (GF h.hp.st ?_))
 try simp only[zv]
 refine F273.k3.to ?_
 try simp only[zv]
 exact Ac (v:=vr (vz ⟨Q.H.D.A.cel,0,v6⟩)) h.hp.st.blk rfl (NT h.hp.st.cel hk)
def TB(h:BV A g cf B w x)(hk:K (vw v7) w):I vp 45 #[vr (vz ⟨A.ma,0,v6⟩)] w K:=by
 refine F45.sh ⟨_,CN _ _ _ Tryz.underlying49,?_⟩
 try simp only[zv]
 refine Ac (v:=vr (vz ⟨A.Q.co,0,v6⟩)) h.blk rfl ⟨_,CN _ _ _ Tryz.underlying86,?_⟩;exact hk
def Kr{v:V2}(h:BV A g cf B w x)(hk:∀w',Fr [] w w'->K (Cg ⟨0,(x.told v).1,(x.told v).2,0,0⟩) w'):I vp 81 #[vr (vz ⟨A.ma,0,v6⟩),V v.1 v.2] w K:=by
 refine F81.sh (Ay λy w1 hn1=>Ay λz w2 hn2=>?_);have l1:=hn1.is;have l2:=hn2.is;have s1:=hn1.fr.size;have ly:=BP hn1.at_;have y2:=hn2.fr.at_ hn1.at_ (by simp);have f2:=hn1.fr.trans hn2.fr;unfold Ma.told at hk;simp only at hk
 have fin:∀(n:Int) w3,w3.heap[y]?=vz (wj #[vq vy v.1,vq vy n] 60 (0,0))->(∃cs:Array wc,w3.heap[z]?=vz (wj cs 38 (0,0))/\cs.size=5)->(∀w',Fr [z] w3 w'->K (Cg ⟨0,v.1,n,0,0⟩) w')->F81.k3 K (vr (vz ⟨y,0,v6⟩)) (vr (vz ⟨z,0,v6⟩)) w3:=λn w3 hy hz hk=>by
  obtain⟨cs,hz,hs⟩:=hz;refine F81.k3.to ?_
  try simp only[zv]
  refine Ac (v:=vq vy v.1) hy rfl ?_;refine Ac (v:=vq vy n) hy rfl (A7 (QD v.1 n) (Kt (a:=⟨0,v.1,n,0,0⟩) hz hs hk))
 try simp only[zv]
 refine Ac (v:=vq vy v.1) y2 rfl ?_;by_cases c:v.1=2
 ·simp only[zv,vl,c];rw[vn c]at hk;have h2:=h.keep0 f2;refine A8 (λw'=>w'.heap[A.ma]?=vz (DZ A cf)) λw3 hf3 _=>⟨hf3.at_ h2.blk (by simp),?_⟩;have h3:=h2.keep0 hf3;have y3:=hf3.at_ y2 (by simp);have la:=BP h.blk;refine Aq (v:=vr (vz ⟨A.Q.co,0,v6⟩)) (λw' hw=>⟨_,_,_,hw,rfl⟩) ⟨Ac (v:=vq vy v.2) y3 rfl ⟨h3.blk,⟨Hy h3.co ⟨h3.blk,?_⟩,trivial⟩⟩,trivial⟩
  refine⟨AM y3 rfl rfl (by simp[V,wc.cells]) λw4 hu4=>⟨hu4.fr.at_ h3.blk (by simp;omega),?_⟩,trivial⟩;refine fin (x.co.s.serial v.2) w4 (by simpa[V,wc.cells] using hu4.at_) ⟨_,hu4.fr.at_ (hf3.at_ hn2.at_ (by simp)) (by simp;omega),rfl⟩ λw5 hf5=>?_;exact hk w5 (((f2.trans hf3).then hu4.fr (by simp;omega)).then hf5 (by simp;omega))
 ·simp only[zv,c];rw[vm c]at hk;exact fin v.2 w2 y2 ⟨_,hn2.at_,rfl⟩ λw5 hf5=>hk w5 (f2.then hf5 (by simp;omega))
def LW(h:BV A g cf B w x)(t:Int):(x.co.roots t).length<=16:=by
 unfold Co.roots;split
 ·by_cases hj:t.toNat<x.co.th.length
  ·have:=h.co.t16 _ (zW hj);simpa[List.getD,hj] using this
  ·simp[List.getD,hj]
 ·simp
def Ko{t i:Int}(h:BV A g cf B w x)(hi:0<=i)(h1:∀v,x.root t i=vz v->∀w',Fr [] w w'->K (vu #[V v.1 v.2,vw v7]) w')(h2:x.root t i=v6->∀w',Fr [] w w'->K (vu #[V 0 0,vw v8]) w'):
  I vp 158 #[vr (vz ⟨A.ma,0,v6⟩),vq vy t,vq vy i] w K:=by
 refine F158.sh (Ay λy w1 hn1=>?_);have l1:=hn1.is;have h1':=h.keep0 hn1.fr
 try simp only[zv]
 refine Ac (v:=vr (vz ⟨A.Q.co,0,v6⟩)) h1'.blk rfl (GY h1'.co λv w2 hf2 hv hn2=>AK hv.rd ?_);rw[Cr];unfold Ma.root at h1 h2;have y2:=hf2.at_ hn1.at_ (by simp);have f2:=hn1.fr.trans hf2;obtain⟨j,rfl⟩:=xQ hi;simp only[zE]at h1 h2;by_cases c:(j:Int)≥((x.co.roots t).length:Int)
 ·simp only[zv,c];refine A7 EI (AB (x:=V 0 0) y2 rfl Cb rfl λw3 hu=>A5 hu.at_ rfl (h2 (by rw[yC];omega) w3 (f2.then hu.fr (by simp;omega))))
 ·simp only[zv,c];have hj:j<(x.co.roots t).length:=by omega
  refine F158.k4.to (Bw hv.rd hj λgg o cs e fz hg hcs ho=>AY hg (by omega) hcs (AB (x:=V (x.co.roots t)[j].1 (x.co.roots t)[j].2) y2 rfl Cb rfl λw3 hu=>A5 hu.at_ rfl ?_));exact h1 _ (xO hj) w3 (f2.then hu.fr (by simp;omega))
def M1{s:BY}(h:BV A g cf B w x)(hi:0<=s.i)(hk:∀w',Fr [] w w'->K (vu #[vq vy (x.object s).1,vq vy (x.object s).2]) w'):
  I vp 157 #[vr (vz ⟨A.ma,0,v6⟩),C5 s] w K:=by
 refine F157.sh (Ay λy w1 hn1=>?_);have l1:=hn1.is;have h1':=h.keep0 hn1.fr;unfold Ma.object at hk
 try simp only[zv]
 refine Ac (v:=vq vy s.t) hn1.at_ rfl ?_;refine Ac (v:=vq vy s.i) hn1.at_ rfl (Ko h1' hi (λv hv w2 hf2=>?_) λhv w2 hf2=>?_)
 ·rw[hv]at hk;simp only at hk
  try simp only[zv]
  refine Ay λz w3 hn3=>AB (x:=V v.1 v.2) hn3.at_ rfl Cb rfl λw4 hu4=>?_;have l3:=hn3.is;have s2:=hf2.size;have s1:=hn1.fr.size;have f4:Fr [] w w4:=((hn1.fr.trans hf2).trans hn3.fr).then hu4.fr (by simp;omega)
  try simp only[zv]
  refine Ac (v:=vq vy v.1) hu4.at_ rfl ?_;by_cases c:v.1=2
  ·rw[vm (by simp[c])]at hk;simp only[zv,vl,c,vo,zQ];refine F157.k6.to ?_
   try simp only[zv]
   exact Ac (v:=vq vy v.2) hu4.at_ rfl (hk w4 f4)
  ·rw[vn c]at hk;simp only[zv,c,vo,zR];exact hk w4 f4
 ·rw[hv]at hk;simp only at hk
  try simp only[zv]
  refine Ay λz w3 hn3=>AB (x:=V 0 0) hn3.at_ rfl Cb rfl λw4 hu4=>?_;have l3:=hn3.is;have s2:=hf2.size;have s1:=hn1.fr.size;exact hk w4 (((hn1.fr.trans hf2).trans hn3.fr).then hu4.fr (by simp;omega))
def X5(A:Ci):wc:=vx #[vr (vz ⟨A.lg,0,v6⟩),vr (vz ⟨A.bn,0,v6⟩)]
def OC{t:Nat}{n:Int}{b:Bool}(hw:cf.window<=64):(FR cf.window.toNat (x.lg t++List.replicate (min n cf.window).toNat b)).length<=64:=by rw[LP];omega
def TD{t:Nat}{n:Int}(h:BV A g cf B w x)(ht:t<cf.threads.toNat)(h0:0<=n)(h64:n<=64)(hk:∀g' w',BU A cf.threads.toNat g w g' w'->BV A g' cf B w' (x.ownT cf t n)->K (vu #[]) w'):
  I vp 58 #[X5 A,vq vy (t:Int),vq vy n] w K:=by
 have hw:=h.fine.wi;refine F58.sh (Ay λy w1 hn1=>?_);have h1:=h.keep0 hn1.fr
 try simp only[zv]
 refine Ac (v:=vr (vz ⟨A.lg,0,v6⟩)) hn1.at_ rfl (P4 h1.led ht h0 h64 (by omega) hw.2 (h.l64 t) λs w2 hx hL=>?_);have h2:=h1.setL ht hx hL (OC hw.2);refine hk _ w2 ((BU.w hn1.fr).trans (BU.l ht hx)) ?_;unfold Ma.ownT;rw[zE];exact h2
def Mt{t:Nat}{n:Int}(h:BV A g cf B w x)(ht:t<cf.threads.toNat)(hk:∀g' w',BU A cf.threads.toNat g w g' w'->BV A g' cf B w' (x.charge cf t n)->K (vu #[]) w'):
  I vp 165 #[X5 A,vq vy (t:Int),vq vy n] w K:=by
 have hw:=h.fine.wi;refine F165.sh (Ay λy w1 hn1=>?_);have h1:=h.keep0 hn1.fr;unfold Ma.charge Ma.admt at hk;rw[zE]at hk
 try simp only[zv]
 refine Ac (v:=vr (vz ⟨A.lg,0,v6⟩)) hn1.at_ rfl (Ri h1.led ht (by omega) hw.2 h.fine.mo.2 (h.l64 t) (λhno w2 hf2=>?_) λhye s w2 hx hL=>?_)
 ·rw[hno]at hk;exact hk g w2 (BU.w (hn1.fr.trans hf2)) (h1.keep0 hf2)
 ·rw[hye]at hk;exact hk _ w2 ((BU.w hn1.fr).trans (BU.l ht hx)) (h1.setL ht hx hL (OC hw.2))
end
structure Da(A:Ci)(T:Nat)(g:Gw)(b:Nat)(w:wd):Prop where
 no:b∉A.all T g
 lt:b<w.heap.size
def Ci.sub(A:Ci)(T:Nat)(g:Gw):∀y∈A.S T g,y∈A.all T g:=λy hy=>by
 simp only[Ci.S,j4]at hy;simp only[Ci.all,Ci.low,j4];rcases hy with d|d|d|d|d
 ·exact wg d
 ·exact wh (wg (wg d))
 ·exact wh (wg (wh (wg d)))
 ·exact wh (wg (wh (wh (List.mem_of_mem_tail d))))
 ·exact wh (wh d)
def Da.at_{A:Ci}{T:Nat}{g g':Gw}{b:Nat}{w w':wd}{o:Obj}(h:Da A T g b w)(t:BU A T g w g' w')(hb:w.heap[b]?=vz o):w'.heap[b]?=vz o:=t.fr.at_ hb λe=>h.no (A.sub T g b e)
def Da.step{A:Ci}{T:Nat}{g g':Gw}{b:Nat}{w w':wd}(h:Da A T g b w)(t:BU A T g w g' w'):Da A T g' b w':=
 ⟨λe=>by
  simp only[Ci.all,j4]at e;rcases e with d|d|d
  ·exact h.no (by simp[Ci.all,d])
  ·exact h.no (by simp[Ci.all,d])
  ·rcases t.gr b d with c|c
   ·exact h.no (by simp[Ci.all,c])
   ·have:=h.lt;omega,zA h.lt t.fr.size⟩
def Da.fr{A:Ci}{T:Nat}{g:Gw}{b:Nat}{S:List Nat}{w w':wd}(h:Da A T g b w)(hf:Fr S w w'):Da A T g b w':=⟨h.no,zA h.lt hf.size⟩
def BU.then{A:Ci}{T:Nat}{g g':Gw}{S:List Nat}{w w' w'':wd}(t:BU A T g w g' w')(hf:Fr S w' w'')(hS:∀y∈S,w.heap.size<=y):BU A T g w g' w'':=⟨t.fr.then hf λy hy=>wh (hS y hy),t.gr⟩
section
variable{K:VK}{w w':wd}{A:Ci}{g:Gw}{cf:Cf}{B:Int}{x:Ma}
def BV.ltA(h:BV A g cf B w x):∀y∈A.all cf.threads.toNat g,y<w.heap.size:=λy hy=>by
 have lo:=h.co.hp.le;simp only[Ci.all,Ci.low,Gw.all,Mv.all,j4]at hy;rcases hy with d|(d|d|d)|(d|d|d)|d
 ·have:=h.ok.lo y d;omega
 ·have:=h.co.low (x:=y) (by simp[d]);omega
 ·have:=h.co.low (x:=y) (by simp[d]);omega
 ·have:=h.co.low (x:=y) (by simp[d]);omega
 ·exact h.co.hp.gy.stk.own.lt (Cl.1 d)
 ·exact h.co.fb.fam.lt y d
 ·exact h.co.th.lt y d
 ·obtain⟨t,ht,hy⟩:=EO.1 d;exact (h.led.own t ht).lt (Cl.1 hy)
def BV.loc(h:BV A g cf B w x){b:Nat}(hb:w.heap.size<=b)(hl:b<w'.heap.size):Da A cf.threads.toNat g b w':=⟨λe=>by have:=h.ltA b e;omega,hl⟩
def BV.keepL{b:Nat}(h:BV A g cf B w x)(hf:Fr [b] w w')(hl:Da A cf.threads.toNat g b w):BV A g cf B w' x:=h.keep hf λy hy e=>by simp only[yZ]at e;subst e;exact hl.no hy
def Ed{w0:wd}{g0:Gw}{b:Nat}{cs:Array wc}{a:BZ}(t:BU A cf.threads.toNat g0 w0 g w)(h:BV A g cf B w x)(hl:Da A cf.threads.toNat g b w)(h0:w0.heap.size<=b)(hb:w.heap[b]?=vz (wj cs 38 (0,0)))(hs:cs.size=5)(hk:∀w',BU A cf.threads.toNat g0 w0 g w'->BV A g cf B w' x->K (Cg a) w'):
  Aj 5 (vr (vz ⟨b,0,v6⟩)) (Cg a) w λw2=>Ak 5 (vr (vz ⟨b,0,v6⟩)) w2 λr _=>K r w2:=
 Kt (a:=a) hb hs λw' hf=>hk w' (t.then hf (by simpa using h0)) (h.keepL hf hl)
def E1{w0:wd}{g0:Gw}{b:Nat}{cs:Array wc}{e:Int}(t:BU A cf.threads.toNat g0 w0 g w)(h:BV A g cf B w x)(hl:Da A cf.threads.toNat g b w)(h0:w0.heap.size<=b)(hb:w.heap[b]?=vz (wj cs 38 (0,0)))(hs:cs.size=5)(hk:∀w',BU A cf.threads.toNat g0 w0 g w'->BV A g cf B w' x->K (Cg (BZ.err e)) w'):
  I vp 54 #[vq vy e] w λx1 w1=>Aj 5 (vr (vz ⟨b,0,v6⟩)) x1 w1 λw2=>Ak 5 (vr (vz ⟨b,0,v6⟩)) w2 λr _=>K r w2:=
 PO λw1 hf1=>Ed (t.trans (BU.w hf1)) (h.keep0 hf1) (hl.fr hf1) h0 (hf1.at_ hb (by simp)) hs hk
def U5{s:BY}(h:BV A g cf B w x)(hi:0<=s.i)(hk:∀w',Fr [] w w'->K (vu #[V (x.value s).1.1 (x.value s).1.2,vq vy (x.value s).2]) w'):
  I vp 155 #[vr (vz ⟨A.ma,0,v6⟩),C5 s] w K:=by
 refine F155.sh (Ay λy w1 hn1=>Ay λr w2 hn2=>A7 EI (Ay λz w3 hn3=>AB (x:=V 0 0) hn3.at_ rfl Cb rfl λw4 hu4=>?_));have l1:=hn1.is;have l2:=hn2.is;have l3:=hn3.is;have s1:=hn1.fr.size;have s2:=hn2.fr.size;have ly:=BP hn1.at_;have lr:=BP hn2.at_;have f3:=(hn1.fr.trans hn2.fr).trans hn3.fr;have f4:Fr [] w w4:=f3.then hu4.fr (by simp;omega);have h4:=h.keep0 f4
 have y4:=hu4.fr.at_ ((hn2.fr.trans hn3.fr).at_ hn1.at_ (by simp)) (by simp;omega);have r4:=hu4.fr.at_ (hn3.fr.at_ hn2.at_ (by simp)) (by simp;omega);have z4:=hu4.at_;unfold Ma.value at hk
 have yes:∀(v:V2) w5,Fr [] w w5->w5.heap[r]?=vz (wj #[vq vy 0,vq vy 0] 60 (0,0))->w5.heap[z]?=vz (wj (V v.1 v.2).cells 60 (0,0))->(∀w',Fr [] w w'->K (vu #[V v.1 v.2,vq vy 0]) w')->F155.k15 K (vr (vz ⟨r,0,v6⟩)) (vr (vz ⟨z,0,v6⟩)) (vw v7) w5:=λv w5 f5 hr hz hk=>by
  refine F155.k15.to ?_;simp only[zv];exact F155.k17.to (A5 hz rfl (AB (x:=V v.1 v.2) hr rfl Cb rfl λw6 hu=>A5 hu.at_ rfl (hk w6 (f5.then hu.fr (by simp;omega)))))
 have no:∀w5,Fr [] w w5->w5.heap[r]?=vz (wj #[vq vy 0,vq vy 0] 60 (0,0))->(∀w',Fr [] w w'->K (vu #[V 0 0,vq vy 4]) w')->F155.k15 K (vr (vz ⟨r,0,v6⟩)) (vr (vz ⟨z,0,v6⟩)) (vw v8) w5:=λw5 f5 hr hk=>by
  refine F155.k15.to ?_;simp only[zv];exact A7 EI (AB (x:=V 0 0) hr rfl Cb rfl λw6 hu=>A5 hu.at_ rfl (hk w6 (f5.then hu.fr (by simp;omega))))
 have lw4:=hu4.fr.size;have lw3:=BP hn3.at_;have szw:w.heap.size<=w4.heap.size:=f4.size
 try simp only[zv]
 refine Ac (v:=vq vy s.kd) y4 rfl ?_;by_cases k4:s.kd=4
 ·simp only[vn k4]at hk;simp only[zv,vl,k4];refine Ac (v:=vq vy s.n) y4 rfl (A7 (Kw 1 s.n) (AB (x:=V 1 s.n) z4 rfl Cb rfl λw5 hu5=>A5 hu5.at_ rfl (FV 1 s.n λw6 hf6=>?_)));have f6:Fr [] w w6:=(f4.then hu5.fr (by simp;omega)).trans hf6;have r6:=hf6.at_ (hu5.fr.at_ r4 (by simp;omega)) (by simp);have z6:=hf6.at_ hu5.at_ (by simp);by_cases c:D8 1 s.n=0
  ·simp only[vn c]at hk;simp only[zv,vl,c];exact yes (1,s.n) w6 f6 r6 z6 hk
  ·simp only[vm c]at hk;simp only[zv,c];exact no w6 f6 r6 hk
 simp only[vm k4]at hk;simp only[zv,k4];by_cases k6:s.kd=6
 ·simp only[vn k6]at hk;simp only[zv,vl,k6];refine Ac (v:=vr (vz ⟨A.Q.co,0,v6⟩)) h4.blk rfl (L3 h4.co (J5 λw5 hf5=>?_));refine AB (x:=V (Et x.co.global).1 (Et x.co.global).2) (hf5.at_ z4 (by simp)) rfl Cb rfl λw6 hu6=>?_;exact yes (Et x.co.global) w6 ((f4.trans hf5).then hu6.fr (by simp;omega)) (hu6.fr.at_ (hf5.at_ r4 (by simp)) (by simp;omega)) hu6.at_ hk
 simp only[vm k6]at hk;simp only[zv,k6];by_cases k7:s.kd=7
 ·simp only[vn k7]at hk;simp only[zv,vl,k7];refine Ac (v:=vq vy s.t) y4 rfl ?_;refine Ac (v:=vq vy s.i) y4 rfl (Ko h4 hi (λv hv w5 hf5=>?_) λhv w5 hf5=>?_)
  ·rw[hv]at hk;simp only at hk
   try simp only[zv]
   refine AB (x:=V v.1 v.2) (hf5.at_ z4 (by simp)) rfl Cb rfl λw6 hu6=>?_;exact yes v w6 ((f4.trans hf5).then hu6.fr (by simp;omega)) (hu6.fr.at_ (hf5.at_ r4 (by simp)) (by simp;omega)) hu6.at_ hk
  ·rw[hv]at hk;simp only at hk
   try simp only[zv]
   refine AB (x:=V 0 0) (hf5.at_ z4 (by simp)) rfl Cb rfl λw6 hu6=>?_;exact no w6 ((f4.trans hf5).then hu6.fr (by simp;omega)) (hu6.fr.at_ (hf5.at_ r4 (by simp)) (by simp;omega)) hk
 simp only[vm k7]at hk;simp only[zv,k7];by_cases k9:s.kd=9
 ·simp only[vn k9]at hk;simp only[zv,vl,k9];refine A5 y4 rfl (M1 (s:=s) h4 hi λw5 hf5=>?_);have h5:=h4.keep0 hf5;have r5:=hf5.at_ r4 (by simp);have z5:=hf5.at_ z4 (by simp);have y5:=hf5.at_ y4 (by simp);have f5:=f4.trans hf5
  try simp only[zv]
  by_cases c:(x.object s).2=0
  ·rw[vm (by simp[c])]at hk;simp only[zv,vl,c,vo,zQ];have la:=BP h.blk;refine F155.k14.to (A8 (λw'=>w'.heap[A.ma]?=vz (DZ A cf)/\w'.heap[y]?=vz (wj (C5 s).cells 40 (0,0))) λw6 hf6 _=>⟨⟨hf6.at_ h5.blk (by simp),hf6.at_ y5 (by simp)⟩,?_⟩);have h6:=h5.keep0 hf6
   try simp only[zv]
   refine Aq (v:=vr (vz ⟨A.Q.co,0,v6⟩)) (λw' hw=>⟨_,_,_,hw.1,rfl⟩) (Aq (v:=vq vy s.f) (λw' hw=>⟨_,_,_,hw.2,rfl⟩) ⟨Oc h6.co λw7 hf7=>⟨⟨hf7.at_ h6.blk (by simp),hf7.at_ (hf6.at_ y5 (by simp)) (by simp)⟩,?_⟩,trivial⟩);have f7:=(f5.trans hf6).trans hf7;have z7:=(hf6.trans hf7).at_ z5 (by simp);have r7:=(hf6.trans hf7).at_ r5 (by simp)
   try simp only[zv]
   refine⟨AB (x:=V (x.co.s.get (x.object s).1 s.f).1.1 (x.co.s.get (x.object s).1 s.f).1.2) z7 rfl Cb rfl λw8 hu8=>⟨⟨hu8.fr.at_ (hf7.at_ h6.blk (by simp)) (by simp;omega),hu8.fr.at_ (hf7.at_ (hf6.at_ y5 (by simp)) (by simp)) (by simp;omega)⟩,?_⟩,trivial⟩;have f8:Fr [] w w8:=f7.then hu8.fr (by simp;omega);have r8:=hu8.fr.at_ r7 (by simp;omega);cases e:(x.co.s.get (x.object s).1 s.f).2 with
   | true=>
    rw[e]at hk;simp only[vj]at hk;exact yes _ w8 f8 r8 hu8.at_ hk
   | false=>
    rw[e]at hk;simp only[yT,vg]at hk;exact no w8 f8 r8 hk
  ·rw[vn c]at hk;simp only[zv,c,vo,zR];exact A7 EI (AB (x:=V 0 0) r5 rfl Cb rfl λw6 hu=>A5 hu.at_ rfl (hk w6 (f5.then hu.fr (by simp;omega))))
 ·simp only[vm k9]at hk;simp only[zv,k9];exact yes (0,0) w4 f4 r4 z4 hk
def R2(c:Co)(t:Int)(v:V2):(c.push t v).1.r=c.r:=by unfold Co.push;split<;>rfl
def Un{s:BY}(h:BV A g cf B w x)(hi:0<=s.i)(hk:∀g' w',BU A cf.threads.toNat g w g' w'->BV A g' cf B w' (x.pushS s).1->K (Cg (x.pushS s).2) w'):
  I vp 101 #[vr (vz ⟨A.ma,0,v6⟩),C5 s] w K:=by
 refine F101.sh (Ay λy w1 hn1=>Ay λr w2 hn2=>?_);have l1:=hn1.is;have l2:=hn2.is;have s1:=hn1.fr.size;have ly:=BP hn1.at_;have f2:=hn1.fr.trans hn2.fr;have h2:=h.keep0 f2;have y2:=hn2.fr.at_ hn1.at_ (by simp);have la:=BP h.blk;unfold Ma.pushS at hk;refine A5 y2 rfl (U5 (s:=s) h2 hi λw3 hf3=>?_);have f3:=f2.trans hf3;have y3:=hf3.at_ y2 (by simp);have r3:=hf3.at_ hn2.at_ (by simp);have s3:=hf3.size
 have lr:=BP hn2.at_;generalize x.value s=p at *;obtain⟨v,e⟩:=p;simp only at hk ⊢
 try simp only[zv]
 refine Ay λz w4 hn4=>AB (x:=V v.1 v.2) hn4.at_ rfl Cb rfl λw5 hu5=>?_;have l4:=hn4.is;have f5:Fr [] w w5:=(f3.trans hn4.fr).then hu5.fr (by simp;omega);have h5:=h.keep0 f5;have y5:=hu5.fr.at_ (hn4.fr.at_ y3 (by simp)) (by simp;omega);have r5:=hu5.fr.at_ (hn4.fr.at_ r3 (by simp)) (by simp;omega);have z5:=hu5.at_;by_cases c:e=0
 ·rw[vm (by simp[c])]at hk;simp only[zv,vl,c,vo,zQ];refine F101.k4.to (A8 (λw'=>w'.heap[A.ma]?=vz (DZ A cf)/\w'.heap[y]?=vz (wj (C5 s).cells 40 (0,0))/\w'.heap[z]?=vz (wj #[vq vy v.1,vq vy v.2] 60 (0,0))) λw6 hf6 _=>⟨⟨hf6.at_ h5.blk (by simp),hf6.at_ y5 (by simp),hf6.at_ z5 (by simp)⟩,?_⟩);have h6:=h5.keep0 hf6;have f6:=f5.trans hf6;have s6:=f6.size
  try simp only[zv]
  refine Aq (v:=vr (vz ⟨A.Q.co,0,v6⟩)) (λw' hw=>⟨_,_,_,hw.1,rfl⟩) (Aq (v:=vq vy s.t) (λw' hw=>⟨_,_,_,hw.2.1,rfl⟩) (AR (vs:=[vq vy v.1,vq vy v.2]) (λw' hw=>⟨_,_,_,hw.2.2,by simp,rfl⟩) ⟨Qg (v:=v) h6.co λm' w7 ht7 h7=>?_,trivial⟩));have h7':=h6.setC ht7 h7 (by rw[R2]);have mt7:BU A cf.threads.toNat g w6 { g with m:=m' } w7:=BU.c ht7;have z6:=hf6.at_ z5 (by simp);have y6:=hf6.at_ y5 (by simp)
  have r6:=hf6.at_ r5 (by simp);have lz:Da A cf.threads.toNat g z w6:=h.loc (by omega) (BP z6);have lyy:Da A cf.threads.toNat g y w6:=h.loc (by omega) (BP y6);have lrr:Da A cf.threads.toNat g r w6:=h.loc (by omega) (BP r6);have z7:=lz.at_ mt7 z6;have y7:=lyy.at_ mt7 y6;have r7:=lrr.at_ mt7 r6;have t7:BU A cf.threads.toNat g w { g with m:=m' } w7:=(BU.w f6).trans mt7;refine⟨⟨h7'.blk,y7,z7⟩,?_⟩
  cases ep:(x.co.push s.t v).2 with
  | false=>
   have e0:x.co.push s.t v=(x.co,v8):=by
    unfold Co.push at ep ⊢;split at ep
    ·simp at ep
    ·rename_i hh;rw[vm hh]
   rw[e0]at hk h7';simp only at hk;simp only[zv];exact E1 (e:=3) t7 h7' (lrr.step mt7) (by omega) r7 rfl λw' ht' h'=>hk _ w' ht' h'
  | true=>
   have e0:x.co.push s.t v=((x.co.push s.t v).1,v7):=by rw[<-ep]
   rw[e0]at hk;simp only at hk;simp only[zv];refine F101.k6.to (A5 z7 rfl (Kr (v:=v) h7' λw8 hf8=>?_));exact Ed (t7.trans (BU.w hf8)) (h7'.keep0 hf8) ((lrr.step mt7).fr hf8) (by omega) (hf8.at_ r7 (by simp)) rfl λw' ht' h'=>hk _ w' ht' h'
 ·rw[vn c]at hk;simp only[zv,c,vo,zR];refine PO λw6 hf6=>Kt (a:=BZ.err e) (hf6.at_ r5 (by simp)) rfl λw7 hf7=>?_;have f7:Fr [] w w7:=(f5.trans hf6).then hf7 (by simp;omega);exact hk g w7 (BU.w f7) (h.keep0 f7)
end
section
variable{K:VK}{w w':wd}{A:Ci}{g:Gw}{cf:Cf}{B:Int}{x:Ma}
def Vh(c:Co)(t a i:Int)(v:V2):(c.write t a i v).1.r=c.r:=by unfold Co.write;split<;>rfl
def Sq{s:BY}(h:BV A g cf B w x)(hi:0<=s.i)(hj:0<=s.j)(hk:∀g' w',BU A cf.threads.toNat g w g' w'->BV A g' cf B w' (x.writeS s).1->K (Cg (x.writeS s).2) w'):
  I vp 103 #[vr (vz ⟨A.ma,0,v6⟩),C5 s] w K:=by
 refine F103.sh (Ay λy w1 hn1=>Ay λr w2 hn2=>?_);have l1:=hn1.is;have l2:=hn2.is;have s1:=hn1.fr.size;have ly:=BP hn1.at_;have f2:=hn1.fr.trans hn2.fr;have h2:=h.keep0 f2;have y2:=hn2.fr.at_ hn1.at_ (by simp);unfold Ma.writeS at hk;refine A5 y2 rfl (M1 (s:=s) h2 hi λw3 hf3=>?_);have f3:=f2.trans hf3;have h3:=h.keep0 f3;have y3:=hf3.at_ y2 (by simp);have r3:=hf3.at_ hn2.at_ (by simp);have lr:=BP hn2.at_
 have s3:=hf3.size;generalize x.object s=p at *;obtain⟨a,e⟩:=p;simp only at hk ⊢
 try simp only[zv]
 by_cases c:e=0
 ·rw[vm (by simp[c])]at hk;simp only[zv,vl,c,vo,zQ];refine F103.k4.to ?_
  try simp only[zv]
  refine Ac (v:=vq vy s.t) y3 rfl ?_;refine Ac (v:=vq vy s.j) y3 rfl (Ko h3 hj (λv hv w4 hf4=>?_) λhv w4 hf4=>?_)
  ·rw[hv]at hk;simp only at hk
   try simp only[zv]
   refine Ay λz w5 hn5=>AB (x:=V v.1 v.2) hn5.at_ rfl Cb rfl λw6 hu6=>?_;have l5:=hn5.is;have s4:=hf4.size;have f6:Fr [] w w6:=((f3.trans hf4).trans hn5.fr).then hu6.fr (by simp;omega);have h6:=h.keep0 f6;have y6:=hu6.fr.at_ ((hf4.trans hn5.fr).at_ y3 (by simp)) (by simp;omega);have r6:=hu6.fr.at_ ((hf4.trans hn5.fr).at_ r3 (by simp)) (by simp;omega);have z6:=hu6.at_
   refine A8 (λw'=>w'.heap[A.ma]?=vz (DZ A cf)/\w'.heap[y]?=vz (wj (C5 s).cells 40 (0,0))/\w'.heap[z]?=vz (wj #[vq vy v.1,vq vy v.2] 60 (0,0))) λw7 hf7 _=>⟨⟨hf7.at_ h6.blk (by simp),hf7.at_ y6 (by simp),hf7.at_ z6 (by simp)⟩,?_⟩;have h7:=h6.keep0 hf7;have f7:=f6.trans hf7;have y7:=hf7.at_ y6 (by simp);have r7:=hf7.at_ r6 (by simp);have z7:=hf7.at_ z6 (by simp)
   refine Aq (v:=vr (vz ⟨A.Q.co,0,v6⟩)) (λw' hw=>⟨_,_,_,hw.1,rfl⟩) (Aq (v:=vq vy s.t) (λw' hw=>⟨_,_,_,hw.2.1,rfl⟩) (Aq (v:=vq vy s.f) (λw' hw=>⟨_,_,_,hw.2.1,rfl⟩) (AR (vs:=[vq vy v.1,vq vy v.2]) (λw' hw=>⟨_,_,_,hw.2.2,by simp,rfl⟩) ⟨U8 (v:=v) h7.co λm' w8 ht8 h8=>?_,trivial⟩)));have h8':=h7.setC ht8 h8 (by rw[Vh]);have mt8:BU A cf.threads.toNat g w7 { g with m:=m' } w8:=BU.c ht8
   have lrr:Da A cf.threads.toNat g r w7:=h.loc (by omega) (BP r7);have lyy:Da A cf.threads.toNat g y w7:=h.loc (by omega) (BP y7);have lzz:Da A cf.threads.toNat g z w7:=h.loc (by omega) (BP z7);have r8:=lrr.at_ mt8 r7;have t8:BU A cf.threads.toNat g w { g with m:=m' } w8:=(BU.w f7).trans mt8;refine⟨⟨h8'.blk,lyy.at_ mt8 y7,lzz.at_ mt8 z7⟩,?_⟩;cases ew:(x.co.write s.t a s.f v).2 with
   | false=>
    simp only[ew,yT,vg]at hk;simp only[zv];exact E1 (e:=4) t8 h8' (lrr.step mt8) (by omega) r8 rfl λw' ht' h'=>hk _ w' ht' h'
   | true=>
    simp only[ew,vj]at hk;simp only[zv];refine F103.k7.to (A7 Jq (Ed t8 h8' (lrr.step mt8) (by omega) r8 rfl λw' ht' h'=>hk _ w' ht' h'))
  ·rw[hv]at hk;simp only at hk
   try simp only[zv]
   refine Ay λz w5 hn5=>AB (x:=V 0 0) hn5.at_ rfl Cb rfl λw6 hu6=>?_;have l5:=hn5.is;have s4:=hf4.size;have f6:Fr [] w w6:=((f3.trans hf4).trans hn5.fr).then hu6.fr (by simp;omega);have r6:=hu6.fr.at_ ((hf4.trans hn5.fr).at_ r3 (by simp)) (by simp;omega);refine A8 (λ_=>True) λw7 hf7 _=>⟨trivial,?_⟩;have f7:=f6.trans hf7;have r7:=hf7.at_ r6 (by simp);refine⟨⟨trivial,?_⟩,trivial⟩
   exact E1 (e:=4) (BU.w f7) (h.keep0 f7) (h.loc (by omega) (BP r7)) (by omega) r7 rfl λw' ht' h'=>hk _ w' ht' h'
 ·rw[vn c]at hk;simp only[zv,c,vo,zR];exact E1 (e:=e) (BU.w f3) h3 (h.loc (by omega) (BP r3)) (by omega) r3 rfl λw' ht' h'=>hk _ w' ht' h'
def Oh{t i:Int}(h:BV A g cf B w x)(hi:0<=i)(hk:∀w',Fr [] w w'->K (vu #[V ((x.root t i).getD (0,0)).1 ((x.root t i).getD (0,0)).2,vw (x.root t i).isSome]) w'):
  I vp 158 #[vr (vz ⟨A.ma,0,v6⟩),vq vy t,vq vy i] w K:=
 Ko h hi (λv hv w' hf=>by have:=hk w' hf;rw[hv]at this;exact this) λhv w' hf=>by have:=hk w' hf;rw[hv]at this;exact this
def WK{s:BY}(h:BV A g cf B w x)(hkd:s.kd=11∨s.kd=12)(hi:0<=s.i)(hj:0<=s.j)(hk:∀w',BU A cf.threads.toNat g w g w'->BV A g cf B w' x->K (Cg (x.ask s)) w'):
  I vp 104 #[vr (vz ⟨A.ma,0,v6⟩),C5 s] w K:=by
 refine F104.sh (Ay λy w1 hn1=>Ay λr w2 hn2=>?_);have l1:=hn1.is;have l2:=hn2.is;have s1:=hn1.fr.size;have ly:=BP hn1.at_;have lr:=BP hn2.at_;have f2:=hn1.fr.trans hn2.fr;have h2:=h.keep0 f2;have y2:=hn2.fr.at_ hn1.at_ (by simp);unfold Ma.ask at hk
 try simp only[zv]
 refine Ac (v:=vq vy s.t) y2 rfl ?_;refine Ac (v:=vq vy s.i) y2 rfl (Oh h2 hi λw3 hf3=>?_);generalize hra:x.root s.t s.i=ra at *;have s3:=hf3.size
 try simp only[zv]
 refine Ay λz w4 hn4=>AB (x:=V (ra.getD (0,0)).1 (ra.getD (0,0)).2) hn4.at_ rfl Cb rfl λw5 hu5=>?_;have l4:=hn4.is;have f25:Fr [] w2 w5:=(hf3.trans hn4.fr).then hu5.fr (by simp;omega);have f5:=f2.trans f25;have h5:=h.keep0 f5;have y5:=f25.at_ y2 (by simp);have z5:=hu5.at_;have lz:=BP z5
 try simp only[zv]
 refine Ac (v:=vq vy s.t) y5 rfl ?_;refine Ac (v:=vq vy s.j) y5 rfl (Oh h5 hj λw6 hf6=>?_);generalize hrb:x.root s.t s.j=rb at *;have s6:=hf6.size
 try simp only[zv]
 refine Ay λq w7 hn7=>AB (x:=V (rb.getD (0,0)).1 (rb.getD (0,0)).2) hn7.at_ rfl Cb rfl λw8 hu8=>?_;have l7:=hn7.is;have f58:Fr [] w5 w8:=(hf6.trans hn7.fr).then hu8.fr (by simp;omega);have f8:=f5.trans f58;have h8:=h.keep0 f8;have y8:=f58.at_ y5 (by simp);have z8:=f58.at_ z5 (by simp);have r8:=(f25.trans f58).at_ hn2.at_ (by simp);have q8:=hu8.at_;have lrr:Da A cf.threads.toNat g r w8:=h.loc (by omega) (BP r8)
 have err:∀(e:Int),(∀w',BU A cf.threads.toNat g w g w'->BV A g cf B w' x->K (Cg (BZ.err e)) w')->I vp 54 #[vq vy e] w8 λx1 w1=>Aj 5 (vr (vz ⟨r,0,v6⟩)) x1 w1 λw2=>Ak 5 (vr (vz ⟨r,0,v6⟩)) w2 λr _=>K r w2:=λe hk=>E1 (e:=e) (BU.w f8) h8 lrr (by omega) r8 rfl hk
 have out:∀(n:Int) w9,Fr [] w8 w9->(∀w',BU A cf.threads.toNat g w g w'->BV A g cf B w' x->K (Cg ⟨0,1,n,0,0⟩) w')->F104.k13 K (vr (vz ⟨r,0,v6⟩)) (vq vy n) w9:=λn w9 hf9 hk=>F104.k13.to (A7 (QD 1 n) (Ed (a:=⟨0,1,n,0,0⟩) (BU.w (f8.trans hf9)) (h8.keep0 hf9) (lrr.fr hf9) (by omega) (hf9.at_ r8 (by simp)) rfl hk));cases ra with
 | none=>
  simp only at hk;simp only[Option.isSome_none,Ai,m9];exact err 4 hk
 | some v=>
  simp only[Option.isSome_some,d8,Ae,p7] at *;refine Ac (v:=vq vy s.kd) y8 rfl ?_;rcases hkd with k11|k12
  ·simp only[zv,vl,k11];have n12:¬(11:Int)=12:=by decide
   cases rb with
   | none=>
    rw[vn ⟨k11,rfl⟩]at hk;simp only[Option.isSome_none,Ai,m9];exact err 4 hk
   | some u=>
    rw[vm (λe=>by simp at e),vm (λe=>n12 (k11 ▸ e.1)),vm (λe=>n12 (k11 ▸ e))]at hk;simp only[Option.isSome_some,d8,Ae,p7] at *;refine Ac (v:=vq vy s.kd) y8 rfl ?_;simp only[zv,k11,n12];refine Ac (v:=vq vy s.kd) y8 rfl ?_;simp only[zv,k11,n12];refine A5 z8 rfl (A5 q8 rfl ⟨_,YI _ _ v.1 v.2 u.1 u.2,?_⟩);have e:(v=u)↔(v.1=u.1/\v.2=u.2):=uz;by_cases c:v=u
    ·rw[vn c]at hk;rw[o8 (e.1 c)];simp only[Ai];exact out 1 w8 (Fr.refl _ _) hk
    ·rw[vm c]at hk;rw[m8 (λd=>c (e.2 d))];simp only[Ae];exact out 0 w8 (Fr.refl _ _) hk
  ·have n11:¬(12:Int)=11:=by decide
   simp only[zv,k12,n11];rw[vm (λe=>n11 (k12 ▸ e.1))]at hk;refine Ac (v:=vq vy s.kd) y8 rfl ?_;simp only[zv,vl,k12];refine Ac (v:=vq vy v.1) z8 rfl ?_;by_cases c:v.1=2
   ·rw[vm (λe=>e.2 c),vn k12]at hk;simp only[zv,vl,c,vo,zQ];refine Ac (v:=vq vy s.kd) y8 rfl ?_;simp only[zv,vl,k12];refine A8 (λw'=>w'.heap[A.ma]?=vz (DZ A cf)/\w'.heap[z]?=vz (wj (V v.1 v.2).cells 60 (0,0))) λw9 hf9 _=>⟨⟨hf9.at_ h8.blk (by simp),hf9.at_ z8 (by simp)⟩,?_⟩;have h9:=h8.keep0 hf9
    refine Aq (v:=vr (vz ⟨A.Q.co,0,v6⟩)) (λw' hw=>⟨_,_,_,hw.1,rfl⟩) (Aq (v:=vq vy v.2) (λw' hw=>⟨_,_,_,hw.2,rfl⟩) ⟨L2 h9.co ⟨⟨h9.blk,hf9.at_ z8 (by simp)⟩,?_⟩,trivial⟩);exact out _ w9 hf9 hk
   ·rw[vn ⟨k12,c⟩]at hk;simp only[zv,c,vo,zR];exact err 12 hk
def T1(cf:Cf)(c:Co):(c.unit cf).1.r.l.length=c.r.l.length:=by
 have adv:∀d (c:Co),(Co.advance cf d c).r.l.length=c.r.l.length:=by
  intro d;induction d with
  | zero=>intro c;rfl
  | succ d ih=>
   intro c;rw[Co.advance];split
   ·split
    ·rw[ih];rfl
    ·split
     ·rw[ih]
     ·split
      ·rw[ih]
      ·split
       ·rw[ih]
       ·rfl
   ·rfl
 have tU:(c.tUnit cf).1.r=c.r:=by
  unfold Co.tUnit;split
  ·rfl
  ·split
   ·unfold Co.entry;simp only;split<;>rfl
   ·split<;>rfl
 have sw:∀(l:List Int) (c:Co),(c.sweepAll l).r=c.r:=by
  intro l;induction l with
  | nil=>intro c;rfl
  | cons a l ih=>intro c;rw[Co.sweepAll,ih];unfold Co.sweepOne;split<;>rfl
 have wU:(c.wUnit cf).1.r=c.r:=by
  unfold Co.wUnit;split
  ·rfl
  ·exact sw _ c
 unfold Co.unit;simp only;by_cases p3:c.phase=3
 ·simp only[vn p3];cases e:c.tUnit cf with
  | mk d b=>
   rw[e]at tU;simp only at tU;cases b
   ·simp only[yT,vg];unfold Co.adv;rw[adv];show (d.raise 4).r.l.length=_;unfold Co.raise Rg.raise;simp only;rw[tU]
   ·simp only[vj];rw[tU]
 ·simp only[vm p3];by_cases p5:c.phase=5
  ·simp only[vn p5];cases e:c.wUnit cf with
   | mk d b=>
    rw[e]at wU;simp only at wU;by_cases z:cf.pages<=d.at_
    ·simp only[vn z];cases b<;>simp[wU]
    ·simp only[vm z];cases b<;>simp[wU]
  ·simp only[vm p5,yT,vg]
def KY(cf:Cf):∀d (c:Co),(Co.advance cf d c).r.l.length=c.r.l.length:=by
 intro d;induction d with
 | zero=>intro c;rfl
 | succ d ih=>
  intro c;rw[Co.advance];split
  ·split
   ·rw[ih];rfl
   ·split
    ·rw[ih]
    ·split
     ·rw[ih]
     ·split
      ·rw[ih]
      ·rfl
  ·rfl
def Kh(cf:Cf):∀d (c:Co),(c.workN cf d).2<=d:=by
 intro d;induction d with
 | zero=>intro c;simp[Co.workN]
 | succ d ih=>
  intro c;rw[Co.workN];split
  ·simp
  ·rename_i c' _;have:=ih c';simp only;omega
def Qz{n:Nat}(hn:n<=1000){w0:wd}{g0:Gw}{x0:Ma}{ce:Co}{k:Nat}(hk:∀g' w',BU A cf.threads.toNat g0 w0 g' w'->BV A g' cf B w' { x0 with co:=ce }->K (vq vy (k:Int)) w'):
  ∀(d i:Nat) (c:Co) (g:Gw) (w:wd),i+d=n->BU A cf.threads.toNat g0 w0 g w->BV A g cf B w { x0 with co:=c }->(c.workN cf d).1=ce->i+(c.workN cf d).2=k->
   F234.l2 K (vr (vz ⟨A.ma,0,v6⟩)) (vq vy (n:Int)) (vq vy (n:Int)) (vq vy (i:Int)) w:=by
 intro d;induction d with
 | zero=>
  intro i c g w hi ht h e1 e2;have e:i=n:=by omega
  subst e;refine F234.l2.to ?_;simp only[zv,show ¬((i:Int)<(i:Int)) by omega];simp only[Co.workN]at e1 e2;subst e1;rw[uv]at e2;subst e2;exact F234.k7.to (hk g w ht h)
 | succ d ih=>
  intro i c g w hi ht h e1 e2;refine F234.l2.to ?_;simp only[zv,show (i:Int)<(n:Int) by omega];refine F234.k3.to ?_
  try simp only[zv]
  refine Ac (v:=vr (vz ⟨A.Q.co,0,v6⟩)) h.blk rfl (Wa h.co λm' w1 ht1 h1=>?_);have h1':=h.setC ht1 h1 (T1 cf c);have t1:=ht.trans (BU.c ht1);rw[Co.workN]at e1 e2;cases e:c.unit cf with
  | mk c' b=>
   rw[e]at e1 e2 h1';cases b with
   | false=>
    simp only at e1 e2 h1';subst e1;rw[uv]at e2;subst e2;simp only[zv];exact hk _ w1 t1 h1'
   | true=>
    simp only at e1 e2 h1';simp only[zv];refine F234.k6.to ?_
    try simp only[AC]
    rw[BN (n:=(i:Int)+1) (by omega)];exact ih (i+1) c' _ w1 (by omega) t1 h1' e1 (by omega)
def Qy{n:Nat}(h:BV A g cf B w x)(hn:n<=1000)(hk:∀g' w',BU A cf.threads.toNat g w g' w'->BV A g' cf B w' { x with co:=(x.co.workN cf n).1 }->K (vq vy ((x.co.workN cf n).2:Int)) w'):
  I vp 234 #[vr (vz ⟨A.ma,0,v6⟩),vq vy (n:Int)] w K:=
 F234.sh (Qz (x0:=x) hn hk n 0 x.co g w (by omega) (BU.refl _ _ _ _) h rfl (by omega))
def BV.mono{B':Int}(h:BV A g cf B w x)(hB:B<=B'):BV A g cf B' w x:=
 ⟨h.ok,h.fine,h.co,h.blk,h.led,h.bnk,⟨h.bin.toRR,by have:=h.bin.iB;omega,by have:=h.bin.lB;omega⟩,h.l64,h.hs,h.rl⟩
def BV.prS(h:w.heap[A.ma]?=vz (DZ A cf)):∃cs e fz,w.heap[A.ma]?=vz (wj cs e fz)/\0+2<=cs.size/\(cs.toList.drop 0).take 2=[vr (vz ⟨A.lg,0,v6⟩),vr (vz ⟨A.bn,0,v6⟩)]:=⟨_,_,_,h,by simp,rfl⟩
def Wp(d:Int):(Instr.build 38 #[(3,vq vy d)]).run vp w=.ok (Cg ⟨0,0,0,d,0⟩) w:=by kernel_rfl
def UF(d e:Int):(Instr.build 38 #[(3,vq vy d),(4,vq vy e)]).run vp w=.ok (Cg ⟨0,0,0,d,e⟩) w:=by kernel_rfl
def Tm{n:Int}(hB:B<=1000000000000)(hb:Mq B x.bi x.bo x.bl cf.cap)(h0:0<=n)(hn:n<=64):
  Mq (B+64) (x.bi+min n (cf.cap-(x.bi-x.bo))) x.bo (x.bl+(n-min n (cf.cap-(x.bi-x.bo)))) cf.cap:=by obtain⟨⟨a1,a2,a3,a4,a5,a6,a7,a8⟩,a9,a10⟩:=hb;exact⟨⟨by omega,by omega,by omega,by omega,by omega,by omega,by omega,by omega⟩,by omega,by omega⟩
def NP{n:Nat}(h:BV A g cf B w x)(hB:B<=1000000000000)(hn:n<=64)(hk:∀g' w',BU A cf.threads.toNat g w g' w'->BV A g' cf (B+64) w' (x.ahead cf n).1->K (Cg (x.ahead cf n).2) w'):
  I vp 163 #[vr (vz ⟨A.ma,0,v6⟩),vq vy (n:Int)] w K:=by
 refine F163.sh (Ay λr w1 hn1=>?_);have l1:=hn1.is;have h1:=h.keep0 hn1.fr;have lr1:Da A cf.threads.toNat g r w1:=h.loc (by omega) (BP hn1.at_);unfold Ma.ahead at hk;simp only[zE]at hk;have hle:=Kh cf n x.co;refine Qy h1 (by omega) λg2 w2 ht2 h2=>?_;generalize hce:(x.co.workN cf n).1=ce at *;generalize hkk:(x.co.workN cf n).2=k at *;have r2:=lr1.at_ ht2 hn1.at_;have lr2:=lr1.step ht2
 try simp only[zv]
 refine Ac (v:=vr (vz ⟨A.bn,0,v6⟩)) h2.blk rfl (UE (k:Int) h2.bnk h2.bin.toRR λw3 hf3 hb3=>?_);have ec:Dj (k:Int) 0 2147483648=(k:Int):=by unfold Dj;rw[vm (by omega),vm (by omega)]
 rw[ec]at hb3;have fit:=Tm (x:={ x with co:=ce }) hB h2.bin (n:=(k:Int)) (by omega) (by omega);have h3:=h2.setB hf3 hb3 fit;have t3:BU A cf.threads.toNat g w g2 w3:=((BU.w hn1.fr).trans ht2).trans (BU.b hf3);have r3:=lr2.at_ (BU.b (T:=cf.threads.toNat) (g:=g2) hf3) r2;refine A7 (Wp (k:Int)) (Ed (a:=⟨0,0,0,(k:Int),0⟩) t3 h3 (lr2.fr hf3) (by omega) r3 rfl λw' ht' h'=>hk _ w' ht' h')
end
section
variable{K:VK}{w w':wd}{A:Ci}{g:Gw}{cf:Cf}{B:Int}{x:Ma}
structure Ey(w:wd)(y r:Nat)(s:BY):Prop where
 y:w.heap[y]?=vz (wj (C5 s).cells 40 (0,0))
 r:∃cs:Array wc,w.heap[r]?=vz (wj cs 38 (0,0))/\cs.size=5
def Ey.to{y r:Nat}{s:BY}{g':Gw}(h:Ey w y r s)(t:BU A cf.threads.toNat g w g' w')(hy:Da A cf.threads.toNat g y w)(hr:Da A cf.threads.toNat g r w):Ey w' y r s:=by obtain⟨cs,h1,h2⟩:=h.r;exact⟨hy.at_ t h.y,cs,hr.at_ t h1,h2⟩
def Ey.fr{y r:Nat}{s:BY}(h:Ey w y r s)(hf:Fr [] w w'):Ey w' y r s:=by obtain⟨cs,h1,h2⟩:=h.r;exact⟨hf.at_ h.y (by simp),cs,hf.at_ h1 (by simp),h2⟩
def Xc{s:BY}{t:Nat}(h:BV A g cf B w x)(hB:B<=1000000000000)(et:s.t=(t:Int))(ht:t<cf.threads.toNat)(hc:1<=s.cost/\s.cost<=64)(hk:∀g' w',BU A cf.threads.toNat g w g' w'->BV A g' cf B w' (x.tax cf s).1->K (Cg (x.tax cf s).2) w'):
  I vp 222 #[vr (vz ⟨A.ma,0,v6⟩),C5 s] w K:=by
 have hta:=h.fine.ta;have hwi:=h.fine.wi;refine F222.sh (Ay λy w1 hn1=>Ay λr w2 hn2=>?_);have l1:=hn1.is;have l2:=hn2.is;have s1:=hn1.fr.size;have ly:=BP hn1.at_;have lr:=BP hn2.at_;have f2:=hn1.fr.trans hn2.fr;have h2:=h.keep0 f2;have e2:Ey w2 y r s:=⟨hn2.fr.at_ hn1.at_ (by simp),_,hn2.at_,rfl⟩;have yl2:Da A cf.threads.toNat g y w2:=h.loc (by omega) (BP e2.y)
 have rl2:Da A cf.threads.toNat g r w2:=h.loc (by omega) lr;unfold Ma.tax at hk
 try simp only[zv]
 refine Ac (v:=vr (vz ⟨A.Q.co,0,v6⟩)) h2.blk rfl (JO h2.co ?_);have quiet:(x.co.phase≠3/\x.co.phase≠5)->Am vp (Instr.build 38 #[]) w2 λx20 w11=>Aj 5 (vr (vz ⟨r,0,v6⟩)) x20 w11 λw12=>Ak 5 (vr (vz ⟨r,0,v6⟩)) w12 λr13 _=>K r13 w12:=λhp=>by
  rw[vn hp]at hk;exact A7 Jq (Ed (a:=BZ.ok) (BU.w f2) h2 rl2 (by omega) hn2.at_ rfl λw' ht' h'=>hk g w' ht' h')
 have Im:¬(x.co.phase≠3/\x.co.phase≠5)->F222.k4 K (vr (vz ⟨A.ma,0,v6⟩)) (vr (vz ⟨y,0,v6⟩)) (vr (vz ⟨r,0,v6⟩)) w2:=λhp=>by
  rw[vm hp]at hk;simp only at hk;refine F222.k4.to (A8 (λw'=>w'.heap[A.ma]?=vz (DZ A cf)) λw3 hf3 _=>⟨hf3.at_ h2.blk (by simp),?_⟩);have h3:=h2.keep0 hf3
  try simp only[zv]
  refine Aq (v:=vr (vz ⟨A.bn,0,v6⟩)) (λw' hw=>⟨_,_,_,hw,rfl⟩) (Aq (v:=vq vy cf.tax) (λw' hw=>⟨_,_,_,hw,rfl⟩) ⟨HE h3.bnk λw4 hf4 he4=>⟨hf4.at_ h3.blk (by simp),?_⟩,trivial⟩);have h4:=h3.keep0 hf4;have f4:=(f2.trans hf3).trans hf4;have bo:=h.bin.toRR;have q1:=bo.b0;have q2:=bo.b1;have q3:=bo.m1;rw[BN (n:=x.bi-x.bo) (by omega)];refine⟨_,λw' _=>G2 _ _ _ _ _ _,?_⟩
  generalize hcr:min (x.bi-x.bo) cf.tax=cr at *;have c0:0<=cr/\cr<=cf.tax/\cr<=x.bi-x.bo:=by omega
  refine Ac (v:=vq vy cf.tax) h4.blk rfl ?_
  try simp only[AO]
  rw[BN (n:=cf.tax-cr) (by omega)];have e4:Ey w4 y r s:=(e2.fr hf3).fr hf4;have yl4:=(yl2.fr hf3).fr hf4;have rl4:=(rl2.fr hf3).fr hf4;refine A8 (λw'=>w'.heap[A.ma]?=vz (DZ A cf)/\Ey w' y r s) λw5 hf5 _=>⟨⟨hf5.at_ h4.blk (by simp),e4.fr hf5⟩,?_⟩;have h5:=h4.keep0 hf5;have f5:=f4.trans hf5
  refine Aq (v:=vr (vz ⟨A.lg,0,v6⟩)) (λw' hw=>⟨_,_,_,hw.1,rfl⟩) (Aq (v:=vq vy s.t) (λw' hw=>⟨_,_,_,hw.2.y,rfl⟩) (Aq (v:=vq vy s.cost) (λw' hw=>⟨_,_,_,hw.2.y,rfl⟩) ?_));obtain⟨rest,hrest⟩:=xQ (show 0<=cf.tax-cr by omega);have hm:0<=(cf.tax-cr)*s.cost/\(cf.tax-cr)*s.cost<=4096:=by
   constructor
   ·exact n7 (by omega) (by omega)
   ·exact ur (n4 (show cf.tax-cr<=64 by omega) hc.2 (by omega) (by omega)) (by decide)
  try simp only[AT]
  rw[BN (n:=(cf.tax-cr)*s.cost) (by omega),et];rw[et]at hk;refine⟨Il h5.led ht (by omega) hwi.2 h.fine.mo.2 (h.l64 t) λw6 hf6=>?_,trivial⟩;have h6:=h5.keep0 hf6;have f6:=f5.trans hf6;have e6:Ey w6 y r s:=(e4.fr hf5).fr hf6;have yl6:=(yl4.fr hf5).fr hf6;have rl6:=(rl4.fr hf5).fr hf6;refine⟨⟨h6.blk,e6⟩,?_⟩
  have ea:x.admt cf (t:Int) ((cf.tax-cr)*s.cost)=ES cf.window cf.most ((cf.tax-cr)*s.cost) (x.lg t):=by unfold Ma.admt;rw[zE]
  obtain⟨cs6,r6,rs6⟩:=e6.r;cases z:ES cf.window cf.most ((cf.tax-cr)*s.cost) (x.lg t) with
  | false=>
   rw[vn (by rw[ea,z];simp)]at hk;simp only[zv];exact E1 (e:=21) (BU.w f6) h6 rl6 (by omega) r6 rs6 λw' ht' h'=>hk g w' ht' h'
  | true=>
   rw[vm (by rw[ea,z];simp)]at hk;simp only[zv];refine F222.k8.to ?_
   try simp only[zv]
   refine Ac (v:=vr (vz ⟨A.bn,0,v6⟩)) h6.blk rfl (QA cr h6.bnk bo λw7 hf7 hb7=>?_);have ec:Dj cr 0 (x.bi-x.bo)=cr:=by unfold Dj;rw[vm (by omega),vm (by omega)]
   rw[ec]at hb7;have hb7':Mq B x.bi (x.bo+cr) x.bl cf.cap:=⟨⟨q3,by omega,by omega,bo.i0,by have:=bo.o0;omega,bo.l0,bo.i1,bo.l1⟩,h.bin.iB,h.bin.lB⟩;have h7:=h6.setB hf7 hb7 hb7';have t7:BU A cf.threads.toNat g w6 g w7:=BU.b hf7;have e7:=e6.to t7 yl6 rl6;have yl7:=yl6.step t7;have rl7:=rl6.step t7;rw[hrest];rw[hrest]at hk;simp only[zE]at hk;refine Qy h7 (by omega) λg8 w8 ht8 h8=>?_;have e8:=e7.to ht8 yl7 rl7
   have yl8:=yl7.step ht8;have rl8:=rl7.step ht8;have hle:=Kh cf rest x.co;simp only at h8;generalize hce:(x.co.workN cf rest).1=ce at *;generalize hkk:(x.co.workN cf rest).2=k at *;refine A8 (λw'=>w'.heap[A.ma]?=vz (DZ A cf)/\w'.heap[y]?=vz (wj (C5 s).cells 40 (0,0))) λw9 hf9 _=>⟨⟨hf9.at_ h8.blk (by simp),hf9.at_ e8.y (by simp)⟩,?_⟩;have h9:=h8.keep0 hf9
   refine AR (vs:=[vr (vz ⟨A.lg,0,v6⟩),vr (vz ⟨A.bn,0,v6⟩)]) (λw' hw=>BV.prS hw.1) (Aq (v:=vq vy s.t) (λw' hw=>⟨_,_,_,hw.2,rfl⟩) (Aq (v:=vq vy s.cost) (λw' hw=>⟨_,_,_,hw.2,rfl⟩) ?_));have hm2:0<=(k:Int)*s.cost/\(k:Int)*s.cost<=4096:=by
    constructor
    ·exact n7 (by omega) (by omega)
    ·exact ur (n4 (show (k:Int)<=64 by omega) hc.2 (by omega) (by omega)) (by decide)
   try simp only[AT]
   rw[BN (n:=(k:Int)*s.cost) (by omega),et];refine⟨Mt h9 ht λg10 w10 ht10 h10=>?_,trivial⟩;have yl9:=yl8.fr hf9;have rl9:=rl8.fr hf9;have e10:=(e8.fr hf9).to ht10 yl9 rl9;obtain⟨cs10,r10,rs10⟩:=e10.r;refine⟨⟨h10.blk,e10.y⟩,A7 (UF (k:Int) cr) ?_⟩;have tt:BU A cf.threads.toNat g w g10 w10:=((((BU.w f6).trans t7).trans ht8).trans (BU.w hf9)).trans ht10
   exact Ed (a:=⟨0,0,0,(k:Int),cr⟩) tt h10 (rl9.step ht10) (by omega) r10 rs10 λw' ht' h'=>hk _ w' ht' h'
 by_cases p3:x.co.phase=3
 ·simp only[zv,vl,p3,vo,zQ];exact Im (λe=>e.1 p3)
 ·simp only[zv,p3,vo,zR];by_cases p5:x.co.phase=5
  ·simp only[zv,vl,p5,zQ];exact Im (λe=>e.2 p5)
  ·simp only[zv,p5,zR];exact quiet ⟨p3,p5⟩
end
section
variable{K:VK}{w w':wd}{A:Ci}{g:Gw}{cf:Cf}{B:Int}{x:Ma}
def Ku(cf:Cf)(c:Co):(c.beginC cf).1.r.l.length=c.r.l.length:=by
 unfold Co.beginC;split
 ·show (Co.advance cf 4 _).r.l.length=_;rw[KY];rfl
 ·rfl
def O0(cf:Cf)(c:Co)(a:Int):(c.color cf a).r=c.r:=by
 unfold Co.color;split
 ·rfl
 ·split<;>rfl
def WE(cf:Cf)(c:Co)(t n:Int):(c.slow cf t n).1.r=c.r:=by
 unfold Co.slow;split
 ·simp only;split
  ·rw[O0]
  ·rfl
 ·rfl
def Wv(cf:Cf)(c:Co)(t n:Int):(c.fast cf t n).1.r=c.r:=by
 unfold Co.fast;split
 ·split
  ·rfl
  ·rw[O0]
 ·rfl
def Jp{a:BZ}:(Cg a).cells.size=5:=rfl
def VU{s:BY}{t:Nat}(h:BV A g cf B w x)(hB:B<=1000000000000)(et:s.t=(t:Int))(ht:t<cf.threads.toNat)(hc:1<=s.cost/\s.cost<=64)(hk:∀g' w',BU A cf.threads.toNat g w g' w'->BV A g' cf B w' (x.slow cf s).1->K (vu #[vq vy (x.slow cf s).2.1,Cg (x.slow cf s).2.2]) w'):
  I vp 152 #[vr (vz ⟨A.ma,0,v6⟩),C5 s] w K:=by
 refine F152.sh (Ay λy w1 hn1=>Ay λr w2 hn2=>?_);have l1:=hn1.is;have l2:=hn2.is;have s1:=hn1.fr.size;have lr:=BP hn2.at_;have f2:=hn1.fr.trans hn2.fr;have h2:=h.keep0 f2;have e2:Ey w2 y r s:=⟨hn2.fr.at_ hn1.at_ (by simp),_,hn2.at_,rfl⟩;have yl2:Da A cf.threads.toNat g y w2:=h.loc (by omega) (BP e2.y);have rl2:Da A cf.threads.toNat g r w2:=h.loc (by omega) lr;unfold Ma.slow at hk;simp only at hk
 have rest:∀g3 w3 (x3:Ma),BU A cf.threads.toNat g w g3 w3->BV A g3 cf B w3 x3->Ey w3 y r s->Da A cf.threads.toNat g3 y w3->Da A cf.threads.toNat g3 r w3->
   (∀g' w',BU A cf.threads.toNat g w g' w'->BV A g' cf B w' (if (x3.tax cf s).2.code≠0 then ((x3.tax cf s).1,(0:Int),(x3.tax cf s).2) else ({ (x3.tax cf s).1 with co:=((x3.tax cf s).1.co.slow cf s.t s.n).1 },((x3.tax cf s).1.co.slow cf s.t s.n).2.1,{ (x3.tax cf s).2 with code:=((x3.tax cf s).1.co.slow cf s.t s.n).2.2 })).1->
    K (vu #[vq vy (if (x3.tax cf s).2.code≠0 then ((x3.tax cf s).1,(0:Int),(x3.tax cf s).2) else ({ (x3.tax cf s).1 with co:=((x3.tax cf s).1.co.slow cf s.t s.n).1 },((x3.tax cf s).1.co.slow cf s.t s.n).2.1,{ (x3.tax cf s).2 with code:=((x3.tax cf s).1.co.slow cf s.t s.n).2.2 })).2.1,Cg (if (x3.tax cf s).2.code≠0 then ((x3.tax cf s).1,(0:Int),(x3.tax cf s).2) else ({ (x3.tax cf s).1 with co:=((x3.tax cf s).1.co.slow cf s.t s.n).1 },((x3.tax cf s).1.co.slow cf s.t s.n).2.1,{ (x3.tax cf s).2 with code:=((x3.tax cf s).1.co.slow cf s.t s.n).2.2 })).2.2]) w')->
   F152.k3 K (vr (vz ⟨A.ma,0,v6⟩)) (vr (vz ⟨y,0,v6⟩)) (vr (vz ⟨r,0,v6⟩)) w3:=λg3 w3 x3 t3 h3 e3 yl3 rl3 hk=>by
  refine F152.k3.to (A5 e3.y rfl (Xc (s:=s) (t:=t) h3 hB et ht hc λg4 w4 t4 h4=>?_));have e4:=e3.to t4 yl3 rl3;have yl4:=yl3.step t4;have rl4:=rl3.step t4;have tt4:=t3.trans t4;generalize x3.tax cf s=p at *;obtain⟨x4,a4⟩:=p;simp only at hk h4 ⊢;refine Ay λz w5 hn5=>AB (x:=Cg a4) hn5.at_ rfl CU rfl λw6 hu6=>?_;have l5:=hn5.is;have sz4:=tt4.fr.size;have f46:Fr [] w4 w6:=hn5.fr.then hu6.fr (by simp;omega)
  have h6:=h4.keep0 f46;have e6:=e4.fr f46;have yl6:=yl4.fr f46;have rl6:=rl4.fr f46;have z6:=hu6.at_;have zl6:Da A cf.threads.toNat g4 z w6:=h4.loc (by omega) (BP z6);obtain⟨cr6,r6,rs6⟩:=e6.r;have hzr:z≠r:=by have:=rl4.lt;omega
  have hzy:z≠y:=by have:=yl4.lt;omega
  have tt6:=tt4.trans (BU.w f46)
  try simp only[zv]
  refine Ac (v:=vq vy a4.code) z6 rfl ?_;have out:∀(n:Int) (a:BZ) g8 (x8:Ma) w8,BU A cf.threads.toNat g w g8 w8->BV A g8 cf B w8 x8->(∃cs:Array wc,w8.heap[r]?=vz (wj cs 38 (0,0))/\cs.size=5)->w8.heap[z]?=vz (wj (Cg a).cells 38 (0,0))->Da A cf.threads.toNat g8 r w8->
    (∀w',BU A cf.threads.toNat g w g8 w'->BV A g8 cf B w' x8->K (vu #[vq vy n,Cg a]) w')->
    A4 w8 λS w9=>AN S 5 (vr (vz ⟨z,0,v6⟩)) w9 λx9 w10=>(Aj 5 (vr (vz ⟨r,0,v6⟩)) x9 w10 λw11=>(S w11/\Ak 5 (vr (vz ⟨r,0,v6⟩)) w11 λr11 _=>K (vu #[vq vy n,r11]) w11))/\True:=λn a g8 x8 w8 t8 h8 hr8 hz8 rl8 hk=>by
   obtain⟨cs,hr8,hs8⟩:=hr8;refine A8 (λw'=>w'.heap[z]?=vz (wj (Cg a).cells 38 (0,0))) λw9 hf9 _=>⟨hf9.at_ hz8 (by simp),?_⟩
   refine AR (vs:=(Cg a).cells.toList) (λw' hw=>⟨_,_,_,hw,by simp[Jp],rfl⟩) ⟨AB (x:=Cg a) (hf9.at_ hr8 (by simp)) rfl CU hs8 λw10 hu=>⟨hu.fr.at_ (hf9.at_ hz8 (by simp)) (by simpa using hzr),A5 hu.at_ rfl (hk w10 ((t8.trans (BU.w hf9)).then hu.fr (by simp;omega)) ((h8.keep0 hf9).keepL hu.fr (rl8.fr hf9)))⟩,trivial⟩
  by_cases c0:a4.code=0
  ·rw[vm (by simp[c0])]at hk;simp only[zv,vl,c0,vo,zQ];refine F152.k6.to (A8 (λw'=>w'.heap[A.ma]?=vz (DZ A cf)/\w'.heap[y]?=vz (wj (C5 s).cells 40 (0,0))) λw7 hf7 _=>⟨⟨hf7.at_ h6.blk (by simp),hf7.at_ e6.y (by simp)⟩,?_⟩);have h7:=h6.keep0 hf7
   try simp only[zv]
   refine Aq (v:=vr (vz ⟨A.Q.co,0,v6⟩)) (λw' hw=>⟨_,_,_,hw.1,rfl⟩) (Aq (v:=vq vy s.t) (λw' hw=>⟨_,_,_,hw.2,rfl⟩) (Aq (v:=vq vy s.n) (λw' hw=>⟨_,_,_,hw.2,rfl⟩) ⟨VT h7.co λm' w8 ht8 h8=>?_,trivial⟩));have h8':=h7.setC ht8 h8 (by rw[WE]);have mt8:BU A cf.threads.toNat g4 w7 { g4 with m:=m' } w8:=BU.c ht8;have e8:=(e6.fr hf7).to mt8 (yl6.fr hf7) (rl6.fr hf7)
   have z8:=(zl6.fr hf7).at_ mt8 (hf7.at_ z6 (by simp));have zl8:=(zl6.fr hf7).step mt8;have rl8:=(rl6.fr hf7).step mt8;refine⟨⟨h8'.blk,e8.y⟩,?_⟩;generalize x4.co.slow cf s.t s.n=q at *
   try simp only[zv]
   refine AM z8 rfl rfl (by simp[Jp]) λw9 hu9=>?_;have h9:=h8'.keepL hu9.fr zl8;obtain⟨cr8,r8,rs8⟩:=e8.r;have z9:w9.heap[z]?=vz (wj (Cg { a4 with code:=q.2.2 }).cells 38 (0,0)):=hu9.at_;have tt9:BU A cf.threads.toNat g w { g4 with m:=m' } w9:=((tt6.trans (BU.w hf7)).trans mt8).then hu9.fr (by simp;omega)
   exact out q.2.1 { a4 with code:=q.2.2 } _ _ w9 tt9 h9 ⟨cr8,hu9.fr.at_ r8 (by simpa using vk hzr),rs8⟩ z9 (rl8.fr hu9.fr) λw' ht' h'=>hk _ w' ht' h'
  ·rw[vn c0]at hk;simp only[zv,c0,vo,zR];exact out 0 a4 g4 x4 w6 tt6 h6 ⟨cr6,r6,rs6⟩ z6 rl6 λw' ht' h'=>hk _ w' ht' h'
 refine A8 (λw'=>w'.heap[A.ma]?=vz (DZ A cf)) λw3 hf3 _=>⟨hf3.at_ h2.blk (by simp),?_⟩;have h3:=h2.keep0 hf3;have t3:BU A cf.threads.toNat g w g w3:=BU.w (f2.trans hf3)
 try simp only[zv]
 refine Aq (v:=vr (vz ⟨A.Q.co,0,v6⟩)) (λw' hw=>⟨_,_,_,hw,rfl⟩) ⟨JO h3.co ⟨h3.blk,?_⟩,trivial⟩;by_cases p0:x.co.phase=0
 ·simp only[zv,vl,p0];refine Aq (v:=vr (vz ⟨A.Q.co,0,v6⟩)) (λw' hw=>⟨_,_,_,hw,rfl⟩) (Aq (v:=vq vy cf.trigger) (λw' hw=>⟨_,_,_,hw,rfl⟩) ⟨Um h3.co λw4 hf4=>⟨hf4.at_ h3.blk (by simp),?_⟩,trivial⟩);have h4:=h3.keep0 hf4;by_cases z:D4 x.co.s.c.ks<cf.trigger
  ·simp only[zv,z];rw[vn (show x.co.phase=0/\D4 x.co.s.c.ks<cf.trigger from⟨p0,z⟩)]at hk;refine Ac (v:=vr (vz ⟨A.Q.co,0,v6⟩)) h4.blk rfl (NR h4.co λm' w5 ht5 h5=>?_);have h5':=h4.setC ht5 h5 (Ku _ _);have mt5:BU A cf.threads.toNat g w4 { g with m:=m' } w5:=BU.c ht5
   exact rest _ w5 _ ((t3.trans (BU.w hf4)).trans mt5) h5' (((e2.fr hf3).fr hf4).to mt5 ((yl2.fr hf3).fr hf4) ((rl2.fr hf3).fr hf4)) (((yl2.fr hf3).fr hf4).step mt5) (((rl2.fr hf3).fr hf4).step mt5) hk
  ·simp only[zv,z];rw[vm (show ¬(x.co.phase=0/\D4 x.co.s.c.ks<cf.trigger) from λe=>z e.2)]at hk;exact rest g w4 x (t3.trans (BU.w hf4)) h4 ((e2.fr hf3).fr hf4) ((yl2.fr hf3).fr hf4) ((rl2.fr hf3).fr hf4) hk
 ·simp only[zv,p0];rw[vm (show ¬(x.co.phase=0/\D4 x.co.s.c.ks<cf.trigger) from λe=>p0 e.1)]at hk;exact⟨⟨h3.blk,rest g w3 x t3 h3 (e2.fr hf3) (yl2.fr hf3) (rl2.fr hf3) hk⟩,trivial⟩
end
section
variable{K:VK}{w w':wd}{A:Ci}{g:Gw}{cf:Cf}{B:Int}{x:Ma}
def TA{w0:wd}{g0:Gw}{s:BY}{y r z:Nat}{a:Int}{b:BZ}(t0:BU A cf.threads.toNat g0 w0 g w)(h:BV A g cf B w x)(he:Ey w y r s)(hz:w.heap[z]?=vz (wj (Cg b).cells 38 (0,0)))(yl:Da A cf.threads.toNat g y w)(rl:Da A cf.threads.toNat g r w)(zl:Da A cf.threads.toNat g z w)(hzr:z≠r)(hzy:z≠y)(r0:w0.heap.size<=r)(z0:w0.heap.size<=z)(hk:∀g' w',BU A cf.threads.toNat g0 w0 g' w'->BV A g' cf B w' (x.got s a b).1->K (Cg (x.got s a b).2) w'):
  F100.k12 K (vr (vz ⟨A.ma,0,v6⟩)) (vr (vz ⟨y,0,v6⟩)) (vr (vz ⟨r,0,v6⟩)) (vq vy a) (vr (vz ⟨z,0,v6⟩)) w:=by
 unfold Ma.got at hk;simp only at hk;have sz0:=t0.fr.size;refine F100.k12.to (J5 λw1 hf1=>?_);have h1:=h.keep0 hf1;generalize Et a=v at *;refine Ay λu w2 hn2=>AB (x:=V v.1 v.2) hn2.at_ rfl Cb rfl λw3 hu3=>?_;have l2:=hn2.is;have s1:=hf1.size;have f3:Fr [] w w3:=(hf1.trans hn2.fr).then hu3.fr (by simp;omega);have h3:=h.keep0 f3;have e3:=he.fr f3;have z3:=f3.at_ hz (by simp);have u3:=hu3.at_
 have ul3:Da A cf.threads.toNat g u w3:=h.loc (by omega) (BP u3);have yl3:=yl.fr f3;have rl3:=rl.fr f3;have zl3:=zl.fr f3;refine A8 (λw'=>w'.heap[A.ma]?=vz (DZ A cf)/\w'.heap[y]?=vz (wj (C5 s).cells 40 (0,0))/\w'.heap[u]?=vz (wj #[vq vy v.1,vq vy v.2] 60 (0,0))) λw4 hf4 _=>⟨⟨hf4.at_ h3.blk (by simp),hf4.at_ e3.y (by simp),hf4.at_ u3 (by simp)⟩,?_⟩;have h4:=h3.keep0 hf4
 try simp only[zv]
 refine Aq (v:=vr (vz ⟨A.Q.co,0,v6⟩)) (λw' hw=>⟨_,_,_,hw.1,rfl⟩) (Aq (v:=vq vy s.t) (λw' hw=>⟨_,_,_,hw.2.1,rfl⟩) (AR (vs:=[vq vy v.1,vq vy v.2]) (λw' hw=>⟨_,_,_,hw.2.2,by simp,rfl⟩) ⟨Qg (v:=v) h4.co λm' w5 ht5 h5=>?_,trivial⟩));have h5':=h4.setC ht5 h5 (by rw[R2]);have mt5:BU A cf.threads.toNat g w4 { g with m:=m' } w5:=BU.c ht5;have e5:=(e3.fr hf4).to mt5 (yl3.fr hf4) (rl3.fr hf4)
 have u5:=(ul3.fr hf4).at_ mt5 (hf4.at_ u3 (by simp));have z5:=(zl3.fr hf4).at_ mt5 (hf4.at_ z3 (by simp));have rl5:=(rl3.fr hf4).step mt5;have zl5:=(zl3.fr hf4).step mt5;have t5:BU A cf.threads.toNat g0 w0 { g with m:=m' } w5:=(t0.trans (BU.w (f3.trans hf4))).trans mt5;refine⟨⟨h5'.blk,e5.y,u5⟩,A5 u5 rfl (Kr (v:=v) h5' λw6 hf6=>?_)⟩;generalize hx5:({ x with co:=(x.co.push s.t v).1 }:Ma)=x5 at *
 generalize x5.told v=q at *;refine Ay λp w7 hn7=>AB (x:=Cg ⟨0,q.1,q.2,0,0⟩) hn7.at_ rfl CU rfl λw8 hu8=>?_;have l7:=hn7.is;have s6:=hf6.size;have f58:Fr [] w5 w8:=(hf6.trans hn7.fr).then hu8.fr (by simp;omega);have h8:=h5'.keep0 f58;have p8:=hu8.at_;have z8:=f58.at_ z5 (by simp);have hpz:p≠z:=by have:=zl5.lt;omega
 have rl8:=rl5.fr f58;have zl8:=zl5.fr f58;obtain⟨cr,r5,rs5⟩:=e5.r;have r8:=f58.at_ r5 (by simp);have t8:=t5.trans (BU.w f58);refine A8 (λw'=>w'.heap[p]?=vz (wj (Cg ⟨0,q.1,q.2,0,0⟩).cells 38 (0,0))) λw9 hf9 _=>⟨hf9.at_ p8 (by simp),?_⟩;have h9:=h8.keep0 hf9;have z9:=hf9.at_ z8 (by simp)
 try simp only[zv]
 refine Aq (v:=vq vy q.1) (λw' hw=>⟨_,_,_,hw,rfl⟩) ?_;refine Aq (v:=vq vy q.2) (λw' hw=>⟨_,_,_,hw,rfl⟩) ?_;refine⟨AM z9 rfl rfl (by simp[Jp]) λw10 hu10=>⟨hu10.fr.at_ (hf9.at_ p8 (by simp)) (by simpa using hpz),?_⟩,trivial⟩;have z10:w10.heap[z]?=vz (wj (Cg { b with kd:=q.1 }).cells 38 (0,0)):=hu10.at_;have h10:=h9.keepL hu10.fr (zl8.fr hf9)
 refine⟨AM z10 rfl rfl (by simp[Jp]) λw11 hu11=>⟨hu11.fr.at_ (hu10.fr.at_ (hf9.at_ p8 (by simp)) (by simpa using hpz)) (by simpa using hpz),?_⟩,trivial⟩;have z11:w11.heap[z]?=vz (wj (Cg { b with kd:=q.1,n:=q.2 }).cells 38 (0,0)):=hu11.at_;have h11:=h10.keepL hu11.fr ((zl8.fr hf9).fr hu10.fr);have r11:=hu11.fr.at_ (hu10.fr.at_ (hf9.at_ r8 (by simp)) (by simpa using vk hzr)) (by simpa using vk hzr)
 have t11:BU A cf.threads.toNat g0 w0 { g with m:=m' } w11:=((t8.trans (BU.w hf9)).then hu10.fr (by simpa using z0)).then hu11.fr (by simpa using z0);exact A5 z11 rfl (Ed (a:={ b with kd:=q.1,n:=q.2 }) t11 h11 (((rl8.fr hf9).fr hu10.fr).fr hu11.fr) r0 r11 rs5 λw' ht' h'=>hk _ w' ht' h')
def TP{s:BY}{t:Nat}(h:BV A g cf B w x)(hB:B<=1000000000000)(et:s.t=(t:Int))(ht:t<cf.threads.toNat)(hk:∀g' w',BU A cf.threads.toNat g w g' w'->BV A g' cf B w' (x.alloc cf s).1->K (Cg (x.alloc cf s).2) w'):
  I vp 100 #[vr (vz ⟨A.ma,0,v6⟩),C5 s] w K:=by
 have hq:=h.fine.qu;refine F100.sh (Ay λy w1 hn1=>Ay λr w2 hn2=>?_);have l1:=hn1.is;have l2:=hn2.is;have s1:=hn1.fr.size;have lr:=BP hn2.at_;have f2:=hn1.fr.trans hn2.fr;have h2:=h.keep0 f2;have e2:Ey w2 y r s:=⟨hn2.fr.at_ hn1.at_ (by simp),_,hn2.at_,rfl⟩;have yl2:Da A cf.threads.toNat g y w2:=h.loc (by omega) (BP e2.y);have rl2:Da A cf.threads.toNat g r w2:=h.loc (by omega) lr;unfold Ma.alloc at hk
 have err:∀(e:Int) w3,Fr [] w2 w3->(∀w',BU A cf.threads.toNat g w g w'->BV A g cf B w' x->K (Cg (BZ.err e)) w')->I vp 54 #[vq vy e] w3 λx1 w1=>Aj 5 (vr (vz ⟨r,0,v6⟩)) x1 w1 λw2=>Ak 5 (vr (vz ⟨r,0,v6⟩)) w2 λr _=>K r w2:=λe w3 hf3 hk=>E1 (e:=e) (BU.w (f2.trans hf3)) (h2.keep0 hf3) (rl2.fr hf3) (by omega) (hf3.at_ hn2.at_ (by simp)) rfl hk
 try simp only[zv]
 refine Ac (v:=vq vy s.n) e2.y rfl (H1 ?_);by_cases o1:s.n<0∨127<s.n
 ·rw[vn (show s.n<0∨127<s.n∨s.cost<1∨cf.quantum<s.cost by omega)]at hk;rw[o8 o1]
  try simp only[Ai]
  exact err 4 w2 (Fr.refl _ _) λw' ht' h'=>hk g w' ht' h'
 rw[m8 o1]
 try simp only[Ae]
 refine A8 (λw'=>w'.heap[A.ma]?=vz (DZ A cf)/\w'.heap[y]?=vz (wj (C5 s).cells 40 (0,0))) λw3 hf3 _=>⟨⟨hf3.at_ h2.blk (by simp),hf3.at_ e2.y (by simp)⟩,?_⟩;have h3:=h2.keep0 hf3;refine Aq (v:=vq vy s.cost) (λw' hw=>⟨_,_,_,hw.2,rfl⟩) (Aq (v:=vq vy cf.quantum) (λw' hw=>⟨_,_,_,hw.1,rfl⟩) ⟨H1 ⟨⟨h3.blk,hf3.at_ e2.y (by simp)⟩,?_⟩,trivial⟩);by_cases o2:s.cost<1∨cf.quantum<s.cost
 ·rw[vn (show s.n<0∨127<s.n∨s.cost<1∨cf.quantum<s.cost by omega)]at hk;rw[o8 o2]
  try simp only[Ai]
  exact err 4 w3 hf3 λw' ht' h'=>hk g w' ht' h'
 rw[vm (show ¬(s.n<0∨127<s.n∨s.cost<1∨cf.quantum<s.cost) by omega)]at hk;rw[m8 o2]
 try simp only[Ae]
 refine A8 (λw'=>w'.heap[A.ma]?=vz (DZ A cf)/\w'.heap[y]?=vz (wj (C5 s).cells 40 (0,0))) λw4 hf4 _=>⟨⟨hf4.at_ h3.blk (by simp),hf4.at_ (hf3.at_ e2.y (by simp)) (by simp)⟩,?_⟩;have h4:=h3.keep0 hf4;have f24:=hf3.trans hf4
 refine Aq (v:=vr (vz ⟨A.Q.co,0,v6⟩)) (λw' hw=>⟨_,_,_,hw.1,rfl⟩) (Aq (v:=vq vy s.t) (λw' hw=>⟨_,_,_,hw.2,rfl⟩) ⟨GY h4.co λrv w5 hf5 hr5 hn5=>⟨⟨hf5.at_ h4.blk (by simp),hf5.at_ (f24.at_ e2.y (by simp)) (by simp)⟩,AK hr5.rd ?_⟩,trivial⟩);rw[Cr];have f25:=f24.trans hf5;have h5:=h2.keep0 f25;by_cases o3:(x.co.roots s.t).length=16
 ·rw[vn o3]at hk;simp only[zv,vl,show ((x.co.roots s.t).length:Int)=16 by omega];exact err 3 w5 f25 λw' ht' h'=>hk g w' ht' h'
 rw[vm o3]at hk;simp only[zv,show ¬((x.co.roots s.t).length:Int)=16 by omega];have e5:=e2.fr f25;have yl5:=yl2.fr f25;have rl5:=rl2.fr f25;refine F100.k6.to (A8 (λw'=>w'.heap[A.ma]?=vz (DZ A cf)/\w'.heap[y]?=vz (wj (C5 s).cells 40 (0,0))) λw6 hf6 _=>⟨⟨hf6.at_ h5.blk (by simp),hf6.at_ e5.y (by simp)⟩,?_⟩);have h6:=h5.keep0 hf6;have f6:=(f2.trans f25).trans hf6
 try simp only[zv]
 refine Aq (v:=vr (vz ⟨A.Q.co,0,v6⟩)) (λw' hw=>⟨_,_,_,hw.1,rfl⟩) (Aq (v:=vq vy s.t) (λw' hw=>⟨_,_,_,hw.2,rfl⟩) (Aq (v:=vq vy s.n) (λw' hw=>⟨_,_,_,hw.2,rfl⟩) ⟨Vu h6.co λm' w7 ht7 h7=>?_,trivial⟩));have h7':=h6.setC ht7 h7 (by rw[Wv]);have mt7:BU A cf.threads.toNat g w6 { g with m:=m' } w7:=BU.c ht7;have e7:=(e5.fr hf6).to mt7 (yl5.fr hf6) (rl5.fr hf6);have yl7:=(yl5.fr hf6).step mt7
 have rl7:=(rl5.fr hf6).step mt7;have t7:BU A cf.threads.toNat g w { g with m:=m' } w7:=(BU.w f6).trans mt7;have sz7:=t7.fr.size;refine⟨⟨h7'.blk,e7.y⟩,?_⟩;cases ef:(x.co.fast cf s.t s.n).2 with
 | some a=>
  have e0:x.co.fast cf s.t s.n=((x.co.fast cf s.t s.n).1,vz a):=by rw[<-ef]
  rw[e0]at hk;simp only at hk
  try simp only[zv]
  refine Ay λz w8 hn8=>?_;have l8:=hn8.is;have h8:=h7'.keep0 hn8.fr;have e8:=e7.fr hn8.fr;have z8:w8.heap[z]?=vz (wj (Cg BZ.ok).cells 38 (0,0)):=hn8.at_;refine F100.k10.to ?_
  try simp only[zv]
  refine Ac (v:=vq vy 0) z8 rfl ?_;simp only[zv,vl,vo,zQ];exact TA (t7.trans (BU.w hn8.fr)) h8 e8 z8 (yl7.fr hn8.fr) (rl7.fr hn8.fr) (h7'.loc (by omega) (BP z8)) (by have:=rl7.lt;omega) (by have:=yl7.lt;omega) (by omega) (by omega) hk
 | none=>
  have e0:x.co.fast cf s.t s.n=(x.co,v6):=by
   unfold Co.fast at ef ⊢;split at ef
   ·rename_i hl;rw[vn hl];split at ef
    ·rename_i e1;rfl
    ·simp at ef
   ·rename_i hl;rw[vm hl]
  rw[e0]at hk h7';simp only at hk h7'
  try simp only[zv]
  refine Ay λz w8 hn8=>?_;have l8:=hn8.is;have h8:=h7'.keep0 hn8.fr;have e8:=e7.fr hn8.fr;have zl8:Da A cf.threads.toNat { g with m:=m' } z w8:=h7'.loc (by omega) (BP hn8.at_);refine A5 e8.y rfl (VU (s:=s) (t:=t) h8 hB et ht (by omega) λg9 w9 t9 h9=>?_);have e9:=e8.to t9 (yl7.fr hn8.fr) (rl7.fr hn8.fr);have z9:=zl8.at_ t9 hn8.at_;have zl9:=zl8.step t9;have yl9:=(yl7.fr hn8.fr).step t9
  have rl9:=(rl7.fr hn8.fr).step t9;have tt9:=(t7.trans (BU.w hn8.fr)).trans t9;have eta:({ x with co:=x.co }:Ma)=x:=rfl;rw[eta]at h9 ⊢;generalize x.slow cf s=p at *;obtain⟨x9,a9,b9⟩:=p;simp only at hk h9 ⊢
  try simp only[zv]
  refine AB (x:=Cg b9) z9 rfl CU rfl λw10 hu10=>?_;have h10:=h9.keepL hu10.fr zl9;have z10:=hu10.at_;have hzr:z≠r:=by have:=rl7.lt;omega
  have hzy:z≠y:=by have:=yl7.lt;omega
  obtain⟨cr,r9,rs9⟩:=e9.r;have r10:=hu10.fr.at_ r9 (by simpa using vk hzr);have e10:Ey w10 y r s:=⟨hu10.fr.at_ e9.y (by simpa using vk hzy),cr,r10,rs9⟩;have t10:=tt9.then hu10.fr (by simp;omega);refine F100.k10.to ?_
  try simp only[zv]
  refine Ac (v:=vq vy b9.code) z10 rfl ?_;by_cases c:b9.code=0
  ·rw[vm (by simp[c])]at hk;simp only[zv,vl,c,vo,zQ];exact TA t10 h10 e10 z10 (yl9.fr hu10.fr) (rl9.fr hu10.fr) (zl9.fr hu10.fr) hzr hzy (by omega) (by omega) hk
  ·rw[vn c]at hk;simp only[zv,c,vo,zR];exact A5 z10 rfl (Ed (a:=b9) t10 h10 (rl9.fr hu10.fr) (by omega) r10 rs9 λw' ht' h'=>hk _ w' ht' h')
end
section
variable{K:VK}{w w':wd}{A:Ci}{g:Gw}{cf:Cf}{B:Int}{x:Ma}
def Pk(x:Ma)(cf:Cf)(n:Nat):(x.ahead cf n).2=⟨0,0,0,((x.co.workN cf n).2:Int),0⟩:=by unfold Ma.ahead;simp
def So{s:BY}(h:BV A g cf B w x)(hB:B<=1000000000000)(hth:s.kd=16∨s.kd=17∨∃t:Nat,s.t=(t:Int)/\t<cf.threads.toNat)(hk:∀g' w',BU A cf.threads.toNat g w g' w'->BV A g' cf (B+64) w' (x.spend cf s).1->K (Cg (x.spend cf s).2) w'):
  I vp 106 #[vr (vz ⟨A.ma,0,v6⟩),C5 s] w K:=by
 have hq:=h.fine.qu;have hwi:=h.fine.wi;have up:∀ {g':Gw} {w':wd} {x':Ma},BV A g' cf B w' x'->BV A g' cf (B+64) w' x':=λh=>h.mono (by omega);refine F106.sh (Ay λy w1 hn1=>Ay λr w2 hn2=>?_);have l1:=hn1.is;have l2:=hn2.is;have s1:=hn1.fr.size;have lr:=BP hn2.at_;have f2:=hn1.fr.trans hn2.fr;have h2:=h.keep0 f2;have e2:Ey w2 y r s:=⟨hn2.fr.at_ hn1.at_ (by simp),_,hn2.at_,rfl⟩
 have yl2:Da A cf.threads.toNat g y w2:=h.loc (by omega) (BP e2.y);have rl2:Da A cf.threads.toNat g r w2:=h.loc (by omega) lr;unfold Ma.spend at hk
 have err:∀(e:Int) w3,Fr [] w2 w3->(∀g' w',BU A cf.threads.toNat g w g' w'->BV A g' cf (B+64) w' x->K (Cg (BZ.err e)) w')->I vp 54 #[vq vy e] w3 λx1 w1=>Aj 5 (vr (vz ⟨r,0,v6⟩)) x1 w1 λw2=>Ak 5 (vr (vz ⟨r,0,v6⟩)) w2 λr _=>K r w2:=λe w3 hf3 hk=>E1 (e:=e) (BU.w (f2.trans hf3)) (h2.keep0 hf3) (rl2.fr hf3) (by omega) (hf3.at_ hn2.at_ (by simp)) rfl λw' ht' h'=>hk g w' ht' (up h')
 have okEnd:∀g3 w3 (x3:Ma),BU A cf.threads.toNat g w g3 w3->BV A g3 cf (B+64) w3 x3->Ey w3 y r s->Da A cf.threads.toNat g3 r w3->(∀g' w',BU A cf.threads.toNat g w g' w'->BV A g' cf (B+64) w' x3->K (Cg BZ.ok) w')->F106.k17 K (vr (vz ⟨r,0,v6⟩)) w3:=λg3 w3 x3 t3 h3 e3 rl3 hk=>by
  obtain⟨cr,r3,rs3⟩:=e3.r;exact F106.k17.to (A7 Jq (Ed (a:=BZ.ok) t3 h3 rl3 (by omega) r3 rs3 λw' ht' h'=>hk _ w' ht' h'))
 try simp only[zv]
 refine Ac (v:=vq vy s.kd) e2.y rfl ?_;by_cases k17:s.kd=17
 ·rw[vn k17]at hk;simp only[zv,vl,k17];refine Ac (v:=vr (vz ⟨A.Q.co,0,v6⟩)) h2.blk rfl (NR h2.co λm' w3 ht3 h3=>?_);have h3':=h2.setC ht3 h3 (Ku _ _);have mt3:BU A cf.threads.toNat g w2 { g with m:=m' } w3:=BU.c ht3;have e3:=e2.to mt3 yl2 rl2;have rl3:=rl2.step mt3;have t3:=(BU.w f2).trans mt3;cases eb:(x.co.beginC cf).2 with
  | true=>
   rw[vn eb]at hk
   try simp only[zv]
   exact okEnd _ w3 _ t3 (up h3') e3 rl3 λg' w' ht' h'=>hk g' w' ht' h'
  | false=>
   rw[vm (by simp[eb])]at hk;have e0:(x.co.beginC cf).1=x.co:=by
    unfold Co.beginC at eb ⊢;split at eb
    ·simp at eb
    ·rename_i hh;rw[vm hh]
   rw[e0]at h3'
   try simp only[zv]
   obtain⟨cr,r3,rs3⟩:=e3.r;exact E1 (e:=9) t3 h3' rl3 (by omega) r3 rs3 λw' ht' h'=>hk _ w' ht' (up h')
 rw[vm k17]at hk;simp only[zv,k17];refine Ac (v:=vq vy s.n) e2.y rfl (H1 ?_);by_cases o1:s.n<1∨64<s.n
 ·rw[vn o1]at hk;rw[o8 o1]
  try simp only[Ai]
  exact err 4 w2 (Fr.refl _ _) hk
 rw[vm o1]at hk;rw[m8 o1]
 try simp only[Ae]
 obtain⟨n,hn⟩:=xQ (show 0<=s.n by omega);refine Ac (v:=vq vy s.kd) e2.y rfl ?_;by_cases k13:s.kd=13
 ·rw[vn k13]at hk;simp only[zv,vl,k13];obtain⟨t,et,ht⟩:∃t:Nat,s.t=(t:Int)/\t<cf.threads.toNat:=by
   rcases hth with e|e|e
   ·rw[k13]at e;exact absurd e (by decide)
   ·exact absurd e k17
   ·exact e
  refine A8 (λw'=>w'.heap[A.ma]?=vz (DZ A cf)/\w'.heap[y]?=vz (wj (C5 s).cells 40 (0,0))) λw3 hf3 _=>⟨⟨hf3.at_ h2.blk (by simp),hf3.at_ e2.y (by simp)⟩,?_⟩;have h3:=h2.keep0 hf3;refine AR (vs:=[vr (vz ⟨A.lg,0,v6⟩),vr (vz ⟨A.bn,0,v6⟩)]) (λw' hw=>BV.prS hw.1) (Aq (v:=vq vy s.t) (λw' hw=>⟨_,_,_,hw.2,rfl⟩) (Aq (v:=vq vy s.n) (λw' hw=>⟨_,_,_,hw.2,rfl⟩) ?_));rw[et]at hk ⊢
  refine⟨TD h3 ht (by omega) (by omega) λg4 w4 t4 h4=>?_,trivial⟩;have e4:=(e2.fr hf3).to t4 (yl2.fr hf3) (rl2.fr hf3);exact⟨⟨h4.blk,e4.y⟩,okEnd g4 w4 _ ((BU.w (f2.trans hf3)).trans t4) (up h4) e4 ((rl2.fr hf3).step t4) hk⟩
 rw[vm k13]at hk;simp only[zv,k13];refine Ac (v:=vq vy s.kd) e2.y rfl ?_;by_cases k16:s.kd=16
 ·rw[vn k16]at hk;simp only[zv,vl,k16];refine Ac (v:=vq vy s.n) e2.y rfl ?_;rw[hn]at hk ⊢;refine NP h2 hB (by omega) λg4 w4 t4 h4=>?_;have e4:=e2.to t4 yl2 rl2;obtain⟨cr,r4,rs4⟩:=e4.r;exact Ed ((BU.w f2).trans t4) h4 (rl2.step t4) (by omega) r4 rs4 λw' ht' h'=>hk _ w' ht' h'
 rw[vm k16]at hk;simp only[zv,k16];obtain⟨t,et,ht⟩:∃t:Nat,s.t=(t:Int)/\t<cf.threads.toNat:=by
  rcases hth with e|e|e
  ·exact absurd e k16
  ·exact absurd e k17
  ·exact e
 refine A8 (λw'=>w'.heap[A.ma]?=vz (DZ A cf)/\w'.heap[y]?=vz (wj (C5 s).cells 40 (0,0))) λw3 hf3 _=>⟨⟨hf3.at_ h2.blk (by simp),hf3.at_ e2.y (by simp)⟩,?_⟩;have h3:=h2.keep0 hf3;refine Aq (v:=vq vy s.cost) (λw' hw=>⟨_,_,_,hw.2,rfl⟩) (Aq (v:=vq vy cf.quantum) (λw' hw=>⟨_,_,_,hw.1,rfl⟩) ⟨H1 ⟨⟨h3.blk,hf3.at_ e2.y (by simp)⟩,?_⟩,trivial⟩);by_cases o2:s.cost<1∨cf.quantum<s.cost
 ·rw[vn o2]at hk;rw[o8 o2]
  try simp only[Ai]
  exact err 4 w3 hf3 hk
 rw[vm o2]at hk;rw[m8 o2]
 try simp only[Ae]
 refine A8 (λw'=>w'.heap[A.ma]?=vz (DZ A cf)/\Ey w' y r s) λw4 hf4 _=>⟨⟨hf4.at_ h3.blk (by simp),(e2.fr hf3).fr hf4⟩,?_⟩;have h4:=h3.keep0 hf4;have f24:=hf3.trans hf4;have hm:0<=s.n*s.cost/\s.n*s.cost<=4096:=by
  constructor
  ·exact n7 (by omega) (by omega)
  ·exact ur (n4 (show s.n<=64 by omega) (show s.cost<=64 by omega) (by omega) (by omega)) (by decide)
 refine Aq (v:=vr (vz ⟨A.lg,0,v6⟩)) (λw' hw=>⟨_,_,_,hw.1,rfl⟩) (Aq (v:=vq vy s.t) (λw' hw=>⟨_,_,_,hw.2.y,rfl⟩) (Aq (v:=vq vy s.n) (λw' hw=>⟨_,_,_,hw.2.y,rfl⟩) (Aq (v:=vq vy s.cost) (λw' hw=>⟨_,_,_,hw.2.y,rfl⟩) ?_)))
 try simp only[AT]
 rw[BN (n:=s.n*s.cost) (by omega),et];rw[et]at hk;refine⟨Il h4.led ht (by omega) hwi.2 h.fine.mo.2 (h.l64 t) λw5 hf5=>?_,trivial⟩;have h5:=h4.keep0 hf5;have f25:=f24.trans hf5;have e5:=e2.fr f25;have ea:x.admt cf (t:Int) (s.n*s.cost)=ES cf.window cf.most (s.n*s.cost) (x.lg t):=by unfold Ma.admt;rw[zE]
 refine⟨⟨h5.blk,e5⟩,?_⟩;cases z:ES cf.window cf.most (s.n*s.cost) (x.lg t) with
 | false=>
  rw[vn (by rw[ea,z];simp)]at hk
  try simp only[zv]
  exact err 21 w5 f25 hk
 | true=>
  rw[vm (by rw[ea,z];simp)]at hk;simp only at hk
  try simp only[zv]
  refine Ac (v:=vq vy s.n) e5.y rfl ?_;rw[hn]at hk ⊢;have hdone:=Pk x cf n;have hle:=Kh cf n x.co;refine NP h5 hB (by omega) λg6 w6 t6 h6=>?_;have e6:=e5.to t6 (yl2.fr f25) (rl2.fr f25);have yl6:=(yl2.fr f25).step t6;have rl6:=(rl2.fr f25).step t6;generalize hkk:(x.co.workN cf n).2=k at *;generalize x.ahead cf (n:Int)=p at *;obtain⟨x6,a6⟩:=p;simp only at hdone hk h6 ⊢;subst hdone;simp only at hk
  have tt6:=(BU.w (f2.trans f25)).trans t6;have sz6:=tt6.fr.size;refine Ay λz w7 hn7=>AB (x:=Cg ⟨0,0,0,(k:Int),0⟩) hn7.at_ rfl CU rfl λw8 hu8=>?_;have l7:=hn7.is;have f68:Fr [] w6 w8:=hn7.fr.then hu8.fr (by simp;omega);have h8:=h6.keep0 f68;have e8:=e6.fr f68;have z8:=hu8.at_;have zl8:Da A cf.threads.toNat g6 z w8:=h6.loc (by omega) (BP z8)
  refine A8 (λw'=>w'.heap[A.ma]?=vz (DZ A cf)/\w'.heap[y]?=vz (wj (C5 s).cells 40 (0,0))/\w'.heap[z]?=vz (wj (Cg ⟨0,0,0,(k:Int),0⟩).cells 38 (0,0))) λw9 hf9 _=>⟨⟨hf9.at_ h8.blk (by simp),hf9.at_ e8.y (by simp),hf9.at_ z8 (by simp)⟩,?_⟩;have h9:=h8.keep0 hf9;have hm2:0<=(k:Int)*s.cost/\(k:Int)*s.cost<=4096:=by
   constructor
   ·exact n7 (by omega) (by omega)
   ·exact ur (n4 (show (k:Int)<=64 by omega) (show s.cost<=64 by omega) (by omega) (by omega)) (by decide)
  try simp only[zv]
  refine AR (vs:=[vr (vz ⟨A.lg,0,v6⟩),vr (vz ⟨A.bn,0,v6⟩)]) (λw' hw=>BV.prS hw.1) (Aq (v:=vq vy s.t) (λw' hw=>⟨_,_,_,hw.2.1,rfl⟩) (Aq (v:=vq vy (k:Int)) (λw' hw=>⟨_,_,_,hw.2.2,rfl⟩) (Aq (v:=vq vy s.cost) (λw' hw=>⟨_,_,_,hw.2.1,rfl⟩) ?_)))
  try simp only[AT]
  rw[BN (n:=(k:Int)*s.cost) (by omega),et];refine⟨Mt h9 ht λg10 w10 t10 h10=>?_,trivial⟩;have e10:=(e8.fr hf9).to t10 ((yl6.fr f68).fr hf9) ((rl6.fr f68).fr hf9);have z10:=(zl8.fr hf9).at_ t10 (hf9.at_ z8 (by simp));obtain⟨cr,r10,rs10⟩:=e10.r
  refine⟨⟨h10.blk,e10.y,z10⟩,A5 z10 rfl (Ed (a:=⟨0,0,0,(k:Int),0⟩) ((tt6.trans (BU.w (f68.trans hf9))).trans t10) h10 (((rl6.fr f68).fr hf9).step t10) (by omega) r10 rs10 λw' ht' h'=>hk _ w' ht' h')⟩
def Xd{s:BY}(h:BV A g cf B w x)(hk:∀w',Fr [] w w'->K (vq vy (x.who cf s)) w'):I vp 56 #[vr (vz ⟨A.ma,0,v6⟩),C5 s] w K:=by
 refine F56.sh (Ay λy w1 hn1=>?_);have h1:=h.keep0 hn1.fr;have y1:=hn1.at_;unfold Ma.who at hk
 try simp only[zv]
 refine Ac (v:=vq vy s.kd) y1 rfl ?_;by_cases k16:16<=s.kd
 ·rw[vn k16]at hk;simp only[zv,show s.kd≥16 from k16];exact hk w1 hn1.fr
 rw[vm k16]at hk;simp only[zv,show ¬s.kd≥16 from k16];have S0:∀w',Fr [] w1 w'->w'.heap[A.ma]?=vz (DZ A cf)/\w'.heap[y]?=vz (wj (C5 s).cells 40 (0,0)):=λw' hf=>⟨hf.at_ h1.blk (by simp),hf.at_ y1 (by simp)⟩;refine A8 (λw'=>w'.heap[A.ma]?=vz (DZ A cf)/\w'.heap[y]?=vz (wj (C5 s).cells 40 (0,0))) λw2 hf2 _=>⟨S0 w2 hf2,?_⟩
 refine Aq (v:=vq vy s.t) (λw' hw=>⟨_,_,_,hw.2,rfl⟩) (Aq (v:=vq vy cf.threads) (λw' hw=>⟨_,_,_,hw.1,rfl⟩) ?_);by_cases o:cf.threads<=s.t
 ·rw[vn o]at hk;simp only[zv,show s.t≥cf.threads from o];exact hk w2 (hn1.fr.trans hf2)
 rw[vm o]at hk;simp only[zv,show ¬s.t≥cf.threads from o];refine A8 (λw'=>w'.heap[A.ma]?=vz (DZ A cf)/\w'.heap[y]?=vz (wj (C5 s).cells 40 (0,0))) λw3 hf3 _=>⟨S0 w3 (hf2.trans hf3),?_⟩;have f3:=hf2.trans hf3;have h3:=h1.keep0 f3;have S3:=S0 w3 f3;refine Aq (v:=vq vy s.kd) (λw' hw=>⟨_,_,_,hw.2,rfl⟩) ?_
 have second:¬(s.kd=1/\x.co.r.live s.t=v7)->A4 w3 λS w25=>Ab 0 (vr (vz ⟨y,0,v6⟩)) w25 λx32 w26=>Al S x32 w26 λx33 w27=>U .neq x33 (vq vy 1) w27 λx34 w28=>Aa v7 x34 (λK=>K (vr (vz ⟨A.ma,0,v6⟩)) w28) w28 λx36 w29=>Aa v7 x34 (Ag x36 w29) w29 λx37 w30=>Aa v7 x34 (Ab 12 x37 w30) w30 λx38 w31=>Aa v7 x34 (Ab 1 (vr (vz ⟨y,0,v6⟩)) w31) w31 λx40 w32=>Aa v7 x34 (Al S x38 w32) w32 λx39 w33=>Aa v7 x34 (Al S x40 w33) w33 λx41 w34=>(Aa v7 x34 (λK=>I vp 53 #[x39,x41] w34 K) w34 λx42 w35=>(S w35/\Aa v7 x34 (AE x42 w35) w35 λx43 w36=>Ar (vz x34) (vz x43) (vz (vw v8)) w36 λx44 w37=>Af x44 (K (vq vy 14) w37) (F56.k9 K w37)))/\True:=λhno=>by
  rw[vm hno]at hk;refine A8 (λw'=>w'.heap[A.ma]?=vz (DZ A cf)/\w'.heap[y]?=vz (wj (C5 s).cells 40 (0,0))) λw4 hf4 _=>⟨S0 w4 (f3.trans hf4),?_⟩;have f4:=f3.trans hf4;have h4:=h1.keep0 f4
  try simp only[zv]
  refine Aq (v:=vq vy s.kd) (λw' hw=>⟨_,_,_,hw.2,rfl⟩) ?_;by_cases k1:s.kd=1
  ·rw[vm (λe=>e.1 k1)]at hk;simp only[zv,vl,k1,vo,zQ];exact⟨⟨S0 w4 f4,F56.k9.to (hk w4 (hn1.fr.trans f4))⟩,trivial⟩
  ·simp only[zv,k1,vo,zR];refine Aq (v:=vr (vz ⟨A.Q.co,0,v6⟩)) (λw' hw=>⟨_,_,_,hw.1,rfl⟩) (Aq (v:=vq vy s.t) (λw' hw=>⟨_,_,_,hw.2,rfl⟩) ⟨Fp h4.co ⟨S0 w4 f4,?_⟩,trivial⟩);cases el:x.co.r.live s.t with
   | true=>
    rw[vm (λe=>e.2 el)]at hk
    try simp only[zv]
    exact F56.k9.to (hk w4 (hn1.fr.trans f4))
   | false=>
    rw[vn ⟨k1,by simp[el]⟩]at hk
    try simp only[zv]
    exact hk w4 (hn1.fr.trans f4)
 by_cases k1:s.kd=1
 ·simp only[zv,vl,k1];refine Aq (v:=vr (vz ⟨A.Q.co,0,v6⟩)) (λw' hw=>⟨_,_,_,hw.1,rfl⟩) (Aq (v:=vq vy s.t) (λw' hw=>⟨_,_,_,hw.2,rfl⟩) ⟨Fp h3.co ⟨S3,?_⟩,trivial⟩);cases el:x.co.r.live s.t with
  | true=>
   rw[vn ⟨k1,el⟩]at hk
   try simp only[Ai]
   exact hk w3 (hn1.fr.trans f3)
  | false=>
   try simp only[Ae]
   have:=second (λe=>by simp[el]at e)
   try simp only[zv]at this
   exact this
 ·simp only[zv,k1];have:=second (λe=>k1 e.1)
  try simp only[zv]at this
  exact⟨⟨S3,this⟩,trivial⟩
end
def mks:List Int:=[0,1,1,49,33,1,1,3,1,7,15,11,3,33,1,49,32,0]
def FY(s:BY):wc:=vx #[vq vy s.t,vq vy s.i,vq vy s.f,vq vy s.j,vq vy s.cost]
section
variable{K:VK}{w:wd}
def Ww(s:BY){i:Nat}(hi:i<5):(Instr.index 158 (FY s) (vq vy (i:Int))).run vp w=.ok (vq vy (s.small.getD i 0)) w:=by
 have:i=0∨i=1∨i=2∨i=3∨i=4:=by omega
 rcases this with h|h|h|h|h<;>subst h
 ·show (Instr.index 158 (FY s) (vq vy 0)).run vp w=.ok (vq vy s.t) w;kernel_rfl
 ·show (Instr.index 158 (FY s) (vq vy 1)).run vp w=.ok (vq vy s.i) w;kernel_rfl
 ·show (Instr.index 158 (FY s) (vq vy 2)).run vp w=.ok (vq vy s.f) w;kernel_rfl
 ·show (Instr.index 158 (FY s) (vq vy 3)).run vp w=.ok (vq vy s.j) w;kernel_rfl
 ·show (Instr.index 158 (FY s) (vq vy 4)).run vp w=.ok (vq vy s.cost) w;kernel_rfl
def JX{k:Int}(h1:1<=k)(h2:k<=17):k=1∨k=2∨k=3∨k=4∨k=5∨k=6∨k=7∨k=8∨k=9∨k=10∨k=11∨k=12∨k=13∨k=14∨k=15∨k=16∨k=17:=by omega
def Xm{k:Int}(h1:1<=k)(h2:k<=17):(Instr.index 213 (vx #[vq vy 0,vq vy 1,vq vy 1,vq vy 49,vq vy 33,vq vy 1,vq vy 1,vq vy 3,vq vy 1,vq vy 7,vq vy 15,vq vy 11,vq vy 3,vq vy 33,vq vy 1,vq vy 49,vq vy 32,vq vy 0]) (vq vy k)).run vp w=.ok (vq vy (mks.getD k.toNat 0)) w:=by rcases JX h1 h2 with h|h|h|h|h|h|h|h|h|h|h|h|h|h|h|h|h<;>subst h<;>kernel_rfl
def PP{k:Int}(h1:1<=k)(h2:k<=17)(h:K (vq vy (mks.getD k.toNat 0)) w):I vp 96 #[vq vy k] w K:=by refine F96.sh (A7 (w':=w) (v:=vx #[vq vy 0,vq vy 1,vq vy 1,vq vy 49,vq vy 33,vq vy 1,vq vy 1,vq vy 3,vq vy 1,vq vy 7,vq vy 15,vq vy 11,vq vy 3,vq vy 33,vq vy 1,vq vy 49,vq vy 32,vq vy 0]) (by kernel_rfl) (A7 (Xm h1 h2) h))
def XH{k:Int}(h1:1<=k)(h2:k<=17){i:Nat}(hi:i<5)(x y x' y':Operand):∃a b:Int,(∀w,(do eqGuard .shr 3 x y (vq vy (mks.getD k.toNat 0)) (vq vy (i:Int));binOp .shr 3 (vq vy (mks.getD k.toNat 0)) (vq vy (i:Int)):Sem wc).run vp w=.ok (vq vy a) w)/\
  (∀w,(do eqGuard .and 3 x' y' (vq vy a) (vq vy 1);binOp .and 3 (vq vy a) (vq vy 1):Sem wc).run vp w=.ok (vq vy b) w)/\(b=0↔(Cn k).getD i v8=v8):=by
 have sh:∀(m:Int) (j:Nat),j<5->∀w,(do eqGuard .shr 3 x y (vq vy m) (vq vy (j:Int));binOp .shr 3 (vq vy m) (vq vy (j:Int)):Sem wc).run vp w=.ok (vq vy (m / 2 ^ j)) w:=λm j hj w=>by
  simp only[u1,Cz,zN];show (Op.shift .shr vy m vy j).run vp w=_;have a1:¬((j:Int)<0):=by omega
  have a2:min (j:Int).toNat 64=j:=by omega
  simp[]
 refine⟨_,_,sh _ i hi,λw=>M7 _ _ _,?_⟩;rcases JX h1 h2 with h|h|h|h|h|h|h|h|h|h|h|h|h|h|h|h|h<;>subst h<;>(match i,hi with
  | 0,_=>decide
  | 1,_=>decide
  | 2,_=>decide
  | 3,_=>decide
  | 4,_=>decide)
def Oq{s:BY}(h:∀w',Fr [] w w'->K (FY s) w'):I vp 97 #[C5 s] w K:=by
 refine F97.sh (Ay λy w1 hn1=>Ay λr w2 hn2=>?_);have l1:=hn1.is;have l2:=hn2.is;have s1:=hn1.fr.size;have y2:=hn2.fr.at_ hn1.at_ (by simp)
 try simp only[zv]
 refine Ac (v:=vq vy s.t) y2 rfl ?_;refine Ac (v:=vq vy s.i) y2 rfl ?_;refine Ac (v:=vq vy s.f) y2 rfl ?_;refine Ac (v:=vq vy s.j) y2 rfl ?_;refine Ac (v:=vq vy s.cost) y2 rfl (A7 (w':=w2) (v:=FY s) (by kernel_rfl) ?_);refine AB (x:=FY s) hn2.at_ rfl (by simp[FY,wc.cells,wc.oneCell']) rfl λw3 hu=>A5 hu.at_ rfl (h w3 ((hn1.fr.trans hn2.fr).then hu.fr (by simp;omega)))
def Jg(s:BY):s.small.length=5:=rfl
def Sk{s:BY}{y:Nat}{m:wc}(h1:s.small.any (λn=>decide (n<0) || decide (255<n))=v7->K (vq vy 4) w)(h2:s.small.any (λn=>decide (n<0) || decide (255<n))=v8->F55.k10 K (vr (vz ⟨y,0,v6⟩)) m w):
  ∀(d i:Nat),i+d=5->(s.small.take i).any (λn=>decide (n<0) || decide (255<n))=v8->F55.l5 K (vr (vz ⟨y,0,v6⟩)) m (FY s) (vq vy (i:Int)) w:=by
 intro d;induction d with
 | zero=>
  intro i hi hz;have e:i=5:=by omega
  subst e;refine F55.l5.to ?_;simp only[zv,show ¬(((5:Nat):Int)<5) by omega];exact h2 (by simpa[xX (show s.small.length<=5 from va _)] using hz)
 | succ d ih=>
  intro i hi hz;have hlt:i<s.small.length:=by rw[Jg];omega
  have e1:s.small.take (i+1)=s.small.take i++[s.small[i]]:=by rw[zL,xO hlt];rfl
  have eg:s.small.getD i 0=s.small[i]:=by simp[List.getD,hlt]
  refine F55.l5.to ?_;simp only[zv,show (i:Int)<5 by omega];refine F55.k6.to (A7 (Ww s (by omega)) ?_);rw[eg];have bad:(s.small[i]<0∨255<s.small[i])->K (vq vy 4) w:=λhb=>h1 (List.any_eq_true.2 ⟨_,zW hlt,by simpa using hb⟩);by_cases c1:s.small[i]<0
  ·simp only[zv,c1];exact bad (wg c1)
  ·by_cases c2:s.small[i]>255
   ·simp only[zv,c1,c2];exact bad (wh c2)
   ·simp only[zv,c1,c2];refine F55.k9.to ?_
    try simp only[AC]
    rw[BN (n:=(i:Int)+1) (by omega)];refine ih (i+1) (by omega) ?_;rw[e1,List.any_append,hz];simp;omega
def RX{s:BY}{y:Nat}(hk1:1<=s.kd)(hk2:s.kd<=17)(h1:(s.small.zip (Cn s.kd)).any (λy=>decide (y.1≠0) && !y.2)=v7->K (vq vy 16) w)(h2:(s.small.zip (Cn s.kd)).any (λy=>decide (y.1≠0) && !y.2)=v8->F55.k16 K (vr (vz ⟨y,0,v6⟩)) (vq vy (mks.getD s.kd.toNat 0)) w):
  ∀(d i:Nat),i+d=5->((s.small.zip (Cn s.kd)).take i).any (λy=>decide (y.1≠0) && !y.2)=v8->F55.l11 K (vr (vz ⟨y,0,v6⟩)) (vq vy (mks.getD s.kd.toNat 0)) (FY s) (vq vy (i:Int)) w:=by
 have kl:(Cn s.kd).length=6:=by
  unfold Cn
  repeat' split
  all_goals rfl
 have zl:(s.small.zip (Cn s.kd)).length=5:=by rw[List.length_zip,Jg,kl];rfl
 intro d;induction d with
 | zero=>
  intro i hi hz;have e:i=5:=by omega
  subst e;refine F55.l11.to ?_;simp only[zv,show ¬(((5:Nat):Int)<5) by omega];exact h2 (by rw[xX (by omega)]at hz;exact hz)
 | succ d ih=>
  intro i hi hz;have hlt:i<s.small.length:=by rw[Jg];omega
  have hlk:i<(Cn s.kd).length:=by omega
  have hlz:i<(s.small.zip (Cn s.kd)).length:=by omega
  have ez:(s.small.zip (Cn s.kd))[i]=(s.small[i],(Cn s.kd)[i]):=by simp
  have e1:(s.small.zip (Cn s.kd)).take (i+1)=(s.small.zip (Cn s.kd)).take i++[(s.small[i],(Cn s.kd)[i])]:=by rw[zL,xO hlz,ez];rfl
  have eg:s.small.getD i 0=s.small[i]:=by simp[List.getD,hlt]
  have ek:(Cn s.kd).getD i v8=(Cn s.kd)[i]:=by simp[List.getD,hlk]
  refine F55.l11.to ?_;simp only[zv,show (i:Int)<5 by omega];refine F55.k12.to (A7 (Ww s (by omega)) ?_);rw[eg];have next:(decide (s.small[i]≠0) && !(Cn s.kd)[i])=v8->F55.k15 K (vr (vz ⟨y,0,v6⟩)) (vq vy (mks.getD s.kd.toNat 0)) (FY s) (vq vy (i:Int)) w:=λhb=>by
   refine F55.k15.to ?_
   try simp only[AC]
   rw[BN (n:=(i:Int)+1) (by omega)];refine ih (i+1) (by omega) ?_;rw[e1,List.any_append,hz];simpa using hb
  by_cases c1:s.small[i]=0
  ·simp only[zv,vl,c1,vo,zQ];exact next (by simp[c1])
  ·simp only[zv,c1,vo,zR];obtain⟨a,b,q1,q2,q3⟩:=XH hk1 hk2 (i:=i) (by omega) (.tmp 40) (.tmp 41) (.tmp 42) (.const (vq vy 1));refine⟨_,q1 w,?_⟩;refine⟨_,q2 w,?_⟩
   try simp only[Ap]
   rw[ek]at q3;by_cases c2:b=0
   ·simp only[zv,vl,c2];exact h1 (List.any_eq_true.2 ⟨_,zW hlz,by rw[ez];simp[c1,q3.1 c2]⟩)
   ·simp only[zv,c2];refine next ?_
    cases hh:(Cn s.kd)[i] with
    | true=>simp
    | false=>exact absurd (q3.2 hh) c2
def Xh{k:Int}(h1:1<=k)(h2:k<=17)(x y:Operand):∃b:Int,(∀w,(do eqGuard .and 3 x y (vq vy (mks.getD k.toNat 0)) (vq vy 32);binOp .and 3 (vq vy (mks.getD k.toNat 0)) (vq vy 32):Sem wc).run vp w=.ok (vq vy b) w)/\(b=0↔(Cn k).getD 5 v8=v8):=by
 have go:∀(m b:Int),(Op.intBits .and vy m 32:Sem wc)=pure (vq vy b)->∀w,(do eqGuard .and 3 x y (vq vy m) (vq vy 32);binOp .and 3 (vq vy m) (vq vy 32):Sem wc).run vp w=.ok (vq vy b) w:=λm b hb w=>by
  simp only[u1,Cz,zN];show (Op.intBits .and vy m 32).run vp w=_;rw[hb];rfl
 rcases JX h1 h2 with h|h|h|h|h|h|h|h|h|h|h|h|h|h|h|h|h<;>subst h<;>first|exact⟨32,go _ _ (by rfl),by decide⟩|exact⟨0,go _ _ (by rfl),by decide⟩
def TS{s:BY}(hk:∀w',Fr [] w w'->K (vq vy s.check) w'):I vp 55 #[C5 s] w K:=by
 refine F55.sh (Ay λy w1 hn1=>?_);have l1:=hn1.is;have y1:=hn1.at_;unfold BY.check at hk
 try simp only[zv]
 refine Ac (v:=vq vy s.kd) y1 rfl ?_;by_cases c1:s.kd<1
 ·simp only[zv,c1];rw[vn (wg c1)]at hk;exact hk w1 hn1.fr
 simp only[zv,c1];refine Ac (v:=vq vy s.kd) y1 rfl ?_;by_cases c2:s.kd>17
 ·simp only[zv,c2];rw[vn (wh c2)]at hk;exact hk w1 hn1.fr
 simp only[zv,c2];rw[vm (show ¬(s.kd<1∨17<s.kd) by omega)]at hk;have k1:1<=s.kd:=by omega
 have k2:s.kd<=17:=by omega
 refine F55.k3.to ?_
 try simp only[zv]
 refine Ac (v:=vq vy s.kd) y1 rfl (PP k1 k2 (A5 y1 rfl (Oq (s:=s) λw2 hf2=>?_)));have f2:=hn1.fr.trans hf2;have y2:=hf2.at_ y1 (by simp);refine Sk (s:=s) (λhb=>?_) (λhb=>?_) 5 0 (by omega) (by simp)
 ·rw[vn hb]at hk;exact hk w2 f2
 rw[vm (by rw[hb];simp)]at hk;refine F55.k10.to (A5 y2 rfl (Oq (s:=s) λw3 hf3=>?_));have f3:=f2.trans hf3;have y3:=hf3.at_ y2 (by simp);refine RX (s:=s) k1 k2 (λhc=>?_) (λhc=>?_) 5 0 (by omega) (by simp)
 ·rw[vn hc]at hk;exact hk w3 f3
 rw[vm (by rw[hc];simp)]at hk;refine F55.k16.to ?_
 try simp only[zv]
 refine Ac (v:=vq vy s.n) y3 rfl ?_;by_cases c3:s.n=0
 ·rw[vm (λe=>e.1 c3)]at hk;simp only[zv,vl,c3,vo,zQ];exact F55.k18.to (hk w3 f3)
 ·simp only[zv,c3,vo,zR];obtain⟨b,q1,q2⟩:=Xh k1 k2 (.tmp 51) (.const (vq vy 32));refine⟨_,q1 w3,?_⟩
  try simp only[Ap]
  by_cases c4:b=0
  ·rw[vn ⟨c3,q2.1 c4⟩]at hk;simp only[zv,vl,c4];exact hk w3 f3
  ·rw[vm (λe=>c4 (q2.2 e.2))]at hk;simp only[zv,c4];exact F55.k18.to (hk w3 f3)
end
section
variable{K:VK}{w w':wd}{A:Ci}{g:Gw}{cf:Cf}{B:Int}{x:Ma}
def Pm(c:Co)(t:Int):(c.attach t).r.l.length=c.r.l.length:=by unfold Co.attach Rg.attach;split<;>simp
def Pt(cf:Cf)(c:Co)(t:Int):(c.detach cf t).r.l.length=c.r.l.length:=by
 unfold Co.detach;split
 ·show (Co.advance cf 4 _).r.l.length=_;rw[KY];unfold Rg.detach;split<;>simp
 ·rfl
def Tl(cf:Cf)(c:Co)(t:Int):(c.poll cf t).r.l.length=c.r.l.length:=by
 have cl:(c.r.confirm t).1.l.length=c.r.l.length:=by unfold Rg.confirm;split<;>simp
 unfold Co.poll;split
 ·show (Co.advance cf 4 _).r.l.length=_;rw[KY];simp only;split
  ·exact cl
  ·split
   ·exact cl
   ·exact cl
 ·rfl
def Xs(c:Co)(t:Int):(c.pop t).1.r=c.r:=by
 unfold Co.pop;split
 ·split<;>rfl
 ·rfl
def XA{s:BY}(h:BV A g cf B w x)(hB:B<=1000000000000)(hi:0<=s.i)(hj:0<=s.j)(hth:s.kd=16∨s.kd=17∨∃t:Nat,s.t=(t:Int)/\t<cf.threads.toNat)(hk:∀g' w',BU A cf.threads.toNat g w g' w'->BV A g' cf (B+64) w' (x.doS cf s).1->K (Cg (x.doS cf s).2) w'):
  I vp 57 #[vr (vz ⟨A.ma,0,v6⟩),C5 s] w K:=by
 have up:∀ {g':Gw} {w':wd} {x':Ma},BV A g' cf B w' x'->BV A g' cf (B+64) w' x':=λh=>h.mono (by omega);refine F57.sh (Ay λy w1 hn1=>Ay λr w2 hn2=>?_);have l1:=hn1.is;have l2:=hn2.is;have s1:=hn1.fr.size;have lr:=BP hn2.at_;have f2:=hn1.fr.trans hn2.fr;have h2:=h.keep0 f2;have e2:Ey w2 y r s:=⟨hn2.fr.at_ hn1.at_ (by simp),_,hn2.at_,rfl⟩;have yl2:Da A cf.threads.toNat g y w2:=h.loc (by omega) (BP e2.y)
 have rl2:Da A cf.threads.toNat g r w2:=h.loc (by omega) lr;have S2:∀w',Fr [] w2 w'->w'.heap[A.ma]?=vz (DZ A cf)/\w'.heap[y]?=vz (wj (C5 s).cells 40 (0,0)):=λw' hf=>⟨hf.at_ h2.blk (by simp),hf.at_ e2.y (by simp)⟩;unfold Ma.doS at hk
 have put:∀(a:BZ) g3 w3 (x3:Ma),BU A cf.threads.toNat g w2 g3 w3->BV A g3 cf (B+64) w3 x3->(∀g' w',BU A cf.threads.toNat g w g' w'->BV A g' cf (B+64) w' x3->K (Cg a) w')->Aj 5 (vr (vz ⟨r,0,v6⟩)) (Cg a) w3 λw4=>Ak 5 (vr (vz ⟨r,0,v6⟩)) w4 λr _=>K r w4:=λa g3 w3 x3 t3 h3 hk=>by
  have e3:=e2.to t3 yl2 rl2;obtain⟨cr,r3,rs3⟩:=e3.r;exact Ed (a:=a) ((BU.w f2).trans t3) h3 (rl2.step t3) (by omega) r3 rs3 λw' ht' h'=>hk _ w' ht' h'
 have okEnd:∀g3 w3 (x3:Ma),BU A cf.threads.toNat g w2 g3 w3->BV A g3 cf (B+64) w3 x3->(∀g' w',BU A cf.threads.toNat g w g' w'->BV A g' cf (B+64) w' x3->K (Cg BZ.ok) w')->F57.k27 K (vr (vz ⟨r,0,v6⟩)) w3:=λg3 w3 x3 t3 h3 hk=>F57.k27.to (A7 Jq (put BZ.ok g3 w3 x3 t3 h3 hk));have th:s.kd≠16->s.kd≠17->∃t:Nat,s.t=(t:Int)/\t<cf.threads.toNat:=λa b=>by
  rcases hth with e|e|e
  ·exact absurd e a
  ·exact absurd e b
  ·exact e
 try simp only[zv]
 refine Ac (v:=vq vy s.kd) e2.y rfl ?_;by_cases k1:s.kd=1
 ·rw[vn k1]at hk;simp only[zv,vl,k1];refine A8 (λw'=>w'.heap[A.ma]?=vz (DZ A cf)/\w'.heap[y]?=vz (wj (C5 s).cells 40 (0,0))) λw3 hf3 _=>⟨S2 w3 hf3,?_⟩;have h3:=h2.keep0 hf3;refine Aq (v:=vr (vz ⟨A.Q.co,0,v6⟩)) (λw' hw=>⟨_,_,_,hw.1,rfl⟩) (Aq (v:=vq vy s.t) (λw' hw=>⟨_,_,_,hw.2,rfl⟩) ⟨RP h3.co λw4 ht4 h4=>?_,trivial⟩);have h4':=h3.setC ht4 h4 (Pm _ _)
  have t4:BU A cf.threads.toNat g w3 _ w4:=BU.c ht4;exact⟨⟨h4'.blk,(yl2.fr hf3).at_ t4 (S2 w3 hf3).2⟩,okEnd _ w4 _ ((BU.w hf3).trans t4) (up h4') hk⟩
 rw[vm k1]at hk;simp only[zv,k1];by_cases k2:s.kd=2
 ·rw[vn k2]at hk;simp only[zv,vl,k2];refine A8 (λw'=>w'.heap[A.ma]?=vz (DZ A cf)/\w'.heap[y]?=vz (wj (C5 s).cells 40 (0,0))) λw3 hf3 _=>⟨S2 w3 hf3,?_⟩;have h3:=h2.keep0 hf3;refine Aq (v:=vr (vz ⟨A.Q.co,0,v6⟩)) (λw' hw=>⟨_,_,_,hw.1,rfl⟩) (Aq (v:=vq vy s.t) (λw' hw=>⟨_,_,_,hw.2,rfl⟩) ⟨RU h3.co λm' w4 ht4 h4=>?_,trivial⟩);have h4':=h3.setC ht4 h4 (Pt _ _ _)
  have t4:BU A cf.threads.toNat g w3 { g with m:=m' } w4:=BU.c ht4;exact⟨⟨h4'.blk,(yl2.fr hf3).at_ t4 (S2 w3 hf3).2⟩,okEnd _ w4 _ ((BU.w hf3).trans t4) (up h4') hk⟩
 rw[vm k2]at hk;simp only[zv,k2];by_cases k3:s.kd=3
 ·rw[vn k3]at hk;simp only[zv,vl,k3];obtain⟨t,et,ht⟩:=th (by omega) (by omega);exact A5 e2.y rfl (TP (s:=s) (t:=t) h2 hB et ht λg3 w3 t3 h3=>put _ g3 w3 _ t3 (up h3) hk)
 rw[vm k3]at hk;simp only[zv,k3];have psh:(s.kd=4∨s.kd=5∨s.kd=6∨s.kd=7∨s.kd=9)->Ak 7 (vr (vz ⟨y,0,v6⟩)) w2 λx42 w27=>I vp 101 #[vr (vz ⟨A.ma,0,v6⟩),x42] w27 λx43 w28=>Aj 5 (vr (vz ⟨r,0,v6⟩)) x43 w28 λw29=>Ak 5 (vr (vz ⟨r,0,v6⟩)) w29 λr30 _=>K r30 w29:=λhp=>by
  rw[vn hp]at hk;exact A5 e2.y rfl (Un (s:=s) h2 hi λg3 w3 t3 h3=>put _ g3 w3 _ t3 (up h3) hk)
 by_cases k4:s.kd=4
 ·simp only[zv,vl,k4];exact psh (by omega)
 simp only[zv,k4];by_cases k5:s.kd=5
 ·simp only[zv,vl,k5];exact psh (by omega)
 simp only[zv,k5];by_cases k6:s.kd=6
 ·simp only[zv,vl,k6];exact psh (by omega)
 simp only[zv,k6];by_cases k7:s.kd=7
 ·simp only[zv,vl,k7];exact psh (by omega)
 simp only[zv,k7];by_cases k9:s.kd=9
 ·simp only[zv,vl,k9];exact psh (by omega)
 rw[vm (by omega)]at hk;simp only[zv,k9];by_cases k8:s.kd=8
 ·rw[vn k8]at hk;simp only[zv,vl,k8];refine A8 (λw'=>w'.heap[A.ma]?=vz (DZ A cf)/\w'.heap[y]?=vz (wj (C5 s).cells 40 (0,0))) λw3 hf3 _=>⟨S2 w3 hf3,?_⟩;have h3:=h2.keep0 hf3;have e3:=e2.fr hf3;have yl3:=yl2.fr hf3;have rl3:=rl2.fr hf3;have fin:∀(b:Bool) (v:V2) z g4 w4 (x4:Ma),BU A cf.threads.toNat g w3 g4 w4->BV A g4 cf B w4 x4->w4.heap[z]?=vz (wj (V v.1 v.2).cells 60 (0,0))->
    (b=v8->∀g' w',BU A cf.threads.toNat g w g' w'->BV A g' cf (B+64) w' x4->K (Cg (BZ.err 4)) w')->(b=v7->∀g' w',BU A cf.threads.toNat g w g' w'->BV A g' cf (B+64) w' x4->K (Cg ⟨0,(x4.told v).1,(x4.told v).2,0,0⟩) w')->
    F57.k17 K (vr (vz ⟨A.ma,0,v6⟩)) (vr (vz ⟨r,0,v6⟩)) (vr (vz ⟨z,0,v6⟩)) (vw b) w4:=λb v z g4 w4 x4 t4 h4 hz hk0 hk1=>by
   have e4:=e3.to t4 yl3 rl3;obtain⟨cr,r4,rs4⟩:=e4.r;refine F57.k17.to ?_;cases b with
   | false=>
    simp only[zv];exact E1 (e:=4) (((BU.w f2).trans (BU.w hf3)).trans t4) h4 (rl3.step t4) (by omega) r4 rs4 λw' ht' h'=>hk0 rfl _ w' ht' (up h')
   | true=>
    simp only[zv];refine F57.k19.to (A5 hz rfl (Kr (v:=v) h4 λw5 hf5=>?_));exact put _ g4 w5 x4 (((BU.w hf3).trans t4).trans (BU.w hf5)) (up (h4.keep0 hf5)) (hk1 rfl)
  have okr:∀(c':Co) (o:Option V2),x.co.pop s.t=(c',o)->c'.r.l.length=x.co.r.l.length:=λc' o e=>by have:=Xs x.co s.t;rw[e]at this;simp only at this;rw[this]
  refine Aq (v:=vr (vz ⟨A.Q.co,0,v6⟩)) (λw' hw=>⟨_,_,_,hw.1,rfl⟩) (Aq (v:=vq vy s.t) (λw' hw=>⟨_,_,_,hw.2,rfl⟩) ⟨TE h3.co λm' w4 ht4 h4=>?_,Ay λz w4 hn4=>?_,trivial⟩)
  ·have h4':=h3.setC ht4 h4 (okr _ _ rfl);have t4:BU A cf.threads.toNat g w3 { g with m:=m' } w4:=BU.c ht4;have y4:=yl3.at_ t4 e3.y;refine⟨⟨h4'.blk,y4⟩,?_⟩;cases ep:x.co.pop s.t with
   | mk c' o=>
    rw[ep]at hk h4';cases o with
    | none=>
     have e0:c'=x.co:=by
      unfold Co.pop at ep;split at ep
      ·split at ep
       ·simp at ep
       ·simp only[uq]at ep;exact ep.1.symm
      ·simp only[uq]at ep;exact ep.1.symm
     subst e0;simp only at hk
     try simp only[zv]
     refine⟨Ay λz w5 hn5=>⟨⟨hn5.fr.at_ h4'.blk (by simp),hn5.fr.at_ y4 (by simp)⟩,AB (x:=V 0 0) hn5.at_ rfl Cb rfl λw6 hu6=>?_,trivial⟩,trivial⟩;have l5:=hn5.is;have f46:Fr [] w4 w6:=hn5.fr.then hu6.fr (by simp;omega);have h6:=h4'.keep0 f46;exact⟨⟨h6.blk,f46.at_ y4 (by simp)⟩,fin v8 (0,0) z _ w6 _ (t4.trans (BU.w f46)) h6 hu6.at_ (λ_=>hk) (λe=>by cases e)⟩
    | some v=>
     simp only at hk
     try simp only[zv]
     refine⟨Ay λz w5 hn5=>⟨⟨hn5.fr.at_ h4'.blk (by simp),hn5.fr.at_ y4 (by simp)⟩,AB (x:=V v.1 v.2) hn5.at_ rfl Cb rfl λw6 hu6=>?_,trivial⟩,trivial⟩;have l5:=hn5.is;have f46:Fr [] w4 w6:=hn5.fr.then hu6.fr (by simp;omega);have h6:=h4'.keep0 f46;exact⟨⟨h6.blk,f46.at_ y4 (by simp)⟩,fin v7 v z _ w6 _ (t4.trans (BU.w f46)) h6 hu6.at_ (λe=>by cases e) (λ_=>hk)⟩
  ·have l4:=hn4.is;have s3:=hf3.size;have s2:=f2.size;have h4:=h3.keep0 hn4.fr;have y4:=hn4.fr.at_ e3.y (by simp);have zl4:Da A cf.threads.toNat g z w4:=h3.loc (by omega) (BP hn4.at_);refine⟨⟨h4.blk,y4⟩,TE h4.co λm' w5 ht5 h5=>?_,trivial⟩;have h5':=h4.setC ht5 h5 (okr _ _ rfl);have t5:BU A cf.threads.toNat g w4 { g with m:=m' } w5:=BU.c ht5;have y5:=(yl3.fr hn4.fr).at_ t5 y4;have z5:=zl4.at_ t5 hn4.at_
   have zl5:=zl4.step t5;have hzy:z≠y:=by have:=yl3.lt;omega
   have hza:z≠A.ma:=by have:=BP h3.blk;omega
   refine⟨⟨h5'.blk,y5⟩,?_⟩;cases ep:x.co.pop s.t with
   | mk c' o=>
    rw[ep]at hk h5';cases o with
    | none=>
     have e0:c'=x.co:=by
      unfold Co.pop at ep;split at ep
      ·split at ep
       ·simp at ep
       ·simp only[uq]at ep;exact ep.1.symm
      ·simp only[uq]at ep;exact ep.1.symm
     subst e0;simp only at hk
     try simp only[zv]
     refine⟨AB (x:=V 0 0) z5 rfl Cb rfl λw6 hu6=>?_,trivial⟩;have h6:=h5'.keepL hu6.fr zl5;exact⟨⟨h6.blk,hu6.fr.at_ y5 (by simpa using vk hzy)⟩,fin v8 (0,0) z _ w6 _ (((BU.w hn4.fr).trans t5).then hu6.fr (by simp;omega)) h6 hu6.at_ (λ_=>hk) (λe=>by cases e)⟩
    | some v=>
     simp only at hk
     try simp only[zv]
     refine⟨AB (x:=V v.1 v.2) z5 rfl Cb rfl λw6 hu6=>?_,trivial⟩;have h6:=h5'.keepL hu6.fr zl5;exact⟨⟨h6.blk,hu6.fr.at_ y5 (by simpa using vk hzy)⟩,fin v7 v z _ w6 _ (((BU.w hn4.fr).trans t5).then hu6.fr (by simp;omega)) h6 hu6.at_ (λe=>by cases e) (λ_=>hk)⟩
 rw[vm k8]at hk;simp only[zv,k8];by_cases k10:s.kd=10
 ·rw[vn k10]at hk;simp only[zv,vl,k10];exact A5 e2.y rfl (Sq (s:=s) h2 hi hj λg3 w3 t3 h3=>put _ g3 w3 _ t3 (up h3) hk)
 rw[vm k10]at hk;simp only[zv,k10];have asks:(s.kd=11∨s.kd=12)->Ak 7 (vr (vz ⟨y,0,v6⟩)) w2 λx42 w27=>I vp 104 #[vr (vz ⟨A.ma,0,v6⟩),x42] w27 λx43 w28=>Aj 5 (vr (vz ⟨r,0,v6⟩)) x43 w28 λw29=>Ak 5 (vr (vz ⟨r,0,v6⟩)) w29 λr30 _=>K r30 w29:=λhp=>by
  rw[vn hp]at hk;exact A5 e2.y rfl (WK (s:=s) h2 hp hi hj λw3 t3 h3=>put _ g w3 _ t3 (up h3) hk)
 by_cases k11:s.kd=11
 ·simp only[zv,vl,k11];exact asks (wg k11)
 simp only[zv,k11];by_cases k12:s.kd=12
 ·simp only[zv,vl,k12];exact asks (wh k12)
 rw[vm (λe=>e.elim k11 k12)]at hk;simp only[zv,k12];by_cases k14:s.kd=14
 ·rw[vn k14]at hk;simp only[zv,vl,k14];refine A8 (λw'=>w'.heap[A.ma]?=vz (DZ A cf)/\w'.heap[y]?=vz (wj (C5 s).cells 40 (0,0))) λw3 hf3 _=>⟨S2 w3 hf3,?_⟩;have h3:=h2.keep0 hf3;refine Aq (v:=vr (vz ⟨A.Q.co,0,v6⟩)) (λw' hw=>⟨_,_,_,hw.1,rfl⟩) (Aq (v:=vq vy s.t) (λw' hw=>⟨_,_,_,hw.2,rfl⟩) ⟨V5 h3.co λb m' w4 ht4 h4=>?_,trivial⟩);have h4':=h3.setC ht4 h4 (Tl _ _ _)
  have t4:BU A cf.threads.toNat g w3 { g with m:=m' } w4:=BU.c ht4;exact⟨⟨h4'.blk,(yl2.fr hf3).at_ t4 (S2 w3 hf3).2⟩,okEnd _ w4 _ ((BU.w hf3).trans t4) (up h4') hk⟩
 rw[vm k14]at hk;simp only[zv,k14];exact A5 e2.y rfl (So (s:=s) h2 hB hth λg3 w3 t3 h3=>put _ g3 w3 _ t3 h3 hk)
def Qv{s:BY}(h:BV A g cf B w x)(hB:B<=1000000000000)(hk:∀g' w',BU A cf.threads.toNat g w g' w'->BV A g' cf (B+64) w' (x.step cf s).1->K (Cg (x.step cf s).2) w'):
  I vp 20 #[vr (vz ⟨A.ma,0,v6⟩),C5 s] w K:=by
 have up:∀ {g':Gw} {w':wd} {x':Ma},BV A g' cf B w' x'->BV A g' cf (B+64) w' x':=λh=>h.mono (by omega);refine F20.sh (Ay λy w1 hn1=>Ay λr w2 hn2=>?_);have l1:=hn1.is;have l2:=hn2.is;have s1:=hn1.fr.size;have lr:=BP hn2.at_;have f2:=hn1.fr.trans hn2.fr;have h2:=h.keep0 f2;have e2:Ey w2 y r s:=⟨hn2.fr.at_ hn1.at_ (by simp),_,hn2.at_,rfl⟩;have yl2:Da A cf.threads.toNat g y w2:=h.loc (by omega) (BP e2.y)
 have rl2:Da A cf.threads.toNat g r w2:=h.loc (by omega) lr;unfold Ma.step at hk
 have err:∀(e:Int) w3,Fr [] w2 w3->(∀g' w',BU A cf.threads.toNat g w g' w'->BV A g' cf (B+64) w' x->K (Cg (BZ.err e)) w')->I vp 54 #[vq vy e] w3 λx1 w1=>Aj 5 (vr (vz ⟨r,0,v6⟩)) x1 w1 λw2=>Ak 5 (vr (vz ⟨r,0,v6⟩)) w2 λr _=>K r w2:=λe w3 hf3 hk=>E1 (e:=e) (BU.w (f2.trans hf3)) (h2.keep0 hf3) (rl2.fr hf3) (by omega) (hf3.at_ hn2.at_ (by simp)) rfl λw' ht' h'=>hk g w' ht' (up h');refine TB h2 ?_
 try simp only[zv]
 refine F20.k3.to (A5 e2.y rfl (TS (s:=s) λw3 hf3=>?_))
 try simp only[AD]
 by_cases c1:s.check=0
 ·rw[vm (by simp[c1])]at hk;simp only[zv,vl,c1,vo,zQ];have h3:=h2.keep0 hf3;refine F20.k6.to (A5 (hf3.at_ e2.y (by simp)) rfl (Xd (s:=s) h3 λw4 hf4=>?_));have f24:=hf3.trans hf4;have h4:=h2.keep0 f24
  try simp only[AD]
  by_cases c2:x.who cf s=0
  ·rw[vm (by simp[c2])]at hk;simp only at hk;simp only[zv,vl,c2,vo,zQ];have hsm:¬(s.kd<1∨17<s.kd)/\s.small.any (λn=>decide (n<0) || decide (255<n))=v8:=by
    unfold BY.check at c1;by_cases a1:s.kd<1∨17<s.kd
    ·rw[vn a1]at c1;exact absurd c1 (by decide)
    ·rw[vm a1]at c1;refine⟨a1,?_⟩;cases hh:s.small.any (λn=>decide (n<0) || decide (255<n)) with
     | false=>rfl
     | true=>rw[vn hh]at c1;exact absurd c1 (by decide)
   have rng:0<=s.t/\0<=s.i/\0<=s.j:=by have:=hsm.2;simp only[BY.small,List.any_cons,List.any_nil,Bool.or_false,Bool.or_eq_false_iff,xU]at this;omega
   have hth:s.kd=16∨s.kd=17∨∃t:Nat,s.t=(t:Int)/\t<cf.threads.toNat:=by
    by_cases a1:16<=s.kd
    ·have:=hsm.1;omega
    ·unfold Ma.who at c2;rw[vm a1]at c2;by_cases a2:cf.threads<=s.t
     ·rw[vn a2]at c2;exact absurd c2 (by decide)
     ·exact wh (wh ⟨s.t.toNat,by omega,by omega⟩)
   refine F20.k9.to (A5 (f24.at_ e2.y (by simp)) rfl (XA (s:=s) h4 hB rng.2.1 rng.2.2 hth λg5 w5 t5 h5=>?_));have e5:=(e2.fr f24).to t5 (yl2.fr f24) (rl2.fr f24);have yl5:=(yl2.fr f24).step t5;have rl5:=(rl2.fr f24).step t5;have tt5:=(BU.w (f2.trans f24)).trans t5;have sz5:=tt5.fr.size;generalize x.doS cf s=p at *;obtain⟨x5,a5⟩:=p;simp only at hk h5 ⊢
   refine Ay λz w6 hn6=>AB (x:=Cg a5) hn6.at_ rfl CU rfl λw7 hu7=>?_;have l6:=hn6.is;have f57:Fr [] w5 w7:=hn6.fr.then hu7.fr (by simp;omega);have h7:=h5.keep0 f57;have e7:=e5.fr f57;have z7:=hu7.at_;have zl7:Da A cf.threads.toNat g5 z w7:=h5.loc (by omega) (BP z7);have tt7:=tt5.trans (BU.w f57)
   have fin:∀g8 w8 (x8:Ma),BU A cf.threads.toNat g5 w7 g8 w8->BV A g8 cf (B+64) w8 x8->(∀g' w',BU A cf.threads.toNat g w g' w'->BV A g' cf (B+64) w' x8->K (Cg a5) w')->F20.k12 K (vr (vz ⟨r,0,v6⟩)) (vr (vz ⟨z,0,v6⟩)) w8:=λg8 w8 x8 t8 h8 hk=>by
    have e8:=e7.to t8 (yl5.fr f57) (rl5.fr f57);obtain⟨cr,r8,rs8⟩:=e8.r;exact F20.k12.to (A5 (zl7.at_ t8 z7) rfl (Ed (a:=a5) (tt7.trans t8) h8 ((rl5.fr f57).step t8) (by omega) r8 rs8 λw' ht' h'=>hk _ w' ht' h'))
   try simp only[zv]
   refine Ac (v:=vq vy s.kd) e7.y rfl ?_;by_cases d1:3<=s.kd
   ·simp only[zv,show s.kd≥3 from d1];refine Ac (v:=vq vy s.kd) e7.y rfl ?_;by_cases d2:s.kd<=12
    ·simp only[zv,d2];refine Ac (v:=vq vy a5.code) z7 rfl ?_;by_cases d3:a5.code=0
     ·rw[vn ⟨d1,d2,d3⟩]at hk;simp only[zv,vl,d3];obtain⟨t,et,ht⟩:∃t:Nat,s.t=(t:Int)/\t<cf.threads.toNat:=by
       rcases hth with e|e|e
       ·omega
       ·omega
       ·exact e
      refine A8 (λw'=>w'.heap[A.ma]?=vz (DZ A cf)/\w'.heap[y]?=vz (wj (C5 s).cells 40 (0,0))) λw8 hf8 _=>⟨⟨hf8.at_ h7.blk (by simp),hf8.at_ e7.y (by simp)⟩,?_⟩;have h8:=h7.keep0 hf8;refine AR (vs:=[vr (vz ⟨A.lg,0,v6⟩),vr (vz ⟨A.bn,0,v6⟩)]) (λw' hw=>BV.prS hw.1) (Aq (v:=vq vy s.t) (λw' hw=>⟨_,_,_,hw.2,rfl⟩) ?_);rw[et]at hk ⊢
      refine⟨TD h8 ht (by omega) (by omega) λg9 w9 t9 h9=>?_,trivial⟩;have e9:=(e7.fr hf8).to t9 ((yl5.fr f57).fr hf8) ((rl5.fr f57).fr hf8);exact⟨⟨h9.blk,e9.y⟩,fin g9 w9 _ ((BU.w hf8).trans t9) h9 hk⟩
     ·rw[vm (λe=>d3 e.2.2)]at hk;simp only[zv,d3];exact fin g5 w7 x5 (BU.refl _ _ _ _) h7 hk
    ·rw[vm (λe=>d2 e.2.1)]at hk;simp only[zv,d2];exact fin g5 w7 x5 (BU.refl _ _ _ _) h7 hk
   ·rw[vm (λe=>d1 e.1)]at hk;simp only[zv,show ¬s.kd≥3 from d1];exact fin g5 w7 x5 (BU.refl _ _ _ _) h7 hk
  ·rw[vn c2]at hk;simp only[zv,c2,vo,zR];exact err _ w4 f24 hk
 ·rw[vn c1]at hk;simp only[zv,c1,vo,zR];exact err _ w3 hf3 hk
end
section
variable{K:VK}{w:wd}
def MV(n:Nat)(v:Int):Ca (List.replicate n v)=List.replicate n [vq vy v]:=by simp[Ca]
def HM{n:Int}{hi:Int}(h0:0<=n)(h1:n<=hi):(if n<0 then 0 else if n>hi then hi else n)=n:=by rw[vm (by omega),vm (by omega)]
def V4{n:Nat}(hn:n<=64)(hk:∀b kv w',Fr [] w w'->w.heap.size<=b->b<w'.heap.size->(∀x∈BM kv,w.heap.size<=x/\x<w'.heap.size)->Df w' b kv (List.replicate n 0)->K (vr (vz ⟨b,0,v6⟩)) w'):
  I vp 170 #[vq vy (n:Int)] w K:=by
 refine F170.sh (Ex ?_);rw[HM (by omega) (by omega)];refine Be (e:=3) (sz:=1) (bytes:=8) (z:=vq vy 0) n Tryz.underlying54 (by kernel_rfl) rfl (by decide) (by simp[wc.cells,wc.oneCell']) (by omega) (by omega) λg w1 hn1 ho1=>?_;refine A7 (w':=w1) (v:=vx #[vw v7,vt (vz ⟨g,0,v6⟩) n n]) (by kernel_rfl) (Ay λb w2 hn2=>?_);have l1:=hn1.is;have l2:=hn2.is;have s1:=hn1.fr.size;have z2:=BP hn2.at_
 refine hk b (vt (vz ⟨g,0,v6⟩) n n) w2 (hn1.fr.trans hn2.fr) (by omega) z2 (λx hx=>?_) ⟨hn2.at_,?_,?_⟩
 ·simp[BM,wc.ownBlock]at hx;have:=BP hn1.at_;omega
 ·rw[MV];exact ho1.keep hn2.fr (by simp)
 ·simpa using hn
def Vz{n:Nat}(hn:n<=2048)(hk:∀b mv w',Fr [] w w'->w.heap.size<=b->b<w'.heap.size->(∀x∈BM mv,w.heap.size<=x/\x<w'.heap.size)->CF w' b mv (List.replicate n 0)->K (vr (vz ⟨b,0,v6⟩)) w'):
  I vp 172 #[vq vy (n:Int)] w K:=by
 refine F172.sh (Ex ?_);rw[HM (by omega) (by omega)];refine Be (e:=2) (sz:=1) (bytes:=8) (z:=vq vy 0) n Tryz.underlying52 (by kernel_rfl) rfl (by decide) (by simp[wc.cells,wc.oneCell']) (by omega) (by omega) λg w1 hn1 ho1=>?_;refine A7 (w':=w1) (v:=vx #[vw v7,vt (vz ⟨g,0,v6⟩) n n]) (by kernel_rfl) (Ay λb w2 hn2=>?_);have l1:=hn1.is;have l2:=hn2.is;have s1:=hn1.fr.size;have z2:=BP hn2.at_
 refine hk b (vt (vz ⟨g,0,v6⟩) n n) w2 (hn1.fr.trans hn2.fr) (by omega) z2 (λx hx=>?_) ⟨hn2.at_,?_,?_,?_⟩
 ·simp[BM,wc.ownBlock]at hx;have:=BP hn1.at_;omega
 ·rw[MV];exact ho1.keep hn2.fr (by simp)
 ·simpa using hn
 ·intro x hx;simp at hx;omega
def XJ:(Instr.buildSlice 54 0 #[]).run vp w=.ok (vt (vz ⟨w.heap.size,0,v6⟩) 0 0) (w.alloc (wj #[] 3)):=by kernel_rfl
def RT{v:wc}{l:List Int}(hv:Cq w v 1 (Ca l))(hl:l.length<=1000000)(h:∀v' w',Fr [] w w'->BO w' v' 3 1 (Ca l)->Cc w v'->K v' w'):I vp 240 #[v] w K:=by
 have hv':=hv;obtain⟨A,c,rfl,h1,h2,h3⟩:=hv;refine F240.sh ⟨_,Hd (e:=3) _ _ _ _ _ Tryz.underlying54,?_⟩;cases A with
 | none=>
  have:l=[]:=by
   cases l with
   | nil=>rfl
   | cons x l=>obtain⟨g,o,cs,e,fz,hA,_⟩:=h3 (by simp[Ca]);cases hA
  subst this;simp only[Option.isNone_none,Ai];exact h _ w (Fr.refl _ _) (BO.nil w 3 1) (Cc.nil w)
 | some a=>
  simp only[Option.isNone_some,Ae];refine F240.k3.to (A7 XJ ?_);have hn:=Dz.mk' w (wj #[] 3);refine Bu (xs:=[]) (e:=3) (sz:=1) (bytes:=8) (z:=vq vy 0) Tryz.underlying54 (by kernel_rfl) rfl (by decide) (BO.of_block hn.at_ rfl (by simp) (by simp) rfl (by simp) (by simp)) (hv'.keep hn.fr) MU (by rw[Cm];simp;omega) (by rw[Cm];simp;omega) λv' w' ho hf hb _=>?_
  refine h v' w' (hn.fr.then hf λx hx=>?_) (by simpa using ho) λg hg=>?_
  ·rw[Cl]at hx;simp only[wc.ownBlock,zM]at hx;exact wh (by omega)
  ·rcases hb with hb|⟨g',hb,hle⟩
   ·rw[hb]at hg;simp only[wc.ownBlock,zM]at hg;omega
   ·rw[hg]at hb;simp only[zM]at hb;have:=hn.fr.size;omega
end
def X3(p:Nat):(List.replicate 64 ((0:Int),(0:Int))).getD p (0,0)=(0,0):=by
 unfold List.getD;cases h:(List.replicate 64 ((0:Int),(0:Int)))[p]? with
 | none=>rfl
 | some v=>exact xN (yN h)
def Pq(b mb tb:Nat):Array wc := #[vr (vz ⟨b,0,v6⟩),vr (vz ⟨mb,0,v6⟩),vq vy 0,vq vy 0,vq vy 0,vq vy 0,vq vy 0,vq vy 0,vq vy 0,vq vy 0,vq vy 0,vq vy 0,vq vy 0,vq vy 0,vq vy 0,vq vy 0,vq vy 0,vq vy 0,vq vy 0,vq vy 0,vq vy 0,vq vy 0,vq vy 0,vq vy 0,vq vy 0,vq vy 0,vq vy 0,vq vy 0,vq vy 0,vq vy 0,vq vy 0,vq vy 0,vq vy 0,vq vy 0,vq vy 0,vq vy 0,vq vy 0,vq vy 0,vq vy 0,vq vy 0,vq vy 0,vq vy 0,vq vy 0,vq vy 0,vq vy 0,vq vy 0,vq vy 0,vq vy 0,vq vy 0,vq vy 0,vq vy 0,vq vy 0,vq vy 0,vq vy 0,vq vy 0,vq vy 0,vq vy 0,vq vy 0,vq vy 0,vq vy 0,vq vy 0,vq vy 0,vq vy 0,vq vy 0,vq vy 0,vq vy 0,vq vy 0,vq vy 0,vq vy 0,vq vy 0,vq vy 0,vq vy 0,vq vy 0,vq vy 0,vq vy 0,vq vy 0,vq vy 0,vq vy 0,vq vy 0,vq vy 0,vq vy 0,vq vy 0,vq vy 0,vq vy 0,vq vy 0,vq vy 0,vq vy 0,vq vy 0,vq vy 0,vq vy 0,vq vy 0,vq vy 0,vq vy 0,vq vy 0,vq vy 0,vq vy 0,vq vy 0,vq vy 0,vq vy 0,vq vy 0,vq vy 0,vq vy 0,vq vy 0,vq vy 0,vq vy 0,vq vy 0,vq vy 0,vq vy 0,vq vy 0,vq vy 0,vq vy 0,vq vy 0,vq vy 0,vq vy 0,vq vy 0,vq vy 0,vq vy 0,vq vy 0,vq vy 0,vq vy 0,vq vy 0,vq vy 0,vq vy 0,vq vy 0,vq vy 0,vq vy 0,vq vy 0,vq vy 0,vq vy 0,vq vy 0,vr (vz ⟨tb,0,v6⟩)]
def Ws(b mb tb:Nat):wc:=vx (Pq b mb tb)
def Pr(b mb tb:Nat):(Ws b mb tb).cells=Pq b mb tb:=by rfl
def XD{w:wd}(b mb tb:Nat):(Instr.build 244 #[(0,vx #[vr (vz ⟨b,0,v6⟩)]),(1,vr (vz ⟨mb,0,v6⟩)),(3,vr (vz ⟨tb,0,v6⟩))]).run vp w=.ok (Ws b mb tb) w:=by kernel_rfl
def S5(b mb tb:Nat):∀p,p<64->(Pq b mb tb)[2+p*2]?=vz (vq vy 0)/\(Pq b mb tb)[2+p*2+1]?=vz (vq vy 0)
 | 0,_ | 1,_ | 2,_ | 3,_ | 4,_ | 5,_ | 6,_ | 7,_ | 8,_ | 9,_ | 10,_ | 11,_ | 12,_ | 13,_ | 14,_ | 15,_ | 16,_ | 17,_ | 18,_ | 19,_ | 20,_ | 21,_ | 22,_ | 23,_ | 24,_ | 25,_ | 26,_ | 27,_ | 28,_ | 29,_ | 30,_ | 31,_ | 32,_ | 33,_ | 34,_ | 35,_ | 36,_ | 37,_ | 38,_ | 39,_ | 40,_ | 41,_ | 42,_ | 43,_ | 44,_ | 45,_ | 46,_ | 47,_ | 48,_ | 49,_ | 50,_ | 51,_ | 52,_ | 53,_ | 54,_ | 55,_ | 56,_ | 57,_ | 58,_ | 59,_ | 60,_ | 61,_ | 62,_ | 63,_=>⟨rfl,rfl⟩
 | p+64,h=>by omega
section
variable{K:VK}{w:wd}
def Vp{n:Nat}(hn:n<=64)(hk:∀(A:Ew) w',Fr [] w w'->(∀x∈A.all,w.heap.size<=x/\x<w'.heap.size)->Cw A w' (Ce.new n)->K (vr (vz ⟨A.cel,0,v6⟩)) w'):
  I vp 112 #[vq vy (n:Int)] w K:=by
 refine F112.sh (V4 hn λb kv w1 hf1 hb1 hb1' hk1 hp1=>?_);refine F171.sh ⟨_,Cj _ _ _ Tryz.underlying234,?_⟩
 try simp only[zv]
 refine F171.k3.to ?_
 try simp only[zv]
 refine Ac (v:=kv) hp1.blk rfl (RT hp1.own.rd (by simp;omega) λv2 w2 hf2 ho2 hn2=>AK ho2.rd ?_);rw[Cm,yF]
 try simp only[AT]
 rw[BN (n:=(n:Int)*32) (by omega),show (n:Int)*32=((n*32:Nat):Int) by omega];refine A7 (w':=w2) (v:=vx #[vr (vz ⟨b,0,v6⟩)]) (by kernel_rfl) (Vz (n:=n*32) (by omega) λmb mv w3 hf3 hb3 hb3' hk3 hm3=>?_);refine PH (by omega) (by omega) λtb w4 hf4 e4 s4 ht4=>?_;refine A7 (XD b mb tb) (Ay λcb w5 hn5=>?_);have l5:=hn5.is;have s1:=hf1.size;have s2:=hf2.size;have s3:=hf3.size;have s5:=hn5.fr.size;have z5:=BP hn5.at_
 have f15:=((hf2.trans hf3).trans hf4).trans hn5.fr;refine hk ⟨cb,b,mb,tb,kv,mv⟩ w5 (hf1.trans f15) (λx hx=>?_) ?_
 ·simp only[Ew.all,un,j4]at hx;rcases hx with rfl|rfl|rfl|rfl|hx|hx
  ·omega
  ·omega
  ·omega
  ·omega
  ·have:=hk1 x hx;omega
  ·have:=hk3 x hx;omega
 ·have nn:(Ce.new (n:Int)).n=((n*32:Nat):Int):=by simp[Ce.n,Ce.new]
  have hb:=hn5.at_;rw[Pr]at hb;refine⟨⟨_,hb,rfl,rfl,rfl,rfl,λp hp=>?_⟩,?_,?_,?_,by simp[Ce.new],by simp[Ce.new],λp=>?_⟩
  ·have e0:(Ce.new (n:Int)).ch.getD p (0,0)=(0,0):=X3 p;rw[e0];exact S5 b mb tb p hp
  ·have:=hp1.keep0 f15;simpa[Ce.new] using this
  ·have:=hm3.keep0 (hf4.trans hn5.fr);simpa[Ce.new] using this
  ·rw[nn];exact ht4.keep hn5.fr (by simp)
  ·have e0:(Ce.new (n:Int)).ch.getD p (0,0)=(0,0):=X3 p;rw[e0];simp
end
section
variable{K:VK}{w:wd}
def QX(n:Nat):D4 (List.replicate n 0)=(n:Int):=by unfold D4;congr 1;rw[List.countP_eq_length.2 (by intro a ha;simp[xN ha]),yF]
def VQ{n:Nat}{nt:Int}(hn:n<=64)(h0:0<=nt)(h9:nt<=9)(hT:F0 w)(hz:0<w.heap.size)(hk:∀(D:D6) w',Fr [] w w'->(∀x∈D.all,x=0∨(w.heap.size<=x/\x<w'.heap.size))->C6 D n nt w' ⟨Ce.new n,λ_=>v6,0⟩->K (vr (vz ⟨D.st,0,v6⟩)) w'):
  I vp 73 #[vq vy (n:Int),vq vy nt] w K:=by
 refine F73.sh (Vp hn λA w1 hf1 hA1 hc1=>V1 λob om w2 hf2 ho2 hm2 hne h2=>?_);rw[HM h0 (by omega)]at h2;have s1:=hf1.size;have s2:=hf2.size;have lo2:=h2.lt;have c2:=hc1.keep0 hf2;refine A7 (w':=w2) (v:=vx #[vr (vz ⟨A.cel,0,v6⟩),vr (vz ⟨ob,0,v6⟩),vq vy 0,vq vy 0,vq vy 0]) (by kernel_rfl) (Ay λst w3 hn3=>?_);have l3:=hn3.is;have c3:=c2.keep0 hn3.fr;have o3:=h2.keep hn3.fr (by simp) (by simp)
 try simp only[zv]
 refine Ac (v:=vr (vz ⟨A.cel,0,v6⟩)) hn3.at_ rfl (NT c3 λw4 hf4=>?_);rw[show (Ce.new (n:Int)).ks=List.replicate n 0 by simp[Ce.new],QX];have b4:=hf4.at_ hn3.at_ (by simp);refine AM b4 rfl rfl (by simp[wc.cells]) λw5 hu5=>?_;refine A7 (JZ _ _ _ _ _) (A7 (Nc _ _ _ _ _) ?_);rw[show min (max nt 0) 9=nt by omega];refine AM hu5.at_ rfl rfl (by simp[wc.cells]) λw6 hu6=>?_;have z3:=BP hn3.at_;have s4:=hf4.size
 have s5:=hu5.fr.size;have s6:=hu6.fr.size;have f6:Fr [] w w6:=((((hf1.trans hf2).trans hn3.fr).trans hf4).then hu5.fr (by simp;omega)).then hu6.fr (by simp;omega);have nA:∀x∈A.all,x≠st:=λx hx=>by have:=hA1 x hx;omega
 have c6:Cw A w6 (Ce.new (n:Int)):=((c3.keep0 hf4).keepA hu5.fr (λx hx=>by simpa using nA x hx)).keepA hu6.fr (λx hx=>by simpa using nA x hx);have o6:EG w6 ob om nt (λ_=>v6):=((o3.keep hf4 (by simp) (by simp)).keep hu5.fr (by simp;omega) (by simp;omega)).keep hu6.fr (by simp;omega) (by simp;omega)
 refine hk ⟨A,st,ob,om⟩ w6 f6 (λx hx=>?_) ⟨⟨by simp only;omega,by simp only;omega,hne,λe=>?_,λe=>?_,λe=>?_,λe=>?_⟩,?_,c6,o6,hn,hT.keep f6 (by simp)⟩
 ·simp only[D6.all,un]at hx;rcases hx with rfl|rfl|rfl|rfl|hx
  ·exact wg rfl
  ·exact wh (by omega)
  ·exact wh (by omega)
  ·exact wh (by omega)
  ·have:=hA1 x hx;exact wh (by omega)
 ·have:=hA1 _ e;simp only at this;omega
 ·have:=hA1 _ e;simp only at this;omega
 ·have:=hA1 _ e;simp only at this;omega
 ·simp only[un]at e;rcases e with e|e|e|e
  ·omega
  ·omega
  ·omega
  ·have:=hA1 0 e;omega
 ·have:=hu6.at_;simpa[wc.cells] using this
end
section
variable{K:VK}{w:wd}
def Ia{n lo hi:Int}(h0:lo<=n)(h1:n<=hi):(if n<lo then lo else if n>hi then hi else n)=n:=by rw[vm (by omega),vm (by omega)]
def Vv{room:Int}(h1:1<=room)(h2:room<=256)(hk:∀(G:CS) w',Fr [] w w'->[G.gr,G.wa,G.sk,G.mb].Nodup->(∀x∈[G.gr,G.wa,G.sk,G.mb],w.heap.size<=x/\x<w'.heap.size)->CW G (vt v6 0 0) room w' ⟨[],v8,λ_=>v8⟩->K (vr (vz ⟨G.gr,0,v6⟩)) w'):
  I vp 74 #[vq vy room] w K:=by
 refine F74.sh (F115.sh (Ex ?_));rw[Ia h1 h2];refine A7 (w':=w) (v:=vx #[vt v6 0 0,vq vy room,vw v8]) (by kernel_rfl) (Ay λsk w1 hn1=>?_);refine A7 (w':=w1) (v:=vx #[vr (vz ⟨sk,0,v6⟩)]) (by kernel_rfl) (Ay λwa w2 hn2=>?_);refine PH (n:=2048) (by omega) (by omega) λmb w3 hf3 e3 s3 hm3=>?_;refine A7 (w':=w3) (v:=vx #[vr (vz ⟨wa,0,v6⟩),vr (vz ⟨mb,0,v6⟩)]) (by kernel_rfl) (Ay λgr w4 hn4=>?_)
 have l1:=hn1.is;have l2:=hn2.is;have l4:=hn4.is;have s1:=hn1.fr.size;have s2:=hn2.fr.size;have z1:=BP hn1.at_;have z2:=BP hn2.at_;have z4:=BP hn4.at_;have s34:=hn4.fr.size;refine hk ⟨gr,wa,sk,mb⟩ w4 (((hn1.fr.trans hn2.fr).trans hf3).trans hn4.fr) ?_ (λx hx=>?_) ⟨hn4.at_,?_,⟨?_,BO.nil _ _ _,⟨h1,h2⟩,by simp;omega⟩,hm3.keep hn4.fr (by simp)⟩
 ·simp only[j6,un,b8,vi,not_or,zR,List.nodup_nil,and_true];omega
 ·simp only[un,b8,vi]at hx;rcases hx with rfl|rfl|rfl|rfl<;>omega
 ·exact hn4.fr.at_ (hf3.at_ hn2.at_ (by simp)) (by simp)
 ·exact hn4.fr.at_ (hf3.at_ (hn2.fr.at_ hn1.at_ (by simp)) (by simp)) (by simp)
def Vr{n:Nat}(hn:n<=8)(hk:∀re rv w',Fr [] w w'->w.heap.size<=re->re<w'.heap.size->(∀x∈BM rv,w.heap.size<=x/\x<w'.heap.size)->Dv re rv w' ⟨0,List.replicate n (v8,0)⟩->K (vr (vz ⟨re,0,v6⟩)) w'):
  I vp 75 #[vq vy (n:Int)] w K:=by
 refine F75.sh (Ex ?_);rw[HM (by omega) (by omega)];refine Be (e:=212) (sz:=2) (bytes:=16) (z:=vx #[vw v8,vq vy 0]) n Tryz.underlying181 (by kernel_rfl) rfl (by decide) (by simp[wc.cells,wc.oneCell']) (by omega) (by omega) λg w1 hn1 ho1=>?_;refine A7 (w':=w1) (v:=vx #[vw v7,vq vy 0,vt (vz ⟨g,0,v6⟩) n n]) (by kernel_rfl) (Ay λb w2 hn2=>?_);have l1:=hn1.is;have l2:=hn2.is;have s1:=hn1.fr.size;have z1:=BP hn1.at_
 have z2:=BP hn2.at_;have s2:=hn2.fr.size;refine hk b (vt (vz ⟨g,0,v6⟩) n n) w2 (hn1.fr.trans hn2.fr) (by omega) z2 (λx hx=>?_) ⟨hn2.at_,?_,by simpa using hn⟩
 ·simp[BM,wc.ownBlock]at hx;omega
 ·have e:Hl (List.replicate n (v8,0))=List.replicate n [vw v8,vq vy 0]:=by simp[Hl]
  rw[e];exact ho1.keep hn2.fr (by simp)
def Vt{n:Nat}(hn:n<=8)(hk:∀bu bv w',Fr [] w w'->w.heap.size<=bu->bu<w'.heap.size->(∀x∈BM bv,w.heap.size<=x/\x<w'.heap.size)->Dt bu bv (List.replicate n (vt v6 0 0)) w' (List.replicate n [])->K (vr (vz ⟨bu,0,v6⟩)) w'):
  I vp 76 #[vq vy (n:Int)] w K:=by
 refine F76.sh (Ex ?_);rw[HM (by omega) (by omega)];refine Be (e:=54) (sz:=1) (bytes:=24) (z:=vt v6 0 0) n Tryz.underlying184 (by kernel_rfl) rfl (by decide) (by simp[wc.cells,wc.oneCell']) (by omega) (by omega) λg w1 hn1 ho1=>?_;refine A7 (w':=w1) (v:=vx #[vw v7,vt (vz ⟨g,0,v6⟩) n n]) (by kernel_rfl) (Ay λb w2 hn2=>?_);have l1:=hn1.is;have l2:=hn2.is;have s1:=hn1.fr.size;have z1:=BP hn1.at_;have z2:=BP hn2.at_
 have s2:=hn2.fr.size;have nob:∀v∈List.replicate n (wc.slice v6 0 0),BM v=[]:=λv hv=>by rw[xN hv];rfl
 refine hk b (vt (vz ⟨g,0,v6⟩) n n) w2 (hn1.fr.trans hn2.fr) (by omega) z2 (λx hx=>?_) ⟨hn2.at_,?_,⟨by simp,λi h1 h2=>?_,λi j h1 h2 _ x hx=>?_⟩,by simpa using hn,λl hl=>?_⟩
 ·simp[BM,wc.ownBlock]at hx;omega
 ·have e:Gd (List.replicate n (vt v6 0 0))=List.replicate n [vt v6 0 0]:=by simp[Gd]
  rw[e];exact ho1.keep hn2.fr (by simp)
 ·have e1:(List.replicate n (wc.slice v6 0 0))[i]=vt v6 0 0:=by simp
  have e2:((List.replicate n ([]:List Int)).map Ca)[i]=[]:=by simp[Ca]
  rw[e1,e2];exact BO.nil _ _ _
 ·rw[nob _ (zW h1)]at hx;simp at hx
 ·rw[xN hl];simp
def VW{st gr:Nat}{pages chunk:Int}(h1:1<=pages/\pages<=64)(h2:1<=chunk/\chunk<=16)(hk:∀tr w',Dz w tr (wj #[vr (vz ⟨st,0,v6⟩),vr (vz ⟨gr,0,v6⟩),vq vy pages,vq vy chunk,vq vy (-1)] 188) w'->K (vr (vz ⟨tr,0,v6⟩)) w'):
  I vp 77 #[vr (vz ⟨st,0,v6⟩),vr (vz ⟨gr,0,v6⟩),vq vy pages,vq vy chunk] w K:=by refine F77.sh (Ex ?_);rw[Ia h1.1 h1.2];refine Ex ?_;rw[Ia h2.1 h2.2];exact A7 (w':=w) (v:=vx #[vr (vz ⟨st,0,v6⟩),vr (vz ⟨gr,0,v6⟩),vq vy pages,vq vy chunk,vq vy (-1)]) (by kernel_rfl) (Ay hk)
def Wc{st gr:Nat}{pages:Int}(h1:1<=pages/\pages<=64)(hk:∀sw w',Dz w sw (wj #[vr (vz ⟨st,0,v6⟩),vr (vz ⟨gr,0,v6⟩),vq vy pages,vq vy pages,vq vy 0] 190) w'->K (vr (vz ⟨sw,0,v6⟩)) w'):
  I vp 78 #[vr (vz ⟨st,0,v6⟩),vr (vz ⟨gr,0,v6⟩),vq vy pages] w K:=by refine F78.sh (Ex ?_);rw[Ia h1.1 h1.2];exact A7 (w':=w) (v:=vx #[vr (vz ⟨st,0,v6⟩),vr (vz ⟨gr,0,v6⟩),vq vy pages,vq vy pages,vq vy 0]) (by kernel_rfl) (Ay hk)
end
end
noncomputable section
variable{K:VK}{w:wd}{x0 y1:wc}
namespace F41
def ann:Cd:=⟨[(4,[1])],[],[],[(4,(tk [0,2,6,1,3,4,7,10] (.go 5 (.go 8 (tk [9,11] (.go 12 (.take 13 .fin) .fin)) .fin) .fin))),(5,(tk [0,1,2,5,3,6] (.go 4 (.go 7 (tk [8,9] (.go 10 (tk [11,12] (.go 13 .fin .fin)) .fin)) .fin) .fin))),(6,(tk [0,1,2,3,4,5,7,8,9,10,12,14,17,18,19,20,22,23,24,25,27,6,11,13,15,21,26,28] (.go 16 (.go 29 (tk [30,31] (.go 32 (tk [33,34] (.go 35 .fin .fin)) .fin)) .fin) .fin))),(7,(tk [0,1,2,3,4,6,5,7] (.go 8 (tk [9,10,11,12,13] (.go 14 .fin .fin)) .fin)))],v6⟩
def code:=cd f41
def BL:=tp f41
variable(K:VK)(y1:wc)(w:wd)
@[irreducible]def k4:=nk ann 85 [(1,y1)] w [1,1] code (BL K)
end F41
def F41.k4.to(h:(A4 w λS a=>Ab 0 y1 a λb c=>Ab 1 y1 c λd f=>Ab 8 y1 f λg i=>Al S b i λj k=>Al S d k λm o=>U .add m (vq vy 1) o λp q=>Al S g q λr s=>AN S 10 y1 s λt u=>(I vp 73 #[j,p] u λv x=>(S x/\
 (I vp 74 #[r] x λy z=>(S z/\
 ∃aa,(∀w',S w'->(Instr.build 123 #[(0,v),(1,y)]).run vp w'=.ok aa w')/\(∃ab,(∀w',S w'->(Instr.build 132 #[(0,aa),(1,t)]).run vp w'=.ok ab w')/\((Aw (wj (wc.cells ab) 132) z λac ad=>(S ad/\
 A4 ad λS ae=>Ab 1 y1 ae λaf ag=>Ab 1 y1 ag λah ai=>Al S af ai λaj ak=>Al S ah ak λal am=>(I vp 75 #[aj] am λan ao=>(S ao/\
 (I vp 76 #[al] ao λap aq=>(S aq/\
 Ag ac aq λar au=>Ab 12 ar au λav aw=>(Aj 1 av an aw λax=>(S ax/\
 Ag ac ax λay az=>Ab 13 ay az λba bb=>(Aj 1 ba ap bb λbc=>(S bc/\
 A4 bc λS bd=>Ag ac bd λbe bf=>Ab 0 be bf λbg bh=>Ab 0 bg bh λbi bj=>Ag ac bj λbk bl=>Ab 0 bk bl λbm bn=>Ab 1 bm bn λbo bp=>Ab 0 y1 bp λbq br=>Ab 7 y1 br λbs bt=>Ag ac bt λbu bv=>Ab 0 bu bv λbw bx=>Ab 0 bw bx λbz ca=>Ag ac ca λcb cc=>Ab 0 cb cc λce cf=>Ab 1 ce cf λcg ch=>Ab 0 y1 ch λci cj=>Al S bi cj λck cl=>Al S bo cl λcm cn=>Al S bq cn λco cp=>Al S bs cp λcq cr=>Al S bz cr λcs ct=>Al S cg ct λcu cv=>Al S ci cv λcw cx=>(I vp 77 #[ck,cm,co,cq] cx λcy cz=>(S cz/\
 (I vp 78 #[cs,cu,cw] cz λda db=>(S db/\
 Ag ac db λdc dd=>Ab 14 dc dd λde df=>(Aj 1 de cy df λdg=>(S dg/\
 Ag ac dg λdh di=>Ab 15 dh di λdj dk=>(Aj 1 dj da dk λdl=>(S dl/\
 A4 dl λS dm=>Ag ac dm λdn dp=>Ab 0 dn dp λdq dr=>Ab 0 dq dr λds dt=>Ab 1 y1 dt λdu dv=>Al S ds dv λdw dx=>Al S du dx λdy dz=>(I vp 79 #[dw,dy,(vq vy 4)] dz λea eb=>(S eb/\
 Av 0 ea eb λec ed=>Av 1 ea ed λee ef=>Ag ac ef λeg eh=>Ab 24 eg eh λei ej=>(Aj 1 ei ec ej λek=>(S ek/\
 K (vu #[ac,(vq vy 0)]) ek))/\True))/\True))/\True))/\True))/\True))/\True))/\True))/\True))/\True))/\True))/\True))))/\True))/\True)):F41.k4 K y1 w:=qq h
def F41.sh(h:(Aw (wj (wc.cells x0) 23) w λa b=>Ak 10 a b λc d=>I vp 11 #[c] d λf g=>U .neq f (vq vy 0) g λi j=>Af i (K (vu #[(vr v6),f]) j) (F41.k4 K a j))):I vp 41 #[x0] w K:=BK (A:=F41.ann) (args:=[x0]) (qq h)
end
section
open Go.RowKit
def Wt(st gr:Nat)(cf:Cf):Array wc := #[vr (vz ⟨st,0,v6⟩),vr (vz ⟨gr,0,v6⟩),vq vy cf.pages,vq vy cf.threads,vq vy cf.window,vq vy cf.quantum,vq vy cf.target,vq vy cf.cap,vq vy cf.tax,vq vy cf.chunk,vq vy cf.stack,vq vy cf.trigger,vr v6,vr v6,vr v6,vr v6,vt v6 0 0,vt v6 0 0,vt v6 0 0,vt v6 0 0,vt v6 0 0,vt v6 0 0,vt v6 0 0,vt v6 0 0,vq vy 0,vq vy 0,vq vy 0,vq vy 0]
section
variable{K:VK}{w:wd}
def Xf(st gr:Nat):(Instr.build 123 #[(0,vr (vz ⟨st,0,v6⟩)),(1,vr (vz ⟨gr,0,v6⟩))]).run vp w=.ok (vx #[vr (vz ⟨st,0,v6⟩),vr (vz ⟨gr,0,v6⟩)]) w:=by kernel_rfl
def Ys(st gr:Nat)(cf:Cf):(Instr.build 132 #[(0,vx #[vr (vz ⟨st,0,v6⟩),vr (vz ⟨gr,0,v6⟩)]),(1,vx (C9 cf).toArray)]).run vp w=.ok (vx (Wt st gr cf)) w:=by kernel_rfl
structure Cf.Co(cf:Cf):Prop where
 pg:1<=cf.pages/\cf.pages<=64
 th:1<=cf.threads/\cf.threads<=8
 ck:1<=cf.chunk/\cf.chunk<=16
 sk:1<=cf.stack/\cf.stack<=256
def TT{y:Nat}{cf:Cf}(hy:w.heap[y]?=vz (wj (C9 cf).toArray 23 (0,0)))(hc:cf.Co)(hT:F0 w)(hz:0<w.heap.size)(hk:∀(Q:C3) (m:Mv) w',Fr [] w w'->m.all=[]->(∀x∈Q.fix++(Q.H.fix++Q.H.D.all),x=0∨w.heap.size<=x)->BX Q m cf w' (Co.new cf)->K (vu #[vr (vz ⟨Q.co,0,v6⟩),vq vy 0]) w'):
  F41.k4 K (vr (vz ⟨y,0,v6⟩)) w:=by
 have Y:∀w',Fr [] w w'->w'.heap[y]?=vz (wj (C9 cf).toArray 23 (0,0)):=λw' hf=>hf.at_ hy (by simp);have ly:=BP hy;obtain⟨⟨p1,p2⟩,⟨t1,t2⟩,ck,sk⟩:=hc;obtain⟨np,hnp⟩:=xQ (show 0<=cf.pages by omega);obtain⟨nt,hnt⟩:=xQ (show 0<=cf.threads by omega);refine F41.k4.to (A8 (λw'=>w'.heap[y]?=vz (wj (C9 cf).toArray 23 (0,0))) λw1 hf1 _=>⟨Y w1 hf1,?_⟩)
 try simp only[zv]
 refine Aq (v:=vq vy cf.pages) (λw' hw=>⟨_,_,_,hw,rfl⟩) (Aq (v:=vq vy cf.threads) (λw' hw=>⟨_,_,_,hw,rfl⟩) ?_)
 try simp only[AC]
 refine Aq (v:=vq vy cf.stack) (λw' hw=>⟨_,_,_,hw,rfl⟩) (AR (vs:=C9 cf) (λw' hw=>⟨_,_,_,hw,by simp[C9],rfl⟩) ?_);rw[BN (n:=cf.threads+1) (by omega),hnp];have s1:=hf1.size;refine⟨VQ (n:=np) (nt:=cf.threads+1) (by omega) (by omega) (by omega) (hT.keep hf1 (by simp)) (by omega) λD w2 hf2 hD2 h2=>⟨hf2.at_ (Y w1 hf1) (by simp),?_⟩,trivial⟩;have s2:=hf2.size
 refine⟨Vv sk.1 sk.2 λG w3 hf3 nd3 hG3 h3=>?_,trivial⟩;have s3:=hf3.size;have f3:=(hf1.trans hf2).trans hf3;refine⟨Y w3 f3,⟨_,λw' _=>Xf D.st G.gr,⟨_,λw' _=>Ys D.st G.gr cf,Ay λco w4 hn4=>⟨Y w4 (f3.trans hn4.fr),?_⟩,trivial⟩⟩⟩;have l4:=hn4.is;have s4:=hn4.fr.size;have z4:=BP hn4.at_;have f4:=f3.trans hn4.fr
 refine A8 (λw'=>w'.heap[y]?=vz (wj (C9 cf).toArray 23 (0,0))) λw5 hf5 _=>⟨Y w5 (f4.trans hf5),?_⟩;have s5:=hf5.size;have f5:=f4.trans hf5
 try simp only[zv]
 refine Aq (v:=vq vy cf.threads) (λw' hw=>⟨_,_,_,hw,rfl⟩) (Aq (v:=vq vy cf.threads) (λw' hw=>⟨_,_,_,hw,rfl⟩) ?_);rw[hnt];refine⟨Vr (n:=nt) (by omega) λre rv w6 hf6 hr6 hr6' hv6 h6=>⟨Y w6 (f5.trans hf6),?_⟩,trivial⟩;have s6:=hf6.size;refine⟨Vt (n:=nt) (by omega) λbu bv w7 hf7 hb7 hb7' hv7 h7=>⟨Y w7 ((f5.trans hf6).trans hf7),?_⟩,trivial⟩;have s7:=hf7.size;have f7:=(f5.trans hf6).trans hf7
 have c7:=((hf5.trans hf6).trans hf7).at_ hn4.at_ (by simp);refine⟨AM c7 rfl rfl (by simp[wc.cells,Wt]) λw8 hu8=>⟨?_,?_⟩,trivial⟩
 ·exact hu8.fr.at_ (Y w7 f7) (by simp;omega)
 refine⟨AM hu8.at_ rfl rfl (by simp[wc.cells,Wt]) λw9 hu9=>⟨?_,?_⟩,trivial⟩
 ·exact hu9.fr.at_ (hu8.fr.at_ (Y w7 f7) (by simp;omega)) (by simp;omega)
 have Y9:=hu9.fr.at_ (hu8.fr.at_ (Y w7 f7) (by simp;omega)) (by simp;omega)
 have c9:w9.heap[co]?=vz (wj #[vr (vz ⟨D.st,0,v6⟩),vr (vz ⟨G.gr,0,v6⟩),vq vy cf.pages,vq vy cf.threads,vq vy cf.window,vq vy cf.quantum,vq vy cf.target,vq vy cf.cap,vq vy cf.tax,vq vy cf.chunk,vq vy cf.stack,vq vy cf.trigger,vr (vz ⟨re,0,v6⟩),vr (vz ⟨bu,0,v6⟩),vr v6,vr v6,vt v6 0 0,vt v6 0 0,vt v6 0 0,vt v6 0 0,vt v6 0 0,vt v6 0 0,vt v6 0 0,vt v6 0 0,vq vy 0,vq vy 0,vq vy 0,vq vy 0] 132 (0,0)):=hu9.at_
 have f79:Fr [co] w7 w9:=hu8.fr.trans hu9.fr;have s9:=f79.size;refine A8 (λw'=>w'.heap[y]?=vz (wj (C9 cf).toArray 23 (0,0))/\∃cs:Array wc,w'.heap[co]?=vz (wj cs 132 (0,0))/\cs[0]?=vz (vr (vz ⟨D.st,0,v6⟩))/\cs[1]?=vz (vr (vz ⟨G.gr,0,v6⟩))) λw10 hf10 _=>⟨⟨hf10.at_ Y9 (by simp),_,hf10.at_ c9 (by simp),rfl,rfl⟩,?_⟩;have s10:=hf10.size
 refine Aq (v:=vr (vz ⟨D.st,0,v6⟩)) (λw' hw=>by obtain⟨_,cs,a,b,_⟩:=hw;exact⟨cs,_,_,a,b⟩) ?_;refine Aq (v:=vr (vz ⟨G.gr,0,v6⟩)) (λw' hw=>by obtain⟨_,cs,a,_,b⟩:=hw;exact⟨cs,_,_,a,b⟩) ?_;refine Aq (v:=vq vy cf.pages) (λw' hw=>⟨_,_,_,hw.1,rfl⟩) (Aq (v:=vq vy cf.chunk) (λw' hw=>⟨_,_,_,hw.1,rfl⟩) ?_)
 refine Aq (v:=vr (vz ⟨D.st,0,v6⟩)) (λw' hw=>by obtain⟨_,cs,a,b,_⟩:=hw;exact⟨cs,_,_,a,b⟩) (Aq (v:=vr (vz ⟨G.gr,0,v6⟩)) (λw' hw=>by obtain⟨_,cs,a,_,b⟩:=hw;exact⟨cs,_,_,a,b⟩) (Aq (v:=vq vy cf.pages) (λw' hw=>⟨_,_,_,hw.1,rfl⟩) ?_))
 refine⟨VW ⟨p1,p2⟩ ck λtr w11 hn11=>⟨⟨hn11.fr.at_ (hf10.at_ Y9 (by simp)) (by simp),_,hn11.fr.at_ (hf10.at_ c9 (by simp)) (by simp),rfl,rfl⟩,?_⟩,trivial⟩;have l11:=hn11.is;have s11:=hn11.fr.size;have z11:=BP hn11.at_;refine⟨Wc ⟨p1,p2⟩ λsw w12 hn12=>?_,trivial⟩;have l12:=hn12.is;have s12:=hn12.fr.size;have z12:=BP hn12.at_;have f9c:=(hf10.trans hn11.fr).trans hn12.fr
 have Y12:=f9c.at_ Y9 (by simp);have c12:=f9c.at_ c9 (by simp);refine⟨⟨Y12,_,c12,rfl,rfl⟩,?_⟩;refine⟨AM c12 rfl rfl (by simp) λw13 hu13=>⟨⟨hu13.fr.at_ Y12 (by simp;omega),_,hu13.at_,rfl,rfl⟩,?_⟩,trivial⟩;refine⟨AM hu13.at_ rfl rfl (by simp) λw14 hu14=>⟨⟨hu14.fr.at_ (hu13.fr.at_ Y12 (by simp;omega)) (by simp;omega),_,hu14.at_,rfl,rfl⟩,?_⟩,trivial⟩
 have Y14:=hu14.fr.at_ (hu13.fr.at_ Y12 (by simp;omega)) (by simp;omega)
 have c14:w14.heap[co]?=vz (wj #[vr (vz ⟨D.st,0,v6⟩),vr (vz ⟨G.gr,0,v6⟩),vq vy cf.pages,vq vy cf.threads,vq vy cf.window,vq vy cf.quantum,vq vy cf.target,vq vy cf.cap,vq vy cf.tax,vq vy cf.chunk,vq vy cf.stack,vq vy cf.trigger,vr (vz ⟨re,0,v6⟩),vr (vz ⟨bu,0,v6⟩),vr (vz ⟨tr,0,v6⟩),vr (vz ⟨sw,0,v6⟩),vt v6 0 0,vt v6 0 0,vt v6 0 0,vt v6 0 0,vt v6 0 0,vt v6 0 0,vt v6 0 0,vt v6 0 0,vq vy 0,vq vy 0,vq vy 0,vq vy 0] 132 (0,0)):=hu14.at_
 have fce:Fr [co] w12 w14:=hu13.fr.trans hu14.fr;have s14:=fce.size;refine A8 (λw'=>w'.heap[y]?=vz (wj (C9 cf).toArray 23 (0,0))/\∃cs:Array wc,w'.heap[co]?=vz (wj cs 132 (0,0))/\cs[0]?=vz (vr (vz ⟨D.st,0,v6⟩))) λw15 hf15 _=>⟨⟨hf15.at_ Y14 (by simp),_,hf15.at_ c14 (by simp),rfl⟩,?_⟩;have s15:=hf15.size
 refine Aq (v:=vr (vz ⟨D.st,0,v6⟩)) (λw' hw=>by obtain⟨_,cs,a,b⟩:=hw;exact⟨cs,_,_,a,b⟩) (Aq (v:=vq vy cf.threads) (λw' hw=>⟨_,_,_,hw.1,rfl⟩) ?_);have nco:∀x∈D.all,x≠co:=λx hx=>by rcases hD2 x hx with e | e<;>omega
 have h14:C6 D np (cf.threads+1) w15 ⟨Ce.new np,λ_=>v6,0⟩:=((((h2.keep0 ((((hf3.trans hn4.fr).trans hf5).trans hf6).trans hf7)).keep f79 (λx hx=>by simpa using nco x hx)).keep0 f9c).keep fce (λx hx=>by simpa using nco x hx)).keep0 hf15;refine⟨Oo h14 λw16 hf16 h16=>?_,trivial⟩;have s16:=hf16.size;have nD:∀x,w2.heap.size<=x->x∉D.S:=λx hx e=>by rcases hD2 x (D.sub x e)with e' | e'<;>omega
 have nDy:y∉D.S:=λe=>by
  rcases hD2 y (D.sub y e)with e'|e'
  ·exact h14.ok.z (e' ▸ by have:=D.subT y e;simpa[D6.all] using this)
  ·omega
 have c15:=hf15.at_ c14 (by simp);have c16:=hf16.at_ c15 (nD co (by omega));refine⟨⟨hf16.at_ (hf15.at_ Y14 (by simp)) nDy,_,c16,rfl⟩,?_⟩
 try simp only[zv]
 refine⟨AM c16 rfl rfl (by simp) λw17 hu17=>⟨⟨hu17.fr.at_ (hf16.at_ (hf15.at_ Y14 (by simp)) nDy) (by simp;omega),_,hu17.at_,rfl⟩,?_⟩,trivial⟩;have s17:=hu17.fr.size;generalize hr:St.slow np (cf.threads+1) ⟨Ce.new np,λ_=>v6,0⟩ cf.threads 4=r at *;have en:Co.new cf=⟨r.1,⟨[],v8,λ_=>v8⟩,⟨0,List.replicate nt (v8,0)⟩,List.replicate nt [], -1,cf.pages,0,List.replicate 8 [],r.2.1,0,0,0⟩:=by
  have e1:cf.pages.toNat=np:=by omega
  have e2:cf.threads.toNat=nt:=by omega
  unfold Co.new;simp only[e1,e2];rw[show Ce.new cf.pages=Ce.new (np:Int) by rw[hnp],hr]
 have nz:∀x∈D.S,w1.heap.size<=x/\x<w2.heap.size:=λx hx=>by
  rcases hD2 x (D.sub x hx)with e|e
  ·exact absurd (e ▸ (by have:=D.subT x hx;simpa[D6.all] using this):(0:Nat)∈D.st::D.ob::D.om::D.A.all) h14.ok.z
  ·exact e
 have one:∀ {a b:wd},Fr [co] a b->Fr (co::D.S) a b:=λh=>h.mono λx hx=>by simp only[yZ]at hx;simp[hx]
 have tl:∀ {a b:wd},Fr D.S a b->Fr (co::D.S) a b:=λh=>h.mono λx hx=>by simp[hx]
 have fc7:Fr (co::D.S) w12 w17:=(((one fce).trans hf15.w).trans (tl hf16)).trans (one hu17.fr);have f7e:Fr (co::D.S) w7 w17:=((one f79).trans f9c.w).trans fc7;have f11e:Fr (co::D.S) w11 w17:=hn12.fr.w.trans fc7;have f3e:Fr (co::D.S) w3 w17:=((((hn4.fr.trans hf5).trans hf6).trans hf7).w).trans f7e;have fT:Fr [] w w17:=f7.then f7e (λx hx=>by
  simp only[un]at hx;rcases hx with e|e
  ·exact wh (by omega)
  ·exact wh (by have:=nz x e;omega))
 have nD2:∀x,w2.heap.size<=x->x∉D.all:=λx hx e=>by rcases hD2 x e with e' | e'<;>omega
 have gx:∀x∈[G.gr,G.wa,G.sk,G.mb],x∉co::D.S:=λx hx e=>by
  have:=hG3 x hx;simp only[un]at e;rcases e with e|e
  ·omega
  ·have:=nz x e;omega
 have frng:∀x∈[co,re,bu]++(BM rv++BM bv)++[tr,sw] ,w3.heap.size<=x/\x<w17.heap.size:=λx hx=>by
  simp only[j4,un,b8,vi]at hx;rcases hx with ((e|e|e)|(e|e))|(e|e)
  ·omega
  ·omega
  ·omega
  ·have:=hv6 x e;omega
  ·have:=hv7 x e;omega
  ·omega
  ·omega
 have nx7:∀x,w4.heap.size<=x->x∉co::D.S:=λx hx e=>by
  simp only[un]at e;rcases e with e|e
  ·omega
  ·have:=nz x e;omega
 rw[en]at hk;have c17:=hu17.at_;refine hk ⟨⟨D,G,tr,sw,w17.heap.size⟩,co,re,bu,rv,bv⟩ ⟨vt v6 0 0,List.replicate nt (vt v6 0 0),List.replicate 8 (vt v6 0 0)⟩ w17 fT ?_ ?_ ?_
 ·simp[Mv.all,CM,BM,wc.ownBlock]
 ·intro x hx;simp only[C3.fix,Cp.fix,j4,un,b8,vi]at hx;rcases hx with (e|e|e|e|e)|(e|e|e|e|e|e)|e
  ·exact wh (by omega)
  ·exact wh (by omega)
  ·exact wh (by omega)
  ·exact wh (by have:=hv6 x e;omega)
  ·exact wh (by have:=hv7 x e;omega)
  ·exact wh (by omega)
  ·exact wh (by omega)
  ·exact wh (by have:=hG3 x (by simp[e]);omega)
  ·exact wh (by have:=hG3 x (by simp[e]);omega)
  ·exact wh (by have:=hG3 x (by simp[e]);omega)
  ·exact wh (by have:=hG3 x (by simp[e]);omega)
  ·rcases hD2 x e with e'|e'
   ·exact wg e'
   ·exact wh (by omega)
 ·have hNof:∀n,CM (List.replicate n (wc.slice v6 0 0))=[]:=λn=>by simp[CM,BM,wc.ownBlock]
  have stF:=h16.keep hu17.fr (λx hx=>by simpa using nco x hx);have gyF:CW G (vt v6 0 0) cf.stack w17 ⟨[],v8,λ_=>v8⟩:=h3.keep f3e (λx hx=>gx x (by
   simp only[CS.all,CS.S,BM,wc.ownBlock,un,b8,vi]at hx;simp only[un,b8,vi];omega))
  have hNd:∀x∈[tr,sw,G.gr,G.wa,G.sk,G.mb],x∉D.all:=λx hx=>nD2 x (by
   simp only[un,b8,vi]at hx;rcases hx with e|e|e|e|e|e
   ·omega
   ·omega
   all_goals have:=hG3 x (by simp[e]);omega)
  have hG4:=hG3;refine⟨⟨λx hx=>?_,λx hx=>?_⟩,⟨⟨?_,hNd,λx hx=>?_⟩,?_,gyF,?_,?_,by simp[BM,wc.ownBlock],va _,⟨p1,p2⟩,ck⟩,⟨_,c17,rfl,rfl,rfl,rfl,rfl,rfl,rfl,λj hj=>?_,rfl,rfl,rfl,rfl⟩,?_,?_,⟨by simp,λi a b=>?_,λi j a b _ x hx=>?_⟩,by simp,λl hl=>?_,?_,?_⟩
  ·have hx':w3.heap.size<=x/\x<w7.heap.size:=by
    simp only[C3.fix,j4,un]at hx;rcases hx with e|e|e|e|e
    ·omega
    ·omega
    ·omega
    ·have:=hv6 x e;omega
    ·have:=hv7 x e;omega
   intro e;simp only[Cp.fix,j4,un,b8,vi]at e;rcases e with (e|e|e|e|e|e)|e
   ·omega
   ·omega
   ·have:=hG3 x (by simp[e]);omega
   ·have:=hG3 x (by simp[e]);omega
   ·have:=hG3 x (by simp[e]);omega
   ·have:=hG3 x (by simp[e]);omega
   ·exact nD2 x (by omega) e
  ·simp only[C3.fix,j4,un]at hx;simp only;rcases hx with e|e|e|e|e
   ·omega
   ·omega
   ·omega
   ·have:=hv6 x e;omega
   ·have:=hv7 x e;omega
  ·have q1:=hG3 G.gr (by simp);have q2:=hG3 G.wa (by simp);have q3:=hG3 G.sk (by simp);have q4:=hG3 G.mb (by simp);simp only[Cp.fix];rw[j6,j6];refine⟨?_,?_,nd3⟩
   ·simp only[un,b8,vi];omega
   ·simp only[un,b8,vi];omega
  ·simp only[Cp.fix,j4,un,b8,vi]at hx;simp only;rcases hx with (e|e|e|e|e|e)|e
   ·omega
   ·omega
   ·have:=hG3 x (by simp[e]);omega
   ·have:=hG3 x (by simp[e]);omega
   ·have:=hG3 x (by simp[e]);omega
   ·have:=hG3 x (by simp[e]);omega
   ·rcases hD2 x e with e'|e'<;>omega
  ·have e1:cf.pages.toNat=np:=by omega
   rw[e1];exact stF
  ·exact f11e.at_ hn11.at_ (nx7 tr (by omega))
  ·exact fc7.at_ hn12.at_ (nx7 sw (by omega))
  ·have:j=0∨j=1∨j=2∨j=3∨j=4∨j=5∨j=6∨j=7:=by omega
   rcases this with h|h|h|h|h|h|h|h<;>subst h<;>rfl
  ·exact h6.keep (hf7.w.trans f7e) (nx7 _ (by omega)) (λx hx=>nx7 x (by have:=hv6 x hx;omega))
  ·exact h7.keep f7e (nx7 _ (by omega)) (λx hx=>nx7 x (by have:=hv7 x hx;omega)) (by rw[hNof];simp)
  ·have e1:(List.replicate 8 (wc.slice v6 0 0))[i]=vt v6 0 0:=xW _;have e2:((List.replicate 8 ([]:List V2)).map Ck)[i]=[]:=by rw[zV,xW];rfl
   rw[e1,e2];exact BO.nil _ _ _
  ·have e1:(List.replicate 8 (wc.slice v6 0 0))[i]=vt v6 0 0:=xW _;rw[e1]at hx;simp[BM,wc.ownBlock]at hx
  ·rw[xN hl];simp
  ·simp only;rw[hNof];simp
  ·simp only;rw[hNof];simp
end
section
variable{K:VK}{w:wd}
def S4(a b:Int)(A:Option Addr)(n c:Nat):(Instr.build 141 #[(0,vq vy a),(1,vq vy b),(2,vt A n c)]).run vp w=.ok (vx #[vq vy a,vq vy b,vt A n c]) w:=by kernel_rfl
def RZ(T:Nat)(hT:T<=8)(win most:Int)(hw:1<=win/\win<=64)(hm:0<=most/\most<=win)(h:∀g bb w',Fr [] w w'->w.heap.size<=g->w.heap.size<=bb->Ec w' g bb T win most (λ_=>vt v6 0 0) (λ_=>[])->K (vr (vz ⟨g,0,v6⟩)) w'):
  I vp 42 #[vq vy (T:Int),vq vy win,vq vy most] w K:=by
 refine F42.sh (FF _ _ _ ?_);rw[show Dj win 1 64=win by unfold Dj;omega];refine FF _ _ _ ?_;rw[show Dj most 0 win=most by unfold Dj;omega];refine FF _ _ _ ?_;rw[show Dj (T:Int) 0 8=T by unfold Dj;omega]
 refine Be (e:=231) (sz:=3) (bytes:=40) (z:=vx #[vt v6 0 0,vq vy 0,vq vy 0]) T Tryz.underlying139 (by kernel_rfl) rfl (by decide) (by intro u hu;simp only[wc.cells,un,b8,vi]at hu;rcases hu with rfl | rfl | rfl<;>rfl) (by omega) (by omega) λbb w1 hn1 ho1=>?_;refine A7 (S4 _ _ _ _ _) (Ay λg w2 hn2=>?_);have lb:=BP hn1.at_
 refine h g bb w2 (hn1.fr.trans hn2.fr) (by have:=hn2.is;have:=hn1.fr.size;omega) (by have:=hn1.is;omega) ⟨hn2.at_,⟨_,hn2.fr.at_ hn1.at_ (by simp),?_,λt ht=>?_⟩,λt _=>BO.nil _ _ _,by have:=hn2.is;omega,by simp[BM,wc.ownBlock],by simp[BM,wc.ownBlock]⟩
 ·simp[size_madeCells]
 ·have e:∀k,k<3->(madeCells #[vt v6 0 0,vq vy 0,vq vy 0] (T*3))[t*3+k]?=(#[vt v6 0 0,vq vy 0,vq vy 0]:Array wc)[k]?:=λk hk=>by
   unfold madeCells;rw[Array.getElem?_map,Array.getElem?_range,vn (by omega)];simp only[j8];have:(t*3+k) % (#[vt v6 0 0,vq vy 0,vq vy 0]:Array wc).size=k:=by show (t*3+k) % 3=k;omega
   rw[this]
   match k,hk with
   | 0,_=>rfl
   | 1,_=>rfl
   | 2,_=>rfl
  exact⟨e 0 (by omega),⟨0,e 1 (by omega)⟩,⟨0,e 2 (by omega)⟩⟩
end
end
noncomputable section
variable{K:VK}{w:wd}{x0 y0 y1 y5 y6:wc}
namespace F11
def ann:=a1 [(3,[])]
def code:=cd f11
def BL:=tp f11
variable(K:VK)(w:wd)
@[irreducible]def k3:=nk ann 6 [] w [1,1] code (BL K)
end F11
def F11.k3.to(h:(K (vq vy 0) w)):F11.k3 K w:=qq h
def F11.sh(h:(Aw (wj (wc.cells x0) 23) w λa b=>Ak 10 a b λc d=>I vp 36 #[c] d λf g=>U .neq f (vq vy 0) g λi j=>Af i (K (vq vy 6) j) (F11.k3 K j))):I vp 11 #[x0] w K:=BK (A:=F11.ann) (args:=[x0]) (qq h)
def F31.sh(h:(Aw (wj #[vq vy 0,vq vy 0,vq vy 0,vq vy 0,vq vy 0,vq vy 0,vq vy 0,vq vy 0,vq vy 0,vq vy 0] 23) w λa b=>Am vp (Instr.build 23 #[(0,(vq vy 16)),(1,(vq vy 4)),(2,(vq vy 20)),(3,(vq vy 4)),(4,(vq vy 700)),(5,(vq vy 100)),(6,(vq vy 4)),(7,(vq vy 4)),(8,(vq vy 16)),(9,(vq vy 4))]) b λc d=>Aj 10 a c d λf=>Ak 10 a f λr4 _=>K r4 f)):I vp 31 #[] w K:=BK (A:=A0) (args:=[]) (qq h)
namespace F36
def ann:Cd:=⟨[(3,[1,5,6]),(6,[1,5,6]),(7,[1]),(9,[])],[(2,[1,5,6])],[],[(4,(tk [0,4,6,9,1,2,3,5,7,10,11,12] (.go 8 (.take 13 .fin) .fin)))],v6⟩
def code:=cd f36
def BL:=tp f36
variable(K:VK)(y1 y5 y6:wc)(w:wd)
def k7:=nk ann 37 [(1,y1)] w [1,1] code (BL K)
def l2:=nl ann 37 [(1,y1),(5,y5),(6,y6)] w [1,0,1,0] code (BL K)
def k3:=nk ann 37 [(1,y1),(5,y5),(6,y6)] w [1,0,1,0,0,1,1] code (BL K)
def k6:=nk ann 37 [(1,y1),(5,y5),(6,y6)] w [1,0,1,0,0,1,1,1] code (BL K)
def k9:=nk ann 37 [] w [1,1,1] code (BL K)
attribute [irreducible] k7 l2 k3 k6 k9
end F36
def F36.k7.to(h:(Ab 2 y1 w λa b=>Ad a b λc d=>Ab 4 y1 d λf g=>Ad f g λi j=>U .sub (vq vy 1000) i j λk m=>U .mul c k m λo p=>Ab 3 y1 p λq r=>Ad q r λs t=>U .mul (vq vy 1000) s t λu v=>U .lss o u v λx y=>Af x (K (vq vy 11) y) (F36.k9 K y))):F36.k7 K y1 w:=qq h
def F36.l2.to(h:(U .lss y6 (vq vy 10) w λa b=>Af a (F36.k3 K y1 y5 y6 b) (F36.k7 K y1 b))):F36.l2 K y1 y5 y6 w:=by unfold F36.l2 nl;exact BW (qq h)
def F36.k3.to(h:(Am vp (Instr.index 112 y5 y6) w λa b=>Aw (wj #[vr v6,vq vy 0,vq vy 0] 111) b λc d=>Aj 3 c a d λf=>A4 f λS g=>Ab 0 c g λi j=>Ab 1 c j λk m=>Ab 2 c m λo p=>Ab 0 c p λq r=>Al S i r λs t=>Ag s t λu v=>Al S u v λx y=>Al S k y λz aa=>Al S o aa λab ac=>Al S q ac λad ae=>Ag ad ae λaf ag=>Al S af ag λah ai=>(I vp 66 #[x,z,ab] ai λaj ak=>(S ak/\
 U .neq aj ah ak λal am=>Af al (U .add y6 (vq vy 1) am λan ao=>K an ao) (F36.k6 K y1 y5 y6 am)))/\True)):F36.k3 K y1 y5 y6 w:=qq h
def F36.k6.to(h:(U .add y6 (vq vy 1) w λa b=>F36.l2 K y1 y5 a b)):F36.k6 K y1 y5 y6 w:=qq h
def F36.k9.to(h:(K (vq vy 0) w)):F36.k9 K w:=qq h
def F36.sh(h:(Aw (wj (wc.cells x0) 23) w λa b=>I vp 65 #[a] b λc d=>F36.l2 K a c (vq vy 0) d)):I vp 36 #[x0] w K:=BK (A:=F36.ann) (args:=[x0]) (qq h)
namespace F43
def ann:=a1 [(3,[1])]
def code:=cd f43
def BL:=tp f43
variable(K:VK)(y1:wc)(w:wd)
@[irreducible]def k3:=nk ann 13 [(1,y1)] w [1,1] code (BL K)
end F43
def F43.k3.to(h:(Ab 2 y1 w λa b=>Ad a b λc d=>Ab 4 y1 d λf g=>Ad f g λi j=>U .sub (vq vy 1000) i j λk m=>U .mul c k m λo p=>AG vp .quo 3 (.tmp 11) (.const (vq vy 1000)) o (vq vy 1000) p λq r=>K q r)):F43.k3 K y1 w:=qq h
def F43.sh(h:(Aw (wj (wc.cells x0) 23) w λa b=>Ak 10 a b λc d=>I vp 36 #[c] d λf g=>U .neq f (vq vy 0) g λi j=>Af i (K (vq vy 0) j) (F43.k3 K a j))):I vp 43 #[x0] w K:=BK (A:=F43.ann) (args:=[x0]) (qq h)
namespace F65
def ann:Cd:=⟨[],[],[],[(1,(tk [0,1,2,4,5,6,8,9,10,12,13,14,16,17,18,20,21,22,24,25,26,28,29,30,32,33,34,36,37,38,3,7,11,15,19,23,27,31,35,39,40] (.go 41 .fin .fin)))],v6⟩
end F65
def F65.sh(h:(Aw (wj #[vr v6,vq vy 0,vq vy 0,vr v6,vq vy 0,vq vy 0,vr v6,vq vy 0,vq vy 0,vr v6,vq vy 0,vq vy 0,vr v6,vq vy 0,vq vy 0,vr v6,vq vy 0,vq vy 0,vr v6,vq vy 0,vq vy 0,vr v6,vq vy 0,vq vy 0,vr v6,vq vy 0,vq vy 0,vr v6,vq vy 0,vq vy 0] 112) w λa b=>A4 b λS c=>Ag x0 c λd f=>Ab 0 d f λg i=>Ag x0 i λj k=>Ab 1 j k λm o=>Ag x0 o λp q=>Ab 2 p q λr s=>Ag x0 s λt u=>Ab 3 t u λv x=>Ag x0 x λy z=>Ab 4 y z λaa ab=>Ag x0 ab λac ad=>Ab 5 ac ad λae af=>Ag x0 af λag ah=>Ab 6 ag ah λai aj=>Ag x0 aj λak al=>Ab 7 ak al λam an=>Ag x0 an λao ap=>Ab 8 ao ap λaq ar=>Ag x0 ar λau av=>Ab 9 au av λaw ax=>
 ∃ay,(∀w',S w'->(Instr.build 111 #[(0,g),(1,(vq vy 2)),(2,(vq vy 64))]).run vp w'=.ok ay w')/\(∃az,(∀w',S w'->(Instr.build 111 #[(0,m),(1,(vq vy 1)),(2,(vq vy 8))]).run vp w'=.ok az w')/\(∃ba,(∀w',S w'->(Instr.build 111 #[(0,r),(1,(vq vy 1)),(2,(vq vy 64))]).run vp w'=.ok ba w')/\(∃bb,(∀w',S w'->(Instr.build 111 #[(0,v),(1,(vq vy 1)),(2,(vq vy 16))]).run vp w'=.ok bb w')/\(∃bc,(∀w',S w'->(Instr.build 111 #[(0,aa),(1,(vq vy 0)),(2,(vq vy 1000))]).run vp w'=.ok bc w')/\(∃bd,(∀w',S w'->(Instr.build 111 #[(0,ae),(1,(vq vy 0)),(2,(vq vy 65535))]).run vp w'=.ok bd w')/\(∃be,(∀w',S w'->(Instr.build 111 #[(0,ai),(1,(vq vy 0)),(2,(vq vy 64))]).run vp w'=.ok be w')/\(∃bf,(∀w',S w'->(Instr.build 111 #[(0,am),(1,(vq vy 1)),(2,(vq vy 16))]).run vp w'=.ok bf w')/\(∃bg,(∀w',S w'->(Instr.build 111 #[(0,aq),(1,(vq vy 1)),(2,(vq vy 256))]).run vp w'=.ok bg w')/\(∃bh,(∀w',S w'->(Instr.build 111 #[(0,aw),(1,(vq vy 0)),(2,(vq vy 64))]).run vp w'=.ok bh w')/\(∃bi,(∀w',S w'->(Instr.build 112 #[(0,ay),(1,az),(2,ba),(3,bb),(4,bc),(5,bd),(6,be),(7,bf),(8,bg),(9,bh)]).run vp w'=.ok bi w')/\((Aj 30 a bi ax λbj=>
 (S bj/\
 Ak 30 a bj λr35 _=>K r35 bj))/\True))))))))))))):I vp 65 #[x0] w K:=BK (A:=F65.ann) (args:=[x0]) (qq h)
def F7.sh(h:(I vp 31 #[] w λa b=>Aw (wj #[vq vy 0,vq vy 0,vq vy 0,vq vy 0,vq vy 0,vq vy 0,vq vy 0,vq vy 0,vq vy 0,vq vy 0] 23) b λc d=>Aj 10 c a d λf=>Ak 10 c f λg i=>Am vp (Instr.build 40 #[(0,(vq vy 1))]) i λj k=>Am vp (Instr.build 40 #[(0,(vq vy 3)),(6,(vq vy 2)),(5,(vq vy 1))]) k λm o=>Am vp (Instr.build 40 #[(0,(vq vy 17))]) o λp q=>Am vp (Instr.build 40 #[(0,(vq vy 14))]) q λr s=>Am vp (Instr.build 40 #[(0,(vq vy 14))]) s λt u=>Am vp (Instr.build 40 #[(0,(vq vy 16)),(6,(vq vy 64))]) u λv x=>Am vp (Instr.buildSlice 24 6 #[(0,j),(1,m),(2,p),(3,r),(4,t),(5,v)]) x λy z=>I vp 9 #[g,y] z λaa ab=>Av 0 aa ab λac ad=>Av 1 aa ad λae af=>U .eql ae (vq vy 0) af λag ah=>Aa v7 ag (λK=>K ac ah) ah λai aj=>Aa v7 ag (AH ai aj) aj λak al=>Aa v7 ag (U .eql ak (vq vy 6) al) al λam an=>Ar (vz ag) (vz am) (vz (vw v8)) an λao ap=>Aa v7 ao (λK=>K ac ap) ap λaq ar=>
 Aa v7 ao (A6 5 aq (vq vy 1) ar) ar λau av=>Aa v7 ao (Ak 5 au av) av λaw ax=>Aa v7 ao (λK=>Am vp (Instr.build 38 #[(1,(vq vy 2)),(2,(vq vy 1))]) ax K) ax λay az=>Aa v7 ao (AG vp .eql 38 (.tmp 27) (.tmp 28) aw ay az) az λba bb=>Ar (vz ao) (vz ba) (vz (vw v8)) bb λbc bd=>Aa v7 bc (λK=>K ac bd) bd λbe bf=>Aa v7 bc (A6 5 be (vq vy 5) bf) bf λbg bh=>Aa v7 bc (Ab 0 bg bh) bh λbi bj=>Aa v7 bc (Ad bi bj) bj λbk bl=>Aa v7 bc (U .eql bk (vq vy 0) bl) bl λbm bn=>Ar (vz bc) (vz bm) (vz (vw v8)) bn λbo bp=>Aa v7 bo (λK=>K ac bp) bp λbq br=>Aa v7 bo (A6 5 bq (vq vy 5) br) br λbs bt=>Aa v7 bo (Ab 3 bs bt) bt λbu bv=>Aa v7 bo (Ad bu bv) bv λbw bx=>Aa v7 bo (U .eql bw (vq vy 2) bx) bx λbz ca=>Ar (vz bo) (vz bz) (vz (vw v8)) ca λcb cc=>K cb cc)):I vp 7 #[] w K:=BK (A:=A0) (args:=[]) (qq h)
namespace F8
def ann:=a1 [(3,[0])]
def code:=cd f8
def BL:=tp f8
variable(K:VK)(y0:wc)(w:wd)
@[irreducible]def k3:=nk ann 9 [(0,y0)] w [1,1] code (BL K)
end F8
def F8.k3.to(h:(K y0 w)):F8.k3 K y0 w:=qq h
def F8.sh(h:(AH x0 w λa b=>U .gtr a (vq vy 70) b λc d=>Af c (Am vp (Instr.sliceAt 24 x0 v6 (vz (vq vy 70)) v6) d λf g=>K f g) (F8.k3 K x0 d))):I vp 8 #[x0] w K:=BK (A:=F8.ann) (args:=[x0]) (qq h)
end
end Go.Proofs.QV
