/- Part 3 of what the law needs: own lemmas, in the order in which they build. -/
import Derived.Shelf.SlSortCmp.NoneTotal
import Derived.Maps.RangeRun
import Derived.Laws.StructEq
import Derived.Laws.Bits128
import Derived.Test.YtcakfaakbpdklaaGreatDoorProg
import Derived.Test.YtcakfaakbpdklaaGreatDoorTopEnds02
set_option linter.defProp false
set_option linter.unusedSimpArgs false
set_option linter.unusedVariables false
set_option maxRecDepth 100000
namespace Go.Proofs.QV
open Go Go.Proofs.Tryz
open Go.Proofs.Tryz renaming prog->Z
open Go.IntKind renaming i64->wg
open Go.Value renaming int->v6,pointer->v7,tuple->wc,bool->wd
open Option renaming some->wh
open Option renaming none->wj
open Bool renaming true->wk
open Bool renaming false->wl
open Go renaming Value->wm
open Go renaming World->wn
open Go renaming Program->wq
open Or renaming inl->wr
open Or renaming inr->ws
section
open Go.Proofs Go.RowKit
section
variable{DS:Int->Prop}{cf:Cf}{E:Int}{c:Co}{m:Ma}
def MI.unitD(L:C3 cf)(h:MI cf E c)(q:QF DS c):QF DS (c.unit cf).1:=q.unit h.k L.ch L.pg (h.ks L)
theorem QF.workN(L:C3 cf):∀(n:Nat) (c:Co) (E:Int),MI cf E c->QF DS c->E+5*n<=1000000000->QF DS (c.workN cf n).1
 | 0,c,E,h,q,_=>q
 | n+1,c,E,h,q,hE=>by
  have h1:=h.unit L (by omega);have q1:=h.unitD L q;unfold Co.workN;generalize c.unit cf=z at h1 q1;obtain⟨d,b⟩:=z;cases b with
  | true=>exact QF.workN L n d _ h1 q1 (by omega)
  | false=>exact q1
def FH(m:Ma)(t n:Int):(m.charge cf t n).co=m.co:=by unfold Ma.charge;split<;>rfl
end
structure K0(c:Co):Prop where
 ph:2<=c.phase/\c.phase<=3
 mg:∀a:Nat,c.g.mks a=wk->c.global=a
 bf:∀l∈c.b,l=[]
section
variable{DS:Int->Prop}{cf:Cf}{E:Int}{c:Co}{m:Ma}
theorem K0.adv:∀(d:Nat) (c:Co),K0 c->K0 (c.advance cf d)
 | 0,_,h=>h
 | d+1,c,h=>by
  rw[Co.advance];have:=h.ph;split
  ·rw[vx (by omega)];split
   ·exact K0.adv d _ ⟨⟨show (2:Int)<=3 by decide,show (3:Int)<=3 by decide⟩,h.mg,h.bf⟩
   ·rw[vx (by omega),vx (by omega)];exact h
  ·exact h
def RW(hp:c.phase<=1)(hm:∀a,c.g.mks a=wl):(c.adv cf).phase<=1∨K0 (c.adv cf):=by
 unfold Co.adv;rw[Co.advance];split
 ·split
  ·right;refine K0.adv 3 _ ?_;refine⟨⟨show (2:Int)<=2 by decide,show (2:Int)<=3 by decide⟩,λa ha=>?_,λl hl=>?_⟩
   ·have hg:Ep (λx:Nat=>c.global=x) c.g (c.g.shade cf.stack c.global):=GH cf.stack (λx:Nat=>c.global=x) c.g (a:=c.global) λn e=>e;rcases hg.new a ha with y|y
    ·rw[hm a]at y;cases y
    ·exact y.1
   ·simp only[Co.raise,u7]at hl;obtain⟨_,_,rfl⟩:=hl;rfl
  ·rw[vx (by omega),vx (by omega),vx (by omega)];exact wr hp
 ·exact wr hp
def KI.beginC_fr(h:KI cf E c)(hp:c.phase<=1):(c.beginC cf).1.phase<=1∨K0 (c.beginC cf).1:=by
 unfold Co.beginC;split
 ·exact RW (c:=({ c with units:=0 }:Co).raise 1) (show (1:Int)<=1 by decide) (h.p01 hp)
 ·exact wr hp
def KI.poll_fr(h:KI cf E c)(hp:c.phase<=1)(t:Int):(c.poll cf t).phase<=1∨K0 (c.poll cf t):=by
 unfold Co.poll;split
 ·simp only;rw[vx (by omega),vx (by omega)];exact RW hp (h.p01 hp)
 ·exact wr hp
def TV(c:Co)(a:Int):(c.color cf a).phase=c.phase/\(c.color cf a).cycles=c.cycles:=by
 unfold Co.color;split
 ·exact⟨rfl,rfl⟩
 ·split<;>exact⟨rfl,rfl⟩
end
def GZ(c:Co):Prop:=∃fs,Cw c.s.c c.global.toNat 0 fs
section
variable{cf:Cf}{E:Int}{c:Co}{m:Ma}
def GZ.of{c':Co}(h:GZ c)(hs:c'.s=c.s)(hg:c'.global=c.global):GZ c':=by unfold GZ;rw[hs,hg];exact h
def GZ.kept{c':Co}(h:GZ c)(hk:C0 c.s.c c'.s.c c.global.toNat)(hg:c'.global=c.global):GZ c':=by obtain⟨fs,o⟩:=h;unfold GZ;rw[hg];exact⟨fs,hk.obj.2 o⟩
theorem HA:∀(d:Nat) (c:Co),(c.advance cf d).global=c.global
 | 0,c=>rfl
 | d+1,c=>by
  rw[Co.advance];split
  ·split
   ·exact HA d _
   split
   ·exact HA d _
   split
   ·exact HA d _
   split
   ·exact HA d _
   ·rfl
  ·rfl
def GZ.adv(h:GZ c):GZ (c.adv cf):=h.of (Gj cf 4 c) (HA 4 c)
def GZ.beginC(h:GZ c):GZ (c.beginC cf).1:=h.of (NS cf c) (by
 unfold Co.beginC;split
 ·exact HA 4 _
 ·rfl)
def GZ.detach(hk:KI cf E c)(h:GZ c)(t:Int):GZ (c.detach cf t):=by
 unfold Co.detach;split
 ·simp only;refine GZ.adv ?_;obtain⟨s1,s2,_⟩:=St.quit_ok hk.si t;exact h.kept (s2 _) rfl
 ·exact h
def GZ.poll(h:GZ c)(t:Int):GZ (c.poll cf t):=h.of (OD cf c t) (by
 unfold Co.poll;split
 ·simp only[Co.adv];rw[HA];split
  ·rfl
  ·split<;>rfl
 ·rfl)
def Qe(c:Co)(t:Int)(v:V2):(c.push t v).1.global=c.global:=by unfold Co.push;split<;>rfl
def XR(c:Co)(t:Int):(c.pop t).1.global=c.global:=by
 unfold Co.pop;split
 ·split<;>rfl
 ·rfl
def TU(c:Co)(a:Int):(c.color cf a).global=c.global:=by
 unfold Co.color;split
 ·rfl
 ·split<;>rfl
def KI.gtk(hk:KI cf E c):c.s.c.tk c.global.toNat=wk:=(hk.ni.gl c.global.toNat (by have:=hk.gn;omega)).1
def GZ.newO(hk:KI cf E c)(h:GZ c){s':St}{a n:Nat}(hn:Gi c.s s' a n):GZ (({ c with s:=s' }:Co).color cf (a:Int)):=by
 have hne:c.global.toNat≠a:=λe=>by
  have:=hk.gtk;rw[e,hn.off]at this;cases this
 refine (h.kept (c':={ c with s:=s' }) (hn.kept _ hne) rfl).of (Kg cf _ _) (TU _ _)
def GZ.write(hk:KI cf E c)(h:GZ c){t a:Nat}{i:Int}{v:V2}(ha:VG c t (2,(a:Int)))(hv:VG c t v):GZ (c.write (t:Int) (a:Int) i v).1:=by
 unfold Co.write;split
 rotate_left
 ·exact h
 rename_i hc;obtain⟨hl,hmay,hget⟩:=hc;obtain⟨ser,fs,o,_⟩:=hk.si.hi.obj a (ha.kp a rfl).1;have e:=St.get_obj hk.si.hi.ci o i;have hi:0<=i:=by apply xI;intro hc;rw[vx hc]at e;rw[e]at hget;cases hget
 obtain⟨i,rfl⟩:=xU hi;rw[vy hi,zK]at e;have hlen:i<fs.length:=by apply xI;intro hc;rw[yG (by omega)]at e;rw[e]at hget;cases hget
 obtain⟨s1,s2,s3,s4,s5,s6⟩:=St.set_ok hk.si o (i:=(i:Int)) hv.ok (by omega);obtain⟨gfs,og⟩:=h;by_cases eg:c.global.toNat=a
 ·subst eg;obtain⟨rfl,_⟩:=o.same og;exact⟨_,s2⟩
 ·exact⟨gfs,(s3 _ eg).obj.2 og⟩
def OP(c:Co):(c.tUnit cf).1.global=c.global:=by
 unfold Co.tUnit Co.entry Co.look;split
 ·rfl
 split
 ·simp only;split<;>rfl
 ·simp only;split<;>rfl
def GZ.wUnit(hk:KI cf E c)(h:GZ c)(h5:c.phase=5):GZ (c.wUnit cf).1:=by
 unfold Co.wUnit;split
 ·exact h
 simp only;have hs:=DJ (c.s.inP c.at_) c hk.si (F4 _ _) λx hx=>by
  obtain⟨a,e,ta,_⟩:=(Ef hk.si).1 hx;exact⟨a,e,ta⟩
 generalize c.sweepAll (c.s.inP c.at_)=d at hs;obtain⟨t1,t2,t3,t4⟩:=St.trim_ok (hs.si hk.si) d.at_;have hg:=hk.gn;obtain⟨fs,o⟩:=h;refine⟨fs,?_⟩;simp only;rw[hs.global];refine (t2 _).obj.2 ?_;by_cases hx:(c.global.toNat:Int)∈c.s.inP c.at_
 ·obtain⟨a,ea,_,hp⟩:=(Ef hk.si).1 hx;have hkp:=(hk.ni.gl c.global.toNat (by omega)).2 h5;have:a=c.global.toNat:=by omega
  subst this;rcases hkp with y|y
  ·omega
  ·exact (hs.inn _ hx y).obj.2 o
 ·exact (hs.out _ hx).1.obj.2 o
def GZ.unit(hk:KI cf E c)(h:GZ c):GZ (c.unit cf).1:=by
 have hu:∀(r:Co × Bool),GZ r.1->GZ (if r.2 then ({ r.1 with units:=C7 (r.1.units+1) }:Co) else r.1):=λr h=>by
  split
  ·exact h
  ·exact h
 unfold Co.unit;refine hu _ ?_;split
 ·have k1:GZ (c.tUnit cf).1:=h.of (H7 cf c) (OP c);generalize c.tUnit cf=z at k1;obtain⟨d,b⟩:=z;cases b with
  | true=>exact k1
  | false=>exact GZ.adv (c:=d.raise 4) k1
 split
 ·rename_i h5;have k0:=h.wUnit hk h5;generalize c.wUnit cf=z at k0;obtain⟨d,b⟩:=z;simp only at k0 ⊢;split<;>exact k0
 ·exact h
theorem GZ.workN(L:C3 cf):∀(n:Nat) (c:Co) (E:Int),MI cf E c->GZ c->E+5*n<=1000000000->GZ (c.workN cf n).1
 | 0,c,E,h,q,_=>q
 | n+1,c,E,h,q,hE=>by
  have h1:=h.unit L (by omega);have q1:=q.unit h.k;unfold Co.workN;generalize c.unit cf=z at h1 q1;obtain⟨d,b⟩:=z;cases b with
  | true=>exact GZ.workN L n d _ h1 q1 (by omega)
  | false=>exact q1
def MJ.aheadZ(L:C3 cf)(h:MJ cf E m)(q:GZ m.co){n:Int}(hn:n<=64)(hE:E+320<=1000000000):GZ (m.ahead cf n).1.co:=by have h1:=GZ.workN L n.toNat m.co E h.c q (by omega);unfold Ma.ahead Ma.put;exact h1
def MJ.taxZ(L:C3 cf)(h:MJ cf E m)(q:GZ m.co)(x:Cd)(hE:E+320<=1000000000):GZ (m.tax cf x).1.co:=by
 unfold Ma.tax;split
 ·exact q
 simp only;split
 ·exact q
 simp only;have hb:=h.bk;have ht:=L.tx;have h1:=GZ.workN L (cf.tax-min (m.bi-m.bo) cf.tax).toNat m.co E h.c q (by omega);rw[FH];exact h1
def MI.fastZ(h:MI cf E c)(q:GZ c)(hE:E<=1000000000)(t:Nat)(n:Int){a:Nat}{c':Co}(e:c.fast cf (t:Int) n=(c',wh (a:Int))):GZ c':=by
 rcases h.k.fast (by have:=h.md;omega) t n with e1|⟨a1,s1,c1,e1,n1,e2,_,_,e5⟩
 ·rw[e1]at e;cases (ve.1 e).2
 ·rw[e1]at e;have ec:c1=c':=(ve.1 e).1;subst ec;rw[e2];exact q.newO h.k n1
def MI.slowZ(h:MI cf E c)(q:GZ c)(hE:E<=1000000000)(t:Nat)(n:Int){a:Nat}{c':Co}(e:c.slow cf (t:Int) n=(c',(a:Int),0)):GZ c':=by
 rcases h.k.slow (by have:=h.md;omega) t n with⟨e0,ne,e1⟩|⟨a1,s1,c1,e1,n1,e2,_,_,e5⟩
 ·rw[e1]at e;have:=(ve.1 (ve.1 e).2).2;exact absurd this ne
 ·rw[e1]at e;have ec:c1=c':=(ve.1 e).1;subst ec;rw[e2];exact q.newO h.k n1
def MJ.slowMZ(L:C3 cf)(h:MJ cf E m)(q:GZ m.co){x:Cd}{t:Nat}(ht:x.t=t)(hE:E+330<=1000000000):GZ (m.slow cf x).1.co:=by
 unfold Ma.slow;simp only;have h1:MJ cf (E+5) (if m.co.phase=0/\Dt m.co.s.c.ks<cf.trigger then ({ m with co:=(m.co.beginC cf).1 }:Ma) else m)/\GZ (if m.co.phase=0/\Dt m.co.s.c.ks<cf.trigger then ({ m with co:=(m.co.beginC cf).1 }:Ma) else m).co:=by
  split
  ·exact⟨h.co (h.c.beginC (by omega)),q.beginC⟩
  ·exact⟨h.up (by omega),q⟩
 generalize (if m.co.phase=0/\Dt m.co.s.c.ks<cf.trigger then ({ m with co:=(m.co.beginC cf).1 }:Ma) else m)=m1 at h1;obtain⟨j1,q1⟩:=h1;have h2:=j1.tax L x (by omega);have q2:=j1.taxZ L q1 x (by omega);generalize m1.tax cf x=z at h2 q2;obtain⟨m2,y⟩:=z;simp only at h2 q2 ⊢;by_cases hc:y.code≠0
 ·rw[vy hc];exact q2
 rw[vx hc,ht];rcases h2.c.slow (by omega) t x.n with⟨e0,e1,e⟩|⟨a,c',e,e1,e2⟩
 ·rw[e];exact q2
 ·have g1:=h2.c.slowZ q2 (by omega) t x.n e;rw[e];exact g1
def MJ.gotZ(q:GZ m.co)(x:Cd)(a:Int)(y:Ch):GZ (m.got x a y).1.co:=by unfold Ma.got;exact q.of (JL _ _ _) (Qe _ _ _)
def MJ.allocZ(L:C3 cf)(h:MJ cf E m)(q:GZ m.co){x:Cd}{t:Nat}(ht:x.t=t)(hE:E+330<=1000000000):GZ (m.alloc cf x).1.co:=by
 unfold Ma.alloc;split
 ·exact q
 split
 ·exact q
 rw[ht];rcases h.c.fast (by omega) t x.n with e|⟨a,c',e,e1,e2⟩
 ·rw[e];simp only;have g1:=h.slowMZ L q ht hE;split
  ·exact g1
  ·exact MJ.gotZ g1 _ _ _
 ·have g1:=h.c.fastZ q (by omega) t x.n e;rw[e];exact MJ.gotZ (m:={ m with co:=c' }) g1 _ _ _
def MJ.pushSZ(q:GZ m.co)(x:Cd):GZ (m.pushS x).1.co:=by
 unfold Ma.pushS;split
 ·exact q
 have hp:GZ (m.co.push x.t (m.value x).1).1:=q.of (JL _ _ _) (Qe _ _ _);generalize m.co.push x.t (m.value x).1=z at hp;obtain⟨c,o⟩:=z;cases o
 ·exact q
 ·exact hp
def MJ.doSZ(L:C3 cf)(h:MJ cf E m)(q:GZ m.co){x:Cd}(hx:x.kd<16->∃t:Nat,x.t=t/\(x.kd≠1->m.co.r.live (t:Int)=wk))(hE:E+330<=1000000000):GZ (m.doS cf x).1.co:=by
 unfold Ma.doS;split
 ·exact q
 split
 ·exact GZ.detach h.c.k q x.t
 split
 ·rename_i hk;obtain⟨t,ht,_⟩:=hx (by omega);exact h.allocZ L q ht hE
 split
 ·exact MJ.pushSZ q x
 split
 ·have hp:GZ (m.co.pop x.t).1:=q.of (Re _ _) (XR _ _);generalize m.co.pop x.t=z at hp;obtain⟨c,o⟩:=z;cases o
  ·exact q
  ·exact hp
 split
 ·rename_i hk;obtain⟨t,ht,hl⟩:=hx (by omega);have hl:=hl (by omega);unfold Ma.writeS;split
  ·exact q
  rename_i ho;obtain⟨a,e,hg⟩:=h.object ht hl (by omega);rw[ht,e];cases hr:m.root (t:Int) x.j with
  | none=>exact q
  | some v=>exact GZ.write h.c.k q hg (h.root hl hr)
 split
 ·exact q
 split
 ·exact q.poll x.t
 unfold Ma.spend;split
 ·split
  ·exact q.beginC
  ·exact q
 split
 ·exact q
 rename_i hn;split
 ·exact q
 split
 ·exact h.aheadZ L q (by omega) (by omega)
 split
 ·exact q
 split
 ·exact q
 simp only;rw[FH];exact h.aheadZ L q (by omega) (by omega)
def MJ.stepZ(L:C3 cf)(h:MJ cf E m)(q:GZ m.co)(x:Cd)(hE:E+330<=1000000000):GZ (m.step cf x).1.co:=by
 unfold Ma.step;split
 ·exact q
 rename_i hc;split
 ·exact q
 rename_i hw;have hc:=Mr (by omega:x.check=0);have h1:=h.doSZ L q (x:=x) (λhk=>by
  obtain⟨w1,w2⟩:=N6 (by omega:m.who cf x=0) hk;refine⟨x.t.toNat,by omega,λhne=>?_⟩;rw[yV hc.1];exact w2 hne) hE
 simp only;split
 ·exact h1
 ·exact h1
def GZ.new(hp:1<=cf.pages/\cf.pages<=64)(ht:0<=cf.threads/\cf.threads<=8):GZ (Co.new cf):=by obtain⟨a,s',e,hn,_⟩:=Le cf hp ht;unfold GZ Co.new;simp only;rw[e];exact⟨_,by simpa using hn.obj⟩
end
def VI(c:Co):Prop:=∀l∈c.th,∀v∈l,Dp v=wk
section
variable(cf:Cf)
theorem Mo:∀(d:Nat) (c:Co),(c.advance cf d).th=c.th
 | 0,_=>rfl
 | d+1,c=>by
  unfold Co.advance
  repeat' split
  all_goals first | rfl | (rw[Mo];done) | (rw[Mo];rfl)
def Tk(c:Co):(c.tUnit cf).1.th=c.th:=by
 unfold Co.tUnit
 repeat' split
 all_goals first | rfl | (unfold Co.entry;simp only;split<;>rfl) | (split<;>rfl)
theorem Nq:∀(l:List Int) (c:Co),(c.sweepAll l).th=c.th
 | [],_=>rfl
 | a::l,c=>by
  rw[Co.sweepAll,Nq l];unfold Co.sweepOne;split<;>rfl
def Yg(c:Co):(c.wUnit cf).1.th=c.th:=by
 unfold Co.wUnit;split
 ·rfl
 ·exact Nq _ c
def YG(c:Co):(c.unit cf).1.th=c.th:=by
 have h1:∀(r:Co × Bool),r.1.th=c.th->(if r.2 then ({ r.1 with units:=C7 (r.1.units+1) }:Co) else r.1).th=c.th:=λr h=>by split<;>exact h
 unfold Co.unit;refine h1 _ ?_;split
 ·have ht:=Tk cf c;generalize c.tUnit cf=z at ht;obtain⟨d,b⟩:=z;cases b with
  | true=>exact ht
  | false=>simp only;unfold Co.adv;rw[Mo];exact ht
 ·split
  ·have hw:=Yg cf c;generalize c.wUnit cf=z at hw;obtain⟨d,b⟩:=z;simp only at hw ⊢;split<;>exact hw
  ·rfl
theorem N7:∀(n:Nat) (c:Co),(c.workN cf n).1.th=c.th
 | 0,_=>rfl
 | n+1,c=>by
  have h:=YG cf c;unfold Co.workN;generalize c.unit cf=z at h;obtain⟨d,b⟩:=z;cases b with
  | true=>exact (N7 n d).trans h
  | false=>exact h
def Sa(c:Co):(c.beginC cf).1.th=c.th:=by
 unfold Co.beginC Co.adv;split
 ·simp only;rw[Mo];rfl
 ·rfl
def YB(c:Co)(t:Int):(c.poll cf t).th=c.th:=by
 unfold Co.poll Co.adv;split
 ·simp only;rw[Mo];split
  ·rfl
  ·split<;>rfl
 ·rfl
def VI.set{c:Co}(h:VI c){i:Nat}{l:List V2}(hl:∀v∈l,Dp v=wk):∀k∈c.th.set i l,∀v∈k,Dp v=wk:=λk hk v hv=>by
 rcases xO hk with g|rfl
 ·exact h k g v hv
 ·exact hl v hv
def VI.row{c:Co}(h:VI c)(i:Nat):∀v∈c.th.getD i [],Dp v=wk:=λv hv=>by
 rw[xF]at hv;cases hg:c.th[i]? with
 | none=>rw[hg]at hv;cases hv
 | some l=>rw[hg]at hv;exact h l (yR hg) v hv
def VI.detach{c:Co}(h:VI c)(t:Int):VI (c.detach cf t):=by
 unfold Co.detach Co.adv;split
 ·simp only;unfold VI;rw[Mo];exact h.set λv hv=>by cases hv
 ·exact h
def VI.push{c:Co}(h:VI c)(t:Int)(v:V2):VI (c.push t v).1:=by
 unfold Co.push;split
 ·rename_i hc;refine h.set λx hx=>?_;rcases n7.1 hx with g|g
  ·exact h.row _ x g
  ·rw[zF.1 g];have:=hc.2.1;unfold Co.may at this;simp only[zY]at this;exact this.1
 ·exact h
def VI.pop{c:Co}(h:VI c)(t:Int):VI (c.pop t).1:=by
 unfold Co.pop;split
 ·split
  ·exact h.set λx hx=>h.row _ x (yO _ hx)
  ·exact h
 ·exact h
def L6(c:Co)(a:Int):(c.color cf a).th=c.th:=by
 unfold Co.color;split
 ·rfl
 ·split<;>rfl
def Y5(c:Co)(t n:Int):(c.fast cf t n).1.th=c.th:=by
 unfold Co.fast;split
 ·generalize c.s.fast t n=z;obtain⟨s',o⟩:=z;cases o with
  | none=>rfl
  | some a=>simp only;rw[L6]
 ·rfl
def YE(c:Co)(t n:Int):(c.slow cf t n).1.th=c.th:=by
 unfold Co.slow;split
 ·generalize c.s.slow cf.pages.toNat (cf.threads+1) t n=z;obtain⟨s',a,e⟩:=z;simp only;split
  ·rw[L6]
  ·rfl
 ·rfl
def writeT(c:Co)(t a i:Int)(v:V2):(c.write t a i v).1.th=c.th:=by unfold Co.write;split<;>rfl
def PP(m:Ma)(t n:Int):(m.charge cf t n).co=m.co:=by unfold Ma.charge;split<;>rfl
def VI.of{c d:Co}(h:VI c)(e:d.th=c.th):VI d:=by unfold VI;rw[e];exact h
def Zw(m:Ma)(x:Cd):(m.tax cf x).1.co.th=m.co.th:=by
 unfold Ma.tax;split
 ·rfl
 ·simp only;split
  ·rfl
  ·simp only;rw[PP];exact N7 cf _ _
def XK(m:Ma)(x:Cd):(m.slow cf x).1.co.th=m.co.th:=by
 unfold Ma.slow;simp only;have h1:(if m.co.phase=0/\Dt m.co.s.c.ks<cf.trigger then ({ m with co:=(m.co.beginC cf).1 }:Ma) else m).co.th=m.co.th:=by
  split
  ·exact Sa cf _
  ·rfl
 generalize (if m.co.phase=0/\Dt m.co.s.c.ks<cf.trigger then ({ m with co:=(m.co.beginC cf).1 }:Ma) else m)=m1 at h1;have h2:=Zw cf m1 x;rw[h1]at h2;generalize m1.tax cf x=z at h2;obtain⟨m2,y⟩:=z;simp only at h2 ⊢;split
 ·exact h2
 ·exact (YE cf _ _ _).trans h2
def VI.alloc{m:Ma}(h:VI m.co)(x:Cd):VI (m.alloc cf x).1.co:=by
 unfold Ma.alloc;split
 ·exact h
 split
 ·exact h
 have hf:=Y5 cf m.co x.t x.n;generalize m.co.fast cf x.t x.n=z at hf;obtain⟨c,o⟩:=z;cases o with
 | some a=>exact VI.push (h.of hf) _ _
 | none=>
  simp only;have h2:=XK cf m x;split
  ·exact h.of h2
  ·exact VI.push (h.of h2) _ _
def VI.step{m:Ma}(h:VI m.co)(x:Cd):VI (m.step cf x).1.co:=by
 have hd:VI (m.doS cf x).1.co:=by
  unfold Ma.doS;split
  ·exact h
  split
  ·exact h.detach cf _
  split
  ·exact h.alloc cf x
  split
  ·unfold Ma.pushS;split
   ·exact h
   ·have hp:=h.push x.t (m.value x).1;generalize m.co.push x.t (m.value x).1=z at hp;obtain⟨c,o⟩:=z;cases o
    ·exact h
    ·exact hp
  split
  ·have hp:=h.pop x.t;generalize m.co.pop x.t=z at hp;obtain⟨c,o⟩:=z;cases o
   ·exact h
   ·exact hp
  split
  ·unfold Ma.writeS;split
   ·exact h
   ·split
    ·exact h
    ·exact h.of (writeT _ _ _ _ _)
  split
  ·exact h
  split
  ·exact h.of (YB cf _ _)
  unfold Ma.spend;split
  ·split
   ·exact h.of (Sa cf _)
   ·exact h
  split
  ·exact h
  split
  ·exact h
  split
  ·exact h.of (N7 cf _ _)
  split
  ·exact h
  split
  ·exact h
  simp only;rw[PP];exact h.of (N7 cf _ _)
 unfold Ma.step;split
 ·exact h
 split
 ·exact h
 simp only;split
 ·exact hd
 ·exact hd
def VI.new:VI (Ma.new cf).co:=λl hl v hv=>by
 have:l=[]:=(List.mem_replicate.1 hl).2;rw[this]at hv;cases hv
end
structure Lk(c d:Co):Prop where
 th:d.th=c.th
 live:∀t:Int,d.r.live t=c.r.live t
 gl:d.global=c.global
 made:d.s.made=c.s.made
 kp:∀a,Cy d a->Cy c a/\C0 c.s.c d.s.c a
def Lk.refl(c:Co):Lk c c:=⟨rfl,λ_=>rfl,rfl,rfl,λa h=>⟨h,C0.refl _ _⟩⟩
def Lk.trans{c d e:Co}(h:Lk c d)(k:Lk d e):Lk c e:=
 ⟨k.th.trans h.th,λt=>(k.live t).trans (h.live t),k.gl.trans h.gl,k.made.trans h.made,λa x=>by
  obtain⟨y,k1⟩:=k.kp a x;obtain⟨z,k2⟩:=h.kp a y;exact⟨z,k2.trans k1⟩⟩
def Lk.of{c d:Co}(hs:d.s=c.s)(ht:d.th=c.th)(hl:∀t:Int,d.r.live t=c.r.live t)(hg:d.global=c.global)(hk:∀a,Cy d a->Cy c a):Lk c d:=
 ⟨ht,hl,hg,by rw[hs],λa x=>⟨hk a x,by rw[hs];exact C0.refl _ _⟩⟩
def Lk.all{c d:Co}(h5:c.phase≠5)(hs:d.s=c.s)(ht:d.th=c.th)(hl:∀t:Int,d.r.live t=c.r.live t)(hg:d.global=c.global):Lk c d:=
 .of hs ht hl hg λa x=>⟨by rw[<-hs];exact x.1,λe=>absurd e h5⟩
section
variable{cf:Cf}{E:Int}{c:Co}
theorem Ha:∀(d:Nat) (c:Co),Lk c (c.advance cf d)
 | 0,c => .refl c
 | d+1,c=>by
  rw[Co.advance];split
  ·split
   ·refine Lk.trans ?_ (Ha d _);exact Lk.all (by omega) rfl rfl (λ_=>rfl) rfl
   split
   ·refine Lk.trans ?_ (Ha d _);exact Lk.all (by omega) rfl rfl (λ_=>rfl) rfl
   split
   ·refine Lk.trans ?_ (Ha d _);exact Lk.all (by omega) rfl rfl (λ_=>rfl) rfl
   split
   ·refine Lk.trans ?_ (Ha d _);exact Lk.all (by omega) rfl rfl (λ_=>rfl) rfl
   ·exact .refl c
  ·exact .refl c
def MO(c:Co):Lk c (c.beginC cf).1:=by
 unfold Co.beginC;split
 ·simp only[Co.adv];refine Lk.trans ?_ (Ha 4 _);exact Lk.all (by omega) rfl rfl (λ_=>rfl) rfl
 ·exact .refl c
def Ek(r:Rg)(t u:Int):(r.confirm t).1.live u=r.live u:=by
 unfold Rg.confirm;split
 ·rename_i h;obtain⟨h0,h1,_⟩:=CW.1 h.1;rw[FB h0 h1];split
  ·rename_i e;rw[e,h.1]
  ·rfl
 ·rfl
def H6(c:Co)(t:Int):Lk c (c.poll cf t):=by
 unfold Co.poll;split
 ·simp only[Co.adv];refine Lk.trans ?_ (Ha 4 _);split
  ·exact Lk.all (by omega) rfl rfl (λu=>Ek c.r t u) rfl
  split
  ·exact Lk.all (by omega) rfl rfl (λu=>Ek c.r t u) rfl
  ·exact Lk.of rfl rfl (λu=>Ek c.r t u) rfl λa x=>x
 ·exact .refl c
def KI.detach_lk(h:KI cf E c)(t:Int)(hl:c.r.live t=wk):Lk { c with th:=c.th.set t.toNat [],r:=c.r.detach t } (c.detach cf t):=by
 unfold Co.detach;rw[vy hl];simp only[Co.adv];refine Lk.trans ?_ (Ha 4 _);obtain⟨s1,s2,s3⟩:=St.quit_ok h.si t;refine⟨rfl,λ_=>rfl,rfl,s3,λa x=>⟨⟨?_,λe5=>?_⟩,s2 a⟩⟩
 ·have:=x.1;rw[<-(s2 a).1];exact this
 ·have hmk:c.marking=wl:=by have e5:c.phase=5:=e5;unfold Co.marking;simp;omega
  have:=x.2 e5;simpa[hmk] using this
def K6{r:Rg}{t:Int}(hl:r.live t=wk)(u:Int):(r.detach t).live u=if u=t then wl else r.live u:=by obtain⟨h0,h1,_⟩:=CW.1 hl;unfold Rg.detach;rw[vy hl,FB h0 h1]
def UJ(c:Co)(h3:c.phase=3):Lk c (c.tUnit cf).1/\(c.tUnit cf).1.phase=3:=by
 have hp:(c.tUnit cf).1.phase=c.phase/\(c.tUnit cf).1.r=c.r:=by
  unfold Co.tUnit Co.entry Co.look;split
  ·exact⟨rfl,rfl⟩
  split
  ·simp only;split<;>exact⟨rfl,rfl⟩
  ·simp only;split<;>exact⟨rfl,rfl⟩
 exact⟨Lk.all (by omega) (H7 cf c) (Tk cf c) (λt=>by rw[hp.2]) (OP c),hp.1.trans h3⟩
def KI.wUnit_lk(hk:KI cf E c)(h5:c.phase=5)(hp:cf.pages<=64):Lk c (c.wUnit cf).1:=by
 obtain⟨b5,a5,m5⟩:=hk.p5 h5;unfold Co.wUnit;split
 ·exact .refl c
 simp only;have hs:=DJ (c.s.inP c.at_) c hk.si (F4 _ _) λx hx=>by
  obtain⟨a,e,ta,_⟩:=(Ef hk.si).1 hx;exact⟨a,e,ta⟩
 generalize c.sweepAll (c.s.inP c.at_)=d at hs;obtain⟨t1,t2,t3,t4⟩:=St.trim_ok (hs.si hk.si) d.at_;refine⟨hs.th,λt=>by simp only;rw[hs.r],hs.global,t3.trans hs.made,λa x=>?_⟩;obtain⟨x1,x2⟩:=x;have x2:=x2 (by simp only;rw[hs.phase];exact h5);simp only at x1 x2;rw[(t2 a).1]at x1;rw[hs.at_,E9 (n:=c.at_+1) (by omega)]at x2;by_cases ha:(a:Int)∈c.s.inP c.at_
 ·have hm:c.g.mks a=wk:=by
   cases hm:c.g.mks a with
   | true=>rfl
   | false=>rw[hs.gone a ha hm]at x1;cases x1
  have k:=hs.inn a ha hm;exact⟨⟨by rw[<-k.1];exact x1,λ_=>ws hm⟩,k.trans (t2 a)⟩
 ·obtain⟨k,km⟩:=hs.out a ha;have tk:c.s.c.tk a=wk:=by rw[<-k.1];exact x1
  refine⟨⟨tk,λ_=>?_⟩,k.trans (t2 a)⟩;rcases x2 with y|y
  ·refine wr ?_;have:((a / 32:Nat):Int)≠c.at_:=λe=>ha ((Ef hk.si).2 ⟨a,rfl,tk,e⟩);omega
  ·exact ws (by rw[<-km];exact y)
def KI.unit_lk(hk:KI cf E c)(hch:0<=cf.chunk/\cf.chunk<=1000)(hp:1<=cf.pages/\cf.pages<=64)(hks:(c.s.c.ks.length:Int)=cf.pages):Lk c (c.unit cf).1:=by
 have hu:∀(r:Co × Bool),Lk c r.1->Lk c (if r.2 then ({ r.1 with units:=C7 (r.1.units+1) }:Co) else r.1):=λr h=>by
  split
  ·exact⟨h.th,h.live,h.gl,h.made,h.kp⟩
  ·exact h
 unfold Co.unit;refine hu _ ?_;split
 ·rename_i h3;obtain⟨k1,p1⟩:=UJ (cf:=cf) c h3;generalize c.tUnit cf=z at k1 p1;obtain⟨d,b⟩:=z;cases b with
  | true=>exact k1
  | false=>exact (k1.trans (Lk.all (d:=d.raise 4) (λe5=>by have p1:d.phase=3:=p1;have e5:d.phase=5:=e5;omega) rfl rfl (λ_=>rfl) rfl)).trans (Ha 4 _)
 split
 ·rename_i h5;have k0:=hk.wUnit_lk h5 hp.2;obtain⟨k1,k2,k3⟩:=hk.wUnit h5 hp.2;have hln:=It cf c;generalize c.wUnit cf=z at k0 k1 k2 hln;obtain⟨d,b⟩:=z;simp only at k0 k1 k2 hln ⊢;split
  ·rename_i hd;refine k0.trans (Lk.of rfl rfl (λ_=>rfl) rfl λa x=>⟨x.1,λ_=>wr ?_⟩);have x1:d.s.c.tk a=wk:=x.1;have:=(k1.si.hi.ci.tk a x1).1;have:=k1.si.hi.ci.ml;have:=hk.si.hi.ci.ml;omega
  ·exact k0
 ·exact .refl c
def MI.unit_lk(h:MI cf E c)(L:C3 cf):Lk c (c.unit cf).1:=h.k.unit_lk L.ch L.pg (h.ks L)
theorem MI.work_lk(L:C3 cf):∀(n:Nat) (c:Co) (E:Int),MI cf E c->E+5*n<=1000000000->Lk c (c.workN cf n).1
 | 0,c,E,h,_ => .refl c
 | n+1,c,E,h,hE=>by
  have h1:=h.unit L (by omega);have q1:=h.unit_lk L;unfold Co.workN;generalize c.unit cf=z at h1 q1;obtain⟨d,b⟩:=z;cases b with
  | true=>exact q1.trans (MI.work_lk L n d _ h1 (by omega))
  | false=>exact q1
end
def D4(f:Nat->Nat):Nat->Nat
 | 0=>0
 | n+1=>D4 f n+f n
theorem Gg{f g:Nat->Nat}:∀ {n:Nat},(∀a,a<n->f a<=g a)->D4 f n<=D4 g n
 | 0,_=>vl _
 | n+1,h=>by
  have:=Gg (n:=n) λa ha=>h a (by omega);have:=h n (by omega);simp only[D4];omega
theorem JW{f g:Nat->Nat}{b k:Nat}:∀ {n:Nat},(∀a,a<n->f a<=g a)->b<n->f b+k<=g b->D4 f n+k<=D4 g n
 | 0,_,hb,_=>by omega
 | n+1,h,hb,hk=>by
  have h1:=h n (by omega);simp only[D4];by_cases e:b=n
  ·subst e;have:=Gg (n:=b) λa ha=>h a (by omega);omega
  ·have:=JW (n:=n) (λa ha=>h a (by omega)) (by omega) hk;omega
def W5{f g:Nat->Nat}{n:Nat}(h:∀a,a<n->f a=g a):D4 f n=D4 g n:=
 Nat.le_antisymm (Gg λa ha=>by rw[h a ha];exact vl _) (Gg λa ha=>by rw[h a ha];exact vl _)
structure EN(room:Int)(g:Gy):Prop where
 nd:(g.l.map Prod.fst).Nodup
 im:∀e∈g.l,g.is e.1=wk
 len:(g.l.length:Int)<=room
def EN.nil{room:Int}(hr:0<=room){g:Gy}(h:g.l=[]):EN room g:=⟨by rw[h];simp,λe he=>by (rw[h]at he;cases he),by rw[h];exact hr⟩
def Ea(P:Nat)(s:St)(g:Gy)(a:Nat):Nat:=
 if s.c.tk a=wk then (if g.mks a=wk then (match g.l.find? (λe=>e.1 == (a:Int)) with
  | some e=>(max 1 (s.fields (a:Int)-e.2)).toNat
  | none=>0) else s.c.rsz a+P) else 0
def D0(P:Nat)(s:St)(g:Gy):Nat:=D4 (Ea P s g) s.c.m.length+if g.over=wk then P else 0
def Ga{l:List (Int × Int)}{a:Int}{e:Int × Int}:(l++[e]).find? (λx=>x.1 == a)=match l.find? (λx=>x.1 == a) with
  | some y=>some y
  | none=>if e.1=a then wh e else none:=by
 rw[List.find?_append];cases l.find? λx=>x.1 == a with
 | some y=>rfl
 | none=>
  simp only[Option.none_or,List.find?_cons,List.find?_nil];by_cases h:e.1=a
  ·rw[vy h];simp[h]
  ·rw[vx h];have:(e.1 == a)=wl:=by simpa using h
   rw[this]
def Gp{l:List (Int × Int)}{a:Int}(h:a∉l.map Prod.fst):l.find? (λx=>x.1 == a)=wj:=by rw[zB];intro x hx e;exact h (u7.2 ⟨x,hx,by simpa using e⟩)
section
variable{cf:Cf}{E:Int}{s:St}{g:Gy}{P:Nat}{room:Int}
def Um(g:Gy){a b:Int}(h:g.is b=wk):(g.black a).is b=wk:=by
 obtain⟨n,rfl,hn,hm⟩:=N3 g h;unfold Gy.black;split
 ·rw[Fm _ hn];simp only;unfold C9;split
  ·rfl
  ·exact hm
 ·exact h
def EN.black(h:EN room g)(a:Int):EN room (g.black a):=by
 have e:(g.black a).l=g.l:=by unfold Gy.black;split<;>rfl
 exact⟨by rw[e];exact h.nd,λx hx=>Um g (h.im x (by rw[<-e];exact hx)),by rw[e];exact h.len⟩
def EN.shade(h:EN room g)(a:Int):EN room (g.shade room a):=by
 unfold Gy.shade;split
 rotate_left
 ·exact h
 rename_i hc;have hb:=h.black a;have hni:a∉(g.black a).l.map Prod.fst:=λx=>by
  obtain⟨y,hy,e⟩:=u7.1 x;have e2:(g.black a).l=g.l:=by unfold Gy.black;split<;>rfl
  rw[e2]at hy;have:=h.im y hy;rw[e]at this;exact hc.2.2 this
 have hia:(g.black a).is a=wk:=by obtain⟨n,rfl⟩:=xU hc.1;rw[Fm _ (by omega),HZ _ (by omega)];unfold C9;simp
 unfold Gy.push;split
 ·exact⟨hb.nd,hb.im,hb.len⟩
 ·rename_i hl;refine⟨?_,λx hx=>?_,?_⟩
  ·simp only;rw[m9,zQ];refine⟨hb.nd,by simp,λx hx y hy e=>?_⟩;simp only[uw,u6,zF]at hy;subst hy;rw[e]at hx;exact hni hx
  ·rcases n7.1 hx with y|y
   ·exact hb.im x y
   ·rw[zF.1 y];exact hia
  ·have:=hb.len;simp only[zE,d9,m7];omega
theorem EN.shadeAll:∀(l:List Int) {g:Gy},EN room g->EN room (g.shadeAll room l)
 | [],g,h=>h
 | a::l,g,h=>EN.shadeAll l (h.shade a)
theorem EN.thru{s:St}{a:Int}:∀(d:Nat) (i:Int) {g:Gy},EN cf.stack g->EN cf.stack (thru cf s a d i g)
 | 0,i,g,h=>h
 | d+1,i,g,h=>by
  rw[Go.Proofs.QV.thru];refine EN.thru d (i+1) ?_;split
  ·exact h.shade _
  ·exact h
theorem EN.lookAll{s:St}:∀(l:List Int) {g:Gy},EN cf.stack g->EN cf.stack (lookAll cf s l g)
 | [],g,h=>h
 | a::l,g,h=>by
  rw[Go.Proofs.QV.lookAll];refine EN.lookAll l ?_;split
  ·exact h.thru _ _
  ·exact h
end
section
variable{cf:Cf}{E:Int}{s:St}{g:Gy}{P:Nat}{room:Int}
def K5(h:EN room g)(hs:SI s){b:Nat}(hb:s.c.tk b=wk)(hm:g.mks b=wl){g':Gy}(hmk:g'.mks=C9 g.mks b wk)(hl:g'.l=g.l∨g'.l=g.l++[((b:Int),0)]):(∀a,Ea P s g' a<=Ea P s g a)/\(Ea P s g' b+P<=Ea P s g b):=by
 have hbn:b<2048:=by have:=hs.hi.ci.tk_lt hb;have:=hs.hi.ci.small_n;omega
 have hni:(b:Int)∉g.l.map Prod.fst:=λx=>by
  obtain⟨y,hy,e⟩:=u7.1 x;have:=h.im y hy;rw[e,Fm _ hbn,hm]at this;cases this
 have hfn:=Gp hni;have hfb:∀a:Nat,a≠b->g'.l.find? (λx=>x.1 == (a:Int))=g.l.find? (λx=>x.1 == (a:Int)):=λa ha=>by
  rcases hl with e|e
  ·rw[e]
  ·rw[e,Ga];cases g.l.find? λx=>x.1 == (a:Int) with
   | some y=>rfl
   | none=>simp only;rw[vx (by omega)]
 have hob:Ea P s g' b+P<=Ea P s g b:=by
  unfold Ea;rw[vy hb,vy hb,hm,hmk];simp only[C9,vu];rw[vx (by decide)];obtain⟨ser,fs,o,_⟩:=hs.hi.obj b hb;have e1:=(St.read_obj hs.hi.ci o).1;have e2:=o.len;rcases hl with e|e
  ·rw[e,hfn];simp only;omega
  ·rw[e,Ga,hfn];simp only;rw[vy trivial];simp only;rw[e1];omega
 refine⟨λa=>?_,hob⟩;by_cases e:a=b
 ·subst e;omega
 ·have hmk2:g'.mks a=g.mks a:=by rw[hmk];unfold C9;rw[vx e]
  unfold Ea;rw[hfb a e,hmk2];exact vl _
def IN(h:EN room g)(hs:SI s){b:Int}(hb:∀n:Nat,b=n->s.c.tk n=wk):D0 P s (g.shade room b)<=D0 P s g:=by
 unfold Gy.shade;split
 rotate_left
 ·exact vl _
 rename_i hc;obtain⟨n,rfl⟩:=xU hc.1;have htk:=hb n rfl;have hn:n<2048:=by omega
 have hm:g.mks n=wl:=by
  cases hm:g.mks n with
  | false=>rfl
  | true=>exact absurd (by rw[Fm _ hn];exact hm) hc.2.2
 rw[HZ _ hn];have hlt:=hs.hi.ci.tk_lt htk;unfold Gy.push;split
 ·obtain⟨c1,c2⟩:=K5 (P:=P) h hs htk hm (g':={ g with mks:=C9 g.mks n wk,over:=wk }) rfl (wr rfl);have:=JW (λa _=>c1 a) hlt c2;unfold D0;simp only[vu];omega
 ·obtain⟨c1,c2⟩:=K5 (P:=P) h hs htk hm (g':={ g with mks:=C9 g.mks n wk,l:=g.l++[((n:Int),0)] }) rfl (ws rfl);have:=Gg (n:=s.c.m.length) (λa _=>c1 a);unfold D0;simp only;omega
theorem Ib(hs:SI s){a:Int}:∀(d:Nat) (i:Int) {g:Gy},EN cf.stack g->(∀(j:Int) (n:Nat),i<=j->j<i+d->(s.get a j).1=(2,(n:Int))->s.c.tk n=wk)->D0 P s (thru cf s a d i g)<=D0 P s g
 | 0,i,g,h,_=>vl _
 | d+1,i,g,h,ht=>by
  rw[thru];split
  ·rename_i h2;refine va (Ib hs d (i+1) (h.shade _) λj n h1 h3=>ht j n (by omega) (by omega)) (IN h hs λn e=>ht i n (by omega) (by omega) (Prod.ext h2 e))
  ·exact Ib hs d (i+1) h λj n h1 h3=>ht j n (by omega) (by omega)
theorem Gl(hs:SI s)(hcl:∀(a:Int) (j:Int) (n:Nat),0<=j->(s.get a j).1=(2,(n:Int))->s.c.tk n=wk):∀(l:List Int) {g:Gy},EN cf.stack g->D0 P s (lookAll cf s l g)<=D0 P s g
 | [],g,h=>vl _
 | a::l,g,h=>by
  rw[lookAll];split
  ·exact va (Gl hs hcl l (h.thru _ _)) (Ib hs _ _ h λj n h1 _=>hcl a j n h1)
  ·exact Gl hs hcl l h
def Di(P:Nat)(c:Co):Nat:=D0 P c.s c.g+if c.tp = -1 then 0 else P-c.tp.toNat
variable{c:Co}
def KI.fld_tk(h:KI cf E c)(h5:c.phase≠5)(a:Int)(j:Int)(n:Nat)(hj:0<=j)(hg:(c.s.get a j).1=(2,(n:Int))):c.s.c.tk n=wk:=by obtain⟨b,eb,tb,hf,_⟩:=J8 h.si hg hj;exact (h.ni.cl b _ n ⟨tb,λe=>absurd e h5⟩ hf).1
def EN.tUnit(h:EN cf.stack c.g)(hst:1<=cf.stack):EN cf.stack (c.tUnit cf).1.g:=by
 unfold Co.tUnit;split
 ·exact h
 cases he:c.g.l.getLast? with
 | some e=>
  have hne:c.g.l≠[]:=λx=>by rw[x]at he;cases he
  have e1:=wZ hne;rw[wX hne]at he;have e2:=p6 he;rw[e2]at e1;have hnd:=h.nd;rw[<-e1,m9,zQ]at hnd;have hl:=h.len;rw[<-e1]at hl;simp only[zE,d9,m7]at hl;have h0:EN cf.stack (⟨c.g.l.dropLast,c.g.over,c.g.mks⟩:Gy):=⟨hnd.1,λx hx=>h.im x (yO _ hx),by simp only;omega⟩;simp only;unfold Co.entry;simp only;split
  ·exact h0
  simp only;refine EN.thru _ _ ?_;split
  ·unfold Gy.push;split
   ·exact⟨h0.nd,h0.im,h0.len⟩
   ·refine⟨?_,λx hx=>?_,?_⟩
    ·simp only;rw[m9,zQ];refine⟨hnd.1,by simp,λx hx y hy=>?_⟩;simp only[uw,u6,zF]at hy;subst hy;exact hnd.2.2 x hx _ (by simp)
    ·rcases n7.1 hx with y|y
     ·exact h0.im x y
     ·rw[zF.1 y];exact h.im e (by rw[<-e1];simp)
    ·simp only[zE,d9,m7];omega
  ·exact h0
 | none=>
  simp only;unfold Co.look;split
  ·exact EN.lookAll _ ⟨h.nd,h.im,h.len⟩
  ·exact EN.lookAll _ h
def Pm{s:St}(a:Int) : -1<=s.fields a/\s.fields a<=127:=by
 unfold St.fields St.read;split
 ·unfold Gs;split
  ·simp only;omega
  ·simp
 ·simp
def KI.tUnit_less(k:KI cf E c)(h3:c.phase=3)(h:EN cf.stack c.g)(hst:1<=cf.stack)(hch:1<=cf.chunk/\cf.chunk<=1000)(hp:1<=cf.pages/\cf.pages<=64)(ht:(c.tUnit cf).2=wk):Di cf.pages.toNat (c.tUnit cf).1+1<=Di cf.pages.toNat c:=by
 have hcl:=k.fld_tk (by omega);revert ht;unfold Co.tUnit;split
 ·intro x;cases x
 rename_i hid;intro _;cases he:c.g.l.getLast? with
 | some e=>
  have hne:c.g.l≠[]:=λx=>by rw[x]at he;cases he
  have e1:=wZ hne;rw[wX hne]at he;have e2:=p6 he;rw[e2]at e1;have hem:e∈c.g.l:=by rw[<-e1];simp
  have hnd:=h.nd;rw[<-e1,m9,zQ]at hnd;have hl:=h.len;rw[<-e1]at hl;simp only[zE,d9,m7]at hl;obtain⟨a,ea,em,e0⟩:=k.ent e hem;have ta:=(k.ni.m1 a em).1;have h0:EN cf.stack (⟨c.g.l.dropLast,c.g.over,c.g.mks⟩:Gy):=⟨hnd.1,λx hx=>h.im x (yO _ hx),by simp only;omega⟩;have hnn:e.1∉c.g.l.dropLast.map Prod.fst:=λx=>hnd.2.2 _ x e.1 (by simp) rfl;have hlt:=k.si.hi.ci.tk_lt ta
  have hpop:∀(l':List (Int × Int)),(l'=c.g.l.dropLast∨∃to:Int,l'=c.g.l.dropLast++[(e.1,to)]/\e.2<to/\to<c.s.fields e.1)->D0 cf.pages.toNat c.s (⟨l',c.g.over,c.g.mks⟩:Gy)+1<=D0 cf.pages.toNat c.s c.g:=λl' hl'=>by
   unfold D0;simp only;have:D4 (Ea cf.pages.toNat c.s (⟨l',c.g.over,c.g.mks⟩:Gy)) c.s.c.m.length+1<=D4 (Ea cf.pages.toNat c.s c.g) c.s.c.m.length:=by
    have hone:Ea cf.pages.toNat c.s (⟨l',c.g.over,c.g.mks⟩:Gy) a+1<=Ea cf.pages.toNat c.s c.g a:=by
     unfold Ea;rw[vy ta,vy ta,vy em,vy em];have f1:c.g.l.find? (λx=>x.1 == (a:Int))=wh e:=by rw[<-e1,Ga, <-ea,Gp hnn];simp only;rw[vy trivial]
     rw[f1];simp only;rcases hl' with x|⟨to,x,x1,x2⟩
     ·rw[x, <-ea,Gp hnn];simp only;omega
     ·rw[x,Ga, <-ea,Gp hnn];simp only;rw[vy trivial];simp only;omega
    refine JW (λb _=>?_) hlt hone;by_cases eb:b=a
    ·subst eb;omega
    ·unfold Ea;have f1:l'.find? (λx=>x.1 == (b:Int))=c.g.l.find? (λx=>x.1 == (b:Int)):=by
      rw[<-e1,Ga];rcases hl' with x|⟨to,x,_⟩
      ·rw[x];cases c.g.l.dropLast.find? λx=>x.1 == (b:Int) with
       | some y=>rfl
       | none=>simp only;rw[vx (by omega)]
      ·rw[x,Ga];cases c.g.l.dropLast.find? λx=>x.1 == (b:Int) with
       | some y=>rfl
       | none=>simp only;rw[vx (by omega),vx (by omega)]
     simp only;rw[f1];exact vl _
   omega
  simp only;unfold Co.entry;simp only;split
  ·have:=hpop _ (wr rfl);unfold Di;simp only;omega
  rename_i hn;have hw:C7 (e.2+cf.chunk)=e.2+cf.chunk:=E9 (by have:=Pm (s:=c.s) e.1;omega);rw[hw];unfold Di;simp only;have hfin:∀(g1:Gy),EN cf.stack g1->D0 cf.pages.toNat c.s g1+1<=D0 cf.pages.toNat c.s c.g->D0 cf.pages.toNat c.s (thru cf c.s e.1 (min (e.2+cf.chunk) (c.s.fields e.1)-e.2).toNat e.2 g1)+1<=D0 cf.pages.toNat c.s c.g:=λg1 en hg1=>by
   have:=Ib (cf:=cf) (P:=cf.pages.toNat) k.si (a:=e.1) (min (e.2+cf.chunk) (c.s.fields e.1)-e.2).toNat e.2 en λj n h1 _ hg=>hcl e.1 j n (by omega) hg;omega
  split
  ·rename_i hto;unfold Gy.push;rw[vx (by simp only;omega)];have:=hfin (⟨c.g.l.dropLast++[(e.1,min (e.2+cf.chunk) (c.s.fields e.1))],c.g.over,c.g.mks⟩:Gy) ?_ (hpop _ (ws ⟨_,rfl,by omega,by omega⟩))
   ·simp only at this ⊢;omega
   ·refine⟨?_,λx hx=>?_,?_⟩
    ·simp only;rw[m9,zQ];refine⟨hnd.1,by simp,λx hx y hy=>?_⟩;simp only[uw,u6,zF]at hy;subst hy;exact hnd.2.2 x hx _ (by simp)
    ·rcases n7.1 hx with y|y
     ·exact h0.im x y
     ·rw[zF.1 y];exact h.im e hem
    ·simp only[zE,d9,m7];omega
  ·have:=hfin _ h0 (hpop _ (wr rfl))
   try simp only at this ⊢
   omega
 | none=>
  have hl:c.g.l=[]:=List.getLast?_eq_none_iff.1 he;simp only;unfold Di Co.look;by_cases htp:c.tp = -1
  ·rw[vy htp,vy htp];have hov:c.g.over=wk:=by
    cases ho:c.g.over with
    | true=>rfl
    | false=>exact absurd (by unfold Co.tIdle;rw[hl,htp,ho];rfl) hid
   have:=Gl (cf:=cf) (P:=cf.pages.toNat) k.si hcl (c.s.inP 0) (g:=(⟨c.g.l,wl,c.g.mks⟩:Gy)) ⟨h.nd,h.im,h.len⟩;have e0:D0 cf.pages.toNat c.s (⟨c.g.l,wl,c.g.mks⟩:Gy)+cf.pages.toNat=D0 cf.pages.toNat c.s c.g:=by unfold D0;rw[hov];simp only[vu];rw[vx (by decide)];have:D4 (Ea cf.pages.toNat c.s (⟨c.g.l,wl,c.g.mks⟩:Gy)) c.s.c.m.length=D4 (Ea cf.pages.toNat c.s c.g) c.s.c.m.length:=W5 λa _=>rfl;omega
   have hw:C7 (0+1)=1:=by decide
   try simp only
   rw[hw];by_cases h1:(1:Int)=cf.pages
   ·rw[vy h1,vy rfl];omega
   ·rw[vx h1,vx (by decide)];omega
  ·rw[vx htp,vx htp];have htr:=k.tpr;have:=Gl (cf:=cf) (P:=cf.pages.toNat) k.si hcl (c.s.inP c.tp) h;have hw:C7 (c.tp+1)=c.tp+1:=E9 (by omega)
   try simp only
   rw[hw];by_cases h1:c.tp+1=cf.pages
   ·rw[vy h1,vy rfl];omega
   ·rw[vx h1,vx (by omega)];omega
end
theorem Np{f g:Nat->Nat}{Q:Nat->Prop}(hu:∀a b,Q a->Q b->a=b):∀ {n:Nat},(∀a,a<n->¬Q a->f a<=g a)->(∀a,a<n->Q a->f a<=g a+1)->D4 f n<=D4 g n+1
 | 0,_,_=>by simp[D4]
 | n+1,h0,h1=>by
  simp only[D4];by_cases hq:Q n
  ·have:=Gg (f:=f) (g:=g) (n:=n) λa ha=>h0 a (by omega) λhqa=>by have:=hu a n hqa hq;omega
   have:=h1 n (by omega) hq;omega
  ·have:=Np (n:=n) hu (λa ha=>h0 a (by omega)) (λa ha=>h1 a (by omega));have:=h0 n (by omega) hq;omega
section
variable{c:Ce}
theorem CI.cover(h:CI c):∀M:Nat,D4 (λa=>if c.tk a=wk then min (c.rsz a) (M-a) else 0) M<=M
 | 0=>vl _
 | M+1=>by
  have ih:=CI.cover h M;have hb:=Np (f:=λa=>if c.tk a=wk then min (c.rsz a) (M+1-a) else 0) (g:=λa=>if c.tk a=wk then min (c.rsz a) (M-a) else 0) (Q:=λa=>c.tk a=wk/\a<=M/\M<a+c.rsz a) (n:=M+1)
   (λa b ⟨a1,a2,a3⟩ ⟨b1,b2,b3⟩=>h.apart a1 b1 a2 a3 b2 b3) (λa ha hq=>by
    try simp only
    split
    ·rename_i ht;have:¬(M<a+c.rsz a):=λx=>hq ⟨ht,by omega,x⟩;omega
    ·exact vl _) (λa ha hq=>by
    try simp only
    rw[vy hq.1,vy hq.1];omega)
  have e:D4 (λa=>if c.tk a=wk then min (c.rsz a) (M-a) else 0) (M+1)=D4 (λa=>if c.tk a=wk then min (c.rsz a) (M-a) else 0) M:=by simp only[D4];rw[vh,Nat.min_zero];split<;>omega
  rw[e]at hb;omega
def CI.rsz_2(h:CI c){a:Nat}(ha:c.tk a=wk):2<=c.rsz a:=by
 have h1:=(h.rsz_pos ha).1;unfold Ce.rsz at h1 ⊢;split
 ·rename_i e;rw[vy e]at h1;omega
 ·rename_i e;rw[vx e]at h1;unfold BV at h1 ⊢
  repeat' split
  all_goals (try omega)
  all_goals (simp_all)
def CI.sum_rsz(h:CI c):D4 (λa=>if c.tk a=wk then c.rsz a else 0) c.m.length<=c.m.length:=by
 refine va (Gg λa _=>?_) (h.cover c.m.length)
 try simp only
 split
 ·rename_i ha;have:=(h.rsz_pos ha).2;omega
 ·exact vl _
theorem ON(tk:Nat->Bool)(f:Nat->Nat)(P:Nat)(hf:∀a,tk a=wk->2<=f a):∀n:Nat,2*D4 (λa=>if tk a=wk then f a+P else 0) n<=(2+P)*D4 (λa=>if tk a=wk then f a else 0) n
 | 0=>by simp[D4]
 | n+1=>by
  have ih:=ON tk f P hf n;simp only[D4];rw[Nat.mul_add,Nat.mul_add];have:2*(if tk n=wk then f n+P else 0)<=(2+P)*(if tk n=wk then f n else 0):=by
   by_cases ht:tk n=wk
   ·rw[vy ht,vy ht,vk];have h2:=hf n ht;have:P*2<=P*f n:=Nat.mul_le_mul_left P h2;omega
   ·rw[vx ht,vx ht];omega
  omega
end
section
variable{cf:Cf}{E:Int}{c:Co}
def KI.cost_le(k:KI cf E c)(h5:c.phase≠5){P:Nat}(hP:c.s.c.m.length=P*32):Di P c<=32*P+16*(P*P)+2*P:=by
 have h1:D4 (Ea P c.s c.g) c.s.c.m.length<=D4 (λa=>if c.s.c.tk a=wk then c.s.c.rsz a+P else 0) c.s.c.m.length:=Gg λa _=>by
  unfold Ea
  try simp only
  split
  rotate_left
  ·exact vl _
  rename_i ht;split
  rotate_left
  ·exact vl _
  obtain⟨ser,fs,o,_⟩:=k.si.hi.obj a ht;have e1:=(St.read_obj k.si.hi.ci o).1;have e2:=o.len;split
  ·rename_i e he;have hm:=List.mem_of_find?_eq_some he;obtain⟨n,en,_,e0⟩:=k.ent e hm;rw[e1];omega
  ·omega
 have h2:=ON c.s.c.tk c.s.c.rsz P (λa ha=>k.si.hi.ci.rsz_2 ha) c.s.c.m.length;have h3:=k.si.hi.ci.sum_rsz;rw[hP]at h1 h2 h3;have h4:(2+P)*D4 (λa=>if c.s.c.tk a=wk then c.s.c.rsz a else 0) (P*32)<=(2+P)*(P*32):=Nat.mul_le_mul_left _ h3;have h5:(2+P)*(P*32)=64*P+32*(P*P):=by rw[vk, <-Nat.mul_assoc P P 32];omega
 unfold Di D0;rw[hP];split<;>split<;>omega
end
structure Cl where
 th:List (Bool × List V2)
 nd:List (List V2)
def Cl.new(cf:Cf):Cl:=⟨List.replicate cf.threads.toNat (wl,[]),[List.replicate 4 (0,0)]⟩
def Cl.live(g:Cl)(t:Int):Bool:=(g.th.getD t.toNat (wl,[])).1
def Cl.held(g:Cl)(t:Int):List V2:=(g.th.getD t.toNat (wl,[])).2
def Cl.who(g:Cl)(x:Cd):Int:=if 16<=x.kd then 0 else if (g.th.length:Int)<=x.t then 4 else if x.kd=1/\g.live x.t then 9 else if x.kd≠1/\¬g.live x.t then 14 else 0
def Cl.node(g:Cl)(n:Int):List V2:=g.nd.getD n.toNat []
def Cl.object(g:Cl)(x:Cd)(field:Bool):Int:=match (g.held x.t)[x.i.toNat]? with
 | none=>4
 | some v=>if v.1≠2 then 12 else if field/\((g.node v.2).length:Int)<=x.f then 4 else 0
def Cd.nums(cf:Cf)(x:Cd):Int:=
 if x.kd=3/\(x.n<0∨127<x.n∨x.cost<1∨cf.quantum<x.cost)∨x.kd=4/\(x.n < -1099511627776∨1099511627775<x.n) then 4 else
 if (x.kd=13∨x.kd=16)/\(x.n<1∨64<x.n)∨x.kd=15/\(x.n<1∨64<x.n∨x.cost<1∨cf.quantum<x.cost) then 4 else 0
def Cl.hands(g:Cl)(x:Cd):Int:=
 if x.kd<3∨12<x.kd then 0 else
 if (x.kd=9∨x.kd=10∨x.kd=12)/\g.object x (decide (x.kd≠12))≠0 then g.object x (decide (x.kd≠12)) else
 if (x.kd=7∨x.kd=11)/\((g.held x.t).length:Int)<=x.i∨(x.kd=10∨x.kd=11)/\((g.held x.t).length:Int)<=x.j∨x.kd=8/\(g.held x.t).length=0 then 4 else
 if (x.kd<=7∨x.kd=9)/\16<=(g.held x.t).length then 3 else 0
def Cl.code(cf:Cf)(g:Cl)(x:Cd):Int:=
 if x.check≠0 then x.check else if g.who x≠0 then g.who x else if x.nums cf≠0 then x.nums cf else g.hands x
def Cl.hold(g:Cl)(t:Int)(v:V2):Cl × Ch:=({ g with th:=g.th.set t.toNat (g.live t,g.held t++[v]) },⟨0,v.1,v.2,0,0⟩)
def Cl.pushed(g:Cl)(x:Cd):V2:=
 if x.kd=4 then (1,x.n) else if x.kd=6 then (2,0) else
 if x.kd=7 then (g.held x.t).getD x.i.toNat (0,0) else
 if x.kd=9 then (g.node ((g.held x.t).getD x.i.toNat (0,0)).2).getD x.f.toNat (0,0) else (0,0)
def Cl.doS(g:Cl)(x:Cd):Cl × Ch:=
 if x.kd=1 then ({ g with th:=g.th.set x.t.toNat (wk,[]) },Ch.ok) else
 if x.kd=2 then ({ g with th:=g.th.set x.t.toNat (wl,[]) },Ch.ok) else
 if x.kd=3 then Cl.hold { g with nd:=g.nd++[List.replicate x.n.toNat (0,0)] } x.t (2,g.nd.length) else
 if 4<=x.kd/\x.kd<=7∨x.kd=9 then g.hold x.t (g.pushed x) else
 if x.kd=8 then ({ g with th:=g.th.set x.t.toNat (g.live x.t,(g.held x.t).dropLast) },⟨0,((g.held x.t).getLastD (0,0)).1,((g.held x.t).getLastD (0,0)).2,0,0⟩) else
 if x.kd=10 then ({ g with nd:=g.nd.set ((g.held x.t).getD x.i.toNat (0,0)).2.toNat ((g.node ((g.held x.t).getD x.i.toNat (0,0)).2).set x.f.toNat ((g.held x.t).getD x.j.toNat (0,0))) },Ch.ok) else
 if x.kd=11 then (g,⟨0,1,if (g.held x.t).getD x.i.toNat (0,0)=(g.held x.t).getD x.j.toNat (0,0) then 1 else 0,0,0⟩) else
 if x.kd=12 then (g,⟨0,1,(g.node ((g.held x.t).getD x.i.toNat (0,0)).2).length,0,0⟩) else (g,Ch.ok)
def Cl.step(cf:Cf)(g:Cl)(x:Cd)(no:Int):Cl × Ch:=
 if g.code cf x≠0 then (g,Ch.err (g.code cf x)) else
 if (x.kd=3∨x.kd=15∨x.kd=17)/\no≠0 then (g,Ch.err no) else g.doS x
def Cs(s:St)(v:V2):V2:=(v.1,if v.1=2 then s.serial v.2 else v.2)
def Qj(m:Ma)(v:V2):m.told v=Cs m.co.s v:=rfl
structure Cu(cf:Cf)(c:Co)(g:Cl):Prop where
 tl:g.th.length=cf.threads.toNat
 tv:∀t:Nat,t<cf.threads.toNat->g.th[t]?=wh (c.r.live t,(c.th.getD t []).map (Cs c.s))
 le:∀l∈c.th,l.length<=16
 nl:(g.nd.length:Int)=c.s.made
 nd:∀a ser fs,Cy c a->Cw c.s.c a ser fs->g.nd[ser.toNat]?=wh (fs.map (Cs c.s))
section
variable{cf:Cf}{E E':Int}{c d:Co}{g:Cl}{t:Nat}
def Ft{s:St}{v:V2}(h:v.1≠2):Cs s v=v:=by unfold Cs;rw[vx h]
def E8{s:St}(h:SI s){b:Nat}{ser:Int}{fs:List V2}(o:Cw s.c b ser fs):Cs s (2,(b:Int))=(2,ser):=by unfold Cs;rw[vy rfl,(St.read_obj h.hi.ci o).2]
def Jl(hc:SI c.s)(hd:SI d.s){v:V2}(hv:Dp v=wk)(h:∀b:Nat,v=(2,(b:Int))->c.s.c.tk b=wk/\∀ser fs,Cw c.s.c b ser fs->∃fs',Cw d.s.c b ser fs'):Cs d.s v=Cs c.s v:=by
 by_cases h2:v.1=2
 ·obtain⟨b,rfl,_⟩:=Dz hv h2;obtain⟨tb,hb⟩:=h b rfl;obtain⟨ser,fs,o,_⟩:=hc.hi.obj b tb;obtain⟨fs',o'⟩:=hb ser fs o;rw[E8 hc o,E8 hd o']
 ·rw[Ft h2,Ft h2]
def FW{α β : Type}{f f' : α -> β}{l:List α}(h:∀x∈l,f' x=f x):l.map f'=l.map f:=List.map_congr_left h
def KI.row_ok(h:KI cf E c)(t:Nat):∀v∈c.th.getD t [],Dp v=wk/\∀b:Nat,v=(2,(b:Int))->Cy c b:=λv hv=>by
 rcases Nat.lt_or_ge t c.th.length with hl|hl
 ·have e:c.th.getD t []∈c.th:=by rw[DC hl];exact d7 _
  exact⟨h.vok _ e v hv,λb eb=>h.ni.rt _ e b (by rw[<-eb];exact hv)⟩
 ·rw[xF,yG hl]at hv;cases hv
def Cw.ok{ce:Ce}{a:Nat}{ser:Int}{fs:List V2}(o:Cw ce a ser fs){v:V2}(hv:v∈fs):Dp v=wk/\∃j:Nat,fs[j]?=wh v:=by obtain⟨j,hj,rfl⟩:=yW hv;exact⟨(o.fld j hj).1,j,xS hj⟩
def Cu.lk(h:Cu cf c g)(hc:KI cf E c)(hd:KI cf E' d)(k:Lk c d):Cu cf d g:=by
 have key:∀v:V2,Dp v=wk->(∀b:Nat,v=(2,(b:Int))->Cy d b)->Cs d.s v=Cs c.s v:=λv hv hb=>Jl hc.si hd.si hv λb e=>by
  obtain⟨x,y⟩:=k.kp b (hb b e);exact⟨x.1,λser fs o=>⟨fs,y.obj' o⟩⟩
 refine⟨h.tl,λt ht=>?_,by rw[k.th];exact h.le,by rw[k.made];exact h.nl,λa ser fs ka o=>?_⟩
 ·rw[h.tv t ht,k.live];have e:(d.th.getD t []).map (Cs d.s)=(c.th.getD t []).map (Cs c.s):=by rw[<-k.th];refine FW λv hv=>?_;obtain⟨v1,v2⟩:=hd.row_ok t v hv;exact key v v1 v2
  rw[e]
 ·obtain⟨x,y⟩:=k.kp a ka;rw[h.nd a ser fs x (y.obj.1 o)];have e:fs.map (Cs d.s)=fs.map (Cs c.s):=FW λv hv=>by
   obtain⟨v1,j,ej⟩:=o.ok hv;exact key v v1 λb eb=>hd.ni.cl a j b ka ⟨ser,fs,o,by rw[ej,eb]⟩
  rw[e]
def Cu.th(h:Cu cf c g)(hc:KI cf E c)(hl:c.r.live (t:Int)=wk):t<cf.threads.toNat/\g.live (t:Int)=wk/\g.held (t:Int)=(c.th.getD t []).map (Cs c.s):=by
 have ht:t<cf.threads.toNat:=by have:=CW.1 hl;have:=hc.rl;omega
 have e:=h.tv t ht;refine⟨ht,?_,?_⟩
 ·unfold Cl.live;rw[zK,xF,e];exact hl
 ·unfold Cl.held;rw[zK,xF,e];rfl
def Cu.obj(h:Cu cf c g){a:Nat}{ser:Int}{fs:List V2}(ka:Cy c a)(o:Cw c.s.c a ser fs):g.node ser=fs.map (Cs c.s):=by unfold Cl.node;rw[xF,h.nd a ser fs ka o];rfl
def Cu.th_set(h:Cu cf c g)(ht:t<cf.threads.toNat){l:List V2}{c':Co}(h8:cf.threads.toNat<=c.th.length)(hl:l.length<=16)(e1:c'.th=c.th.set t l)(e2:c'.s=c.s)(e3:∀u:Nat,u≠t->c'.r.live (u:Int)=c.r.live (u:Int))(hk:∀a,Cy c' a->Cy c a):Cu cf c' { g with th:=g.th.set t (c'.r.live (t:Int),l.map (Cs c.s)) }:=by
 refine⟨by simp only[m8];exact h.tl,λu hu=>?_,λk hk=>?_,by rw[e2];exact h.nl,λa ser fs ka o=>?_⟩
 ·rw[e1,e2];by_cases e:t=u
  ·subst e;rw[zO,vy rfl,vy (by rw[h.tl];exact ht),El,vy ⟨rfl,by omega⟩]
  ·rw[zO,vx e,h.tv u hu,El,vx (λx=>e x.1),e3 u (λx=>e x.symm)]
 ·rw[e1]at hk;rcases HL hk with rfl|hk
  ·exact hl
  ·exact h.le k hk
 ·rw[e2]at o ⊢;exact h.nd a ser fs (hk a ka) o
def SF(hc:KI cf E c){v:V2}(hv:VG c t v):c.may v=wk:=by
 unfold Co.may;rw[hv.ok];by_cases h2:v.1=2
 ·obtain⟨b,rfl,_⟩:=Dz hv.ok h2;obtain⟨ser,fs,o,_⟩:=hc.si.hi.obj b (hv.kp b rfl).1;have:=(St.read_obj hc.si.hi.ci o).1;simp only[this];simp
 ·simp[h2]
def Cu.push(h:Cu cf c g)(hc:KI cf E c)(hl:c.r.live (t:Int)=wk){v:V2}(hv:VG c t v)(hn:(c.th.getD t []).length<16):(c.push (t:Int) v).2=wk/\Cu cf (c.push (t:Int) v).1 (g.hold (t:Int) (Cs c.s v)).1:=by obtain⟨ht,h1,h2⟩:=h.th hc hl;unfold Co.push;rw[zK,vy ⟨hl,SF hc hv,hn⟩];refine⟨rfl,?_⟩;have:=h.th_set (c':={ c with th:=c.th.set t (c.th.getD t []++[v]) }) ht (l:=c.th.getD t []++[v]) (by have:=(hc.th_in hl).1;have:=hc.thl;have:=hc.t8;omega) (by rw[zE];simp only[d9,m7];omega) rfl rfl (λ_ _=>rfl) λa x=>x;unfold Cl.hold;rw[h1,h2,zK];simpa[hl] using this
def SR(hn:¬(c.th.getD t []).length<16)(v:V2):(c.push (t:Int) v).2=wl:=by unfold Co.push;rw[zK,vx (λx=>hn x.2.2)]
def Cu.pop(h:Cu cf c g)(hc:KI cf E c)(hl:c.r.live (t:Int)=wk):match c.th.getD t [] with
  | []=>c.pop (t:Int)=(c,wj)
  | u::l=>(c.pop (t:Int)).2=wh ((u::l).getLast (by simp))/\Cu cf (c.pop (t:Int)).1 { g with th:=g.th.set t (g.live (t:Int),(g.held (t:Int)).dropLast) }:=by
 obtain⟨ht,h1,h2⟩:=h.th hc hl;have hth:=hc.th_in hl;have hle:=h.le _ hth.2;have h8:cf.threads.toNat<=c.th.length:=by have:=hc.thl;have:=hc.t8;omega
 unfold Co.pop;rw[vy hl,zK];have hs:=λl (hl':l.length<=16)=>h.th_set (c':={ c with th:=c.th.set t l }) ht (l:=l) h8 hl' rfl rfl (λ_ _=>rfl) λa x=>x;rw[h1,h2];generalize c.th.getD t []=r at hle;cases r with
 | nil=>rfl
 | cons u l=>
  simp only[List.getLast?_cons];refine⟨by simp[List.getLast_eq_getLastD],?_⟩;have:=hs (u::l).dropLast (by simp at hle ⊢;omega);rw[show c.r.live (t:Int)=wk from hl]at this;simpa[List.map_dropLast] using this
def Cu.attach(h:Cu cf c g)(hc:KI cf E c)(ht:t<cf.threads.toNat)(hl:c.r.live (t:Int)=wl):Cu cf (c.attach (t:Int)) { g with th:=g.th.set t (wk,[]) }:=by
 have h8:cf.threads.toNat<=c.th.length:=by have:=hc.thl;have:=hc.t8;omega
 have htl:t<c.th.length:=by omega
 have hr:=hc.lv t hl;have he:c.th.set t []=c.th:=by
  apply zL;intro i;rw[zO];split
  ·rename_i e;subst e;rw[xS htl];rw[DC htl]at hr;rw[hr]
  ·rfl
 have hrl:=hc.rl;have hlive:∀u:Int,(c.attach (t:Int)).r.live u=if u=t then wk else c.r.live u:=λu=>by
  unfold Co.attach Rg.attach;rw[vy ⟨by omega,by omega,by rw[hl];simp⟩];exact FB (m:=(wk,c.r.ep)) (by omega) (by omega) u
 have:=h.th_set (c':=c.attach (t:Int)) ht (l:=[]) h8 (by simp) he.symm rfl (λu hu=>by rw[hlive,vx (by omega)]) λa x=>x;rw[hlive,vy rfl]at this;exact this
def Cu.detach(h:Cu cf c g)(hc:KI cf E c)(hE:E+4<=1000000000)(hl:c.r.live (t:Int)=wk):Cu cf (c.detach cf (t:Int)) { g with th:=g.th.set t (wl,[]) }:=by
 obtain⟨ht,h1,h2⟩:=h.th hc hl;have h8:cf.threads.toNat<=c.th.length:=by have:=hc.thl;have:=hc.t8;omega
 have hd:=K6 hl;have:=h.th_set (c':={ c with th:=c.th.set t [],r:=c.r.detach (t:Int) }) ht (l:=[]) h8 (by simp) rfl rfl (λu hu=>by simp only;rw[hd,vx (by omega)]) λa x=>x;simp only at this;rw[hd,vy rfl]at this;have k1:=hc.gone (t:Int) hl;have k2:=hc.detach_lk (cf:=cf) (t:Int) hl;rw[zK]at k1 k2;exact this.lk k1 (hc.detach hE (t:Int)) k2
end
def NA(c:Co):Prop:=c.r.agreed=wk->c.phase=0∨c.phase=3∨c.phase=5
def BL(c:Co):Prop:=∀t:Nat,c.r.live (t:Int)=wl->c.b.getD t []=[]
structure XI(cf:Cf)(c:Co):Prop where
 en:EN cf.stack c.g
 na:NA c
 bl:BL c
section
variable{cf:Cf}{E:Int}{c:Co}{P:Nat}
def Gk{r:Rg}:r.agreed=wk↔∀t:Nat,r.live (t:Int)=wk->r.ep<=r.ofT (t:Int):=by
 constructor
 ·intro h t ht;exact MN h ht
 ·intro h;cases ha:r.agreed with
  | true=>rfl
  | false=>
   unfold Rg.agreed at ha;rw[List.all_eq_false]at ha;obtain⟨m,hm,e⟩:=ha;obtain⟨i,hi,rfl⟩:=yW hm;simp only[zJ,Bool.not_eq_false,zY,zV]at e;have hl:r.live (i:Int)=wk:=CW.2 ⟨by omega,by omega,by rw[zK,xF,xS hi];exact e.1⟩;have:=h i hl;rw[O5 hl,zK,xF,xS hi]at this;have h2:r.ep<=r.l[i].2:=this;omega
def EY:∀(d:Nat) (c:Co),c.phase=0∨c.phase=3∨c.phase=5->c.advance cf d=c
 | 0,c,_=>rfl
 | d+1,c,h=>by
  rw[Co.advance];split
  ·rw[vx (by omega),vx (by omega),vx (by omega),vx (by omega)]
  ·rfl
def PL(c:Co)(d:Nat)(h:c.phase=2):NA (c.advance cf (d+1)):=by
 rw[Co.advance];split
 rotate_left
 ·rename_i ha;exact λx=>absurd x ha
 split
 ·rename_i h1;omega
 rw[EY d _ (ws (wr rfl))];exact λ_=>ws (wr rfl)
def VU(c:Co)(d:Nat)(h:c.phase=4):NA (c.advance cf (d+1)):=by
 rw[Co.advance];split
 rotate_left
 ·rename_i ha;exact λx=>absurd x ha
 split
 ·rename_i h1;omega
 split
 ·rename_i h1;omega
 split
 ·rw[EY d _ (ws (ws rfl))];exact λ_=>ws (ws rfl)
 rw[EY d _ (ws (wr rfl))];exact λ_=>ws (wr rfl)
def VT(c:Co)(d:Nat)(h:c.phase=1):NA (c.advance cf (d+2)):=by
 rw[Co.advance];split
 rotate_left
 ·rename_i ha;exact λx=>absurd x ha
 exact PL _ d rfl
def Xw(c:Co)(h:0<=c.phase/\c.phase<=5):NA (c.advance cf 4):=by
 by_cases h1:c.phase=1
 ·exact VT c 2 h1
 by_cases h2:c.phase=2
 ·exact PL c 3 h2
 by_cases h4:c.phase=4
 ·exact VU c 3 h4
 rw[EY 4 c (by omega)];exact λ_=>by omega
theorem Jy:∀(d:Nat) (c:Co),EN cf.stack c.g->EN cf.stack (c.advance cf d).g
 | 0,c,h=>h
 | d+1,c,h=>by
  rw[Co.advance];split
  ·split
   ·exact Jy d _ (h.shade _)
   split
   ·exact Jy d _ h
   split
   ·exact Jy d _ h
   split
   ·exact Jy d _ h
   ·exact h
  ·exact h
def BL.of{d:Co}(h:BL c)(hl:∀t:Nat,d.r.live (t:Int)=c.r.live (t:Int))(hb:∀t,c.b.getD t []=[]->d.b.getD t []=[]):BL d:=λt ht=>hb t (h t (by rw[<-hl];exact ht))
def Sy(b:List (List Int))(t:Nat):(b.map λ_=>([]:List Int)).getD t []=[]:=by rw[xF,zN];cases b[t]?<;>rfl
def Hg{b:List (List Int)}{t:Int}{u:Nat}(h:b.getD u []=[]):(CT b t).getD u []=[]:=by
 unfold CT;split
 ·rw[El];split
  ·rfl
  ·exact h
 ·exact h
theorem Jx:∀(d:Nat) (c:Co),BL c->BL (c.advance cf d)
 | 0,c,h=>h
 | d+1,c,h=>by
  rw[Co.advance];split
  ·split
   ·refine Jx d _ ?_;exact λt _=>Sy _ t
   split
   ·exact Jx d _ h
   split
   ·exact Jx d _ h
   split
   ·exact Jx d _ h
   ·exact h
  ·exact h
def I6(c:Co)(h:EN cf.stack c.g)(hb:BL c)(hp:0<=c.phase/\c.phase<=5):XI cf (c.adv cf):=⟨Jy 4 c h,Xw c hp,Jx 4 c hb⟩
def XI.beginC(h:XI cf c):XI cf (c.beginC cf).1:=by
 unfold Co.beginC;split
 ·exact I6 (({ c with units:=0 }:Co).raise 1) h.en h.bl ⟨show (0:Int)<=1 by decide,show (1:Int)<=5 by decide⟩
 ·exact h
def XI.poll(h:XI cf c)(k:KI cf E c)(t:Int):XI cf (c.poll cf t):=by
 unfold Co.poll;split
 rotate_left
 ·exact h
 simp only;have hl:BL { c with r:=(c.r.confirm t).1 }:=h.bl.of (λu=>Ek c.r t u) λ_ x=>x;split
 ·exact I6 _ (h.en.shadeAll _) hl k.ph
 split
 ·refine I6 _ (h.en.shadeAll _) ?_ k.ph;exact h.bl.of (λu=>Ek c.r t u) λ_ x=>Hg x
 ·exact I6 _ h.en hl k.ph
def XI.detach(h:XI cf c)(k:KI cf E c)(t:Int):XI cf (c.detach cf t):=by
 unfold Co.detach;split
 rotate_left
 ·exact h
 rename_i hl;simp only;refine I6 _ ?_ ?_ k.ph
 ·simp only;split
  ·exact h.en.shadeAll _
  ·exact h.en
 ·intro u hu;simp only at hu ⊢;rw[K6 hl]at hu;by_cases e:(u:Int)=t
  ·obtain⟨h0,h1,_⟩:=CW.1 hl;have hbl:0<=t/\t<c.b.length:=by have:=k.bl;have:=k.rl;exact⟨h0,by omega⟩
   unfold CT;rw[vy hbl,El,vy ⟨by omega,by omega⟩]
  ·rw[vx e]at hu;exact Hg (h.bl u hu)
def XI.attach(h:XI cf c)(t:Int):XI cf (c.attach t):=by
 unfold Co.attach Rg.attach;split
 rotate_left
 ·exact h
 rename_i hc;have hlive:=λu:Int=>FB (r:=c.r) (m:=(wk,c.r.ep)) hc.1 hc.2.1 u;have hof:=λu:Int=>IC (r:=c.r) (m:=(wk,c.r.ep)) hc.1 hc.2.1 u;refine⟨h.en,λha=>h.na (Gk.2 λu hu=>?_),λu hu=>h.bl u ?_⟩
 ·have:=Gk.1 ha u (by rw[hlive];split<;>first | rfl | exact hu);rw[hof]at this;have hne:¬((u:Int)=t):=λe=>hc.2.2 (by rw[<-e];exact hu);rw[vx hne]at this;exact this
 ·simp only at hu;rw[hlive]at hu;split at hu
  ·cases hu
  ·exact hu
def XI.th(h:XI cf c)(l:List (List V2)):XI cf { c with th:=l }:=⟨h.en,h.na,h.bl⟩
def XI.push(h:XI cf c)(t:Int)(v:V2):XI cf (c.push t v).1:=by
 unfold Co.push;split
 ·exact h.th _
 ·exact h
def XI.pop(h:XI cf c)(t:Int):XI cf (c.pop t).1:=by
 unfold Co.pop;split
 ·split
  ·exact h.th _
  ·exact h
 ·exact h
def XI.color(h:XI cf c)(s:St)(a:Int):XI cf (({ c with s:=s }:Co).color cf a):=by
 unfold Co.color;split
 ·exact⟨h.en.shade _,h.na,h.bl⟩
 split
 ·exact⟨h.en.black _,h.na,h.bl⟩
 ·exact⟨h.en,h.na,h.bl⟩
def Uc{b:List (List Int)}{t a:Int}{u:Nat}(hu:(u:Int)≠t)(h:b.getD u []=[]):(F3 b t a).getD u []=[]:=by
 unfold F3;split
 ·rw[El,vx (by omega)];exact h
 ·exact h
def XI.write(h:XI cf c)(t a i:Int)(v:V2):XI cf (c.write t a i v).1:=by
 unfold Co.write;split
 rotate_left
 ·exact h
 rename_i hc;refine⟨h.en,h.na,λu hu=>?_⟩;simp only at hu ⊢;split
 ·refine Uc (λe=>?_) (h.bl u hu);have:=hc.1;rw[<-e]at this;rw[this]at hu;cases hu
 ·exact h.bl u hu
def OQ(c:Co):(c.tUnit cf).1.phase=c.phase/\(c.tUnit cf).1.r=c.r/\(c.tUnit cf).1.b=c.b:=by
 unfold Co.tUnit Co.entry Co.look;split
 ·exact⟨rfl,rfl,rfl⟩
 split
 ·simp only;split<;>exact⟨rfl,rfl,rfl⟩
 ·simp only;split<;>exact⟨rfl,rfl,rfl⟩
def XI.wUnit(h:XI cf c)(k:KI cf E c)(hst:1<=cf.stack)(h5:c.phase=5):XI cf (c.wUnit cf).1:=by
 have hcalm:=k.calm (ws h5);unfold Co.wUnit;split
 ·exact h
 simp only;have hs:=DJ (c.s.inP c.at_) c k.si (F4 _ _) λx hx=>by
  obtain⟨a,e,ta,_⟩:=(Ef k.si).1 hx;exact⟨a,e,ta⟩
 generalize c.sweepAll (c.s.inP c.at_)=d at hs;have he:EN cf.stack d.g:=EN.nil (by omega) (by rw[hs.gl.1];exact hcalm.1);have hbl:BL d:=h.bl.of (λt=>by rw[hs.r]) λt x=>by rw[hs.b];exact x
 exact⟨he,λ_=>ws (ws (by simp only;rw[hs.phase];exact h5)),hbl⟩
def XI.unit(h:XI cf c)(k:KI cf E c)(hst:1<=cf.stack)(hp:cf.pages<=64):XI cf (c.unit cf).1:=by
 have hu:∀(r:Co × Bool),XI cf r.1->XI cf (if r.2 then ({ r.1 with units:=C7 (r.1.units+1) }:Co) else r.1):=λr h=>by
  split
  ·exact⟨h.en,h.na,h.bl⟩
  ·exact h
 unfold Co.unit;refine hu _ ?_;split
 ·rename_i h3;have e1:=h.en.tUnit hst;obtain⟨p1,p2,p3⟩:=OQ (cf:=cf) c;generalize c.tUnit cf=z at e1 p1 p2 p3;obtain⟨d,b⟩:=z;simp only at e1 p1 p2 p3;have hbl:BL d:=h.bl.of (λt=>by rw[p2]) λt x=>by rw[p3];exact x
  cases b with
  | true=>exact⟨e1,λha=>by rw[p1];rw[p2]at ha;exact h.na ha,hbl⟩
  | false=>exact I6 (d.raise 4) e1 hbl ⟨show (0:Int)<=4 by decide,show (4:Int)<=5 by decide⟩
 split
 ·rename_i h5;have k0:=h.wUnit k hst h5;generalize c.wUnit cf=z at k0;obtain⟨d,b⟩:=z;simp only at k0 ⊢;split
  ·exact⟨k0.en,λ_=>wr rfl,k0.bl⟩
  ·exact k0
 ·exact h
end
section
variable{cf:Cf}{E:Int}{c d:Co}{P:Nat}
theorem Ho{s:St}{room:Int}(hs:SI s):∀(l:List Int) {g:Gy},EN room g->(∀n:Nat,(n:Int)∈l->s.c.tk n=wk)->D0 P s (g.shadeAll room l)<=D0 P s g
 | [],g,h,_=>vl _
 | a::l,g,h,ht=>va (Ho hs l (h.shade a) λn hn=>ht n (by simp[hn])) (IN h hs λn e=>ht n (by simp[e]))
def Ms{g':Gy}(h:D0 P c.s g'<=D0 P c.s c.g)(e1:d.s=c.s)(e2:d.g=g')(e3:d.tp=c.tp):Di P d<=Di P c:=by unfold Di;rw[e1,e2,e3];omega
theorem FV:∀(n:Nat) (c:Co),EN cf.stack c.g->SI c.s->(∀a:Nat,c.global=a->c.s.c.tk a=wk)->Di P (c.advance cf n)<=Di P c
 | 0,c,_,_,_=>vl _
 | n+1,c,he,hs,hg=>by
  rw[Co.advance];split
  ·split
   ·exact va (FV n _ (he.shade _) hs hg) (Ms (IN he hs hg) rfl rfl rfl)
   split
   ·exact FV n _ he hs hg
   split
   ·exact FV n _ he hs hg
   split
   ·exact FV n _ he hs hg
   ·exact vl _
  ·exact vl _
def KI.glob_tk(k:KI cf E c):∀a:Nat,c.global=a->c.s.c.tk a=wk:=λa e=>(k.ni.gl a e).1
def XI.poll_cost(x:XI cf c)(k:KI cf E c)(t:Int):Di P (c.poll cf t)<=Di P c:=by
 unfold Co.poll;split
 rotate_left
 ·exact vl _
 simp only[Co.adv];split
 ·refine va (FV 4 _ (x.en.shadeAll _) k.si k.glob_tk) (Ms (Ho k.si _ x.en λn hn=>?_) rfl rfl rfl);exact ((k.row_ok t.toNat (2,(n:Int)) (Io.1 hn)).2 n rfl).1
 split
 ·refine va (FV 4 _ (x.en.shadeAll _) k.si k.glob_tk) (Ms (Ho k.si _ x.en λn hn=>?_) rfl rfl rfl);obtain⟨l,hl,hx⟩:=k.buf_in t hn;exact (k.ni.bf l hl n hx).1
 ·exact va (FV 4 _ x.en k.si k.glob_tk) (vl _)
def UZ(c:Co)(n:Nat)(h:c.phase=2):c.advance cf (n+1)=if c.r.agreed=wk then { c with phase:=3 } else c:=by
 rw[Co.advance];split
 ·split
  ·rename_i h1;omega
  exact EY n _ (ws (wr rfl))
 ·rfl
def N1(c:Co)(n:Nat)(h:c.phase=4):c.advance cf (n+1)=if c.r.agreed=wk then (if CL c.b=wk/\c.tIdle=wk then { c with phase:=5,at_:=0,freed:=0 } else { c with phase:=3 }) else c:=by
 rw[Co.advance];split
 ·split
  ·rename_i h1;omega
  split
  ·rename_i h1;omega
  split
  ·rename_i h1;rw[vy h1.2];exact EY n _ (ws (ws rfl))
  ·rename_i h1;rw[vx (λy=>h1 ⟨h,y⟩)];exact EY n _ (ws (wr rfl))
 ·rfl
def VV(c:Co)(h:c.phase=1):c.adv cf=c/\c.r.agreed=wl∨((c.adv cf).phase=2∨(c.adv cf).phase=3):=by
 unfold Co.adv;cases ha:c.r.agreed with
 | false=>
  left;rw[Co.advance,vx (by rw[ha];decide)];exact⟨rfl,rfl⟩
 | true=>
  right;rw[Co.advance,vy ha,vy h,UZ _ 2 rfl];split
  ·exact ws rfl
  ·exact wr rfl
def I4(p q:Int):Prop:=p=q∨(p=1/\(q=2∨q=3))∨(p=2/\q=3)∨(p=4/\(q=3∨q=5))
def I4.trans{p q r:Int}(h:I4 p q)(k:I4 q r):I4 p r:=by unfold I4 at *;omega
def PM(c:Co)(h:0<=c.phase/\c.phase<=5):I4 c.phase (c.adv cf).phase/\((c.adv cf).phase=c.phase->c.adv cf=c):=by
 by_cases h1:c.phase=1
 ·rcases VV (cf:=cf) c h1 with⟨e,_⟩|e
  ·rw[e];exact⟨wr rfl,λ_=>rfl⟩
  ·exact⟨ws (wr ⟨h1,e⟩),λx=>by omega⟩
 unfold Co.adv;by_cases h2:c.phase=2
 ·rw[UZ c 3 h2];split
  ·exact⟨ws (ws (wr ⟨h2,rfl⟩)),λx=>by have x:(3:Int)=c.phase:=x;omega⟩
  ·exact⟨wr rfl,λ_=>rfl⟩
 by_cases h4:c.phase=4
 ·rw[N1 c 3 h4];split
  ·split
   ·exact⟨ws (ws (ws ⟨h4,ws rfl⟩)),λx=>by have x:(5:Int)=c.phase:=x;omega⟩
   ·exact⟨ws (ws (ws ⟨h4,wr rfl⟩)),λx=>by have x:(3:Int)=c.phase:=x;omega⟩
  ·exact⟨wr rfl,λ_=>rfl⟩
 rw[EY 4 c (by omega)];exact⟨wr rfl,λ_=>rfl⟩
def Co.told(cf:Cf)(c:Co)(t:Int):Co:=
 let c1:Co:={ c with r:=(c.r.confirm t).1 }
 if c.phase=2 then { c1 with g:=c1.g.shadeAll cf.stack (D8 (c.th.getD t.toNat [])) }
   else if c.phase=4 then { c1 with g:=c1.g.shadeAll cf.stack (DQ c.b t),b:=CT c.b t } else c1
def Kr(c:Co)(t:Int):c.poll cf t=if (c.r.confirm t).2=wk then (c.told cf t).adv cf else c:=rfl
def Qk(c:Co)(t:Int):(c.told cf t).phase=c.phase/\(c.told cf t).r=(c.r.confirm t).1/\(c.told cf t).s=c.s:=by
 unfold Co.told;simp only;split
 ·exact⟨rfl,rfl,rfl⟩
 ·split<;>exact⟨rfl,rfl,rfl⟩
def L7{r:Rg}{t:Int}(hl:r.live t=wk):(r.confirm t).1.ep=r.ep/\(r.confirm t).1.ep<=(r.confirm t).1.ofT t/\(∀u:Int,r.ep<=r.ofT u->(r.confirm t).1.ep<=(r.confirm t).1.ofT u)/\(∀u:Int,u≠t->(r.confirm t).1.ofT u=r.ofT u):=by
 unfold Rg.confirm;split
 ·obtain⟨h0,h1,_⟩:=CW.1 hl;have hof:=λu:Int=>IC (r:=r) (m:=(wk,r.ep)) h0 h1 u;refine⟨rfl,?_,λu hu=>?_,λu hu=>?_⟩
  ·rw[hof,vy rfl];exact vj _
  ·rw[hof];split
   ·exact vj _
   ·exact hu
  ·rw[hof,vx hu]
 ·rename_i h;refine⟨rfl,?_,λu hu=>hu,λu hu=>rfl⟩;simp only;have:¬(r.ofT t<r.ep):=λx=>h ⟨hl,x⟩;omega
def QK{r:Rg}{t:Int}(hl:r.live t=wk)(h:¬(r.confirm t).2=wk):r.ep<=r.ofT t:=by
 unfold Rg.confirm at h;split at h
 ·exact absurd rfl h
 ·rename_i h2;have:¬(r.ofT t<r.ep):=λx=>h2 ⟨hl,x⟩;omega
def OC(k:KI cf E c)(t:Int)(hl:c.r.live t=wk):I4 c.phase (c.poll cf t).phase/\((c.poll cf t).phase=c.phase->(c.poll cf t).r.ep=c.r.ep/\(c.poll cf t).r.ep<=(c.poll cf t).r.ofT t/\∀u:Int,c.r.ep<=c.r.ofT u->(c.poll cf t).r.ep<=(c.poll cf t).r.ofT u):=by
 rw[Kr];split
 ·obtain⟨t1,t2,t3⟩:=Qk (cf:=cf) c t;obtain⟨a1,a2⟩:=PM (cf:=cf) (c.told cf t) (by rw[t1];exact k.ph);rw[t1]at a1 a2;refine⟨a1,λe=>?_⟩;rw[a2 e,t2];obtain⟨b1,b2,b3,_⟩:=L7 hl;exact⟨b1,b2,b3⟩
 ·rename_i h;exact⟨wr rfl,λ_=>⟨rfl,QK hl h,λu hu=>hu⟩⟩
def Co.polls(cf:Cf)(c:Co):List Int->Co
 | []=>c
 | t::l=>Co.polls cf (c.poll cf t) l
theorem OE:∀(l:List Int) (c:Co),Lk c (c.polls cf l)
 | [],c => .refl c
 | t::l,c=>(H6 c t).trans (OE l _)
theorem JK:∀(l:List Int) {c:Co} {E:Int},MI cf E c->XI cf c->E+5*l.length<=1000000000->MI cf (E+5*l.length) (c.polls cf l)/\XI cf (c.polls cf l)/\Di P (c.polls cf l)<=Di P c
 | [],c,E,k,x,_=>⟨k.up (by simp),x,vl _⟩
 | t::l,c,E,k,x,hE=>by
  simp only[d9]at hE ⊢;obtain⟨a,b,e⟩:=JK l (k.poll (by omega) t) (x.poll k.k t) (by omega);exact⟨a.up (by omega),b,va e (x.poll_cost k.k t)⟩
theorem Ng:∀(l:List Int) {c:Co} {E:Int},MI cf E c->E+5*l.length<=1000000000->(∀t∈l,c.r.live t=wk)->I4 c.phase (c.polls cf l).phase/\((c.polls cf l).phase=c.phase->(c.polls cf l).r.ep=c.r.ep/\(∀t∈l,(c.polls cf l).r.ep<=(c.polls cf l).r.ofT t)/\∀u:Int,c.r.ep<=c.r.ofT u->(c.polls cf l).r.ep<=(c.polls cf l).r.ofT u)
 | [],c,E,k,_,_=>⟨wr rfl,λ_=>⟨rfl,λt ht=>(by cases ht),λu hu=>hu⟩⟩
 | t::l,c,E,k,hE,hl=>by
  simp only[d9]at hE;obtain⟨a1,a2⟩:=OC k.k t (hl t (by simp));obtain⟨b1,b2⟩:=Ng l (k.poll (by omega) t) (by omega) λu hu=>by rw[(H6 c t).live];exact hl u (by simp[hu])
  have r1:=I4.trans a1 b1;refine⟨r1,λe=>?_⟩;have e1:(c.poll cf t).phase=c.phase:=by have e:(Co.polls cf (c.poll cf t) l).phase=c.phase:=e;unfold I4 at a1 b1;omega
  obtain⟨c1,c2,c3⟩:=a2 e1;obtain⟨d1,d2,d3⟩:=b2 (by have e:(Co.polls cf (c.poll cf t) l).phase=c.phase:=e;omega);refine⟨d1.trans c1,λu hu=>?_,λu hu=>d3 u (c3 u hu)⟩;rcases ux.1 hu with rfl|hu
  ·exact d3 _ c2
  ·exact d2 u hu
def U8{l:List Int}(k:MI cf E c)(x:XI cf c)(hE:E+5*l.length<=1000000000)(hl:∀t∈l,c.r.live t=wk)(hall:∀t:Nat,c.r.live (t:Int)=wk->(t:Int)∈l):
  (c.phase=1->(c.polls cf l).phase=2∨(c.polls cf l).phase=3)/\(c.phase=2->(c.polls cf l).phase=3)/\(c.phase=4->(c.polls cf l).phase=3∨(c.polls cf l).phase=5)/\(c.phase=0∨c.phase=3∨c.phase=5->(c.polls cf l).phase=c.phase):=by
 obtain⟨a1,a2⟩:=Ng l k hE hl;obtain⟨_,b2,_⟩:=JK (P:=0) l k x hE;have hno:(c.polls cf l).phase=c.phase->c.phase=1∨c.phase=2∨c.phase=4->False:=λe hp=>by
  obtain⟨c1,c2,_⟩:=a2 e;have ha:(c.polls cf l).r.agreed=wk:=Gk.2 λt ht=>c2 _ (hall t (by rw[<-(OE l c).live];exact ht));have:=b2.na ha;omega
 unfold I4 at a1;refine⟨λh=>?_,λh=>?_,λh=>?_,λh=>?_⟩
 ·by_cases e:(c.polls cf l).phase=c.phase
  ·exact absurd (hno e (by omega)) id
  ·omega
 ·by_cases e:(c.polls cf l).phase=c.phase
  ·exact absurd (hno e (by omega)) id
  ·omega
 ·by_cases e:(c.polls cf l).phase=c.phase
  ·exact absurd (hno e (by omega)) id
  ·omega
 ·omega
end
def CB(c:Co):Prop:=∀t:Nat,c.r.live (t:Int)=wk->c.r.ep<=c.r.ofT (t:Int)->c.b.getD t []=[]
def Lv(n:Nat)(c:Co):Prop:=
 c.phase=0∨(c.phase=5/\1<=n)∨(c.phase=4/\CL c.b=wk/\c.tIdle=wk/\2<=n)∨(c.phase=3/\CL c.b=wk/\3<=n)∨(c.phase=4/\CB c/\4<=n)∨(c.phase=3/\5<=n)∨(c.phase=4/\6<=n)∨(c.phase=2/\6<=n)∨(c.phase=1/\7<=n)
def Dh(P:Nat)(c:Co):Nat:=if c.phase=0∨c.phase=5 then 0 else Di P c
section
variable{cf:Cf}{E:Int}{c d:Co}{P:Nat}
def Gm{b:List (List Int)}:CL b=wk↔∀t:Nat,b.getD t []=[]:=by
 unfold CL;rw[zZ];constructor
 ·intro h t;rw[xF];cases hb:b[t]? with
  | none=>rfl
  | some l=>
   have:=h l (yR hb);simpa using this
 ·intro h l hl;obtain⟨i,hi,rfl⟩:=yW hl;have:=h i;rw[xF,xS hi]at this;have this:b[i]=[]:=this;rw[this];rfl
def CB.poll(h:CB c)(x:XI cf c)(k:KI cf E c)(h4:c.phase=4)(t:Nat)(hl:c.r.live (t:Int)=wk):
  ((c.poll cf (t:Int)).phase=4/\CB (c.poll cf (t:Int)))∨((c.poll cf (t:Int)).phase=3/\CL (c.poll cf (t:Int)).b=wk)∨(c.poll cf (t:Int)).phase=5:=by
 rw[Kr];split
 rotate_left
 ·exact wr ⟨h4,h⟩
 have e:c.told cf (t:Int)={ ({ c with r:=(c.r.confirm (t:Int)).1 }:Co)with g:=c.g.shadeAll cf.stack (DQ c.b (t:Int)),b:=CT c.b (t:Int) }:=by unfold Co.told;simp only;rw[vx (by omega),vy h4]
 have hbl:t<c.b.length:=by have:=CW.1 hl;have:=k.bl;have:=k.rl;omega
 have hT:(CT c.b (t:Int)).getD t []=[]:=by unfold CT;rw[vy (by omega),zK,El,vy ⟨rfl,hbl⟩]
 obtain⟨b1,b2,b3,b4⟩:=L7 hl;have hcb:CB (c.told cf (t:Int)):=λu hu hc=>by
  rw[e]at hu hc ⊢;simp only at hu hc ⊢;by_cases eu:u=t
  ·subst eu;exact hT
  ·rw[Ek]at hu;rw[b4 _ (by omega),b1]at hc;exact Hg (h u hu hc)
 have hp:(c.told cf (t:Int)).phase=4:=(Qk c _).1.trans h4;have hbl2:BL (c.told cf (t:Int)):=λu hu=>by
  rw[e]at hu ⊢;simp only at hu ⊢;rw[Ek]at hu;exact Hg (x.bl u hu)
 unfold Co.adv;rw[N1 _ 3 hp];split
 ·rename_i ha;have hfe:CL (c.told cf (t:Int)).b=wk:=Gm.2 λu=>by
   cases hu:(c.told cf (t:Int)).r.live (u:Int) with
   | true=>exact hcb u hu (Gk.1 ha u hu)
   | false=>exact hbl2 u hu
  split
  ·exact ws (ws rfl)
  ·exact ws (wr ⟨rfl,hfe⟩)
 ·exact wr ⟨hp,hcb⟩
def Wu(h:c.phase=3∨c.phase=5)(t:Int):(c.poll cf t).phase=c.phase/\(c.poll cf t).b=c.b/\(c.poll cf t).g=c.g/\(c.poll cf t).tp=c.tp:=by
 rw[Kr];split
 ·have e:c.told cf t={ c with r:=(c.r.confirm t).1 }:=by unfold Co.told;simp only;rw[vx (by omega),vx (by omega)]
  have hs:=EY (cf:=cf) 4 ({ c with r:=(c.r.confirm t).1 }:Co) (ws h);unfold Co.adv;rw[e,hs];exact⟨rfl,rfl,rfl,rfl⟩
 ·exact⟨rfl,rfl,rfl,rfl⟩
theorem HO:∀(l:List Int) {c:Co},c.phase=3∨c.phase=5->(c.polls cf l).phase=c.phase/\(c.polls cf l).b=c.b
 | [],c,_=>⟨rfl,rfl⟩
 | t::l,c,h=>by
  obtain⟨a1,a2,_⟩:=Wu (cf:=cf) h t;obtain⟨b1,b2⟩:=HO l (c:=c.poll cf t) (by rw[a1];exact h);exact⟨b1.trans a1,b2.trans a2⟩
theorem CB.polls:∀(l:List Int) {c:Co} {E:Int},CB c->XI cf c->MI cf E c->E+5*l.length<=1000000000->c.phase=4->(∀t∈l,∃n:Nat,t=n/\c.r.live (n:Int)=wk)->
  ((c.polls cf l).phase=4/\CB (c.polls cf l))∨((c.polls cf l).phase=3/\CL (c.polls cf l).b=wk)∨(c.polls cf l).phase=5
 | [],c,E,h,_,_,_,h4,_=>wr ⟨h4,h⟩
 | t::l,c,E,h,x,k,hE,h4,hl=>by
  simp only[d9]at hE;obtain⟨n,rfl,hn⟩:=hl t (by simp);have k1:=k.poll (by omega) (n:Int) (cf:=cf);have x1:=x.poll k.k (n:Int);rcases h.poll x k.k h4 n hn with⟨a,b⟩|⟨a,b⟩|a
  ·exact CB.polls l b x1 k1 (by omega) a λu hu=>by
    obtain⟨m,e,hm⟩:=hl u (by simp[hu]);exact⟨m,e,by rw[(H6 c _).live];exact hm⟩
  ·obtain⟨p1,p2⟩:=HO (cf:=cf) l (c:=c.poll cf (n:Int)) (wr a);exact ws (wr ⟨p1.trans a,by unfold Co.polls;rw[p2];exact b⟩)
  ·obtain⟨p1,p2⟩:=HO (cf:=cf) l (c:=c.poll cf (n:Int)) (ws a);exact ws (ws (p1.trans a))
def SP(h4:c.phase=4)(hb:CL c.b=wk)(hi:c.tIdle=wk)(t:Int):(c.poll cf t).phase=5∨((c.poll cf t).phase=4/\CL (c.poll cf t).b=wk/\(c.poll cf t).tIdle=wk):=by
 rw[Kr];split
 rotate_left
 ·exact ws ⟨h4,hb,hi⟩
 have hnil:DQ c.b t=[]:=by
  unfold DQ;split
  ·exact Gm.1 hb _
  ·rfl
 have e:c.told cf t={ ({ c with r:=(c.r.confirm t).1 }:Co)with b:=CT c.b t }:=by unfold Co.told;simp only;rw[vx (by omega),vy h4,hnil];rfl
 have hb2:CL (CT c.b t)=wk:=Gm.2 λu=>Hg (Gm.1 hb u);have p4:(c.told cf t).phase=4:=by rw[e];exact h4
 have pb:CL (c.told cf t).b=wk:=by rw[e];exact hb2
 have pi:(c.told cf t).tIdle=wk:=by rw[e];exact hi
 unfold Co.adv;rw[N1 _ 3 p4];split
 ·rw[vy ⟨pb,pi⟩];exact wr rfl
 ·exact ws ⟨p4,pb,pi⟩
theorem LR:∀(l:List Int) {c:Co},c.phase=4->CL c.b=wk->c.tIdle=wk->(c.polls cf l).phase=5∨(c.polls cf l).phase=4
 | [],c,h4,_,_=>ws h4
 | t::l,c,h4,hb,hi=>by
  rcases SP (cf:=cf) h4 hb hi t with a|⟨a,b,e⟩
  ·left;exact (HO (cf:=cf) l (c:=c.poll cf t) (ws a)).1.trans a
  ·exact LR l a b e
def Ye(c:Co)(h3:c.phase=3):(c.tUnit cf).2=wk/\(c.unit cf).2=wk/\(c.unit cf).1={ (c.tUnit cf).1 with units:=C7 ((c.tUnit cf).1.units+1) }∨(c.tIdle=wk/\(c.unit cf).2=wl/\(c.unit cf).1=(c.raise 4).adv cf):=by
 unfold Co.unit;rw[vy h3];by_cases hi:c.tIdle=wk
 ·have e:c.tUnit cf=(c,wl):=by unfold Co.tUnit;rw[vy hi]
  rw[e];exact ws ⟨hi,rfl,rfl⟩
 ·have e:(c.tUnit cf).2=wk:=by unfold Co.tUnit;rw[vx hi];split<;>rfl
  left;generalize c.tUnit cf=z at e;obtain⟨d,b⟩:=z;simp only at e;subst e;exact⟨rfl,rfl,rfl⟩
theorem XI.workN(L:C3 cf)(hst:1<=cf.stack):∀(n:Nat) {c:Co} {E:Int},XI cf c->MI cf E c->E+5*n<=1000000000->XI cf (c.workN cf n).1
 | 0,c,E,h,_,_=>h
 | n+1,c,E,h,k,hE=>by
  have k1:=k.unit L (by omega);have x1:=h.unit k.k hst L.pg.2;unfold Co.workN;generalize c.unit cf=z at k1 x1;obtain⟨d,b⟩:=z;cases b with
  | true=>exact XI.workN L hst n x1 k1 (by omega)
  | false=>exact x1
theorem Tq(L:C3 cf)(hst:1<=cf.stack)(hch:1<=cf.chunk):∀(n:Nat) {c:Co} {E:Int},XI cf c->MI cf E c->E+5*n<=1000000000->c.phase=3->
  ((c.workN cf n).1.phase=3/\(c.workN cf n).1.b=c.b/\Di cf.pages.toNat (c.workN cf n).1+n<=Di cf.pages.toNat c)∨
  ((c.workN cf n).1.phase=4/\CB (c.workN cf n).1/\(c.workN cf n).1.b=c.b/\(c.workN cf n).1.tIdle=wk/\Di cf.pages.toNat (c.workN cf n).1<=Di cf.pages.toNat c)∨(c.workN cf n).1.phase=5
 | 0,c,E,x,k,_,h3=>wr ⟨h3,rfl,vl _⟩
 | n+1,c,E,x,k,hE,h3=>by
  have k1:=k.unit L (by omega);have x1:=x.unit k.k hst L.pg.2;have hless:=k.k.tUnit_less h3 x.en hst ⟨hch,L.ch.2⟩ L.pg;obtain⟨p1,p2,p3⟩:=OQ (cf:=cf) c;have h35:=Ye (cf:=cf) c h3;unfold Co.workN;generalize c.unit cf=z at k1 x1 h35;obtain⟨d,b⟩:=z;simp only at k1 x1 h35;rcases h35 with⟨u1,u2,u3⟩|⟨u1,u2,u3⟩
  ·subst u2;simp only;have hl:=hless u1;have e3:d.phase=3:=by rw[u3];simp only;rw[p1];exact h3
   have eb:d.b=c.b:=by rw[u3];exact p3
   have ec:Di cf.pages.toNat d=Di cf.pages.toNat (c.tUnit cf).1:=by rw[u3];rfl
   rcases Tq L hst hch n x1 k1 (by omega) e3 with⟨a1,a2,a3⟩|⟨a1,a2,a3,a4,a5⟩|a1
   ·exact wr ⟨a1,a2.trans eb,by omega⟩
   ·exact ws (wr ⟨a1,a2,a3.trans eb,a4,by omega⟩)
   ·exact ws (ws a1)
  ·subst u2;simp only;right;have hw:=Mf k.k (by omega);have hE0:=k.k.e0;unfold Co.adv at u3;rw[N1 _ 3 rfl]at u3;by_cases ha:(c.raise 4).r.agreed=wk
   ·right;rw[vy ha]at u3;have hfe:CL (c.raise 4).b=wk:=Gm.2 λu=>by
     cases hu:c.r.live (u:Int) with
     | false=>exact x.bl u hu
     | true=>
      have h1:=Gk.1 ha u hu;have h1:C7 (c.r.ep+1)<=c.r.ofT (u:Int):=h1;have:=k.k.ep u hu;omega
    rw[vy ⟨hfe,u1⟩]at u3;rw[u3]
   ·left;rw[vx ha]at u3;subst u3;refine⟨rfl,λu hu hc=>?_,rfl,u1,vl _⟩;have hc:C7 (c.r.ep+1)<=c.r.ofT (u:Int):=hc;have:=k.k.ep u hu;omega
def Kb(h:c.phase=2∨c.phase<=1∨c.phase=4):∀n,(c.workN cf n).1=c
 | 0=>rfl
 | n+1=>by
  have e:c.unit cf=(c,wl):=by unfold Co.unit;rw[vx (by omega),vx (by omega)];rfl
  unfold Co.workN;rw[e]
theorem Tr(L:C3 cf):∀(n:Nat) {c:Co} {E:Int},MI cf E c->E+5*n<=1000000000->c.phase=5->1<=n->cf.pages-c.at_<=n->(c.workN cf n).1.phase=0
 | 0,c,E,_,_,_,h1,_=>by omega
 | n+1,c,E,k,hE,h5,_,ha=>by
  have k1:=k.unit L (by omega);have hp5:=k.k.p5 h5;obtain⟨w1,w2,w3⟩:=k.k.wUnit h5 L.pg.2;have hu:((c.unit cf).1.phase=0)∨((c.unit cf).1.phase=5/\(c.unit cf).2=wk/\(c.unit cf).1.at_=c.at_+1/\c.at_+1<cf.pages):=by
   unfold Co.unit;rw[vx (by omega),vy h5];have hwat:(c.wUnit cf).2=wk->(c.wUnit cf).1.at_=c.at_+1:=by
    unfold Co.wUnit;split
    ·intro x;cases x
    ·intro _;have hs:=DJ (c.s.inP c.at_) c k.k.si (F4 _ _) λx hx=>by
      obtain⟨a,e,ta,_⟩:=(Ef k.k.si).1 hx;exact⟨a,e,ta⟩
     have hpg:=L.pg;simp only;rw[hs.at_];exact E9 (by omega)
   generalize c.wUnit cf=z at w1 w2 w3 hwat;obtain⟨d,b⟩:=z;simp only at w1 w2 w3 hwat ⊢;by_cases hd:cf.pages<=d.at_
   ·left;rw[vy hd];split<;>rfl
   ·right;rw[vx hd];cases b with
    | true=>
     have:=hwat rfl;simp only[vu];exact⟨w2,trivial,this,by omega⟩
    | false=>
     obtain⟨q1,q2⟩:=w3 rfl;rw[q2]at hd;exact absurd q1 hd
  unfold Co.workN;generalize c.unit cf=z at k1 hu;obtain⟨d,b⟩:=z;simp only at k1 hu;rcases hu with h0|⟨q1,q2,q3,q4⟩
  ·cases b with
   | true=>simp only;rw[Kb (ws (wr (by omega)))];exact h0
   | false=>exact h0
  ·subst q2;simp only;exact Tr L n k1 (by omega) q1 (by omega) (by omega)
end
def Co.round(cf:Cf)(c:Co)(l:List Int):Co:=((c.polls cf l).workN cf 64).1
section
variable{cf:Cf}{E:Int}{c:Co}
def PR{P:Nat}{d:Co}(h:d.phase=0∨d.phase=5):Dh P d=0:=by unfold Dh;rw[vy h]
def Wx(L:C3 cf)(hst:1<=cf.stack)(hch:1<=cf.chunk){n:Nat}{c1:Co}(x:XI cf c1)(k:MI cf E c1)(hE:E+320<=1000000000)(h3:c1.phase=3):
  ((c1.workN cf 64).1.phase=3/\(c1.workN cf 64).1.b=c1.b/\Di cf.pages.toNat (c1.workN cf 64).1+64<=Di cf.pages.toNat c1)∨
  (Lv 4 (c1.workN cf 64).1/\(CL c1.b=wk->Lv 2 (c1.workN cf 64).1)/\Dh cf.pages.toNat (c1.workN cf 64).1<=Di cf.pages.toNat c1):=by
 rcases Tq L hst hch 64 x k (by omega) h3 with a|⟨a1,a2,a3,a4,a5⟩|a
 ·exact wr a
 ·right;refine⟨ws (ws (ws (ws (wr ⟨a1,a2,by omega⟩)))),λhb=>ws (ws (wr ⟨a1,by rw[a3];exact hb,a4,by omega⟩)),?_⟩;unfold Dh;split
  ·omega
  ·exact a5
 ·right;refine⟨ws (wr ⟨a,by omega⟩),λ_=>ws (wr ⟨a,by omega⟩),?_⟩;rw[PR (ws a)];omega
def Lv.round(L:C3 cf)(hst:1<=cf.stack)(hch:1<=cf.chunk)(hpg:cf.pages<=8){n:Nat}(h:Lv (n+1) c)(x:XI cf c)(k:MI cf E c){l:List Int}(hll:l.length<=8)(hE:E+400<=1000000000)(hl:∀t∈l,∃n:Nat,t=n/\c.r.live (n:Int)=wk)(hall:∀t:Nat,c.r.live (t:Int)=wk->(t:Int)∈l)(h0:c.phase≠0):
  (Lv n (c.round cf l)/\Dh cf.pages.toNat (c.round cf l)<=Dh cf.pages.toNat c)∨(Lv (n+1) (c.round cf l)/\Dh cf.pages.toNat (c.round cf l)+64<=Dh cf.pages.toNat c):=by
 have hl':∀t∈l,c.r.live t=wk:=λt ht=>by
  obtain⟨m,rfl,hm⟩:=hl t ht;exact hm
 have hE':E+5*(l.length:Int)<=1000000000:=by omega
 obtain⟨g1,g2,g4,g35⟩:=U8 k x hE' hl' hall;obtain⟨k1,x1,cost1⟩:=JK (P:=cf.pages.toNat) l k x hE';have hcb:=λ(hc:CB c) h4=>hc.polls l x k hE' h4 hl;have hid:=λh4 hb hi=>LR (cf:=cf) l (c:=c) h4 hb hi;have h35b:=λh=>(HO (cf:=cf) l (c:=c) h).2;unfold Co.round;generalize c.polls cf l=c1 at *;have k1:MI cf (E+40) c1:=k1.up (by omega)
 have five:c1.phase=5->(c1.workN cf 64).1.phase=0:=λh5=>Tr L 64 k1 (by omega) h5 (by decide) (by have:=(k1.k.p5 h5).2.1;omega);have five':c1.phase=5->(Lv n (c1.workN cf 64).1/\Dh cf.pages.toNat (c1.workN cf 64).1<=Dh cf.pages.toNat c):=λh5=>by
  have:=five h5;exact⟨wr this,by rw[PR (wr this)];omega⟩
 have three:=λh3=>Wx L hst hch (n:=n) x1 k1 (by omega) h3;have two:c1.phase=2->(c1.workN cf 64).1=c1:=λh2=>Kb (wr h2) 64;have hcR:c.phase≠5->Dh cf.pages.toNat c=Di cf.pages.toNat c:=λh5=>by unfold Dh;rw[vx (by omega)]
 have to3:c.phase≠5->c1.phase=3->(5<=n∨(CL c1.b=wk/\3<=n))->(Lv n (c1.workN cf 64).1/\Dh cf.pages.toNat (c1.workN cf 64).1<=Dh cf.pages.toNat c):=λh5 h3 hn=>by
  rw[hcR h5];rcases three h3 with⟨a1,a2,a3⟩|⟨a1,a2,a3⟩
  ·refine⟨?_,?_⟩
   ·rcases hn with hn|⟨hb,hn⟩
    ·exact ws (ws (ws (ws (ws (wr ⟨a1,hn⟩)))))
    ·exact ws (ws (ws (wr ⟨a1,by rw[a2];exact hb,hn⟩)))
   ·unfold Dh;split<;>omega
  ·refine⟨?_,by omega⟩;have up:∀ {a:Nat} {d:Co},Lv a d->a<=n->Lv n d:=fun {a d} hd ha=>by
    unfold Lv at hd ⊢;rcases hd with y|⟨y,z⟩|⟨y,y2,y3,z⟩|⟨y,y2,z⟩|⟨y,y2,z⟩|⟨y,z⟩|⟨y,z⟩|⟨y,z⟩|⟨y,z⟩
    ·exact wr y
    ·exact ws (wr ⟨y,by omega⟩)
    ·exact ws (ws (wr ⟨y,y2,y3,by omega⟩))
    ·exact ws (ws (ws (wr ⟨y,y2,by omega⟩)))
    ·exact ws (ws (ws (ws (wr ⟨y,y2,by omega⟩))))
    ·exact ws (ws (ws (ws (ws (wr ⟨y,by omega⟩)))))
    ·exact ws (ws (ws (ws (ws (ws (wr ⟨y,by omega⟩))))))
    ·exact ws (ws (ws (ws (ws (ws (ws (wr ⟨y,by omega⟩)))))))
    ·exact ws (ws (ws (ws (ws (ws (ws (ws ⟨y,by omega⟩)))))))
   rcases hn with hn|⟨hb,hn⟩
   ·exact up a1 (by omega)
   ·exact up (a2 hb) (by omega)
 rcases h with y|⟨y,z⟩|⟨y,y2,y3,z⟩|⟨y,y2,z⟩|⟨y,y2,z⟩|⟨y,z⟩|⟨y,z⟩|⟨y,z⟩|⟨y,z⟩
 ·exact absurd y h0
 ·exact wr (five' (by rw[g35 (ws (ws y))];exact y))
 ·
  left;rcases hid y y2 y3 with a|a
  ·exact five' a
  ·have:=g4 y;omega
 ·
  have h3:c1.phase=3:=by rw[g35 (ws (wr y))];exact y
  have hb:CL c1.b=wk:=by rw[h35b (wr y)];exact y2
  rw[hcR (by omega)];rcases three h3 with⟨a1,a2,a3⟩|⟨a1,a2,a3⟩
  ·right;refine⟨ws (ws (ws (wr ⟨a1,by rw[a2];exact hb,z⟩))),?_⟩;unfold Dh;rw[vx (by omega)];omega
  ·left;refine⟨?_,by omega⟩;rcases a2 hb with u|⟨u,v⟩|⟨u,u2,u3,v⟩|⟨u,u2,v⟩|⟨u,u2,v⟩|⟨u,v⟩|⟨u,v⟩|⟨u,v⟩|⟨u,v⟩
   ·exact wr u
   ·exact ws (wr ⟨u,by omega⟩)
   ·exact ws (ws (wr ⟨u,u2,u3,by omega⟩))
   all_goals omega
 ·
  left;rcases hcb y2 y with⟨a,_⟩|⟨a,b⟩|a
  ·have:=g4 y;omega
  ·exact to3 (by omega) a (ws ⟨b,by omega⟩)
  ·exact five' a
 ·
  have h3:c1.phase=3:=by rw[g35 (ws (wr y))];exact y
  rw[hcR (by omega)];rcases three h3 with⟨a1,a2,a3⟩|⟨a1,a2,a3⟩
  ·right;refine⟨ws (ws (ws (ws (ws (wr ⟨a1,z⟩))))),?_⟩;unfold Dh;rw[vx (by omega)];omega
  ·left;refine⟨?_,by omega⟩;rcases a1 with u|⟨u,v⟩|⟨u,u2,u3,v⟩|⟨u,u2,v⟩|⟨u,u2,v⟩|⟨u,v⟩|⟨u,v⟩|⟨u,v⟩|⟨u,v⟩
   ·exact wr u
   ·exact ws (wr ⟨u,by omega⟩)
   ·exact ws (ws (wr ⟨u,u2,u3,by omega⟩))
   ·exact ws (ws (ws (wr ⟨u,u2,by omega⟩)))
   ·exact ws (ws (ws (ws (wr ⟨u,u2,by omega⟩))))
   all_goals omega
 ·
  left;rcases g4 y with a|a
  ·exact to3 (by omega) a (wr (by omega))
  ·exact five' a
 ·exact wr (to3 (by omega) (g2 y) (wr (by omega)))
 ·left;rcases g1 y with a|a
  ·rw[two a,hcR (by omega)];refine⟨ws (ws (ws (ws (ws (ws (ws (wr ⟨a,by omega⟩))))))),?_⟩;unfold Dh;rw[vx (by omega)];omega
  ·exact to3 (by omega) a (wr (by omega))
def Lv.all(k:KI cf E c):Lv 7 c:=by have:=k.ph;unfold Lv;omega
def Lv.zero(h:Lv 0 c):c.phase=0:=by unfold Lv at h;omega
end
section
variable{cf:Cf}{E E':Int}{c d:Co}{g:Cl}{t:Nat}
def Ob(c:Co)(a:Int):(c.color cf a).r=c.r:=by
 unfold Co.color;split
 ·rfl
 ·split<;>rfl
def Sk(c:Co){a b:Nat}(ha:a<2048)(hb:b≠a):(c.color cf (a:Int)).g.mks b=c.g.mks b/\(c.color cf (a:Int)).at_=c.at_:=by
 have h1:∀g:Gy,(g.black (a:Int)).mks b=g.mks b:=λg=>by
  rw[HZ _ ha];unfold C9;simp only;rw[vx hb]
 unfold Co.color;split
 ·refine⟨?_,rfl⟩;simp only;generalize c.g=g;unfold Gy.shade;split
  ·rw[Lh];exact h1 g
  ·exact Eq.refl (g.mks b)
 split
 ·have:=h1 c.g;constructor
  ·simp only;exact this
  ·simp only
 ·constructor<;>simp only
def Cu.newO(h:Cu cf c g)(hc:KI cf E c){s':St}{a n:Nat}(hn:Gi c.s s' a n){d:Co}(ed:d=({ c with s:=s' }:Co).color cf (a:Int))(hd:KI cf E' d)(hm:0<=c.s.made):Cu cf d { g with nd:=g.nd++[List.replicate n (0,0)] }/\Cs d.s (2,(a:Int))=(2,(g.nd.length:Int)):=by
 have es:d.s=s':=by rw[ed];exact Kg cf _ _
 have eth:d.th=c.th:=by rw[ed];exact L6 cf _ _
 have er:d.r=c.r:=by rw[ed];exact Ob _ _
 have eph:d.phase=c.phase:=by rw[ed];exact (TV _ _).1
 have ha:a<2048:=by have o:=hn.obj;rw[<-es]at o;have:=hd.si.hi.ci.tk_lt o.tk;have:=hd.si.hi.ci.small_n;omega
 have hk:∀b,b≠a->Cy d b->Cy c b:=λb hb x=>by
  obtain⟨x1,x2⟩:=x;rw[es,(hn.kept b hb).1]at x1;refine⟨x1,λe5=>?_⟩;have:=x2 (by rw[eph];exact e5);obtain⟨m1,m2⟩:=Sk (cf:=cf) ({ c with s:=s' }:Co) ha hb;rw[<-ed]at m1 m2;rw[m1,m2]at this;exact this
 have key:∀v:V2,Dp v=wk->(∀b:Nat,v=(2,(b:Int))->b≠a/\Cy c b)->Cs d.s v=Cs c.s v:=λv hv hb=>Jl hc.si hd.si hv λb e=>by
  obtain⟨x,y⟩:=hb b e;exact⟨y.1,λser fs o=>⟨fs,by rw[es];exact (hn.kept b x).obj' o⟩⟩
 have off:∀b,Cy c b->b≠a:=λb x e=>by
  have:=x.1;rw[e,hn.off]at this;cases this
 refine⟨⟨h.tl,λu hu=>?_,by rw[eth];exact h.le,?_,λb ser fs kb o=>?_⟩,?_⟩
 ·rw[h.tv u hu,er,eth];have e:(c.th.getD u []).map (Cs d.s)=(c.th.getD u []).map (Cs c.s):=FW λv hv=>by
   obtain⟨v1,v2⟩:=hc.row_ok u v hv;exact key v v1 λb eb=>⟨off b (v2 b eb),v2 b eb⟩
  rw[e]
 ·rw[es,hn.made];have:=h.nl;simp only[zE,d9,m7];omega
 ·simp only;by_cases hb:b=a
  ·subst hb;rw[es]at o;obtain⟨rfl,rfl⟩:=o.same hn.obj;have e:c.s.made.toNat=g.nd.length:=by have:=h.nl;omega
   rw[e,xG (vl _),vh];simp[Cs]
  ·have kc:=hk b hb kb;have oc:Cw c.s.c b ser fs:=by rw[es]at o;exact (hn.kept b hb).obj.1 o
   have e:=h.nd b ser fs kc oc;have hlt:ser.toNat<g.nd.length:=by apply xI;intro hx;rw[yG (by omega)]at e;cases e
   rw[xL hlt,e];have e:fs.map (Cs d.s)=fs.map (Cs c.s):=FW λv hv=>by
    obtain⟨v1,j,ej⟩:=oc.ok hv;refine key v v1 λx ex=>?_;have:=hc.ni.cl b j x kc ⟨ser,fs,oc,by rw[ej,ex]⟩;exact⟨off x this,this⟩
   rw[e]
 ·have o:=hn.obj;rw[<-es]at o;rw[E8 hd.si o,h.nl]
def Cu.write(h:Cu cf c g)(hc:KI cf E c)(hl:c.r.live (t:Int)=wk){a:Nat}{i:Int}{v:V2}(ha:VG c t (2,(a:Int)))(hv:VG c t v){ser:Int}{fs:List V2}(o:Cw c.s.c a ser fs):
  if 0<=i/\i<fs.length then (c.write (t:Int) (a:Int) i v).2=wk/\Cu cf (c.write (t:Int) (a:Int) i v).1 { g with nd:=g.nd.set ser.toNat ((g.node ser).set i.toNat (Cs c.s v)) } else c.write (t:Int) (a:Int) i v=(c,wl):=by
 have e:=St.get_obj hc.si.hi.ci o i;split
 rotate_left
 ·rename_i hi;have:(c.s.get (a:Int) i).2=wl:=by
   rw[e];by_cases h0:0<=i
   ·rw[vy h0,yG (by omega)]
   ·rw[vx h0]
  unfold Co.write;rw[vx (by rw[this];simp)]
 rename_i hi;obtain⟨i,rfl⟩:=xU hi.1;have hlen:i<fs.length:=by omega
 rw[vy (by omega),zK,xS hlen]at e;simp only at e;have kw:=hc.write ha hv (i:=(i:Int));obtain⟨s1,s2,s3,s4,s5,s6⟩:=St.set_ok hc.si o (i:=(i:Int)) hv.ok (by omega);revert kw;unfold Co.write;rw[vy ⟨hl,SF hc hv,by rw[e]⟩];intro kw;refine⟨s1,?_⟩;simp only at kw ⊢
 generalize (if (c.s.get (a:Int) (i:Int)).1.1=2/\¬(c.g.is (c.s.get (a:Int) (i:Int)).1.2=wk)/\c.barrier (t:Int)=wk then F3 c.b (t:Int) (c.s.get (a:Int) (i:Int)).1.2 else c.b)=b' at kw;generalize (c.s.set (a:Int) (i:Int) v).1=s' at *;have hk:∀b,Cy { c with b:=b',s:=s' } b->Cy c b:=λb x=>⟨by rw[<-s4];exact x.1,x.2⟩
 have key:∀v:V2,Dp v=wk->(∀b:Nat,v=(2,(b:Int))->Cy c b)->Cs s' v=Cs c.s v:=λv hv hb=>Jl (d:={ c with s:=s' }) hc.si s5 hv λb e=>by
  refine⟨(hb b e).1,λser' fs' o'=>?_⟩;by_cases hb:b=a
  ·subst hb;obtain⟨rfl,rfl⟩:=o'.same o;exact⟨_,s2⟩
  ·exact⟨fs',(s3 b hb).obj' o'⟩
 have hfs:fs.map (Cs s')=fs.map (Cs c.s):=FW λx hx=>by
  obtain⟨v1,j,ej⟩:=o.ok hx;exact key x v1 λb eb=>hc.ni.cl a j b (ha.kp a rfl) ⟨ser,fs,o,by rw[ej,eb]⟩
 have hnode:=h.obj (ha.kp a rfl) o;have hndser:=h.nd a ser fs (ha.kp a rfl) o;have hlt:ser.toNat<g.nd.length:=by apply xI;intro hx;rw[yG (by omega)]at hndser;cases hndser
 refine⟨h.tl,λu hu=>?_,h.le,?_,λb ser' fs' kb o'=>?_⟩
 ·rw[h.tv u hu];have e:(c.th.getD u []).map (Cs s')=(c.th.getD u []).map (Cs c.s):=FW λv hv=>by
   obtain⟨v1,v2⟩:=hc.row_ok u v hv;exact key v v1 v2
  simp only;rw[e]
 ·simp only[m8];rw[s6];exact h.nl
 ·simp only at o' ⊢;have kc:=hk b kb;by_cases hb:b=a
  ·subst hb;obtain⟨rfl,rfl⟩:=o'.same s2;rw[zO,vy rfl,vy hlt,hnode,zK,vi,hfs,key v hv.ok hv.kp]
  ·have oc:Cw c.s.c b ser' fs':=(s3 b hb).obj.1 o';have e:=h.nd b ser' fs' kc oc;have hne:ser.toNat≠ser'.toNat:=λes=>by
    have h0:=o.ser;have h1:=oc.ser;have:ser=ser':=by omega
    subst this;exact hb (hc.si.hi.one b a _ _ _ oc o)
   rw[zO,vx hne,e];have e:fs'.map (Cs s')=fs'.map (Cs c.s):=FW λx hx=>by
    obtain⟨v1,j,ej⟩:=oc.ok hx;exact key x v1 λy ey=>hc.ni.cl b j y kc ⟨ser',fs',oc,by rw[ej,ey]⟩
   rw[e]
def KI.tolds_inj(hc:KI cf E c){u v:V2}(hu:VG c t u)(hv:VG c t v):Cs c.s u=Cs c.s v↔u=v:=by
 refine⟨λh=>?_,λh=>by rw[h]⟩;have h1:u.1=v.1:=by unfold Cs at h;exact (ve.1 h).1
 by_cases h2:u.1=2
 ·obtain⟨a,rfl,_⟩:=Dz hu.ok h2;obtain⟨b,rfl,_⟩:=Dz hv.ok (by omega);obtain⟨s1,f1,o1,_⟩:=hc.si.hi.obj a (hu.kp a rfl).1;obtain⟨s2,f2,o2,_⟩:=hc.si.hi.obj b (hv.kp b rfl).1;rw[E8 hc.si o1,E8 hc.si o2]at h;have e:s1=s2:=(ve.1 h).2;subst e;rw[hc.si.hi.one a b _ _ _ o1 o2]
 ·rwa [Ft h2,Ft (by omega)]at h
end
section
variable{cf:Cf}{E:Int}{m:Ma}{g:Cl}{x:Cd}{t:Nat}
def H3(h:x.check=0):(1<=x.kd/\x.kd<=17)/\0<=x.t/\0<=x.i/\0<=x.f/\0<=x.j/\0<=x.cost:=by
 unfold Cd.check at h;by_cases c1:x.kd<1∨17<x.kd
 ·rw[vy c1]at h;cases h
 rw[vx c1]at h;by_cases c2:(x.small.any λn=>decide (n<0) || decide (255<n))=wk
 ·rw[vy c2]at h;cases h
 ·unfold Cd.small at c2;simp only[List.any_cons,List.any_nil,Bool.or_eq_true,zV]at c2;omega
def Pj(x:Cd):x.check=0∨x.check=12∨x.check=4∨x.check=16:=by
 unfold Cd.check
 repeat' split
 all_goals simp
def Tn(m:Ma)(x:Cd):m.who cf x=0∨m.who cf x=4∨m.who cf x=9∨m.who cf x=14:=by
 unfold Ma.who
 repeat' split
 all_goals simp
def Cu.live(s:Cu cf m.co g){u:Int}(h0:0<=u)(h:u<cf.threads):g.live u=m.co.r.live u:=by obtain⟨t,rfl⟩:=xU h0;unfold Cl.live;rw[zK,xF,s.tv t (by omega)];rfl
def Cu.who(s:Cu cf m.co g)(h:MJ cf E m)(h0:0<=x.t):g.who x=m.who cf x:=by
 have h8:=h.c.k.t8;unfold Cl.who Ma.who;rw[s.tl];by_cases c0:16<=x.kd
 ·rw[vy c0,vy c0]
 rw[vx c0,vx c0];by_cases c1:cf.threads<=x.t
 ·rw[vy (by omega),vy c1]
 rw[vx (by omega),vx c1,s.live h0 (by omega)]
def CC(cf:Cf)(g:Cl)(x:Cd)(r:Ma × Ch):Prop:=
 Cu cf r.1.co (g.step cf x r.2.code).1/\(⟨r.2.code,r.2.kd,r.2.n,0,0⟩:Ch)=(g.step cf x r.2.code).2/\((r.2.code=10∨r.2.code=21)->x.kd=3∨x.kd=15)
def UI{no e:Int}(hc:x.check=0)(hw:g.who x=0)(he:e≠0)(h:x.nums cf=e∨x.nums cf=0/\g.hands x=e):g.step cf x no=(g,Ch.err e):=by
 have hcode:g.code cf x=e:=by
  unfold Cl.code;rw[vx (by omega),vx (by omega)];rcases h with h|⟨h1,h2⟩
  ·rw[vy (by omega),h]
  ·rw[vx (by omega),h2]
 unfold Cl.step;rw[vy (by omega),hcode]
def Qi{no:Int}(hc:x.check=0)(hw:g.who x=0)(h1:x.nums cf=0)(h2:g.hands x=0):g.step cf x no=if (x.kd=3∨x.kd=15∨x.kd=17)/\no≠0 then (g,Ch.err no) else g.doS x:=by
 have hcode:g.code cf x=0:=by unfold Cl.code;rw[vx (by omega),vx (by omega),vx (by omega),h2]
 unfold Cl.step;rw[vx (by omega)]
def CC.err(s:Cu cf m.co g){e:Int}(hc:x.check=0)(hw:g.who x=0)(he:e≠0)(h:x.nums cf=e∨x.nums cf=0/\g.hands x=e)(hx:e=3∨e=4∨e=12):CC cf g x (m,Ch.err e):=by unfold CC;have:=UI (no:=(Ch.err e).code) hc hw he h;simp only;rw[this];exact⟨s,rfl,λy=>by simp only[Ch.err]at y;omega⟩
def CC.of{r:Ma × Ch}(hc:x.check=0)(hw:g.who x=0)(h1:x.nums cf=0)(h2:g.hands x=0)(h0:r.2.code=0)(s:Cu cf r.1.co (g.doS x).1)(e:(⟨0,r.2.kd,r.2.n,0,0⟩:Ch)=(g.doS x).2):CC cf g x r:=by unfold CC;rw[Qi hc hw h1 h2,vx (λy=>y.2 h0),h0];exact⟨s,e,λy=>by omega⟩
def CC.no{r:Ma × Ch}(hc:x.check=0)(hw:g.who x=0)(h1:x.nums cf=0)(h2:g.hands x=0)(hk:x.kd=3∨x.kd=15∨x.kd=17)(h0:r.2.code≠0)(ha:r.2.kd=0/\r.2.n=0)(s:Cu cf r.1.co g)(hcd:(r.2.code=10∨r.2.code=21)->x.kd=3∨x.kd=15):CC cf g x r:=by unfold CC;rw[Qi hc hw h1 h2,vy ⟨hk,h0⟩];exact⟨s,by rw[ha.1,ha.2];rfl,hcd⟩
def Cu.heldT(s:Cu cf m.co g)(h:MJ cf E m)(ht:x.t=t)(hl:m.co.r.live (t:Int)=wk):g.held x.t=(m.co.roots (t:Int)).map (Cs m.co.s)/\m.co.roots (t:Int)=m.co.th.getD t []/\(m.co.roots (t:Int)).length<=16:=by
 have hr:m.co.roots (t:Int)=m.co.th.getD t []:=by unfold Co.roots;rw[vy hl,zK]
 obtain⟨_,_,h2⟩:=s.th h.c.k hl;rw[ht,hr];exact⟨h2,rfl,s.le _ (h.c.k.th_in hl).2⟩
def Cu.rootT(s:Cu cf m.co g)(h:MJ cf E m)(ht:x.t=t)(hl:m.co.r.live (t:Int)=wk)(i:Int):(g.held x.t)[i.toNat]?=(m.root x.t i).map (Cs m.co.s):=by obtain⟨h1,h2,_⟩:=s.heldT h ht hl;rw[h1];unfold Ma.root;rw[ht,zN]
def EU(i:Int)(u:Int):m.root u i=wj↔(m.co.roots u).length<=i.toNat:=by unfold Ma.root;rw[List.getElem?_eq_none_iff]
def Cu.objectT(s:Cu cf m.co g)(h:MJ cf E m)(ht:x.t=t)(hl:m.co.r.live (t:Int)=wk):
  ((m.object x).2=0/\∃(a:Nat) (ser:Int) (fs:List V2),(m.object x).1=a/\VG m.co t (2,(a:Int))/\Cw m.co.s.c a ser fs/\(g.held x.t)[x.i.toNat]?=wh (2,ser)/\g.node ser=fs.map (Cs m.co.s))∨
  ((m.object x).2≠0/\((m.object x).2=4∨(m.object x).2=12)/\∀b,g.object x b=(m.object x).2):=by
 have hr:=s.rootT h ht hl x.i;unfold Ma.object Cl.object;cases hm:m.root x.t x.i with
 | none=>
  rw[hm]at hr;right;refine⟨by decide,wr rfl,λb=>?_⟩;rw[hr];rfl
 | some v=>
  rw[hm]at hr;simp only[o9]at hr;simp only;by_cases h2:v.1≠2
  ·right;rw[vy h2];refine⟨by decide,ws rfl,λb=>?_⟩;rw[hr];simp only;rw[vy (by unfold Cs;exact h2)]
  ·left;rw[vx h2];rw[ht]at hm;have hg:=h.root hl hm;obtain⟨b,rfl,_⟩:=Dz hg.ok (by omega);obtain⟨ser,fs,o,_⟩:=h.c.k.si.hi.obj b (hg.kp b rfl).1;refine⟨rfl,b,ser,fs,rfl,hg,o,?_,s.obj (hg.kp b rfl) o⟩;rw[hr,E8 h.c.k.si o]
def Hj(h:x.kd≠3/\x.kd≠4/\x.kd≠13/\x.kd≠15/\x.kd≠16):x.nums cf=0:=by unfold Cd.nums;rw[vx (by omega),vx (by omega)]
def Kn(h:x.kd<3∨12<x.kd):g.hands x=0:=by unfold Cl.hands;rw[vy h]
def Cu.valueT(s:Cu cf m.co g)(h:MJ cf E m)(hz:GZ m.co)(ht:x.t=t)(hl:m.co.r.live (t:Int)=wk)(h0:0<=x.i/\0<=x.f)(hk:x.kd=4∨x.kd=5∨x.kd=6∨x.kd=7∨x.kd=9):
  ((m.value x).2≠0/\((m.value x).2=4∨(m.value x).2=12)/\(x.nums cf=(m.value x).2∨x.nums cf=0/\g.hands x=(m.value x).2))∨
  ((m.value x).2=0/\x.nums cf=0/\g.hands x=(if 16<=(g.held x.t).length then 3 else 0)/\g.pushed x=Cs m.co.s (m.value x).1):=by
 have hn:x.kd≠4->x.nums cf=0:=λhne=>Hj (by omega);have hh:(x.kd=4∨x.kd=5∨x.kd=6)->g.hands x=(if 16<=(g.held x.t).length then 3 else 0):=λhk=>by
  unfold Cl.hands;rw[vx (by omega),vx (λy=>by omega),vx (by omega)];by_cases h16:16<=(g.held x.t).length
  ·rw[vy ⟨by omega,h16⟩,vy h16]
  ·rw[vx (λy=>h16 y.2),vx h16]
 unfold Ma.value Cl.pushed;by_cases c4:x.kd=4
 ·rw[vy c4,vy c4];by_cases hc:DL 1 x.n=0
  ·right;rw[vy hc];have:=Hd hc;refine⟨rfl,?_,hh (wr c4),(Ft (show (1:Int)≠2 by decide)).symm⟩;unfold Cd.nums;rw[vx (by omega),vx (by omega)]
  ·left;rw[vx hc];refine⟨(show (4:Int)≠0 by decide),wr rfl,wr ?_⟩;unfold Cd.nums;rw[vy];refine ws ⟨c4,?_⟩;apply xI;intro hx;refine hc ?_;unfold DL;simp only;rw[vx (by decide),vy trivial,vy (by omega)]
 rw[vx c4,vx c4];by_cases c6:x.kd=6
 ·right;rw[vy c6,vy c6];refine⟨rfl,hn c4,hh (ws (ws c6)),?_⟩;obtain⟨fs,o⟩:=hz;have hg:=h.c.k.gn;have e:EE m.co.global=(2,((m.co.global.toNat:Nat):Int)):=by unfold EE;rw[vy hg,yV hg.1]
  simp only;rw[e,E8 h.c.k.si o]
 rw[vx c6,vx c6];have hr:=s.rootT h ht hl x.i;obtain⟨l1,l2,l3⟩:=s.heldT h ht hl;have hlen:(g.held x.t).length=(m.co.roots x.t).length:=by rw[l1,j9,ht]
 by_cases c7:x.kd=7
 ·rw[vy c7,vy c7];cases hm:m.root x.t x.i with
  | none=>
   left;have:=(EU _ _).1 hm;refine⟨(show (4:Int)≠0 by decide),wr rfl,ws ⟨hn c4,?_⟩⟩;unfold Cl.hands;rw[vx (by omega),vx (by omega),vy (wr ⟨wr c7,by omega⟩)]
  | some v=>
   right;rw[hm]at hr;have hlt:¬(m.co.roots x.t).length<=x.i.toNat:=λy=>by rw[(EU _ _).2 y]at hm;cases hm
   refine⟨rfl,hn c4,?_,?_⟩
   ·unfold Cl.hands;rw[vx (by omega),vx (by omega),vx (by omega)];by_cases h16:16<=(g.held x.t).length
    ·rw[vy ⟨by omega,h16⟩,vy h16]
    ·rw[vx (λy=>h16 y.2),vx h16]
   ·rw[xF,hr];rfl
 rw[vx c7,vx c7];by_cases c9:x.kd=9
 rotate_left
 ·right;rw[vx c9,vx c9];exact⟨rfl,hn c4,hh (ws (wr (by omega))),(Ft (by decide)).symm⟩
 rw[vy c9,vy c9];have hd:decide (x.kd≠12)=wk:=by simp;omega
 rcases s.objectT h ht hl with⟨o0,a,ser,fs,o1,o2,o3,o4,o5⟩|⟨o0,o1,o2⟩
 ·rw[vx (by omega),o1];have e:=St.get_obj h.c.k.si.hi.ci o3 x.f;rw[vy h0.2]at e;have hob:g.object x wk=if (fs.length:Int)<=x.f then 4 else 0:=by
   unfold Cl.object;rw[o4];simp only;rw[vx (by decide),o5,j9];by_cases hf:(fs.length:Int)<=x.f
   ·rw[vy ⟨trivial,hf⟩,vy hf]
   ·rw[vx (λy=>hf y.2),vx hf]
  by_cases hf:(fs.length:Int)<=x.f
  ·left;rw[yG (by omega)]at e;simp only at e;rw[e,vx (by decide)];refine⟨(show (4:Int)≠0 by decide),wr rfl,ws ⟨hn c4,?_⟩⟩;unfold Cl.hands;rw[vx (by omega),hd,hob,vy hf,vy ⟨wr c9,by decide⟩]
  ·right;have hlt:x.f.toNat<fs.length:=by omega
   rw[xS hlt]at e;simp only at e;rw[e,vy rfl];refine⟨rfl,hn c4,?_,?_⟩
   ·unfold Cl.hands;rw[vx (by omega),hd,hob,vx hf,vx (λy=>y.2 rfl),vx (by omega)];by_cases h16:16<=(g.held x.t).length
    ·rw[vy ⟨by omega,h16⟩,vy h16]
    ·rw[vx (λy=>h16 y.2),vx h16]
   ·rw[xF (l:=g.held x.t),o4];simp only[j5];rw[o5,xF,zN,xS hlt];rfl
 ·left;rw[vy o0];refine⟨o0,o1,ws ⟨hn c4,?_⟩⟩;unfold Cl.hands;rw[vx (by omega),hd,o2 wk,vy ⟨wr c9,o0⟩]
def Cu.pushS(s:Cu cf m.co g)(h:MJ cf E m)(hz:GZ m.co)(hc:x.check=0)(hw:g.who x=0)(ht:x.t=t)(hl:m.co.r.live (t:Int)=wk)(hk:x.kd=4∨x.kd=5∨x.kd=6∨x.kd=7∨x.kd=9):CC cf g x (m.pushS x):=by
 have h0:=H3 hc;unfold Ma.pushS;rcases s.valueT h hz ht hl ⟨h0.2.2.1,h0.2.2.2.1⟩ hk with⟨v0,v1,v2⟩|⟨v0,v1,v2,v3⟩
 ·rw[vy v0];exact CC.err s hc hw v0 v2 (by omega)
 rw[vx (by omega)];obtain⟨l1,l2,l3⟩:=s.heldT h ht hl;have hlen:(g.held x.t).length=(m.co.th.getD t []).length:=by rw[l1,j9,l2]
 have hv:=h.value ht hl v0;by_cases h16:16<=(g.held x.t).length
 ·have hp:=SR (c:=m.co) (t:=t) (by omega) (m.value x).1;rw[ht];generalize m.co.push (t:Int) (m.value x).1=z at hp;obtain⟨c,b⟩:=z;simp only at hp;subst hp;rw[vy h16]at v2;exact CC.err s hc hw (by decide) (ws ⟨v1,v2⟩) (wr rfl)
 ·obtain⟨p1,p2⟩:=s.push h.c.k hl hv (by omega);have ps:=JL m.co (t:Int) (m.value x).1;rw[vx h16]at v2;have hd:g.doS x=g.hold x.t (g.pushed x):=by unfold Cl.doS;rw[vx (by omega),vx (by omega),vx (by omega),vy (by omega)]
  rw[<-v3, <-ht]at p2;rw[ht]at p2 ⊢;generalize m.co.push (t:Int) (m.value x).1=z at p1 p2 ps;obtain⟨c,b⟩:=z;simp only at p1 p2 ps;subst p1;refine CC.of hc hw v1 v2 rfl ?_ ?_
  ·rw[hd,ht];exact p2
  ·rw[hd];simp only[Qj];rw[ps, <-v3];rfl
end
section
variable{cf:Cf}{E:Int}{m:Ma}{g:Cl}{x:Cd}{t:Nat}
def Cu.popS(s:Cu cf m.co g)(h:MJ cf E m)(hc:x.check=0)(hw:g.who x=0)(ht:x.t=t)(hl:m.co.r.live (t:Int)=wk)(hk:x.kd=8):
  CC cf g x (match m.co.pop x.t with
  | (_,wj)=>(m,Ch.err 4)
  | (c,wh v)=>let m1:Ma:={ m with co:=c }; (m1,⟨0,(m1.told v).1,(m1.told v).2,0,0⟩)):=by
 obtain⟨l1,l2,l3⟩:=s.heldT h ht hl;have hp:=s.pop h.c.k hl;have ps:=Re m.co (t:Int);have hlen:(g.held x.t).length=(m.co.th.getD t []).length:=by rw[l1,j9,l2]
 rw[l2]at l1;have hn:x.nums cf=0:=Hj (by omega);have hh:g.hands x=if (g.held x.t).length=0 then 4 else 0:=by
  unfold Cl.hands;rw[vx (by omega),vx (by omega)];by_cases h0:(g.held x.t).length=0
  ·rw[vy (ws (ws ⟨hk,h0⟩)),vy h0]
  ·rw[vx (by omega),vx (by omega),vx h0]
 rw[ht];generalize hr:m.co.th.getD t []=r at hp l1 hlen;cases r with
 | nil=>
  simp only at hp;rw[hp];rw[vy (by simpa using hlen)]at hh;exact CC.err s hc hw (by decide) (ws ⟨hn,hh⟩) (ws (wr rfl))
 | cons u l=>
  obtain⟨p1,p2⟩:=hp;generalize m.co.pop (t:Int)=z at p1 p2 ps;obtain⟨c,o⟩:=z;simp only at p1 p2 ps;subst p1;simp only;rw[vx (by rw[hlen];simp)]at hh;have hd:g.doS x=({ g with th:=g.th.set x.t.toNat (g.live x.t,(g.held x.t).dropLast) },⟨0,((g.held x.t).getLastD (0,0)).1,((g.held x.t).getLastD (0,0)).2,0,0⟩):=by unfold Cl.doS;rw[vx (by omega),vx (by omega),vx (by omega),vx (by omega),vy hk]
  refine CC.of hc hw hn hh rfl ?_ ?_
  ·rw[hd,ht];exact p2
  ·rw[hd];have e:(g.held x.t).getLastD (0,0)=Cs c.s ((u::l).getLast (by simp)):=by rw[l1,ps,List.getLastD_eq_getLast?,List.getLast?_map];simp[List.getLast?_cons,List.getLast_eq_getLastD]
   simp only;rw[e];rfl
def Cu.writeT(s:Cu cf m.co g)(h:MJ cf E m)(hc:x.check=0)(hw:g.who x=0)(ht:x.t=t)(hl:m.co.r.live (t:Int)=wk)(hk:x.kd=10):CC cf g x (m.writeS x):=by
 have h0:=H3 hc;obtain⟨l1,l2,l3⟩:=s.heldT h ht hl;have hlen:(g.held x.t).length=(m.co.roots x.t).length:=by rw[l1,j9,ht]
 have hn:x.nums cf=0:=Hj (by omega);have hd:decide (x.kd≠12)=wk:=by simp;omega
 unfold Ma.writeS;rcases s.objectT h ht hl with⟨o0,a,ser,fs,o1,o2,o3,o4,o5⟩|⟨o0,o1,o2⟩
 rotate_left
 ·rw[vy o0];refine CC.err s hc hw o0 (ws ⟨hn,?_⟩) (by omega);unfold Cl.hands;rw[vx (by omega),hd,o2 wk,vy ⟨ws (wr hk),o0⟩]
 rw[vx (by omega)];have hob:g.object x wk=if (fs.length:Int)<=x.f then 4 else 0:=by
  unfold Cl.object;rw[o4];simp only;rw[vx (by decide),o5,j9];by_cases hf:(fs.length:Int)<=x.f
  ·rw[vy ⟨trivial,hf⟩,vy hf]
  ·rw[vx (λy=>hf y.2),vx hf]
 have hr:=s.rootT h ht hl x.j;cases hm:m.root x.t x.j with
 | none=>
  simp only;have:=(EU _ _).1 hm;refine CC.err s hc hw (by decide) (ws ⟨hn,?_⟩) (ws (wr rfl));unfold Cl.hands;rw[vx (by omega),hd,hob];by_cases hf:(fs.length:Int)<=x.f
  ·rw[vy hf,vy ⟨ws (wr hk),by decide⟩]
  ·rw[vx hf,vx (λy=>y.2 rfl),vy (by omega)]
 | some v=>
  simp only;rw[hm]at hr;simp only[o9]at hr;have hlt:¬(m.co.roots x.t).length<=x.j.toNat:=λy=>by rw[(EU _ _).2 y]at hm;cases hm
  rw[ht]at hm;have hv:=h.root hl hm;have hwr:=s.write h.c.k hl o2 hv o3 (i:=x.f);rw[o1,ht];by_cases hf:(fs.length:Int)<=x.f
  ·rw[vx (by omega)]at hwr;rw[hwr];simp only;refine CC.err s hc hw (by decide) (ws ⟨hn,?_⟩) (ws (wr rfl));unfold Cl.hands;rw[vx (by omega),hd,hob,vy hf,vy ⟨ws (wr hk),by decide⟩]
  ·rw[vy (by omega)]at hwr;obtain⟨w1,w2⟩:=hwr;have hh:g.hands x=0:=by unfold Cl.hands;rw[vx (by omega),hd,hob,vx hf,vx (λy=>y.2 rfl),vx (by omega),vx (by omega)]
   rw[w1,vy rfl];have hd2:g.doS x=({ g with nd:=g.nd.set ((g.held x.t).getD x.i.toNat (0,0)).2.toNat ((g.node ((g.held x.t).getD x.i.toNat (0,0)).2).set x.f.toNat ((g.held x.t).getD x.j.toNat (0,0))) },Ch.ok):=by unfold Cl.doS;rw[vx (by omega),vx (by omega),vx (by omega),vx (by omega),vx (by omega),vy hk]
   refine CC.of hc hw hn hh rfl ?_ ?_
   ·rw[hd2,xF,o4,xF,hr];exact w2
   ·rw[hd2];rfl
def Cu.askT(s:Cu cf m.co g)(h:MJ cf E m)(hc:x.check=0)(hw:g.who x=0)(ht:x.t=t)(hl:m.co.r.live (t:Int)=wk)(hk:x.kd=11∨x.kd=12):CC cf g x (m,m.ask x):=by
 have h0:=H3 hc;obtain⟨l1,l2,l3⟩:=s.heldT h ht hl;have hlen:(g.held x.t).length=(m.co.roots x.t).length:=by rw[l1,j9,ht]
 have hn:x.nums cf=0:=Hj (by omega);have hri:=s.rootT h ht hl x.i;have hrj:=s.rootT h ht hl x.j;unfold Ma.ask;cases hm:m.root x.t x.i with
 | none=>
  simp only;have:=(EU _ _).1 hm;rw[hm]at hri;refine CC.err s hc hw (by decide) (ws ⟨hn,?_⟩) (ws (wr rfl));unfold Cl.hands;rw[vx (by omega)];by_cases c12:x.kd=12
  ·have:g.object x (decide (x.kd≠12))=4:=by unfold Cl.object;rw[hri];rfl
   rw[this,vy ⟨ws (ws c12),by decide⟩]
  ·rw[vx (by omega),vy (by omega)]
 | some v=>
  rw[hm]at hri;simp only[o9]at hri;have hlt:¬(m.co.roots x.t).length<=x.i.toNat:=λy=>by rw[(EU _ _).2 y]at hm;cases hm
  have hm':=hm;rw[ht]at hm';have hv:=h.root hl hm';simp only;by_cases c12:x.kd=12
  ·rw[vx (by omega)];have hd:decide (x.kd≠12)=wl:=by simp[c12]
   have ho:(m.object x).1=(if v.1≠2 then 0 else v.2)/\(m.object x).2=if v.1≠2 then 12 else 0:=by unfold Ma.object;rw[hm];simp only;split<;>exact⟨rfl,rfl⟩
   rcases s.objectT h ht hl with⟨o0,a,ser,fs,o1,o2,o3,o4,o5⟩|⟨o0,o1,o2⟩
   ·have h2:v.1=2:=by apply xI;intro hx;rw[ho.2,vy hx]at o0;cases o0
    rw[vx (λy=>y.2 h2),vy c12];have ev:v.2=a:=by rw[<-o1,ho.1,vx (λy=>y h2)]
    have hh:g.hands x=0:=by
     unfold Cl.hands;have:g.object x wl=0:=by unfold Cl.object;rw[o4];simp only;rw[vx (by decide),vx (λy=>by cases y.1)]
     rw[vx (by omega),hd,this,vx (λy=>y.2 rfl),vx (by omega),vx (by omega)]
    have hd2:g.doS x=(g,⟨0,1,(g.node ((g.held x.t).getD x.i.toNat (0,0)).2).length,0,0⟩):=by unfold Cl.doS;rw[vx (by omega),vx (by omega),vx (by omega),vx (by omega),vx (by omega),vx (by omega),vx (by omega),vy c12]
    refine CC.of hc hw hn hh rfl ?_ ?_
    ·rw[hd2];exact s
    ·rw[hd2,xF,o4];simp only[j5];rw[o5,j9,ev,(St.read_obj h.c.k.si.hi.ci o3).1]
   ·have h2:v.1≠2:=λe=>by rw[ho.2,vx (λy=>y e)]at o0;exact o0 rfl
    rw[vy ⟨c12,h2⟩];refine CC.err s hc hw (by decide) (ws ⟨hn,?_⟩) (ws (ws rfl));unfold Cl.hands;have e12:(m.object x).2=12:=by rw[ho.2,vy h2]
    rw[vx (by omega),o2 _,e12,vy ⟨ws (ws c12),by decide⟩]
  have c11:x.kd=11:=by omega
  cases hmj:m.root x.t x.j with
  | none=>
   rw[vy ⟨c11,rfl⟩];have:=(EU _ _).1 hmj;refine CC.err s hc hw (by decide) (ws ⟨hn,?_⟩) (ws (wr rfl));unfold Cl.hands;rw[vx (by omega),vx (by omega),vy (by omega)]
  | some u=>
   rw[vx (λy=>by cases y.2),vx (by omega),vx c12];rw[hmj]at hrj;simp only[o9]at hrj;have hltj:¬(m.co.roots x.t).length<=x.j.toNat:=λy=>by rw[(EU _ _).2 y]at hmj;cases hmj
   rw[ht]at hmj;have hu:=h.root hl hmj;have hh:g.hands x=0:=by unfold Cl.hands;rw[vx (by omega),vx (by omega),vx (by omega),vx (by omega)]
   have hd2:g.doS x=(g,⟨0,1,if (g.held x.t).getD x.i.toNat (0,0)=(g.held x.t).getD x.j.toNat (0,0) then 1 else 0,0,0⟩):=by unfold Cl.doS;rw[vx (by omega),vx (by omega),vx (by omega),vx (by omega),vx (by omega),vx (by omega),vy c11]
   have hi:=h.c.k.tolds_inj hv hu;refine CC.of hc hw hn hh (by simp only;split<;>rfl) ?_ ?_
   ·rw[hd2];exact s
   ·rw[hd2,xF,hri,xF,hrj];simp only[j5];by_cases e:v=u
    ·rw[vy e,vy (hi.2 e)]
    ·rw[vx e,vx (λy=>e (hi.1 y))]
def W6(m:Ma)(x:Cd):(m.tax cf x).2.kd=0/\(m.tax cf x).2.n=0:=by
 unfold Ma.tax;split
 ·exact⟨rfl,rfl⟩
 simp only;split<;>exact⟨rfl,rfl⟩
def MJ.ahead_lk(L:C3 cf)(h:MJ cf E m){n:Int}(hn:n<=64)(hE:E+320<=1000000000):Lk m.co (m.ahead cf n).1.co:=by have h1:=MI.work_lk L n.toNat m.co E h.c (by omega);unfold Ma.ahead Ma.put;exact h1
def MJ.tax_lk(L:C3 cf)(h:MJ cf E m)(x:Cd)(hE:E+320<=1000000000):Lk m.co (m.tax cf x).1.co:=by
 unfold Ma.tax;split
 ·exact .refl _
 simp only;split
 ·exact .refl _
 simp only;have hb:=h.bk;have ht:=L.tx;have h1:=MI.work_lk L (cf.tax-min (m.bi-m.bo) cf.tax).toNat m.co E h.c (by omega);rw[FH];exact h1
def Cu.gotT{g':Cl}{k:Nat}(s:Cu cf m.co g')(h:MJ cf E m)(ht:x.t=t)(hl:m.co.r.live (t:Int)=wk)(hn:(m.co.th.getD t []).length<16){a:Nat}(hv:VG m.co t (2,(a:Int)))(e:Cs m.co.s (2,(a:Int))=(2,(k:Int)))(y:Ch):
  Cu cf (m.got x (a:Int) y).1.co (g'.hold (t:Int) (2,(k:Int))).1/\(m.got x (a:Int) y).2={ y with kd:=2,n:=k }:=by
 have ev:EE (a:Int)=(2,(a:Int)):=by
  obtain⟨b,eb,hb⟩:=Dz hv.ok rfl;have:(a:Int)=b:=by simpa using eb
  unfold EE;rw[vy (by omega)]
 obtain⟨_,p2⟩:=s.push h.c.k hl hv hn;have ps:=JL m.co (t:Int) (2,(a:Int));rw[e]at p2;unfold Ma.got;rw[ht,ev];refine⟨p2,?_⟩;simp only[Qj];rw[ps,e]
def Cu.allocT(L:C3 cf)(s:Cu cf m.co g)(h:MJ cf E m)(hc:x.check=0)(hw:g.who x=0)(ht:x.t=t)(hl:m.co.r.live (t:Int)=wk)(hk:x.kd=3)(hE:E+330<=1000000000):CC cf g x (m.alloc cf x):=by
 have h0:=H3 hc;obtain⟨l1,l2,l3⟩:=s.heldT h ht hl;have hlen:(g.held x.t).length=(m.co.roots x.t).length:=by rw[l1,j9,ht]
 unfold Ma.alloc;by_cases hbad:x.n<0∨127<x.n∨x.cost<1∨cf.quantum<x.cost
 ·rw[vy hbad];refine CC.err s hc hw (by decide) (wr ?_) (ws (wr rfl));unfold Cd.nums;rw[vy (wr ⟨hk,hbad⟩)]
 rw[vx hbad];have hn:x.nums cf=0:=by unfold Cd.nums;rw[vx (by omega),vx (by omega)]
 have hh:g.hands x=if 16<=(g.held x.t).length then 3 else 0:=by
  unfold Cl.hands;rw[vx (by omega),vx (by omega),vx (by omega)];by_cases h16:16<=(g.held x.t).length
  ·rw[vy ⟨by omega,h16⟩,vy h16]
  ·rw[vx (λy=>h16 y.2),vx h16]
 by_cases h16:(m.co.roots x.t).length=16
 ·rw[vy h16];rw[vy (by omega)]at hh;exact CC.err s hc hw (by decide) (ws ⟨hn,hh⟩) (wr rfl)
 rw[vx h16];have h15:(m.co.th.getD t []).length<16:=by rw[<-l2];rw[ht]at h16;omega
 rw[vx (by rw[hlen,ht];rw[ht]at h16;omega)]at hh;have hd:g.doS x=Cl.hold { g with nd:=g.nd++[List.replicate x.n.toNat (0,0)] } x.t (2,(g.nd.length:Int)):=by unfold Cl.doS;rw[vx (by omega),vx (by omega),vy hk]
 have done:∀(c':Co) (b:Ma) (s':St) (a:Nat) (y:Ch) (E':Int),MJ cf E' b->Cu cf b.co g->b.co.r.live (t:Int)=wk->(b.co.th.getD t []).length<16->Gi b.co.s s' a x.n.toNat->c'=({ b.co with s:=s' }:Co).color cf (a:Int)->MI cf (E'+1) c'->VG c' t (2,(a:Int))->y.code=0->CC cf g x (({ b with co:=c' }:Ma).got x (a:Int) y):=λc' b s' a y E' hb sb lb nb no ec mc vc ey=>by
  have sn:=sb.newO hb.c.k no ec mc.k hb.c.k.si.m0;have hlive:c'.r.live (t:Int)=wk:=by rw[ec,Ob];exact lb
  have hth:(c'.th.getD t []).length<16:=by rw[ec,L6];exact nb
  have:=sn.1.gotT (m:={ b with co:=c' }) (MJ.co (hb.up (show E'<=E'+1 by omega)) mc) ht hlive hth vc sn.2 y;refine CC.of hc hw hn hh (by rw[this.2];exact ey) ?_ ?_
  ·rw[hd,ht];exact this.1
  ·rw[hd,this.2];rfl
 have md:=h.c.md;rw[ht];rcases h.c.k.fast (by omega) t x.n with e1|⟨a,s1,c1,e1,n1,e2,e3,e4,e5⟩
 rotate_left
 ·obtain e6|⟨a',c2,e6,e7,e8⟩:=h.c.fast (by omega) t x.n
  ·rw[e6]at e1;cases (ve.1 e1).2
  rw[e1]at e6;have ec:c1=c2:=(ve.1 e6).1;rw[e1];simp only;exact done c1 m s1 a Ch.ok E h s hl h15 n1 e2 (by rw[ec];exact e7) e4 rfl
 rw[e1];simp only;unfold Ma.slow;simp only;have h1:∃m1:Ma,(if m.co.phase=0/\Dt m.co.s.c.ks<cf.trigger then ({ m with co:=(m.co.beginC cf).1 }:Ma) else m)=m1/\MJ cf (E+5) m1/\Lk m.co m1.co:=by
  refine⟨_,rfl,?_⟩;split
  ·exact⟨h.co (h.c.beginC (by omega)),MO _⟩
  ·exact⟨h.up (by omega),.refl _⟩
 obtain⟨m1,em1,j1,k1⟩:=h1;rw[em1];have h2:=j1.tax L x (by omega);have k2:=k1.trans (j1.tax_lk L x (by omega));have ta:=W6 (cf:=cf) m1 x;generalize m1.tax cf x=z at h2 k2 ta;obtain⟨m2,y⟩:=z;simp only at h2 k2 ta ⊢;have s2:=s.lk h.c.k h2.c.k k2;by_cases hy:y.code≠0
 ·rw[vy hy];simp only;rw[vy hy];exact CC.no hc hw hn hh (wr hk) hy ta s2 λ_=>wr hk
 rw[vx hy];have md2:=h2.c.md;rw[ht];rcases h2.c.k.slow (by omega) t x.n with⟨e0,ne,f1⟩|⟨a,s1,c1,f1,n1,f2,f3,f4,f5⟩
 ·rw[f1];simp only;rw[vy ne];exact CC.no hc hw hn hh (wr hk) ne ta s2 λ_=>wr hk
 ·rcases h2.c.slow (by omega) t x.n with⟨e0,ne,f6⟩|⟨a',c2,f6,f7,f8⟩
  ·rw[f6]at f1;have:=(ve.1 (ve.1 f1).2).2;exact absurd this ne
  rw[f1]at f6;have ec:c1=c2:=(ve.1 f6).1;rw[f1];simp only;rw[vx (λy=>y rfl)];have hl2:m2.co.r.live (t:Int)=wk:=by rw[k2.live];exact hl
  have ht2:(m2.co.th.getD t []).length<16:=by rw[k2.th];exact h15
  exact done c1 m2 s1 a { y with code:=0 } _ h2 s2 hl2 ht2 n1 f2 (by rw[ec];exact f7) f4 rfl
def Cu.spendT(L:C3 cf)(s:Cu cf m.co g)(h:MJ cf E m)(hc:x.check=0)(hw:g.who x=0)(hk:13<=x.kd/\x.kd<=17/\x.kd≠14)(hE:E+330<=1000000000):CC cf g x (m.spend cf x):=by
 have hh:g.hands x=0:=Kn (by omega);have hd:g.doS x=(g,Ch.ok):=by unfold Cl.doS;rw[vx (by omega),vx (by omega),vx (by omega),vx (by omega),vx (by omega),vx (by omega),vx (by omega),vx (by omega)]
 unfold Ma.spend;by_cases c17:x.kd=17
 ·have hn:x.nums cf=0:=Hj (by omega);rw[vy c17];by_cases hb:(m.co.beginC cf).2=wk
  ·rw[vy hb];refine CC.of hc hw hn hh rfl ?_ ?_
   ·rw[hd];exact s.lk h.c.k (h.c.beginC (by omega)).k (MO _)
   ·rw[hd];rfl
  ·rw[vx hb];exact CC.no hc hw hn hh (ws (ws c17)) (show (9:Int)≠0 by decide) ⟨rfl,rfl⟩ s λy=>by simp only[Ch.err]at y;omega
 rw[vx c17];by_cases hn:x.n<1∨64<x.n
 ·rw[vy hn];refine CC.err s hc hw (by decide) (wr ?_) (ws (wr rfl));unfold Cd.nums;rw[vx (by omega)];by_cases c15:x.kd=15
  ·rw[vy (ws ⟨c15,hn.elim wr λy=>ws (wr y)⟩)]
  ·rw[vy (wr ⟨by omega,hn⟩)]
 rw[vx hn];have hn0:x.kd≠15->x.nums cf=0:=λhne=>by
  unfold Cd.nums;rw[vx (by omega),vx (by omega)]
 by_cases c13:x.kd=13
 ·rw[vy c13];refine CC.of hc hw (hn0 (by omega)) hh rfl ?_ ?_
  ·rw[hd];exact s
  ·rw[hd];rfl
 rw[vx c13];have ha:∀(n:Int),n<=64->Cu cf (m.ahead cf n).1.co g:=λn hn=>s.lk h.c.k (h.ahead L hn (by omega)).c.k (h.ahead_lk L hn (by omega));by_cases c16:x.kd=16
 ·rw[vy c16];refine CC.of hc hw (hn0 (by omega)) hh rfl ?_ ?_
  ·rw[hd];exact ha _ (by omega)
  ·rw[hd];rfl
 rw[vx c16];have c15:x.kd=15:=by omega
 by_cases hcost:x.cost<1∨cf.quantum<x.cost
 ·rw[vy hcost];refine CC.err s hc hw (by decide) (wr ?_) (ws (wr rfl));unfold Cd.nums;rw[vx (by omega),vy (ws ⟨c15,ws (ws hcost)⟩)]
 rw[vx hcost];have hn:x.nums cf=0:=by unfold Cd.nums;rw[vx (by omega),vx (by omega)]
 split
 ·exact CC.no hc hw hn hh (ws (wr c15)) (show (21:Int)≠0 by decide) ⟨rfl,rfl⟩ s λ_=>ws c15
 simp only;refine CC.of hc hw hn hh rfl ?_ ?_
 ·rw[hd];simp only;rw[FH];exact ha _ (by omega)
 ·rw[hd];rfl
def Cu.doT(L:C3 cf)(s:Cu cf m.co g)(h:MJ cf E m)(hz:GZ m.co)(hc:x.check=0)(hw:m.who cf x=0)(hE:E+330<=1000000000):CC cf g x (m.doS cf x):=by
 have h0:=H3 hc;have hg:g.who x=0:=by rw[s.who h h0.2.1];exact hw
 obtain⟨t,ht⟩:=xU h0.2.1;unfold Ma.doS;by_cases c1:x.kd=1
 ·rw[vy c1];have hw':=hw;unfold Ma.who at hw';rw[vx (by omega)]at hw';by_cases c4:cf.threads<=x.t
  ·rw[vy c4]at hw';cases hw'
  rw[vx c4]at hw';have hl:m.co.r.live (t:Int)=wl:=by
   cases hl:m.co.r.live (t:Int) with
   | false=>rfl
   | true=>rw[ht,vy ⟨c1,hl⟩]at hw';cases hw'
  have hd:g.doS x=({ g with th:=g.th.set x.t.toNat (wk,[]) },Ch.ok):=by unfold Cl.doS;rw[vy c1]
  refine CC.of hc hg (Hj (by omega)) (Kn (by omega)) rfl ?_ ?_
  ·rw[hd,ht];exact s.attach h.c.k (by omega) hl
  ·rw[hd];rfl
 rw[vx c1];have hlive:x.kd<16->m.co.r.live (t:Int)=wk:=λhk=>by
  rw[<-ht];exact (N6 hw hk).2 c1
 by_cases c2:x.kd=2
 ·rw[vy c2];have hd:g.doS x=({ g with th:=g.th.set x.t.toNat (wl,[]) },Ch.ok):=by unfold Cl.doS;rw[vx c1,vy c2]
  refine CC.of hc hg (Hj (by omega)) (Kn (by omega)) rfl ?_ ?_
  ·rw[hd,ht];exact s.detach h.c.k (by omega) (hlive (by omega))
  ·rw[hd];rfl
 rw[vx c2];by_cases c3:x.kd=3
 ·rw[vy c3];exact s.allocT L h hc hg ht (hlive (by omega)) c3 hE
 rw[vx c3];by_cases c4:x.kd=4∨x.kd=5∨x.kd=6∨x.kd=7∨x.kd=9
 ·rw[vy c4];exact s.pushS h hz hc hg ht (hlive (by omega)) c4
 rw[vx c4];by_cases c8:x.kd=8
 ·rw[vy c8];exact s.popS h hc hg ht (hlive (by omega)) c8
 rw[vx c8];by_cases c10:x.kd=10
 ·rw[vy c10];exact s.writeT h hc hg ht (hlive (by omega)) c10
 rw[vx c10];by_cases c11:x.kd=11∨x.kd=12
 ·rw[vy c11];exact s.askT h hc hg ht (hlive (by omega)) c11
 rw[vx c11];by_cases c14:x.kd=14
 ·rw[vy c14];have hd:g.doS x=(g,Ch.ok):=by unfold Cl.doS;rw[vx (by omega),vx (by omega),vx (by omega),vx (by omega),vx (by omega),vx (by omega),vx (by omega),vx (by omega)]
  refine CC.of hc hg (Hj (by omega)) (Kn (by omega)) rfl ?_ ?_
  ·rw[hd];exact s.lk h.c.k (h.c.poll (by omega) x.t).k (H6 _ _)
  ·rw[hd];rfl
 rw[vx c14];exact s.spendT L h hc hg (by omega) hE
def Cu.step(L:C3 cf)(s:Cu cf m.co g)(h:MJ cf E m)(hz:GZ m.co)(x:Cd)(hE:E+330<=1000000000):CC cf g x (m.step cf x):=by
 unfold Ma.step;by_cases hc:x.check≠0
 ·rw[vy hc];have e:∀no,g.step cf x no=(g,Ch.err x.check):=λno=>by
   unfold Cl.step Cl.code;rw[vy hc,vy hc]
  unfold CC;rw[e];refine⟨s,rfl,λy=>?_⟩;simp only[Ch.err]at y;rcases Pj x with z|z|z|z<;>omega
 rw[vx hc];have hc:x.check=0:=by omega
 have h0:=H3 hc;by_cases hw:m.who cf x≠0
 ·rw[vy hw];have e:∀no,g.step cf x no=(g,Ch.err (m.who cf x)):=λno=>by
   have ec:g.code cf x=m.who cf x:=by unfold Cl.code;rw[vx (by omega),s.who h h0.2.1,vy hw]
   unfold Cl.step;rw[ec,vy hw]
  unfold CC;rw[e];refine⟨s,rfl,λy=>?_⟩;simp only[Ch.err]at y;rcases Tn (cf:=cf) m x with z|z|z|z<;>omega
 rw[vx hw];have:=s.doT L h hz hc (by omega) hE;simp only;split
 ·exact this
 ·exact this
def Cu.new(hp:1<=cf.pages/\cf.pages<=64)(ht:0<=cf.threads/\cf.threads<=8):Cu cf (Ma.new cf).co (Cl.new cf):=by
 obtain⟨a,s',e,hn,hs⟩:=Le cf hp ht;have es:(Ma.new cf).co.s=s':=by unfold Ma.new Co.new;simp only;rw[e]
 have eth:(Ma.new cf).co.th=List.replicate 8 []:=rfl;have eoff:∀b,(⟨Ce.new cf.pages,λ_=>wj,0⟩:St).c.tk b=wl:=λb=>rfl;refine⟨by simp[Cl.new],λt htt=>?_,λl hl=>?_,?_,λb ser fs kb o=>?_⟩
 ·unfold Cl.new;simp only;rw[xX,vy htt,eth];have hl:(Ma.new cf).co.r.live (t:Int)=wl:=by
   cases h:(Ma.new cf).co.r.live (t:Int) with
   | false=>rfl
   | true=>
    have:=(CW.1 h).2.2;simp[Ma.new,Co.new,xF,htt]at this
  rw[hl];have:(List.replicate 8 ([]:List V2)).getD t []=[]:=by rw[xF,xX];split<;>rfl
  rw[this];rfl
 ·rw[eth]at hl;rw[xR hl];simp
 ·rw[es,hn.made];rfl
 ·rw[es]at o ⊢;by_cases hb:b=a
  ·subst hb;obtain⟨rfl,rfl⟩:=o.same hn.obj;rfl
  ·have:=o.tk;rw[(hn.kept b hb).1,eoff]at this;cases this
end
end
section
open Go.Proofs Go.Shelf
def Nl:Go.Shelf.Ren:=⟨fun | 6=>86 | 15=>94 | 14=>126 | 28=>140 | 29=>141 | 20=>189 | 21=>190 | 22=>191 | 23=>192 | 24=>193 | 25=>194 | 26=>195 | 27=>196 | 46=>254 | 47=>204 | 48=>205 | 49=>255 | 50=>256 | 57=>290 | n=>n,fun | 22=>54 | 24=>3 | 25=>151 | 3=>3 | 39=>157 | 0=>0 | 53=>208 | 55=>210 | 4=>4 | 46=>201 | 45=>200 | 50=>68 | 5=>5 | 9=>9 | 66=>275 | 70=>109 | 76=>306 | 77=>262 | n=>n,λn=>n⟩
def Vc:SlLaysF.n6 Z Nl:={
 mixed:=by kernel_rfl,
 f6:=⟨f86.name,by decide,func86.trans (vr wh (by kernel_rfl))⟩,
 f14:=⟨f126.name,by decide,func126.trans (vr wh (by kernel_rfl))⟩,
 f15:=func94.trans (vr wh (by kernel_rfl)),
 f20:=⟨f189.name,by decide,func189.trans (vr wh (by kernel_rfl))⟩,
 f21:=⟨f190.name,by decide,func190.trans (vr wh (by kernel_rfl))⟩,
 f22:=⟨f191.name,by decide,func191.trans (vr wh (by kernel_rfl))⟩,
 f23:=⟨f192.name,by decide,func192.trans (vr wh (by kernel_rfl))⟩,
 f24:=⟨f193.name,by decide,func193.trans (vr wh (by kernel_rfl))⟩,
 f25:=⟨f194.name,by decide,func194.trans (vr wh (by kernel_rfl))⟩,
 f26:=⟨f195.name,by decide,func195.trans (vr wh (by kernel_rfl))⟩,
 f27:=⟨f196.name,by decide,func196.trans (vr wh (by kernel_rfl))⟩,
 f28:=func140.trans (vr wh (by kernel_rfl)),
 f29:=func141.trans (vr wh (by kernel_rfl)),
 f46:=⟨f254.name,by decide,func254.trans (vr wh (by kernel_rfl))⟩,
 f47:=func204.trans (vr wh (by kernel_rfl)),
 f48:=func205.trans (vr wh (by kernel_rfl)),
 f49:=⟨f255.name,by decide,func255.trans (vr wh (by kernel_rfl))⟩,
 f50:=⟨f256.name,by decide,func256.trans (vr wh (by kernel_rfl))⟩,
 f57:=⟨f290.name,by decide,func290.trans (vr wh (by kernel_rfl))⟩,
 t0:=Tryz.underlying0,
 a0:=Tryz.isAgg0,
 z0:=Tryz.sizeOf0,
 v0:=Tryz.zeroValue0,
 t3:=Tryz.underlying3,
 a3:=Tryz.isAgg3,
 z3:=Tryz.sizeOf3,
 v3:=Tryz.zeroValue3,
 t4:=Tryz.underlying4,
 a4:=Tryz.isAgg4,
 z4:=Tryz.sizeOf4,
 v4:=Tryz.zeroValue4,
 t5:=Tryz.underlying5,
 a5:=Tryz.isAgg5,
 z5:=Tryz.sizeOf5,
 v5:=Tryz.zeroValue5,
 t9:=Tryz.underlying9,
 a9:=Tryz.isAgg9,
 z9:=Tryz.sizeOf9,
 v9:=Tryz.zeroValue9,
 t22:=Tryz.underlying54,
 a22:=Tryz.isAgg54,
 z22:=Tryz.sizeOf54,
 v22:=Tryz.zeroValue54,
 a24:=Tryz.isAgg3,
 z24:=Tryz.sizeOf3,
 t25:=Tryz.underlying151,
 a25:=Tryz.isAgg151,
 z25:=Tryz.sizeOf151,
 v25:=Tryz.zeroValue151,
 t39:=Tryz.underlying157,
 a39:=Tryz.isAgg157,
 z39:=Tryz.sizeOf157,
 v39:=Tryz.zeroValue157,
 t45:=Tryz.underlying200,
 a45:=Tryz.isAgg200,
 z45:=Tryz.sizeOf200,
 v45:=Tryz.zeroValue200,
 t46:=Tryz.underlying201,
 a46:=Tryz.isAgg201,
 z46:=Tryz.sizeOf201,
 v46:=Tryz.zeroValue201,
 t50:=Tryz.underlying68,
 a50:=Tryz.isAgg68,
 z50:=Tryz.sizeOf68,
 v50:=Tryz.zeroValue68,
 t53:=Tryz.underlying208,
 a53:=Tryz.isAgg208,
 z53:=Tryz.sizeOf208,
 v53:=Tryz.zeroValue208,
 t55:=Tryz.underlying210,
 a55:=Tryz.isAgg210,
 z55:=Tryz.sizeOf210,
 v55:=Tryz.zeroValue210,
 t66:=Tryz.underlying275,
 a66:=Tryz.isAgg275,
 z66:=Tryz.sizeOf275,
 v66:=Tryz.zeroValue275,
 t70:=Tryz.underlying109,
 a70:=Tryz.isAgg109,
 z70:=Tryz.sizeOf109,
 v70:=Tryz.zeroValue109,
 t76:=Tryz.underlying306,
 a76:=Tryz.isAgg306,
 z76:=Tryz.sizeOf306,
 v76:=Tryz.zeroValue306,
 t77:=Tryz.underlying262,
 a77:=Tryz.isAgg262,
 z77:=Tryz.sizeOf262,
 v77:=Tryz.zeroValue262 }
end
section
open Go.Proofs
def A0:Cg:=⟨[],[],[],[],wj⟩
noncomputable def cd(f:Func):Code:=match f.body with | wh c=>c | wj => .skip
noncomputable def tp(f:Func)(K:VK):QE:=XU Z f.results.toList K
def qq{a b:Prop}(h:a)(e:b=a:=by kernel_rfl):b:=e.mpr h
noncomputable def nk(A:Cg)(n:Nat)(e:List (Nat × wm))(w:wn)(p:List Nat)(c:Code)(Q:QE):Prop:=Gc A Z n (λc Q=>Dl A Z n c Q e w) p c Q
noncomputable def nl(A:Cg)(n:Nat)(e:List (Nat × wm))(w:wn)(p:List Nat)(c:Code)(Q:QE):Prop:=Gc A Z n (Ov A Z n e w) p c Q
def tk:List Nat->Plan->Plan
 | [],t=>t
 | n::l,t => .take n (tk l t)
def a1(l:List (Nat × List Nat)):Cg:=⟨l,[],[],[],wj⟩
noncomputable section
variable{K:VK}{w:wn}{x0 x1 x2 x3 y0 y1 y2 y3 y5 y6 y14:wm}
namespace F66
def ann:=a1 [(5,[0])]
def code:=cd f66
def BM:=tp f66
variable(K:VK)(y0:wm)(w:wn)
@[irreducible]def k5:=nk ann 18 [(0,y0)] w [1,1] code (BM K)
end F66
def F66.k5.to(h:(K y0 w)):F66.k5 K y0 w:=qq h
def F66.sh(h:(U .lss x0 x1 w λa b=>Af a (K x1 b) (U .gtr x0 x2 b λc d=>Af c (K x2 d) (F66.k5 K x0 d)))):I Z 66 #[x0,x1,x2] w K:=BK (A:=F66.ann) (args:=[x0,x1,x2]) (qq h)
namespace F117
def ann:Cg:=⟨[(3,[0]),(5,[0,3]),(6,[3])],[(4,[0,3])],[],[],wj⟩
def code:=cd f117
def BM:=tp f117
variable(K:VK)(y0 y3:wm)(w:wn)
def k3:=nk ann 22 [(0,y0)] w [1,1] code (BM K)
def k6:=nk ann 22 [(3,y3)] w [1,1,1,1] code (BM K)
def l4:=nl ann 22 [(0,y0),(3,y3)] w [1,1,1,0,0] code (BM K)
def k5:=nk ann 22 [(0,y0),(3,y3)] w [1,1,1,0,0,0,1] code (BM K)
attribute [irreducible] k3 k6 l4 k5
end F117
def F117.k3.to(h:(F117.l4 K y0 (v6 wg 1) w)):F117.k3 K y0 w:=qq h
def F117.k6.to(h:(K y3 w)):F117.k6 K y3 w:=qq h
def F117.l4.to(h:(U .lss y3 (v6 wg 5) w λa b=>Aa wk a (λK=>K y3 b) b λc d=>Aa wk a (λK=>I Z 175 #[c] d K) d λf g=>Aa wk a (λK=>K y0 g) g λi j=>Aa wk a (U .add i (v6 wg 1) j) j λk m=>Aa wk a (U .lss f k m) m λo p=>Aw (wh a) (wh o) (wh (wd wl)) p λq r=>Af q (F117.k5 K y0 y3 r) (F117.k6 K y3 r))):F117.l4 K y0 y3 w:=by unfold F117.l4 nl;exact BW (qq h)
def F117.k5.to(h:(U .add y3 (v6 wg 1) w λa b=>F117.l4 K y0 a b)):F117.k5 K y0 y3 w:=qq h
def F117.sh(h:(U .lss x0 (v6 wg 0) w λa b=>Aa wl a (λK=>K x0 b) b λc d=>Aa wl a (U .gtr c (v6 wg 127) d) d λf g=>Aw (wh a) (wh (wd wk)) (wh f) g λi j=>Af i (K (v6 wg 0) j) (F117.k3 K x0 j))):I Z 117 #[x0] w K:=BK (A:=F117.ann) (args:=[x0]) (qq h)
namespace F120
def ann:=a1 [(3,[0])]
def code:=cd f120
def BM:=tp f120
variable(K:VK)(y0:wm)(w:wn)
@[irreducible]def k3:=nk ann 9 [(0,y0)] w [1,1] code (BM K)
end F120
def F120.k3.to(h:(U .add y0 (v6 wg 32) w λa b=>AB Z .quo 3 (.tmp 7) (.const (v6 wg 32)) a (v6 wg 32) b λc d=>K c d)):F120.k3 K y0 w:=qq h
def F120.sh(h:(I Z 117 #[x0] w λa b=>U .neq a (v6 wg 5) b λc d=>Af c (K (v6 wg 0) d) (F120.k3 K x0 d))):I Z 120 #[x0] w K:=BK (A:=F120.ann) (args:=[x0]) (qq h)
namespace F175
def ann:=a1 [(3,[0])]
def code:=cd f175
def BM:=tp f175
variable(K:VK)(y0:wm)(w:wn)
@[irreducible]def k3:=nk ann 12 [(0,y0)] w [1,1] code (BM K)
end F175
def F175.k3.to(h:(U .sub y0 (v6 wg 1) w λa b=>AB Z .shl 3 (.const (v6 wg 2)) (.tmp 10) (v6 wg 2) a b λc d=>K c d)):F175.k3 K y0 w:=qq h
def F175.sh(h:(U .lss x0 (v6 wg 1) w λa b=>Aa wl a (λK=>K x0 b) b λc d=>Aa wl a (U .geq c (v6 wg 5) d) d λf g=>Aw (wh a) (wh (wd wk)) (wh f) g λi j=>Af i (K (v6 wg 0) j) (F175.k3 K x0 j))):I Z 175 #[x0] w K:=BK (A:=F175.ann) (args:=[x0]) (qq h)
namespace F263
def ann:=a1 [(3,[0])]
def code:=cd f263
def BM:=tp f263
variable(K:VK)(y0:wm)(w:wn)
@[irreducible]def k3:=nk ann 9 [(0,y0)] w [1,1] code (BM K)
end F263
def F263.k3.to(h:(I Z 175 #[y0] w λa b=>AB Z .quo 3 (.const (v6 wg 32)) (.tmp 7) (v6 wg 32) a b λc d=>K c d)):F263.k3 K y0 w:=qq h
def F263.sh(h:(I Z 175 #[x0] w λa b=>U .eql a (v6 wg 0) b λc d=>Af c (K (v6 wg 0) d) (F263.k3 K x0 d))):I Z 263 #[x0] w K:=BK (A:=F263.ann) (args:=[x0]) (qq h)
namespace F272
def ann:=a1 [(3,[0])]
def code:=cd f272
def BM:=tp f272
variable(K:VK)(y0:wm)(w:wn)
@[irreducible]def k3:=nk ann 11 [(0,y0)] w [1,1] code (BM K)
end F272
def F272.k3.to(h:(AB Z .quo 3 (.tmp 9) (.const (v6 wg 32)) y0 (v6 wg 32) w λa b=>K a b)):F272.k3 K y0 w:=qq h
def F272.sh(h:(U .lss x0 (v6 wg 0) w λa b=>Aa wl a (λK=>K x0 b) b λc d=>Aa wl a (U .geq c (v6 wg 2048) d) d λf g=>Aw (wh a) (wh (wd wk)) (wh f) g λi j=>Af i (K (v6 wg (-1)) j) (F272.k3 K x0 j))):I Z 272 #[x0] w K:=BK (A:=F272.ann) (args:=[x0]) (qq h)
namespace F284
def ann:=a1 [(3,[0,1])]
def code:=cd f284
def BM:=tp f284
variable(K:VK)(y0 y1:wm)(w:wn)
@[irreducible]def k3:=nk ann 19 [(0,y0),(1,y1)] w [1,1] code (BM K)
end F284
def F284.k3.to(h:(I Z 175 #[y0] w λa b=>AB Z .rem 3 (.tmp 14) (.tmp 16) y1 a b λc d=>U .sub y1 c d λf g=>K f g)):F284.k3 K y0 y1 w:=qq h
def F284.sh(h:(I Z 175 #[x0] w λa b=>U .eql a (v6 wg 0) b λc d=>Aa wl c (λK=>K x1 d) d λf g=>Aa wl c (λK=>I Z 272 #[f] g K) g λi j=>Aa wl c (U .lss i (v6 wg 0) j) j λk m=>Aw (wh c) (wh (wd wk)) (wh k) m λo p=>Af o (K (v6 wg (-1)) p) (F284.k3 K x0 x1 p))):I Z 284 #[x0,x1] w K:=BK (A:=F284.ann) (args:=[x0,x1]) (qq h)
namespace F343
def ann:=a1 [(4,[0,1])]
def code:=cd f343
def BM:=tp f343
variable(K:VK)(y0 y1:wm)(w:wn)
@[irreducible]def k4:=nk ann 22 [(0,y0),(1,y1)] w [1,1] code (BM K)
end F343
def F343.k4.to(h:(I Z 346 #[y1] w λa b=>I Z 175 #[y0] b λc d=>AB Z .quo 3 (.tmp 18) (.tmp 20) a c d λf g=>K (wc #[f,(wd wk)]) g)):F343.k4 K y0 y1 w:=qq h
def F343.sh(h:(I Z 284 #[x0,x1] w λa b=>U .lss a (v6 wg 0) b λc d=>Aa wl c (λK=>K a d) d λf g=>Aa wl c (λK=>K x1 g) g λi j=>Aa wl c (U .neq f i j) j λk m=>Aw (wh c) (wh (wd wk)) (wh k) m λo p=>Af o (K (wc #[(v6 wg 0),(wd wl)]) p) (F343.k4 K x0 x1 p))):I Z 343 #[x0,x1] w K:=BK (A:=F343.ann) (args:=[x0,x1]) (qq h)
namespace F346
def ann:=a1 [(3,[0])]
def code:=cd f346
def BM:=tp f346
variable(K:VK)(y0:wm)(w:wn)
@[irreducible]def k3:=nk ann 8 [(0,y0)] w [1,1] code (BM K)
end F346
def F346.k3.to(h:(AB Z .rem 3 (.tmp 6) (.const (v6 wg 32)) y0 (v6 wg 32) w λa b=>K a b)):F346.k3 K y0 w:=qq h
def F346.sh(h:(I Z 272 #[x0] w λa b=>U .lss a (v6 wg 0) b λc d=>Af c (K (v6 wg (-1)) d) (F346.k3 K x0 d))):I Z 346 #[x0] w K:=BK (A:=F346.ann) (args:=[x0]) (qq h)
namespace F249
def ann:=a1 [(3,[0,1,2])]
def code:=cd f249
def BM:=tp f249
variable(K:VK)(y0 y1 y2:wm)(w:wn)
@[irreducible]def k3:=nk ann 31 [(0,y0),(1,y1),(2,y2)] w [1,1] code (BM K)
end F249
def F249.k3.to(h:(U .mul y0 (v6 wg 32) w λa b=>I Z 175 #[y1] b λc d=>U .mul y2 c d λf g=>U .add a f g λi j=>K (wc #[i,(wd wk)]) j)):F249.k3 K y0 y1 y2 w:=qq h
def F249.sh(h:(U .lss x0 (v6 wg 0) w λa b=>Aa wl a (λK=>K x0 b) b λc d=>Aa wl a (U .geq c (v6 wg 64) d) d λf g=>Aw (wh a) (wh (wd wk)) (wh f) g λi j=>Aa wl i (λK=>K x2 j) j λk m=>Aa wl i (U .lss k (v6 wg 0) m) m λo p=>Aw (wh i) (wh (wd wk)) (wh o) p λq r=>Aa wl q (λK=>K x2 r) r λs t=>Aa wl q (λK=>K x1 t) t λu v=>Aa wl q (λK=>I Z 263 #[u] v K) v λx y=>Aa wl q (U .geq s x y) y λz aa=>Aw (wh q) (wh (wd wk)) (wh z) aa λab ac=>Af ab (K (wc #[(v6 wg 0),(wd wl)]) ac) (F249.k3 K x0 x1 x2 ac))):I Z 249 #[x0,x1,x2] w K:=BK (A:=F249.ann) (args:=[x0,x1,x2]) (qq h)
namespace F177
def ann:=a1 [(3,[0,1])]
def code:=cd f177
def BM:=tp f177
variable(K:VK)(y0 y1:wm)(w:wn)
@[irreducible]def k3:=nk ann 30 [(0,y0),(1,y1)] w [1,1] code (BM K)
end F177
def F177.k3.to(h:(U .mul y0 (v6 wg 32) w λa b=>U .add y0 y1 b λc d=>U .mul c (v6 wg 32) d λf g=>U .sub f (v6 wg 1) g λi j=>K (wc #[a,i,(wd wk)]) j)):F177.k3 K y0 y1 w:=qq h
def F177.sh(h:(U .lss x0 (v6 wg 0) w λa b=>Aa wl a (λK=>K x1 b) b λc d=>Aa wl a (U .lss c (v6 wg 1) d) d λf g=>Aw (wh a) (wh (wd wk)) (wh f) g λi j=>Aa wl i (λK=>K x0 j) j λk m=>Aa wl i (U .geq k (v6 wg 64) m) m λo p=>Aw (wh i) (wh (wd wk)) (wh o) p λq r=>Aa wl q (λK=>K x1 r) r λs t=>Aa wl q (λK=>K x0 t) t λu v=>Aa wl q (U .sub (v6 wg 64) u v) v λx y=>Aa wl q (U .gtr s x y) y λz aa=>Aw (wh q) (wh (wd wk)) (wh z) aa λab ac=>Af ab (K (wc #[(v6 wg 0),(v6 wg 0),(wd wl)]) ac) (F177.k3 K x0 x1 ac))):I Z 177 #[x0,x1] w K:=BK (A:=F177.ann) (args:=[x0,x1]) (qq h)
namespace F180
def ann:=a1 [(3,[0,1])]
def code:=cd f180
def BM:=tp f180
variable(K:VK)(y0 y1:wm)(w:wn)
@[irreducible]def k3:=nk ann 24 [(0,y0),(1,y1)] w [1,1] code (BM K)
end F180
def F180.k3.to(h:(U .mul y0 (v6 wg 128) w λa b=>U .add a y1 b λc d=>K (wc #[c,(wd wk)]) d)):F180.k3 K y0 y1 w:=qq h
def F180.sh(h:(U .lss x0 (v6 wg 0) w λa b=>Aa wl a (λK=>K x0 b) b λc d=>Aa wl a (U .geq c (v6 wg 1099511627776) d) d λf g=>Aw (wh a) (wh (wd wk)) (wh f) g λi j=>Aa wl i (λK=>K x1 j) j λk m=>Aa wl i (U .lss k (v6 wg 0) m) m λo p=>Aw (wh i) (wh (wd wk)) (wh o) p λq r=>Aa wl q (λK=>K x1 r) r λs t=>Aa wl q (U .gtr s (v6 wg 127) t) t λu v=>Aw (wh q) (wh (wd wk)) (wh u) v λx y=>Af x (K (wc #[(v6 wg 0),(wd wl)]) y) (F180.k3 K x0 x1 y))):I Z 180 #[x0,x1] w K:=BK (A:=F180.ann) (args:=[x0,x1]) (qq h)
namespace F199
def ann:=a1 [(3,[0])]
def code:=cd f199
def BM:=tp f199
variable(K:VK)(y0:wm)(w:wn)
@[irreducible]def k3:=nk ann 16 [(0,y0)] w [1,1] code (BM K)
end F199
def F199.k3.to(h:(AB Z .quo 2 (.tmp 12) (.const (v6 wg 128)) y0 (v6 wg 128) w λa b=>AB Z .rem 2 (.tmp 14) (.const (v6 wg 128)) y0 (v6 wg 128) b λc d=>K (wc #[a,c,(wd wk)]) d)):F199.k3 K y0 w:=qq h
def F199.sh(h:(U .lss x0 (v6 wg 0) w λa b=>Aa wl a (λK=>K x0 b) b λc d=>Aa wl a (λK=>AB Z .quo 2 (.tmp 8) (.const (v6 wg 128)) c (v6 wg 128) d K) d λf g=>Aa wl a (U .geq f (v6 wg 1099511627776) g) g λi j=>Aw (wh a) (wh (wd wk)) (wh i) j λk m=>Af k (K (wc #[(v6 wg 0),(v6 wg 0),(wd wl)]) m) (F199.k3 K x0 m))):I Z 199 #[x0] w K:=BK (A:=F199.ann) (args:=[x0]) (qq h)
def F113.sh(h:(I Z 66 #[x0,(v6 wg 0),(v6 wg 9)] w λa b=>Am Z (Instr.makeMap 245 wj) b λc d=>Am Z (Instr.build 247 #[(0,a),(1,c)]) d λf g=>Aq (.cells (wm.cells f) 247) g λi j=>K i j)):I Z 113 #[x0] w K:=BK (A:=A0) (args:=[x0]) (qq h)
namespace F124
def ann:=a1 [(3,[0,1,2,3]),(6,[0,1,2,3])]
def code:=cd f124
def BM:=tp f124
variable(K:VK)(y0 y1 y2 y3:wm)(w:wn)
def k3:=nk ann 61 [(0,y0),(1,y1),(2,y2),(3,y3)] w [1,1] code (BM K)
def k6:=nk ann 61 [(0,y0),(1,y1),(2,y2),(3,y3)] w [1,1,1] code (BM K)
attribute [irreducible] k3 k6
end F124
def F124.k3.to(h:(I Z 185 #[y0,y3] w λa b=>Ao 0 a b λc d=>Ao 1 a d λf g=>U .geq c (v6 wg 0) g λi j=>Af i (K (wd wl) j) (F124.k6 K y0 y1 y2 y3 j))):F124.k3 K y0 y1 y2 y3 w:=qq h
def F124.k6.to(h:(Ae y0 w λa b=>Ab 1 a b λc d=>Ac c d λf g=>Am Z (Instr.build 265 #[(0,y1),(1,y2)]) g λi j=>Bx Z (Instr.mapUpdate 245 f i y3) j λk=>K (wd wk) k)):F124.k6 K y0 y1 y2 y3 w:=qq h
def F124.sh(h:(AB Z .eql 168 (.tmp 11) (.const (v7 wj)) x0 (v7 wj) w λa b=>Aa wl a (λK=>K x0 b) b λc d=>Aa wl a (Ae c d) d λf g=>Aa wl a (Ab 1 f g) g λi j=>Aa wl a (Ac i j) j λk m=>Aa wl a (λK=>AB Z .eql 245 (.tmp 17) (.const (.map wj)) k (.map wj) m K) m λo p=>Aw (wh a) (wh (wd wk)) (wh o) p λq r=>Aa wl q (λK=>K x1 r) r λs t=>Aa wl q (U .lss s (v6 wg 0) t) t λu v=>Aw (wh q) (wh (wd wk)) (wh u) v λx y=>Aa wl x (λK=>K x1 y) y λz aa=>Aa wl x (λK=>K x0 aa) aa λab ac=>Aa wl x (Ae ab ac) ac λad ae=>Aa wl x (Ab 0 ad ae) ae λaf ag=>Aa wl x (Ac af ag) ag λah ai=>Aa wl x (U .geq z ah ai) ai λaj ak=>Aw (wh x) (wh (wd wk)) (wh aj) ak λal am=>Aa wl al (λK=>K x2 am) am λan ao=>Aa wl al (λK=>I Z 175 #[an] ao K) ao λap aq=>Aa wl al (U .eql ap (v6 wg 0) aq) aq λar au=>Aw (wh al) (wh (wd wk)) (wh ar) au λav aw=>Aa wl av (λK=>K x3 aw) aw λax ay=>Aa wl av (U .lss ax (v6 wg 0) ay) ay λaz ba=>
 Aw (wh av) (wh (wd wk)) (wh az) ba λbb bc=>Aa wl bb (λK=>K x3 bc) bc λbd be=>Aa wl bb (U .geq bd (v6 wg 64) be) be λbf bg=>Aw (wh bb) (wh (wd wk)) (wh bf) bg λbh bi=>Af bh (K (wd wl) bi) (F124.k3 K x0 x1 x2 x3 bi))):I Z 124 #[x0,x1,x2,x3] w K:=BK (A:=F124.ann) (args:=[x0,x1,x2,x3]) (qq h)
namespace F184
def ann:=a1 [(3,[0,1,2]),(6,[])]
def code:=cd f184
def BM:=tp f184
variable(K:VK)(y0 y1 y2:wm)(w:wn)
def k3:=nk ann 24 [(0,y0),(1,y1),(2,y2)] w [1,1] code (BM K)
def k6:=nk ann 24 [] w [1,1,1] code (BM K)
attribute [irreducible] k3 k6
end F184
def F184.k3.to(h:(Ae y0 w λa b=>Ab 1 a b λc d=>Ac c d λf g=>Am Z (Instr.build 265 #[(0,y1),(1,y2)]) g λi j=>Am Z (Instr.lookup 245 f i wk) j λk m=>Ao 0 k m λo p=>Ao 1 k p λq r=>Af q (K o r) (F184.k6 K r))):F184.k3 K y0 y1 y2 w:=qq h
def F184.k6.to(h:(K (v6 wg (-1)) w)):F184.k6 K w:=qq h
def F184.sh(h:(AB Z .eql 168 (.tmp 9) (.const (v7 wj)) x0 (v7 wj) w λa b=>Af a (K (v6 wg (-1)) b) (F184.k3 K x0 x1 x2 b))):I Z 184 #[x0,x1,x2] w K:=BK (A:=F184.ann) (args:=[x0,x1,x2]) (qq h)
namespace F185
def ann:Cg:=⟨[(3,[0,1]),(5,[1,14]),(8,[])],[(4,[1,14])],[],[(7,(tk [0,2,1,4,3,5] .fin))],wj⟩
def code:=cd f185
def BM:=tp f185
variable(K:VK)(y0 y1 y14:wm)(w:wn)
def k3:=nk ann 27 [(0,y0),(1,y1)] w [1,1] code (BM K)
def k8:=nk ann 27 [] w [1,1,1] code (BM K)
def l4:=nl ann 27 [(1,y1),(14,y14)] w [1,1,0,1,0] code (BM K)
def k5:=nk ann 27 [(1,y1),(14,y14)] w [1,1,0,1,0,0,1,1] code (BM K)
attribute [irreducible] k3 k8 l4 k5
end F185
def F185.k3.to(h:(Ae y0 w λa b=>Ab 1 a b λc d=>Ac c d λf g=>Am Z (Instr.range 245 f) g λi j=>F185.l4 K y1 i j)):F185.k3 K y0 y1 w:=qq h
def F185.k8.to(h:(K (wc #[(v6 wg (-1)),(v6 wg 0)]) w)):F185.k8 K w:=qq h
def F185.l4.to(h:(Am Z (Instr.next y14 wl 0) w λa b=>Ao 0 a b λc d=>Af c (F185.k5 K y1 y14 d) (F185.k8 K d))):F185.l4 K y1 y14 w:=by unfold F185.l4 nl;exact BW (qq h)
def F185.k5.to(h:(Am Z (Instr.entry y14) w λa b=>Ao 0 a b λc d=>Ao 1 a d λf g=>Aq (.cells #[v6 wg 0,v6 wg 0] 265) g λi j=>Aj 2 i c j λk=>U .eql f y1 k λm o=>Af m (A2 o λS p=>Ab 0 i p λq r=>Ab 1 i r λs t=>An S q t λu v=>An S s v λx y=>K (wc #[u,x]) y) (F185.l4 K y1 y14 o))):F185.k5 K y1 y14 w:=qq h
def F185.sh(h:(AB Z .eql 168 (.tmp 8) (.const (v7 wj)) x0 (v7 wj) w λa b=>Af a (K (wc #[(v6 wg (-1)),(v6 wg 0)]) b) (F185.k3 K x0 x1 b))):I Z 185 #[x0,x1] w K:=BK (A:=F185.ann) (args:=[x0,x1]) (qq h)
namespace F211
def ann:Cg:=⟨[(3,[0,1]),(6,[0,1,5,6]),(7,[0,1,5,6]),(11,[5])],[(5,[0,1,5,6])],[],[],wj⟩
def code:=cd f211
def BM:=tp f211
variable(K:VK)(y0 y1 y5 y6:wm)(w:wn)
def k3:=nk ann 35 [(0,y0),(1,y1)] w [1,1] code (BM K)
def k11:=nk ann 35 [(5,y5)] w [1,1,1,1] code (BM K)
def l5:=nl ann 35 [(0,y0),(1,y1),(5,y5),(6,y6)] w [1,1,1,0,1,0] code (BM K)
def k7:=nk ann 35 [(0,y0),(1,y1),(5,y5),(6,y6)] w [1,1,1,0,1,0,0,1] code (BM K)
def k6:=nk ann 35 [(0,y0),(1,y1),(5,y5),(6,y6)] w [1,1,1,0,1,0,0,1,1] code (BM K)
attribute [irreducible] k3 k11 l5 k7 k6
end F211
def F211.k3.to(h:(F211.l5 K y0 y1 (.slice wj 0 0) (v6 wg 1) w)):F211.k3 K y0 y1 w:=qq h
def F211.k11.to(h:(I Z 262 #[y5] w λa b=>K y5 b)):F211.k11 K y5 w:=qq h
def F211.l5.to(h:(I Z 175 #[y6] w λa b=>U .gtr a (v6 wg 0) b λc d=>Af c (F211.k7 K y0 y1 y5 y6 d) (F211.k11 K y5 d))):F211.l5 K y0 y1 y5 y6 w:=by unfold F211.l5 nl;exact BW (qq h)
def F211.k7.to(h:(I Z 184 #[y0,y1,y6] w λa b=>U .geq a (v6 wg 0) b λc d=>Af c (Am Z (Instr.buildSlice 54 1 #[(0,a)]) d λf g=>Am Z (Builtin.append_ #[54,54] 54 #[y5,f]) g λi j=>Ae y0 j λk m=>Ab 1 k m λo p=>Ac o p λq r=>Am Z (Instr.build 265 #[(0,y1),(1,y6)]) r λs t=>Am Z (Builtin.delete_ #[245,265] 0 #[q,s]) t λ_ u=>F211.k6 K y0 y1 i y6 u) (F211.k6 K y0 y1 y5 y6 d))):F211.k7 K y0 y1 y5 y6 w:=qq h
def F211.k6.to(h:(U .add y6 (v6 wg 1) w λa b=>F211.l5 K y0 y1 y5 a b)):F211.k6 K y0 y1 y5 y6 w:=qq h
def F211.sh(h:(AB Z .eql 168 (.tmp 8) (.const (v7 wj)) x0 (v7 wj) w λa b=>Af a (K (.slice wj 0 0) b) (F211.k3 K x0 x1 b))):I Z 211 #[x0,x1] w K:=BK (A:=F211.ann) (args:=[x0,x1]) (qq h)
end
end
section
open Go.RowKit
section
variable{κ : Type}
def ent(kv : κ -> wm)(x : κ × wm × Nat):MapEntry:={ key:=kv x.1,val:=x.2.1,born:=x.2.2 }
def EG(kv : κ -> wm)(w:wn)(b:Nat)(l:List (κ × wm × Nat))(c:Nat):Prop:=w.heap[b]?=wh (.map (l.map (ent kv)).toArray c)
def EG.keep{kv : κ -> wm}{S:List Nat}{w w':wn}{b c:Nat}{l:List (κ × wm × Nat)}(h:EG kv w b l c)(hf:Fr S w w')(hS:b∉S):EG kv w' b l c:=hf.at_ h hS
def BD{P:wq}{w:wn}{K:VK}{t:TypeId}{kv : κ -> wm}(hk:∀w',Fr [] w w'->EG kv w' w.heap.size [] 0->w'.heap.size=w.heap.size+1->K (.map (wh w.heap.size)) w'):Am P (Instr.makeMap t wj) w K:=by have hn:=DE.mk' w (.map #[] 0);refine A4 (v := .map (wh w.heap.size)) (w':=w.alloc (.map #[] 0)) ?_ (hk _ hn.fr hn.at_ hn.sz);simp[Instr.makeMap,newObj,Sem.run]
end
section
variable{κ : Type}[DecidableEq κ]
def Fk(a : κ):List (κ × wm × Nat)->Nat->Option (Nat × wm)
 | [],_=>wj
 | x::l,i=>if x.1=a then wh (i,x.2.1) else Fk a l (i+1)
theorem GA{a : κ}:∀ {l:List (κ × wm × Nat)} {i:Nat},(∀x∈l,x.1≠a)->Fk a l i=wj
 | [],_,_=>rfl
 | x::l,i,h=>by
  unfold Fk;rw[vx (h x (by simp)),GA λy hy=>h y (by simp[hy])]
theorem J7{a : κ}:∀ {l:List (κ × wm × Nat)} {i:Nat},(∃x∈l,x.1=a)->∃(j:Nat) (x : κ × wm × Nat),l[j]?=wh x/\x.1=a/\(∀k y,k<j->l[k]?=wh y->y.1≠a)/\Fk a l i=wh (i+j,x.2.1)
 | [],_,h=>by obtain⟨x,hx,_⟩:=h;cases hx
 | y::l,i,h=>by
  by_cases c:y.1=a
  ·exact⟨0,y,rfl,c,λk _ hk=>by omega,by unfold Fk;rw[vy c];rfl⟩
  ·have h':∃x∈l,x.1=a:=by
    obtain⟨x,hx,e⟩:=h;rcases ux.1 hx with d|d
    ·subst d;exact absurd e c
    ·exact⟨x,d,e⟩
   obtain⟨j,x,h1,h2,h3,h4⟩:=J7 (i:=i+1) h';refine⟨j+1,x,by simpa using h1,h2,λk z hk hz=>?_,?_⟩
   ·cases k with
    | zero=>simp at hz;subst hz;exact c
    | succ k=>exact h3 k z (by omega) (by simpa using hz)
   ·unfold Fk;rw[vx c,h4];congr 2;omega
structure HT(P:wq)(kt:TypeId)(kv : κ -> wm):Prop where
 check:∀e a w,(Instr.checkKey e 10000 kt (kv a)).run P w=.ok () w
 find:∀a l w,(Instr.findKey kt (kv a) (l.map (ent kv))).run P w=.ok (Fk a l 0) w
 same:∀a,Instr.sameBits 10000 (kv a) (kv a)=wk
def HT.asked{P:wq}{kt:TypeId}{kv : κ -> wm}{d:TypeDesc}(hu:P.underlying kt=wh d)(hc:∀e a w,(Instr.checkKey e 10000 kt (kv a)).run P w=.ok () w)(hn:∀a b,Instr.sameNow d (kv a) (kv b)=wj)(he:∀a b w,(Op.equal kt (kv a) (kv b)).run P w=.ok (decide (a=b)) w)(hs:∀a,Instr.sameBits 10000 (kv a) (kv a)=wk):HT P kt kv where
 check:=hc
 find:=λa l w=>by
  have key:∀(l:List (κ × wm × Nat)) (i:Nat),(Instr.findAsking kt (kv a) (l.map (ent kv)) i).run P w=.ok (Fk a l i) w:=by
   intro l;induction l with
   | nil=>intro i;rfl
   | cons x l ih=>
    intro i;simp only[uw,Instr.findAsking,ent,vf,he,zT,Fk];by_cases c:x.1=a
    ·simp[c]
    ·simp only[vv c,decide_false,yZ,vq,vx c];exact ih (i+1)
  cases l with
  | nil=>simp[Instr.findKey,ut hu,Instr.findNow,Fk]
  | cons x l=>
   have:=key (x::l) 0;simp only[uw]at this ⊢;simp[Instr.findKey,ut hu,Instr.findNow,ent,hn]at this ⊢;exact this
 same:=hs
section
variable{P:wq}{w:wn}{K:VK}{t kt et:TypeId}{kv : κ -> wm}{b c:Nat}{l:List (κ × wm × Nat)}
def Gb{es:Array MapEntry}{k:Nat}(hb:w.heap[b]?=wh (.map es k)):(getObj b).run P w=.ok (.map es k) w:=by simp[getObj,Sem.run,hb]
def H0{o:Obj}(hb:w.heap[b]?=wh o)(o':Obj):H9 w b o' (w.putObj b o'):=by have hlt:=BP hb;refine⟨⟨rfl,rfl,rfl,by simp,λi _ hi=>?_⟩,wn.putObj_heap_same hlt,by simp⟩;simp only[zF]at hi;exact wn.putObj_heap_other hi
def Hz(es:Array MapEntry)(k:Nat){es':Array MapEntry}{k':Nat}(hb:w.heap[b]?=wh (.map es' k')):(setObj b (.map es k)).run P w=.ok () (w.putObj b (.map es k)):=by simp[setObj,Sem.run,wn.putObj,hb]
def B9(hK:HT P kt kv)(ht:P.underlying t=wh (.map kt et)){z:wm}(hz:Mj P et=wh z)(hb:EG kv w b l c)(a : κ){ok:Bool}{v:wm}{is:Bool}(hv:(Fk a l 0=wj/\v=z/\is=wl)∨(∃j,Fk a l 0=wh (j,v)/\is=wk))(hk:K (if ok then wc #[v,wd is] else v) w):Am P (Instr.lookup t (.map (wh b)) (kv a) ok) w K:=by
 refine A4 ?_ hk;have hz':=LY (w:=w) hz;rcases hv with⟨h1,rfl,rfl⟩|⟨j,h1,rfl⟩
 ·simp only[Instr.lookup,vf,ut ht,zT,Gb hb,hK.check,hK.find,h1,hz',vg]
 ·simp only[Instr.lookup,vf,ut ht,zT,Gb hb,hK.check,hK.find,h1,vg]
def BF{KU:wn->Prop}(hK:HT P kt kv)(ht:P.underlying t=wh (.map kt et))(hb:EG kv w b l c)(a : κ)(v:wm)(hn:Fk a l 0=wj)(hk:∀w',Fr [b] w w'->w'.heap.size=w.heap.size->EG kv w' b (l++[(a,v,c)]) (c+1)->KU w'):Bx P (Instr.mapUpdate t (.map (wh b)) (kv a) v) w KU:=by
 have hu:=H0 hb (.map ((l.map (ent kv)).toArray.push { key:=kv a,val:=v,born:=c }) (c+1));refine⟨_,?_,hk _ hu.fr hu.sz ?_⟩
 ·simp only[Instr.mapUpdate,vf,ut ht,zT,Gb hb,hK.check,hK.find,hn,Hz _ _ hb]
 ·have:=hu.at_;rw[List.push_toArray]at this;simpa[EG,ent] using this
def BH{KU:wn->Prop}(hK:HT P kt kv)(ht:P.underlying t=wh (.map kt et))(hb:EG kv w b l c)(a : κ)(v:wm){j:Nat}{x : κ × wm × Nat}(hj:l[j]?=wh x)(hx:x.1=a)(hf:Fk a l 0=wh (j,x.2.1))(hk:∀w',Fr [b] w w'->w'.heap.size=w.heap.size->EG kv w' b (l.set j (a,v,x.2.2)) c->KU w'):Bx P (Instr.mapUpdate t (.map (wh b)) (kv a) v) w KU:=by
 subst hx;have hjl:j<l.length:=(xM.1 hj).1;have hxj:l[j]=x:=(xM.1 hj).2;have hkey:((((l.map (ent kv)).toArray)[j]?).map (·.key)).getD (kv x.1)=kv x.1:=by simp[hj,ent]
 have hu:=H0 hb (.map ((l.map (ent kv)).toArray.modify j λe=>{ e with key:=kv x.1,val:=v }) c);refine⟨_,?_,hk _ hu.fr hu.sz ?_⟩
 ·simp only[Instr.mapUpdate,vf,ut ht,zT,Gb hb,hK.check,hK.find,hf,hkey,Instr.keyThatStays,hK.same,vu,vg,Hz _ _ hb]
 ·have:=hu.at_;have e:(l.map (ent kv)).toArray.modify j (λe=>{ e with key:=kv x.1,val:=v })=((l.set j (x.1,v,x.2.2)).map (ent kv)).toArray:=by
   apply Array.ext
   ·simp
   ·intro i h1 h2;simp only[Array.getElem_modify,List.getElem_toArray,b8,d8];split
    ·rename_i e;subst e;simp[ent,hxj]
    ·rfl
  exact this.trans (by rw[e])
def BC{t' ty:TypeId}(hK:HT P kt kv)(ht:P.underlying t=wh (.map kt et))(hb:EG kv w b l c)(a : κ){l':List (κ × wm × Nat)}(hl:l'=match Fk a l 0 with | wh (j,_)=>l.eraseIdx j | wj=>l)(hk:∀w',Fr [b] w w'->w'.heap.size=w.heap.size->EG kv w' b l' c->K (wc #[]) w'):Am P (Builtin.delete_ #[t,t'] ty #[.map (wh b),kv a]) w K:=by
 have hu:=H0 hb (.map ((l'.map (ent kv)).toArray) c);refine A4 (v:=wc #[]) ?_ (hk _ hu.fr hu.sz hu.at_);cases hf:Fk a l 0 with
 | none=>
  rw[hf]at hl;subst hl;simp[Builtin.delete_,ut ht,Gb hb,hK.check,hK.find,hf,Hz _ _ hb]
 | some p=>
  obtain⟨j,v⟩:=p;rw[hf]at hl;subst hl;have e:(l.map (ent kv)).toArray.eraseIdxIfInBounds j=((l.eraseIdx j).map (ent kv)).toArray:=by apply vn;simp[List.eraseIdx_eq_take_drop_succ]
  simp only[Builtin.delete_,yH,xW,xV,vf,ut ht,zT,Gb hb,hK.check,hK.find,hf,Hz _ _ hb,e,vg]
end
end
end
section
open Go.Proofs Go.RowKit
def Ec(a:Int × Int):wm := .agg #[v6 wg a.1,v6 wg a.2]
def XY : ∃ f g : Field, (Tryz.prog.fieldsOf 265).toList = [f, g] /\ (f.name != "_") = wk /\ (g.name != "_") = wk /\ f.type = 3 /\ g.type = 3 /\ f.offset = 0 /\ g.offset = 1 := ⟨(Tryz.prog.fieldsOf 265)[0]!, (Tryz.prog.fieldsOf 265)[1]!, by kernel_rfl, by kernel_rfl, by kernel_rfl, by kernel_rfl, by kernel_rfl, by kernel_rfl, by kernel_rfl⟩
def Td(x y:Int)(w:wn):(part 3 #[v6 wg x,v6 wg y] 0).run Z w=.ok (v6 wg x) w:=by kernel_rfl
def Te(x y:Int)(w:wn):(part 3 #[v6 wg x,v6 wg y] 1).run Z w=.ok (v6 wg y) w:=by kernel_rfl
def PY(x y:Int)(w:wn)(d:Nat):(Op.equalIn (d+1) 3 (v6 wg x) (v6 wg y)).run Z w=.ok (x == y) w:=by simp[Op.equalIn,ut Tryz.underlying3]
def UC(a b:Int × Int)(w:wn)(d:Nat):(Op.equalIn (d+1+1) 265 (Ec a) (Ec b)).run Z w=.ok (decide (a.1=b.1) && decide (a.2=b.2)) w:=by
 obtain⟨f,g,e,hf,hg,tf,tg,of,og⟩:=XY;have hf : (f.name ≠ "_") = True := by simpa using hf
 have hg : (g.name ≠ "_") = True := by simpa using hg
 unfold Ec;rw[run_equalIn_struct w (d+1) 265 _ _ Tryz.underlying265 (by kernel_rfl),e];simp only[Op.eqFields,hf,hg,tf,tg,of,og,vu,vf,Td,PY,zT];by_cases h1:a.1=b.1<;>by_cases h2:a.2=b.2<;>simp[h1,h2,PY,Te]
def XX(a b:Int × Int)(w:wn):(Op.equal 265 (Ec a) (Ec b)).run Z w=.ok (decide (a=b)) w:=by
 have e:decide (a=b)=(decide (a.1=b.1) && decide (a.2=b.2)):=by rw[j7];simp[ve]
 rw[e];exact UC a b w 9998
def XW(e:Bool)(a:Int × Int)(w:wn)(d:Nat):(Instr.checkKey e (d+1+1) 265 (Ec a)).run Z w=.ok () w:=by kernel_rfl
def IA:HT Z 265 Ec:=
 HT.asked Tryz.underlying265 (λe a w=>XW e a w 9998) (λa b=>rfl) XX (λa=>by
  have h:∀d,Instr.sameBits (d+1+1) (Ec a) (Ec a)=wk:=λd=>by simp[Ec,Instr.sameBits]
  exact h 9998)
section
variable{K:VK}{w:wn}
def EI{a b c:Int}(h:K (v6 wg (if a<b then b else if a>c then c else a)) w):I Z 66 #[v6 wg a,v6 wg b,v6 wg c] w K:=by
 refine F66.sh ?_;by_cases h1:a<b
 ·simp only[zv,h1]
  rwa [vy h1]at h
 ·rw[vx h1]at h;by_cases h2:a>c
  ·simp only[zv,h1,h2]
   rwa [vy h2]at h
  ·simp only[zv,h1,h2];rw[vx h2]at h;exact F66.k5.to h
def Ei{k:Int}(h:K (v6 wg (BV k)) w):I Z 175 #[v6 wg k] w K:=by
 refine F175.sh ?_;by_cases h1:k<1
 ·simp only[zv,h1]
  rwa [show BV k=0 by unfold BV;repeat (rw[vx (by omega)])]at h
 ·by_cases h2:k≥5
  ·simp only[zv,h1,h2]
   rwa [show BV k=0 by unfold BV;repeat (rw[vx (by omega)])]at h
  ·simp only[zv,h1,h2];refine F175.k3.to ?_;simp only[AN];rw[BO (n:=k-1) (by omega)];have:k=1∨k=2∨k=3∨k=4:=by omega
   rcases this with rfl|rfl|rfl|rfl
   ·exact⟨v6 wg 2,by kernel_rfl,h⟩
   ·exact⟨v6 wg 4,by kernel_rfl,h⟩
   ·exact⟨v6 wg 8,by kernel_rfl,h⟩
   ·exact⟨v6 wg 16,by kernel_rfl,h⟩
end
end
section
variable{P:wq}{w:wn}{t:TypeId}
def O9{ft:TypeId}{k:IntKind}(hu:P.underlying ft=wh (.int k)){xs:Array wm}{o:Nat}{v:wm}(hx:xs[o]?=wh v):(part ft xs o).run P w=.ok v w:=by simp[part,isAgg,underlying,hu,hx]
def Pk{ft:TypeId}{k:IntKind}(hu:P.underlying ft=wh (.int k))(d:Nat)(a b:Int):(Op.equalIn (d+1) ft (v6 k a) (v6 k b)).run P w=.ok (a == b) w:=by simp[Op.equalIn,underlying,hu]
def F5:List IntKind->List Int->List wm
 | k::ks,n::ns=>v6 k n::F5 ks ns
 | _,_=>[]
def Hf(P:wq):List Field->List IntKind->Nat->Bool
 | [],[],_=>wk
 | f :: fs, k :: ks, i => !(f.name == "_") && (match P.underlying f.type with | wh (.int k') => k' == k | _ => wl) && Nat.beq f.offset i && Hf P fs ks (i + 1)
 | _,_,_=>wl
theorem Jp(d:Nat)(X Y:Array wm):∀(fs:List Field) (ks:List IntKind) (i:Nat) (xs ys:List Int),Hf P fs ks i=wk->xs.length=ks.length->ys.length=ks.length->
  (∀j,j<ks.length->X[i+j]?=(F5 ks xs)[j]?)->(∀j,j<ks.length->Y[i+j]?=(F5 ks ys)[j]?)->
  (Op.eqFields (d+1) X Y fs).run P w=.ok (xs == ys) w
 | [],[],i,[],[],_,_,_,_,_=>by simp[Op.eqFields]
 | f::fs,k::ks,i,a::xs,b::ys,h,hx,hy,hX,hY=>by
  simp only[Hf,zY,zJ]at h;obtain⟨⟨⟨h1,h2⟩,h3⟩,h4⟩:=h;have hu:P.underlying f.type=wh (.int k):=by
   split at h2
   ·rename_i k' hk;rw[hk];simp only[beq_iff_eq]at h2;rw[h2]
   ·cases h2
  have ho:f.offset=i:=yM h3;have hn : f.name ≠ "_" := by simpa using h1
  have x0:X[f.offset]?=wh (v6 k a):=by have:=hX 0 (by simp);simpa[ho,F5] using this
  have y0:Y[f.offset]?=wh (v6 k b):=by have:=hY 0 (by simp);simpa[ho,F5] using this
  rw[Op.eqFields];simp only[vy hn,vf,O9 hu x0,O9 hu y0,Pk hu,zT];by_cases hab:a=b
  ·have hb:(a == b)=wk:=by simpa using hab
   have ih:=Jp d X Y fs ks (i+1) xs ys h4 (by simpa using hx) (by simpa using hy)
    (λj hj=>by have:=hX (j+1) (by simp;omega);rw[show i+(j+1)=i+1+j by omega]at this;simpa[F5] using this)
    (λj hj=>by have:=hY (j+1) (by simp;omega);rw[show i+(j+1)=i+1+j by omega]at this;simpa[F5] using this)
   simp[hab,ih]
  ·have hb:(a == b)=wl:=by simpa using hab
   have:(a::xs == b::ys)=wl:=by simp[hab]
   simp[hb,this]
 | [],_::_,_,_,_,h,_,_,_,_=>by simp[Hf]at h
 | _::_,[],_,_,_,h,_,_,_,_=>by simp[Hf]at h
 | _::_,_::_,_,[],_,_,h,_,_,_=>by simp at h
 | _::_,_::_,_,_,[],_,_,h,_,_=>by simp at h
 | [],[],_,_::_,_,_,h,_,_,_=>by simp at h
 | [],[],_,_,_::_,_,_,h,_,_=>by simp at h
def J5{fs:Array Field}{ks:List IntKind}(d:Nat)(hu:P.underlying t=wh (.struct fs))(hp:P.stoodInHeld t=wl)(hr:Hf P fs.toList ks 0=wk)(xs ys:List Int)(hx:xs.length=ks.length)(hy:ys.length=ks.length):
  (Op.equalIn (d+2) t (.agg (F5 ks xs).toArray) (.agg (F5 ks ys).toArray)).run P w=.ok (xs == ys) w:=by
 have hf:P.fieldsOf t=fs:=by simp[wq.fieldsOf,hu]
 rw[run_equalIn_struct (P:=P) w (d+1) t _ _ (by rw[hf];exact hu) hp,hf];exact Jp d _ _ fs.toList ks 0 xs ys hr hx hy (λj hj=>by simp) (λj hj=>by simp)
def PV{fs:Array Field}{ks:List IntKind}(x y:Operand)(hu:P.underlying t=wh (.struct fs))(hg:P.eqGuardType P.depth t=wl)(hp:P.stoodInHeld t=wl)(hr:Hf P fs.toList ks 0=wk)(xs ys:List Int)(hx:xs.length=ks.length)(hy:ys.length=ks.length):
  (do eqGuard .eql t x y (.agg (F5 ks xs).toArray) (.agg (F5 ks ys).toArray);binOp .eql t (.agg (F5 ks xs).toArray) (.agg (F5 ks ys).toArray):Sem wm).run P w=.ok (wd (xs == ys)) w:=
 Ki (by simp[eqGuard,hg]) rfl (J5 9998 hu hp hr xs ys hx hy)
def U1{fs:Array Field}{ks:List IntKind}(x y:Operand)(hu:P.underlying t=wh (.struct fs))(hg:P.eqGuardType P.depth t=wl)(hp:P.stoodInHeld t=wl)(hr:Hf P fs.toList ks 0=wk)(xs ys:List Int)(hx:xs.length=ks.length)(hy:ys.length=ks.length):
  (do eqGuard .neq t x y (.agg (F5 ks xs).toArray) (.agg (F5 ks ys).toArray);binOp .neq t (.agg (F5 ks xs).toArray) (.agg (F5 ks ys).toArray):Sem wm).run P w=.ok (wd (!(xs == ys))) w:=
 PU (by simp[eqGuard,hg]) rfl (J5 9998 hu hp hr xs ys hx hy)
def NR(x y:Operand)(a:Int):(do eqGuard .and t x y (v6 wg a) (v6 wg 1);binOp .and t (v6 wg a) (v6 wg 1):Sem wm).run P w=.ok (v6 wg (a % 2)) w:=by
 have h1:(BitVec.ofInt 64 1).toNat=2 ^ 1-1:=by decide
 have key:(BitVec.ofInt 64 a &&& BitVec.ofInt 64 1).toNat=(a % ((2 ^ 64:Nat):Int)).toNat % 2 ^ 1:=by rw[BitVec.toNat_and,BitVec.toNat_ofInt,h1,Nat.and_two_pow_sub_one_eq_mod]
 have e:IntKind.i64.wrap ((BitVec.ofInt 64 a &&& BitVec.ofInt 64 1).toNat:Nat)=a % 2:=by rw[key,IntKind.wrap_i64];omega
 have e':(Op.intBits .and wg a 1:Sem wm)=pure (v6 wg (IntKind.i64.wrap ((BitVec.ofInt 64 a &&& BitVec.ofInt 64 1).toNat:Nat))):=rfl;simp only[vf,Cx,zT];show (Op.intBits .and wg a 1).run P w=_;rw[e',e];rfl
def UE(x y:Operand)(a:Int):(do eqGuard .shr t x y (v6 wg a) (v6 .u64 1);binOp .shr t (v6 wg a) (v6 .u64 1):Sem wm).run P w=.ok (v6 wg (a / 2)) w:=by
 simp only[vf,Cx,zT];show (Op.shift .shr wg a .u64 1).run P w=_;have:a.fdiv 2=a / 2:=by rw[xC _ (by decide)]
 simp[Op.shift,IntKind.bits,this]
def DR(x y:Operand)(a b:Int)(hb:b≠0):(do eqGuard .quo t x y (v6 wg a) (v6 wg b);binOp .quo t (v6 wg a) (v6 wg b):Sem wm).run P w=.ok (v6 wg (IntKind.i64.wrap (a.tdiv b))) w:=by simp only[vf,Cx,zT];show (Op.intDiv .quo wg a b).run P w=_;simp[Op.intDiv,hb]
def Ge(x y:Operand)(a b:Int)(hb:b≠0):(do eqGuard .rem t x y (v6 wg a) (v6 wg b);binOp .rem t (v6 wg a) (v6 wg b):Sem wm).run P w=.ok (v6 wg (a.tmod b)) w:=by simp only[vf,Cx,zT];show (Op.intDiv .rem wg a b).run P w=_;simp[Op.intDiv,hb]
end
end Go.Proofs.QV
