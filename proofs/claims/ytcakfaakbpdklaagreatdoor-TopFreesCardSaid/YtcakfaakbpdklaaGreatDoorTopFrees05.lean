/- Part 5 of what the law needs: own lemmas, in the order in which they build. -/
import Derived.Shelf.SlSortCmp.NoneTotal
import Derived.Maps.RangeRun
import Derived.Laws.StructEq
import Derived.Laws.Bits128
import Derived.Test.YtcakfaakbpdklaaGreatDoorProg
import Derived.Test.YtcakfaakbpdklaaGreatDoorTopFrees04
set_option linter.unusedSimpArgs false
set_option linter.unusedVariables false
set_option maxRecDepth 100000
namespace Go.Proofs.YtcakfaakbpdklaaGreatDoorV
open Go Go.Proofs Go.RowKit
open Go.Proofs.Tryz renaming prog→y5c
section
variable {DS:Int→Prop} {cf:Cf} {E:Int} {c:Co} {m:Ma}
theorem MI.unitD (L:qb2 cf) (h:MI cf E c) (q:QF DS c):QF DS (c.unit cf).1:=q.unit h.k L.ch L.pg (h.ks L)
theorem QF.workN (L:qb2 cf):∀(n:Nat) (c:Co) (E:Int),MI cf E c→QF DS c→E+5*n≤1000000000→QF DS (c.workN cf n).1
 | 0,c,E,h,q,_=>q
 | n+1,c,E,h,q,hE=>by
  have h1:=h.unit L (by omega)
  have q1:=h.unitD L q
  unfold Co.workN
  generalize c.unit cf=z at h1 q1
  obtain⟨d,b⟩:=z
  cases b with
  | true=>exact QF.workN L n d _ h1 q1 (by omega)
  | false=>exact q1
theorem MJ.aheadD (L:qb2 cf) (h:MJ cf E m) (q:QF DS m.co) {n:Int} (hn:n≤64) (hE:E+320≤1000000000):QF DS (m.ahead cf n).1.co:=by
 have h1:=QF.workN L n.toNat m.co E h.c q (by omega)
 unfold Ma.ahead Ma.put
 exact h1
theorem qdo (m:Ma) (t n:Int):(m.charge cf t n).co=m.co:=by unfold Ma.charge;split <;> rfl
theorem MJ.taxD (L:qb2 cf) (h:MJ cf E m) (q:QF DS m.co) (x:Stp) (hE:E+320≤1000000000):QF DS (m.tax cf x).1.co:=by
 unfold Ma.tax
 split
 ·exact q
 simp only
 split
 ·exact q
 simp only
 have hb:=h.bk
 have ht:=L.tx
 have h1:=QF.workN L (cf.tax-min (m.bi-m.bo) cf.tax).toNat m.co E h.c q (by omega)
 rw[qdo]
 exact h1
theorem MJ.rootD (q:AF DS m.co) {t i:Int} {b:Nat} (hv:m.root t i=some (2,(b:Int))):¬Dd DS m.co.s b:=by
 unfold Ma.root Co.roots at hv
 split at hv
 ·exact q.row _ b (y1r hv)
 ·simp at hv
theorem MJ.objectD (q:AF DS m.co) {x:Stp} {a:Nat} (ho:(m.object x).2=0) (e:(m.object x).1=a):¬Dd DS m.co.s a:=by
 unfold Ma.object at *
 cases hr:m.root x.t x.i with
 | none=>rw[hr] at ho;cases ho
 | some v=>
  rw[hr] at ho e
  simp only at ho e
  by_cases h2:v.1≠2
  ·rw[if_pos h2] at ho;cases ho
  ·rw[if_neg h2] at e
   exact MJ.rootD q (t:=x.t) (i:=x.i) (by rw[hr];congr 1;exact Prod.ext (by simpa using h2) e)
theorem qs9 {a:Int} {b:Nat} (h:qdx a=(2,(b:Int))):a=b:=by
 unfold qdx at h
 split at h
 ·exact (y4n.1 h).2
 ·exact absurd (y4n.1 h).1 (by simp)
theorem MJ.valueD (h:MJ cf E m) (q:AF DS m.co) {x:Stp} {t:Nat} (ht:x.t=t) (hl:m.co.r.live (t:Int)=true) {b:Nat} (e:(m.value x).1=(2,(b:Int))):¬Dd DS m.co.s b:=by
 have nil2:((0,0):V2)=(2,(b:Int))→¬Dd DS m.co.s b:=fun e=>absurd (y4n.1 e).1 (by simp)
 unfold Ma.value at e
 by_cases c4:x.kd=4
 ·rw[if_pos c4] at e
  split at e
  ·exact absurd (y4n.1 e).1 (by simp)
  ·exact nil2 e
 rw[if_neg c4] at e
 by_cases c6:x.kd=6
 ·rw[if_pos c6] at e
  exact q.ni.gl b (qs9 e)
 rw[if_neg c6] at e
 by_cases c7:x.kd=7
 ·rw[if_pos c7] at e
  cases hr:m.root x.t x.i with
  | none=>rw[hr] at e;exact nil2 e
  | some v=>rw[hr] at e;simp only at e;exact MJ.rootD q (by rw[hr,e])
 rw[if_neg c7] at e
 by_cases c9:x.kd=9
 ·rw[if_pos c9] at e
  by_cases h1:(m.object x).2≠0
  ·rw[if_pos h1] at e;exact nil2 e
  ·rw[if_neg h1] at e
   obtain⟨a,ea,hg⟩:=h.object ht hl (by omega)
   rw[ea] at e
   split at e
   ·rename_i hgt
    simp only at e
    have hi:0≤x.f:=by
     obtain⟨ser,fs,o,_⟩:=h.c.k.si.hi.obj a (hg.kp a rfl).1
     have e:=St.get_obj h.c.k.si.hi.ci o x.f
     apply y0q
     intro hc
     rw[if_neg hc] at e;rw[e] at hgt;cases hgt
    exact q.field h.c.k.si (MJ.objectD q (by omega) ea) hi e
   ·exact nil2 e
 ·rw[if_neg c9] at e;exact nil2 e
theorem MJ.gotD (q:QF DS m.co) {x:Stp} {a:Nat} (ha:¬Dd DS m.co.s a) (y:Ans):QF DS (m.got x (a:Int) y).1.co:=by
 unfold Ma.got
 simp only
 refine q.push _ fun _ b e=>?_
 have:=qs9 e
 have:a=b:=by omega
 subst this;exact ha
theorem MI.fastD (h:MI cf E c) (q:QF DS c) (hm:∀ser,DS ser→ser<c.s.made) (hE:E≤1000000000) (t:Nat) (n:Int) {a:Nat} {c':Co} (e:c.fast cf (t:Int) n=(c',some (a:Int))):QF DS c'∧¬Dd DS c'.s a:=by
 rcases h.k.fast (by have:=h.md;omega) t n with e1 | ⟨a1,s1,c1,e1,n1,e2,_,_,e5⟩
 ·rw[e1] at e;cases (y4n.1 e).2
 ·rw[e1] at e
  have ea:a1=a:=by have:=(y4n.1 e).2;simp only[y2k] at this;omega
  have ec:c1=c':=(y4n.1 e).1
  subst ea;subst ec
  rw[e5,e2]
  exact q.newO n1 hm
theorem MI.slowD (h:MI cf E c) (q:QF DS c) (hm:∀ser,DS ser→ser<c.s.made) (hE:E≤1000000000) (t:Nat) (n:Int) {a:Nat} {c':Co} (e:c.slow cf (t:Int) n=(c',(a:Int),0)):QF DS c'∧¬Dd DS c'.s a:=by
 rcases h.k.slow (by have:=h.md;omega) t n with⟨e0,ne,e1⟩ | ⟨a1,s1,c1,e1,n1,e2,_,_,e5⟩
 ·rw[e1] at e
  have:=(y4n.1 (y4n.1 e).2).2
  exact absurd this ne
 ·rw[e1] at e
  have ea:a1=a:=by have:=(y4n.1 (y4n.1 e).2).1;simp only at this;omega
  have ec:c1=c':=(y4n.1 e).1
  subst ea;subst ec
  rw[e5,e2]
  exact q.newO n1 hm
theorem MJ.slowMD (L:qb2 cf) (h:MJ cf E m) (q:QF DS m.co) (hm:∀ser,DS ser→ser<m.co.s.made) {x:Stp} {t:Nat} (ht:x.t=t) (hE:E+330≤1000000000):QF DS (m.slow cf x).1.co∧((m.slow cf x).2.2.code=0→∀a:Nat,(m.slow cf x).2.1=a→¬Dd DS (m.slow cf x).1.co.s a):=by
 unfold Ma.slow
 simp only
 have h1:MJ cf (E+5) (if m.co.phase=0∧qa1 m.co.s.c.ks<cf.trigger then ({ m with co:=(m.co.beginC cf).1 }:Ma) else m)∧QF DS (if m.co.phase=0∧qa1 m.co.s.c.ks<cf.trigger then ({ m with co:=(m.co.beginC cf).1 }:Ma) else m).co∧(if m.co.phase=0∧qa1 m.co.s.c.ks<cf.trigger then ({ m with co:=(m.co.beginC cf).1 }:Ma) else m).co.s=m.co.s:=by
  split
  ·exact⟨h.co (h.c.beginC (by omega)),q.beginC,qfh cf _⟩
  ·exact⟨h.up (by omega),q,rfl⟩
 generalize (if m.co.phase=0∧qa1 m.co.s.c.ks<cf.trigger then ({ m with co:=(m.co.beginC cf).1 }:Ma) else m)=m1 at h1
 obtain⟨j1,q1,s1⟩:=h1
 have h2:=j1.tax L x (by omega)
 have q2:=j1.taxD L q1 x (by omega)
 have s2:=(qxj cf m1 x j1.c.k.si (by have:=j1.c.md;omega)).2.1
 generalize m1.tax cf x=z at h2 q2 s2
 obtain⟨m2,y⟩:=z
 simp only at h2 q2 s2 ⊢
 have dm:∀ser,DS ser→ser<m2.co.s.made:=fun ser d=>by have:=hm ser d;rw[s1] at s2;omega
 by_cases hc:y.code≠0
 ·rw[if_pos hc]
  exact⟨q2,fun e=>absurd e hc⟩
 rw[if_neg hc,ht]
 rcases h2.c.slow (by omega) t x.n with⟨e0,e1,e⟩ | ⟨a,c',e,e1,e2⟩
 ·rw[e]
  exact⟨q2,fun e=>absurd e e1⟩
 ·obtain⟨g1,g2⟩:=h2.c.slowD q2 dm (by omega) t x.n e
  rw[e]
  exact⟨g1,fun _ b eb=>by
   simp only at eb
   have:a=b:=by omega
   subst this;exact g2⟩
theorem MJ.allocD (L:qb2 cf) (h:MJ cf E m) (q:QF DS m.co) (hm:∀ser,DS ser→ser<m.co.s.made) {x:Stp} {t:Nat} (ht:x.t=t) (hE:E+330≤1000000000):QF DS (m.alloc cf x).1.co:=by
 unfold Ma.alloc
 split
 ·exact q
 split
 ·exact q
 rw[ht]
 rcases h.c.fast (by omega) t x.n with e | ⟨a,c',e,e1,e2⟩
 ·rw[e]
  simp only
  obtain⟨k1,k2⟩:=h.slowM L ht hE
  obtain⟨g1,g2⟩:=h.slowMD L q hm ht hE
  by_cases hc:(m.slow cf x).2.2.code≠0
  ·rw[if_pos hc];exact g1
  ·rw[if_neg hc]
   obtain⟨a,e,hg⟩:=k2 (by omega)
   have:=g2 (by omega) a e
   rw[e]
   exact MJ.gotD g1 this _
 ·obtain⟨g1,g2⟩:=h.c.fastD q hm (by omega) t x.n e
  rw[e]
  exact MJ.gotD (m:={ m with co:=c' }) g1 g2 _
theorem MJ.pushSD (h:MJ cf E m) (q:QF DS m.co) {x:Stp} {t:Nat} (ht:x.t=t) (hl:m.co.r.live (t:Int)=true):QF DS (m.pushS x).1.co:=by
 unfold Ma.pushS
 split
 ·exact q
 have hp:=q.push x.t (v:=(m.value x).1) fun a b e=>h.valueD a ht hl e
 generalize m.co.push x.t (m.value x).1=z at hp
 obtain⟨c,o⟩:=z
 cases o
 ·exact q
 ·exact hp
theorem MJ.doSD (L:qb2 cf) (h:MJ cf E m) (q:QF DS m.co) (hm:∀ser,DS ser→ser<m.co.s.made) {x:Stp} (hx:x.kd<16→∃t:Nat,x.t=t∧(x.kd≠1→m.co.r.live (t:Int)=true)) (hE:E+330≤1000000000):QF DS (m.doS cf x).1.co:=by
 unfold Ma.doS
 split
 ·exact q.attach x.t
 split
 ·exact QF.detach h.c.k q x.t
 split
 ·rename_i hk
  obtain⟨t,ht,_⟩:=hx (by omega)
  exact h.allocD L q hm ht hE
 split
 ·rename_i hk
  obtain⟨t,ht,hl⟩:=hx (by omega)
  exact h.pushSD q ht (hl (by omega))
 split
 ·rename_i hk
  have hp:=q.pop x.t
  generalize m.co.pop x.t=z at hp
  obtain⟨c,o⟩:=z
  cases o
  ·exact q
  ·exact hp
 split
 ·rename_i hk
  obtain⟨t,ht,hl⟩:=hx (by omega)
  have hl:=hl (by omega)
  unfold Ma.writeS
  split
  ·exact q
  rename_i ho
  obtain⟨a,e,hg⟩:=h.object ht hl (by omega)
  have hd:AF DS m.co→¬Dd DS m.co.s a:=fun z=>MJ.objectD z (by omega) e
  rw[ht,e]
  cases hr:m.root (t:Int) x.j with
  | none=>exact q
  | some v=>exact QF.write h.c.k q hg (h.root hl hr) hd fun z b eb=>MJ.rootD z (by rw[hr,eb])
 split
 ·exact q
 split
 ·exact q.poll x.t
 unfold Ma.spend
 split
 ·split
  ·exact q.beginC
  ·exact q
 split
 ·exact q
 rename_i hn
 split
 ·exact q
 split
 ·exact h.aheadD L q (by omega) (by omega)
 split
 ·exact q
 split
 ·exact q
 simp only
 rw[qdo]
 exact h.aheadD L q (by omega) (by omega)
theorem MJ.stepD (L:qb2 cf) (h:MJ cf E m) (q:QF DS m.co) (hm:∀ser,DS ser→ser<m.co.s.made) (x:Stp) (hE:E+330≤1000000000):QF DS (m.step cf x).1.co:=by
 unfold Ma.step
 split
 ·exact q
 rename_i hc
 split
 ·exact q
 rename_i hw
 have hc:=qke (by omega:x.check=0)
 have h1:=h.doSD L q hm (x:=x) (fun hk=>by
  obtain⟨w1,w2⟩:=qo0 (by omega:m.who cf x=0) hk
  refine⟨x.t.toNat,by omega,fun hne=>?_⟩
  rw[y1z hc.1];exact w2 hne) hE
 simp only
 split
 ·exact h1
 ·exact h1
end
structure FrC (c:Co):Prop where
 ph:2≤c.phase∧c.phase≤3
 mg:∀a:Nat,c.g.mks a=true→c.global=a
 bf:∀l∈c.b,l=[]
section
variable {DS:Int→Prop} {cf:Cf} {E:Int} {c:Co} {m:Ma}
theorem FrC.adv:∀(d:Nat) (c:Co),FrC c→FrC (c.advance cf d)
 | 0,_,h=>h
 | d+1,c,h=>by
  rw[Co.advance]
  have:=h.ph
  split
  ·rw[if_neg (by omega)]
   split
   ·exact FrC.adv d _ ⟨⟨show (2:Int)≤3 by decide,show (3:Int)≤3 by decide⟩,h.mg,h.bf⟩
   ·rw[if_neg (by omega),if_neg (by omega)];exact h
  ·exact h
theorem qph (hp:c.phase≤1) (hm:∀a,c.g.mks a=false):(c.adv cf).phase≤1∨FrC (c.adv cf):=by
 unfold Co.adv
 rw[Co.advance]
 split
 ·split
  ·right
   refine FrC.adv 3 _ ?_
   refine⟨⟨show (2:Int)≤2 by decide,show (2:Int)≤3 by decide⟩,fun a ha=>?_,fun l hl=>?_⟩
   ·have hg:Gro (fun x:Nat=>c.global=x) c.g (c.g.shade cf.stack c.global):=qex cf.stack (fun x:Nat=>c.global=x) c.g (a:=c.global) fun n e=>e
    rcases hg.new a ha with y | y
    ·rw[hm a] at y;cases y
    ·exact y.1
   ·simp only[Co.raise,y4l] at hl
    obtain⟨_,_,rfl⟩:=hl;rfl
  ·rw[if_neg (by omega),if_neg (by omega),if_neg (by omega)]
   exact .inl hp
 ·exact .inl hp
theorem KI.beginC_fr (h:KI cf E c) (hp:c.phase≤1):(c.beginC cf).1.phase≤1∨FrC (c.beginC cf).1:=by
 unfold Co.beginC
 split
 ·exact qph (c:=({ c with units:=0 }:Co).raise 1) (show (1:Int)≤1 by decide) (h.p01 hp)
 ·exact .inl hp
theorem KI.detach_fr (h:KI cf E c) (hp:c.phase≤1) (t:Int):(c.detach cf t).phase≤1∨FrC (c.detach cf t):=by
 unfold Co.detach
 split
 ·have hmk:c.marking=false:=by unfold Co.marking;simp;omega
  simp only[hmk]
  exact qph hp (h.p01 hp)
 ·exact .inl hp
theorem KI.poll_fr (h:KI cf E c) (hp:c.phase≤1) (t:Int):(c.poll cf t).phase≤1∨FrC (c.poll cf t):=by
 unfold Co.poll
 split
 ·simp only
  rw[if_neg (by omega),if_neg (by omega)]
  exact qph hp (h.p01 hp)
 ·exact .inl hp
theorem Rg.unagreed {r:Rg} {t:Nat} (hl:r.live (t:Int)=true) (h:r.ofT t<r.ep):r.agreed=false:=by
 have e:r.ofT t=(r.l.getD t (false,0)).2:=by
  unfold Rg.ofT
  rw[if_pos hl,y2t]
 rw[e] at h
 unfold Rg.live at hl
 simp only[y2y,decide_eq_true_eq,y2t] at hl
 unfold Rg.agreed
 rw[List.all_eq_false]
 refine⟨r.l.getD t (false,0),?_,?_⟩
 ·rw[y0h,y0v (by omega)]
  exact y3g _
 ·rw[hl.2,decide_eq_true h];decide
theorem KI.begin_1 (h:KI cf E c) (hE:E+5≤1000000000) {t:Nat} (hl:c.r.live (t:Int)=true) (h0:c.phase=0):(c.beginC cf).1.phase=1:=by
 unfold Co.beginC
 rw[if_pos h0]
 have he:=h.e0
 have hep:=h.ep t hl
 have hna:(({ c with units:=0 }:Co).raise 1).r.agreed=false:=Rg.unagreed (r:=(({ c with units:=0 }:Co).raise 1).r) (t:=t) hl (by
  show c.r.ofT t<w64 (c.r.ep+1)
  rw[qeg (by omega)];omega)
 unfold Co.adv
 rw[Co.advance,hna]
 rfl
theorem zc1 (h:c.phase≤1):c.unit cf=(c,false):=by
 unfold Co.unit
 rw[if_neg (by omega),if_neg (by omega)]
 rfl
theorem qrb (h:c.phase≤1):∀n,(c.workN cf n).1=c
 | 0=>rfl
 | n+1=>by rw[Co.workN,zc1 h]
theorem qpu (c:Co) (a:Int):(c.color cf a).phase=c.phase∧(c.color cf a).cycles=c.cycles:=by
 unfold Co.color
 split
 ·exact⟨rfl,rfl⟩
 ·split <;> exact⟨rfl,rfl⟩
theorem qsr (c:Co) (t n:Int):(c.fast cf t n).1.phase=c.phase∧(c.fast cf t n).1.cycles=c.cycles:=by
 unfold Co.fast
 split
 ·split
  ·exact⟨rfl,rfl⟩
  ·exact qpu _ _
 ·exact⟨rfl,rfl⟩
theorem qnl (c:Co) (t n:Int):(c.slow cf t n).1.phase=c.phase∧(c.slow cf t n).1.cycles=c.cycles:=by
 unfold Co.slow
 split
 ·generalize c.s.slow cf.pages.toNat (cf.threads+1) t n=z
  obtain⟨s,a,e⟩:=z
  simp only
  split
  ·exact qpu _ _
  ·exact⟨rfl,rfl⟩
 ·exact⟨rfl,rfl⟩
theorem qs1 (c:Co) (t:Int) (v:V2):(c.push t v).1.phase=c.phase∧(c.push t v).1.cycles=c.cycles:=by
 unfold Co.push;split <;> exact⟨rfl,rfl⟩
theorem qw2 (c:Co) (t:Int):(c.pop t).1.phase=c.phase∧(c.pop t).1.cycles=c.cycles:=by
 unfold Co.pop;split
 ·split <;> exact⟨rfl,rfl⟩
 ·exact⟨rfl,rfl⟩
theorem zag (c:Co) (t a i:Int) (v:V2):(c.write t a i v).1.phase=c.phase∧(c.write t a i v).1.cycles=c.cycles:=by
 unfold Co.write;split <;> exact⟨rfl,rfl⟩
theorem zfm (h:m.co.phase≤1) (x:Stp):(m.tax cf x).1.co=m.co:=by
 unfold Ma.tax
 rw[if_pos (by omega)]
theorem MJ.slow_fr (h:MJ cf E m) (hp:m.co.phase≤1) {x:Stp} {t:Nat} (ht:x.t=t) (hl:m.co.r.live (t:Int)=true) (hE:E+330≤1000000000):(m.slow cf x).1.co.phase≤1:=by
 unfold Ma.slow
 simp only
 have h1:(if m.co.phase=0∧qa1 m.co.s.c.ks<cf.trigger then ({ m with co:=(m.co.beginC cf).1 }:Ma) else m).co.phase≤1:=by
  split
  ·rename_i hc
   simp only
   rw[h.c.k.begin_1 (by omega) hl hc.1];decide
  ·exact hp
 generalize (if m.co.phase=0∧qa1 m.co.s.c.ks<cf.trigger then ({ m with co:=(m.co.beginC cf).1 }:Ma) else m)=m1 at h1
 have h2:=zfm (cf:=cf) h1 x
 generalize m1.tax cf x=z at h2
 obtain⟨m2,y⟩:=z
 simp only at h2 ⊢
 split
 ·rw[h2];exact h1
 ·simp only
  rw[(qnl _ _ _).1,h2];exact h1
theorem qjj (m:Ma) (x:Stp) (a:Int) (y:Ans):(m.got x a y).1.co.phase=m.co.phase∧(m.got x a y).1.co.cycles=m.co.cycles:=by
 unfold Ma.got;exact qs1 _ _ _
theorem MJ.alloc_fr (h:MJ cf E m) (hp:m.co.phase≤1) {x:Stp} {t:Nat} (ht:x.t=t) (hl:m.co.r.live (t:Int)=true) (hE:E+330≤1000000000):(m.alloc cf x).1.co.phase≤1:=by
 unfold Ma.alloc
 split
 ·exact hp
 split
 ·exact hp
 have hf:=(qsr (cf:=cf) m.co x.t x.n).1
 generalize m.co.fast cf x.t x.n=z at hf
 obtain⟨c,o⟩:=z
 cases o with
 | some a=>
  simp only at hf ⊢
  rw[(qjj _ _ _ _).1]
  simp only;omega
 | none=>
  have h1:=h.slow_fr hp ht hl hE
  simp only
  split
  ·exact h1
  ·rw[(qjj _ _ _ _).1];exact h1
theorem qqr (m:Ma) (x:Stp):(m.pushS x).1.co.phase=m.co.phase∧(m.pushS x).1.co.cycles=m.co.cycles:=by
 unfold Ma.pushS
 split
 ·exact⟨rfl,rfl⟩
 have hp:=qs1 m.co x.t (m.value x).1
 generalize m.co.push x.t (m.value x).1=z at hp
 obtain⟨c,o⟩:=z
 cases o
 ·exact⟨rfl,rfl⟩
 ·exact hp
theorem qol (m:Ma) (x:Stp):(m.writeS x).1.co.phase=m.co.phase∧(m.writeS x).1.co.cycles=m.co.cycles:=by
 unfold Ma.writeS
 split
 ·exact⟨rfl,rfl⟩
 split
 ·exact⟨rfl,rfl⟩
 ·exact zag _ _ _ _ _
theorem qpi (h:m.co.phase≤1) (n:Int):(m.ahead cf n).1.co=m.co:=by
 unfold Ma.ahead Ma.put
 exact qrb h _
theorem MJ.doS_fr (h:MJ cf E m) (hp:m.co.phase≤1) {x:Stp} (hx:x.kd<16→∃t:Nat,x.t=t∧(x.kd≠1→m.co.r.live (t:Int)=true)) (hE:E+330≤1000000000):(m.doS cf x).1.co.phase≤1∨FrC (m.doS cf x).1.co:=by
 unfold Ma.doS
 split
 ·exact .inl hp
 split
 ·exact h.c.k.detach_fr hp x.t
 split
 ·rename_i hk
  obtain⟨t,ht,hl⟩:=hx (by omega)
  exact .inl (h.alloc_fr hp ht (hl (by omega)) hE)
 split
 ·left;rw[(qqr m x).1];exact hp
 split
 ·have hq:=(qw2 m.co x.t).1
  generalize m.co.pop x.t=z at hq
  obtain⟨c,o⟩:=z
  left
  cases o
  ·exact hp
  ·simp only at hq ⊢;omega
 split
 ·left;rw[(qol m x).1];exact hp
 split
 ·exact .inl hp
 split
 ·exact h.c.k.poll_fr hp x.t
 unfold Ma.spend
 split
 ·split
  ·exact h.c.k.beginC_fr hp
  ·exact .inl hp
 left
 split
 ·exact hp
 split
 ·exact hp
 split
 ·rw[qpi hp];exact hp
 split
 ·exact hp
 split
 ·exact hp
 simp only
 rw[qdo,qpi hp];exact hp
theorem MJ.step_fr (h:MJ cf E m) (hp:m.co.phase≤1) (x:Stp) (hE:E+330≤1000000000):(m.step cf x).1.co.phase≤1∨FrC (m.step cf x).1.co:=by
 unfold Ma.step
 split
 ·exact .inl hp
 rename_i hc
 split
 ·exact .inl hp
 rename_i hw
 have hc:=qke (by omega:x.check=0)
 have h1:=h.doS_fr hp (x:=x) (fun hk=>by
  obtain⟨w1,w2⟩:=qo0 (by omega:m.who cf x=0) hk
  refine⟨x.t.toNat,by omega,fun hne=>?_⟩
  rw[y1z hc.1];exact w2 hne) hE
 simp only
 split
 ·exact h1
 ·exact h1
def Cy (c d:Co):Prop:=d.cycles=c.cycles∨d.phase≤1
theorem qf2:∀(d:Nat) (c:Co),(c.advance cf d).cycles=c.cycles
 | 0,c=>rfl
 | d+1,c=>by
  rw[Co.advance]
  split
  ·split
   ·exact qf2 d _
   split
   ·exact qf2 d _
   split
   ·exact qf2 d _
   split
   ·exact qf2 d _
   ·rfl
  ·rfl
theorem qnx (c:Co):(c.beginC cf).1.cycles=c.cycles:=by
 unfold Co.beginC
 split
 ·exact qf2 4 _
 ·rfl
theorem qv7 (c:Co) (t:Int):(c.detach cf t).cycles=c.cycles:=by
 unfold Co.detach
 split
 ·exact qf2 4 _
 ·rfl
theorem zcp (c:Co) (t:Int):(c.poll cf t).cycles=c.cycles:=by
 unfold Co.poll
 split
 ·simp only[Co.adv]
  rw[qf2]
  split
  ·rfl
  ·split <;> rfl
 ·rfl
theorem qz4 (c:Co):(c.tUnit cf).1.cycles=c.cycles:=by
 unfold Co.tUnit Co.entry Co.look
 split
 ·rfl
 split
 ·simp only;split <;> rfl
 ·simp only;split <;> rfl
theorem qk5:∀(l:List Int) (c:Co),(c.sweepAll l).cycles=c.cycles
 | [],c=>rfl
 | a :: l,c=>by
  rw[Co.sweepAll,qk5 l]
  unfold Co.sweepOne
  split <;> rfl
theorem zae (c:Co):(c.wUnit cf).1.cycles=c.cycles:=by
 unfold Co.wUnit
 split
 ·rfl
 ·exact qk5 _ _
theorem zc2 (c:Co):Cy c (c.unit cf).1:=by
 have hu:∀(r:Co × Bool),Cy c r.1→Cy c (if r.2 then ({ r.1 with units:=w64 (r.1.units+1) }:Co) else r.1):=fun r h=>by
  split
  ·exact h
  ·exact h
 unfold Co.unit
 refine hu _ ?_
 split
 ·have h1:=qz4 (cf:=cf) c
  generalize c.tUnit cf=z at h1
  obtain⟨d,b⟩:=z
  cases b
  ·left
   simp only[Co.adv]
   rw[qf2];exact h1
  ·exact .inl h1
 split
 ·have h1:=zae (cf:=cf) c
  generalize c.wUnit cf=z at h1
  obtain⟨d,b⟩:=z
  simp only at h1 ⊢
  split
  ·exact .inr (show (0:Int)≤1 by decide)
  ·exact .inl h1
 ·exact .inl rfl
theorem qlv:∀(n:Nat) (c:Co),Cy c (c.workN cf n).1
 | 0,c => .inl rfl
 | n+1,c=>by
  have h1:=zc2 (cf:=cf) c
  unfold Co.workN
  generalize c.unit cf=z at h1
  obtain⟨d,b⟩:=z
  cases b with
  | true=>
   simp only
   rcases h1 with h1 | h1
   ·rcases qlv n d with h2 | h2
    ·exact .inl (h2.trans h1)
    ·exact .inr h2
   ·right
    rw[qrb h1];exact h1
  | false=>exact h1
theorem zfn (m:Ma) (x:Stp):Cy m.co (m.tax cf x).1.co:=by
 unfold Ma.tax
 split
 ·exact .inl rfl
 simp only
 split
 ·exact .inl rfl
 simp only
 rw[qdo]
 exact qlv _ _
theorem qzl (m:Ma) (x:Stp):Cy m.co (m.slow cf x).1.co:=by
 unfold Ma.slow
 simp only
 have h1:(if m.co.phase=0∧qa1 m.co.s.c.ks<cf.trigger then ({ m with co:=(m.co.beginC cf).1 }:Ma) else m).co.cycles=m.co.cycles:=by
  split
  ·exact qnx _
  ·rfl
 generalize (if m.co.phase=0∧qa1 m.co.s.c.ks<cf.trigger then ({ m with co:=(m.co.beginC cf).1 }:Ma) else m)=m1 at h1
 have h2:=zfn (cf:=cf) m1 x
 generalize m1.tax cf x=z at h2
 obtain⟨m2,y⟩:=z
 have h3:Cy m.co m2.co:=h2.imp (fun e=>e.trans h1) id
 simp only
 split
 ·exact h3
 ·exact h3.imp (fun e=>by simp only;rw[(qnl _ _ _).2];exact e) fun e=>by simp only;rw[(qnl _ _ _).1];exact e
theorem qyc (m:Ma) (x:Stp):Cy m.co (m.alloc cf x).1.co:=by
 unfold Ma.alloc
 split
 ·exact .inl rfl
 split
 ·exact .inl rfl
 have hf:=(qsr (cf:=cf) m.co x.t x.n).2
 generalize m.co.fast cf x.t x.n=z at hf
 obtain⟨c,o⟩:=z
 cases o with
 | some a=>
  left
  simp only at hf ⊢
  rw[(qjj _ _ _ _).2]
  exact hf
 | none=>
  have h1:=qzl (cf:=cf) m x
  simp only
  split
  ·exact h1
  ·exact h1.imp (fun e=>by rw[(qjj _ _ _ _).2];exact e) fun e=>by rw[(qjj _ _ _ _).1];exact e
theorem qpj (m:Ma) (n:Int):Cy m.co (m.ahead cf n).1.co:=by
 unfold Ma.ahead Ma.put
 exact qlv _ _
theorem zet (m:Ma) (x:Stp):Cy m.co (m.doS cf x).1.co:=by
 unfold Ma.doS
 split
 ·exact .inl rfl
 split
 ·exact .inl (qv7 _ _)
 split
 ·exact qyc m x
 split
 ·exact .inl (qqr m x).2
 split
 ·have hq:=(qw2 m.co x.t).2
  generalize m.co.pop x.t=z at hq
  obtain⟨c,o⟩:=z
  left
  cases o
  ·rfl
  ·exact hq
 split
 ·exact .inl (qol m x).2
 split
 ·exact .inl rfl
 split
 ·exact .inl (zcp _ _)
 unfold Ma.spend
 split
 ·split
  ·exact .inl (qnx _)
  ·exact .inl rfl
 split
 ·exact .inl rfl
 split
 ·exact .inl rfl
 split
 ·exact qpj m _
 split
 ·exact .inl rfl
 split
 ·exact .inl rfl
 simp only
 rw[qdo]
 exact qpj m _
theorem zcy (m:Ma) (x:Stp):Cy m.co (m.step cf x).1.co:=by
 unfold Ma.step
 split
 ·exact .inl rfl
 split
 ·exact .inl rfl
 have h1:=zet (cf:=cf) m x
 simp only
 split
 ·exact h1
 ·exact h1
end
def GZ (c:Co):Prop:=∃fs,qa3 c.s.c c.global.toNat 0 fs
section
variable {cf:Cf} {E:Int} {c:Co} {m:Ma}
theorem GZ.of {c':Co} (h:GZ c) (hs:c'.s=c.s) (hg:c'.global=c.global):GZ c':=by
 unfold GZ;rw[hs,hg];exact h
theorem GZ.kept {c':Co} (h:GZ c) (hk:qav c.s.c c'.s.c c.global.toNat) (hg:c'.global=c.global):GZ c':=by
 obtain⟨fs,o⟩:=h
 unfold GZ;rw[hg]
 exact⟨fs,hk.obj.2 o⟩
theorem qgs:∀(d:Nat) (c:Co),(c.advance cf d).global=c.global
 | 0,c=>rfl
 | d+1,c=>by
  rw[Co.advance]
  split
  ·split
   ·exact qgs d _
   split
   ·exact qgs d _
   split
   ·exact qgs d _
   split
   ·exact qgs d _
   ·rfl
  ·rfl
theorem GZ.adv (h:GZ c):GZ (c.adv cf):=h.of (qfq cf 4 c) (qgs 4 c)
theorem GZ.beginC (h:GZ c):GZ (c.beginC cf).1:=h.of (qfh cf c) (by
 unfold Co.beginC
 split
 ·exact qgs 4 _
 ·rfl)
theorem GZ.detach (hk:KI cf E c) (h:GZ c) (t:Int):GZ (c.detach cf t):=by
 unfold Co.detach
 split
 ·simp only
  refine GZ.adv ?_
  obtain⟨s1,s2,_⟩:=St.quit_ok hk.si t
  exact h.kept (s2 _) rfl
 ·exact h
theorem GZ.poll (h:GZ c) (t:Int):GZ (c.poll cf t):=h.of (qqq cf c t) (by
 unfold Co.poll
 split
 ·simp only[Co.adv]
  rw[qgs]
  split
  ·rfl
  ·split <;> rfl
 ·rfl)
theorem qs0 (c:Co) (t:Int) (v:V2):(c.push t v).1.global=c.global:=by unfold Co.push;split <;> rfl
theorem ze8 (c:Co) (t:Int):(c.pop t).1.global=c.global:=by
 unfold Co.pop;split
 ·split <;> rfl
 ·rfl
theorem qys (c:Co) (a:Int):(c.color cf a).global=c.global:=by
 unfold Co.color
 split
 ·rfl
 ·split <;> rfl
theorem KI.gtk (hk:KI cf E c):c.s.c.tk c.global.toNat=true:=(hk.ni.gl c.global.toNat (by have:=hk.gn;omega)).1
theorem GZ.newO (hk:KI cf E c) (h:GZ c) {s':St} {a n:Nat} (hn:qe6 c.s s' a n):GZ (({ c with s:=s' }:Co).color cf (a:Int)):=by
 have hne:c.global.toNat≠a:=fun e=>by
  have:=hk.gtk
  rw[e,hn.off] at this;cases this
 refine (h.kept (c':={ c with s:=s' }) (hn.kept _ hne) rfl).of (qgo cf _ _) (qys _ _)
theorem GZ.write (hk:KI cf E c) (h:GZ c) {t a:Nat} {i:Int} {v:V2} (ha:VG c t (2,(a:Int))) (hv:VG c t v):GZ (c.write (t:Int) (a:Int) i v).1:=by
 unfold Co.write
 split
 rotate_left
 ·exact h
 rename_i hc
 obtain⟨hl,hmay,hget⟩:=hc
 obtain⟨ser,fs,o,_⟩:=hk.si.hi.obj a (ha.kp a rfl).1
 have e:=St.get_obj hk.si.hi.ci o i
 have hi:0≤i:=by
  apply y0q
  intro hc
  rw[if_neg hc] at e;rw[e] at hget;cases hget
 obtain⟨i,rfl⟩:=y1b hi
 rw[if_pos hi,y2t] at e
 have hlen:i<fs.length:=by
  apply y0q
  intro hc
  rw[y1l (by omega)] at e;rw[e] at hget;cases hget
 obtain⟨s1,s2,s3,s4,s5,s6⟩:=St.set_ok hk.si o (i:=(i:Int)) hv.ok (by omega)
 obtain⟨gfs,og⟩:=h
 by_cases eg:c.global.toNat=a
 ·subst eg
  obtain⟨rfl,_⟩:=o.same og
  exact⟨_,s2⟩
 ·exact⟨gfs,(s3 _ eg).obj.2 og⟩
theorem qz5 (c:Co):(c.tUnit cf).1.global=c.global:=by
 unfold Co.tUnit Co.entry Co.look
 split
 ·rfl
 split
 ·simp only;split <;> rfl
 ·simp only;split <;> rfl
theorem GZ.wUnit (hk:KI cf E c) (h:GZ c) (h5:c.phase=5):GZ (c.wUnit cf).1:=by
 unfold Co.wUnit
 split
 ·exact h
 simp only
 have hs:=qeu (c.s.inP c.at_) c hk.si (qjk _ _) fun x hx=>by
  obtain⟨a,e,ta,_⟩:=(qe1 hk.si).1 hx
  exact⟨a,e,ta⟩
 generalize c.sweepAll (c.s.inP c.at_)=d at hs
 obtain⟨t1,t2,t3,t4⟩:=St.trim_ok (hs.si hk.si) d.at_
 have hg:=hk.gn
 obtain⟨fs,o⟩:=h
 refine⟨fs,?_⟩
 simp only
 rw[hs.global]
 refine (t2 _).obj.2 ?_
 by_cases hx:(c.global.toNat:Int)∈c.s.inP c.at_
 ·obtain⟨a,ea,_,hp⟩:=(qe1 hk.si).1 hx
  have hkp:=(hk.ni.gl c.global.toNat (by omega)).2 h5
  have:a=c.global.toNat:=by omega
  subst this
  rcases hkp with y | y
  ·omega
  ·exact (hs.inn _ hx y).obj.2 o
 ·exact (hs.out _ hx).1.obj.2 o
theorem GZ.unit (hk:KI cf E c) (h:GZ c):GZ (c.unit cf).1:=by
 have hu:∀(r:Co × Bool),GZ r.1→GZ (if r.2 then ({ r.1 with units:=w64 (r.1.units+1) }:Co) else r.1):=fun r h=>by
  split
  ·exact h
  ·exact h
 unfold Co.unit
 refine hu _ ?_
 split
 ·have k1:GZ (c.tUnit cf).1:=h.of (qko cf c) (qz5 c)
  generalize c.tUnit cf=z at k1
  obtain⟨d,b⟩:=z
  cases b with
  | true=>exact k1
  | false=>exact GZ.adv (c:=d.raise 4) k1
 split
 ·rename_i h5
  have k0:=h.wUnit hk h5
  generalize c.wUnit cf=z at k0
  obtain⟨d,b⟩:=z
  simp only at k0 ⊢
  split <;> exact k0
 ·exact h
theorem GZ.workN (L:qb2 cf):∀(n:Nat) (c:Co) (E:Int),MI cf E c→GZ c→E+5*n≤1000000000→GZ (c.workN cf n).1
 | 0,c,E,h,q,_=>q
 | n+1,c,E,h,q,hE=>by
  have h1:=h.unit L (by omega)
  have q1:=q.unit h.k
  unfold Co.workN
  generalize c.unit cf=z at h1 q1
  obtain⟨d,b⟩:=z
  cases b with
  | true=>exact GZ.workN L n d _ h1 q1 (by omega)
  | false=>exact q1
theorem MJ.aheadZ (L:qb2 cf) (h:MJ cf E m) (q:GZ m.co) {n:Int} (hn:n≤64) (hE:E+320≤1000000000):GZ (m.ahead cf n).1.co:=by
 have h1:=GZ.workN L n.toNat m.co E h.c q (by omega)
 unfold Ma.ahead Ma.put
 exact h1
theorem MJ.taxZ (L:qb2 cf) (h:MJ cf E m) (q:GZ m.co) (x:Stp) (hE:E+320≤1000000000):GZ (m.tax cf x).1.co:=by
 unfold Ma.tax
 split
 ·exact q
 simp only
 split
 ·exact q
 simp only
 have hb:=h.bk
 have ht:=L.tx
 have h1:=GZ.workN L (cf.tax-min (m.bi-m.bo) cf.tax).toNat m.co E h.c q (by omega)
 rw[qdo]
 exact h1
theorem MI.fastZ (h:MI cf E c) (q:GZ c) (hE:E≤1000000000) (t:Nat) (n:Int) {a:Nat} {c':Co} (e:c.fast cf (t:Int) n=(c',some (a:Int))):GZ c':=by
 rcases h.k.fast (by have:=h.md;omega) t n with e1 | ⟨a1,s1,c1,e1,n1,e2,_,_,e5⟩
 ·rw[e1] at e;cases (y4n.1 e).2
 ·rw[e1] at e
  have ec:c1=c':=(y4n.1 e).1
  subst ec
  rw[e2]
  exact q.newO h.k n1
theorem MI.slowZ (h:MI cf E c) (q:GZ c) (hE:E≤1000000000) (t:Nat) (n:Int) {a:Nat} {c':Co} (e:c.slow cf (t:Int) n=(c',(a:Int),0)):GZ c':=by
 rcases h.k.slow (by have:=h.md;omega) t n with⟨e0,ne,e1⟩ | ⟨a1,s1,c1,e1,n1,e2,_,_,e5⟩
 ·rw[e1] at e
  have:=(y4n.1 (y4n.1 e).2).2
  exact absurd this ne
 ·rw[e1] at e
  have ec:c1=c':=(y4n.1 e).1
  subst ec
  rw[e2]
  exact q.newO h.k n1
theorem MJ.slowMZ (L:qb2 cf) (h:MJ cf E m) (q:GZ m.co) {x:Stp} {t:Nat} (ht:x.t=t) (hE:E+330≤1000000000):GZ (m.slow cf x).1.co:=by
 unfold Ma.slow
 simp only
 have h1:MJ cf (E+5) (if m.co.phase=0∧qa1 m.co.s.c.ks<cf.trigger then ({ m with co:=(m.co.beginC cf).1 }:Ma) else m)∧GZ (if m.co.phase=0∧qa1 m.co.s.c.ks<cf.trigger then ({ m with co:=(m.co.beginC cf).1 }:Ma) else m).co:=by
  split
  ·exact⟨h.co (h.c.beginC (by omega)),q.beginC⟩
  ·exact⟨h.up (by omega),q⟩
 generalize (if m.co.phase=0∧qa1 m.co.s.c.ks<cf.trigger then ({ m with co:=(m.co.beginC cf).1 }:Ma) else m)=m1 at h1
 obtain⟨j1,q1⟩:=h1
 have h2:=j1.tax L x (by omega)
 have q2:=j1.taxZ L q1 x (by omega)
 generalize m1.tax cf x=z at h2 q2
 obtain⟨m2,y⟩:=z
 simp only at h2 q2 ⊢
 by_cases hc:y.code≠0
 ·rw[if_pos hc]
  exact q2
 rw[if_neg hc,ht]
 rcases h2.c.slow (by omega) t x.n with⟨e0,e1,e⟩ | ⟨a,c',e,e1,e2⟩
 ·rw[e]
  exact q2
 ·have g1:=h2.c.slowZ q2 (by omega) t x.n e
  rw[e]
  exact g1
theorem MJ.gotZ (q:GZ m.co) (x:Stp) (a:Int) (y:Ans):GZ (m.got x a y).1.co:=by
 unfold Ma.got
 exact q.of (qh4 _ _ _) (qs0 _ _ _)
theorem MJ.allocZ (L:qb2 cf) (h:MJ cf E m) (q:GZ m.co) {x:Stp} {t:Nat} (ht:x.t=t) (hE:E+330≤1000000000):GZ (m.alloc cf x).1.co:=by
 unfold Ma.alloc
 split
 ·exact q
 split
 ·exact q
 rw[ht]
 rcases h.c.fast (by omega) t x.n with e | ⟨a,c',e,e1,e2⟩
 ·rw[e]
  simp only
  have g1:=h.slowMZ L q ht hE
  split
  ·exact g1
  ·exact MJ.gotZ g1 _ _ _
 ·have g1:=h.c.fastZ q (by omega) t x.n e
  rw[e]
  exact MJ.gotZ (m:={ m with co:=c' }) g1 _ _ _
theorem MJ.pushSZ (q:GZ m.co) (x:Stp):GZ (m.pushS x).1.co:=by
 unfold Ma.pushS
 split
 ·exact q
 have hp:GZ (m.co.push x.t (m.value x).1).1:=q.of (qh4 _ _ _) (qs0 _ _ _)
 generalize m.co.push x.t (m.value x).1=z at hp
 obtain⟨c,o⟩:=z
 cases o
 ·exact q
 ·exact hp
theorem MJ.doSZ (L:qb2 cf) (h:MJ cf E m) (q:GZ m.co) {x:Stp} (hx:x.kd<16→∃t:Nat,x.t=t∧(x.kd≠1→m.co.r.live (t:Int)=true)) (hE:E+330≤1000000000):GZ (m.doS cf x).1.co:=by
 unfold Ma.doS
 split
 ·exact q
 split
 ·exact GZ.detach h.c.k q x.t
 split
 ·rename_i hk
  obtain⟨t,ht,_⟩:=hx (by omega)
  exact h.allocZ L q ht hE
 split
 ·exact MJ.pushSZ q x
 split
 ·have hp:GZ (m.co.pop x.t).1:=q.of (qoy _ _) (ze8 _ _)
  generalize m.co.pop x.t=z at hp
  obtain⟨c,o⟩:=z
  cases o
  ·exact q
  ·exact hp
 split
 ·rename_i hk
  obtain⟨t,ht,hl⟩:=hx (by omega)
  have hl:=hl (by omega)
  unfold Ma.writeS
  split
  ·exact q
  rename_i ho
  obtain⟨a,e,hg⟩:=h.object ht hl (by omega)
  rw[ht,e]
  cases hr:m.root (t:Int) x.j with
  | none=>exact q
  | some v=>exact GZ.write h.c.k q hg (h.root hl hr)
 split
 ·exact q
 split
 ·exact q.poll x.t
 unfold Ma.spend
 split
 ·split
  ·exact q.beginC
  ·exact q
 split
 ·exact q
 rename_i hn
 split
 ·exact q
 split
 ·exact h.aheadZ L q (by omega) (by omega)
 split
 ·exact q
 split
 ·exact q
 simp only
 rw[qdo]
 exact h.aheadZ L q (by omega) (by omega)
theorem MJ.stepZ (L:qb2 cf) (h:MJ cf E m) (q:GZ m.co) (x:Stp) (hE:E+330≤1000000000):GZ (m.step cf x).1.co:=by
 unfold Ma.step
 split
 ·exact q
 rename_i hc
 split
 ·exact q
 rename_i hw
 have hc:=qke (by omega:x.check=0)
 have h1:=h.doSZ L q (x:=x) (fun hk=>by
  obtain⟨w1,w2⟩:=qo0 (by omega:m.who cf x=0) hk
  refine⟨x.t.toNat,by omega,fun hne=>?_⟩
  rw[y1z hc.1];exact w2 hne) hE
 simp only
 split
 ·exact h1
 ·exact h1
theorem GZ.new (hp:1≤cf.pages∧cf.pages≤64) (ht:0≤cf.threads∧cf.threads≤8):GZ (Co.new cf):=by
 obtain⟨a,s',e,hn,_⟩:=qqi cf hp ht
 unfold GZ Co.new
 simp only
 rw[e]
 exact⟨_,by simpa using hn.obj⟩
end
end Go.Proofs.YtcakfaakbpdklaaGreatDoorV
namespace Go.Proofs.YtcakfaakbpdklaaGreatDoorV
open Go Go.Proofs Go.Shelf
open Go.Proofs.Tryz renaming prog→y5c
def qoi:Go.Shelf.Ren:=⟨fun | 6=>86 | 15=>94 | 14=>126 | 28=>140 | 29=>141 | 20=>189 | 21=>190 | 22=>191 | 23=>192 | 24=>193 | 25=>194 | 26=>195 | 27=>196 | 46=>254 | 47=>204 | 48=>205 | 49=>255 | 50=>256 | 57=>290 | n=>n,fun | 22=>54 | 24=>3 | 25=>151 | 3=>3 | 39=>157 | 0=>0 | 53=>208 | 55=>210 | 4=>4 | 46=>201 | 45=>200 | 50=>68 | 5=>5 | 9=>9 | 66=>275 | 70=>109 | 76=>306 | 77=>262 | n=>n,fun n=>n⟩
theorem zao:SlLaysF.n6 y5c qoi:={
 mixed:=by kernel_rfl,
 f6:=⟨Tryz.f86.name,by decide,Tryz.func86.trans (congrArg some (by kernel_rfl))⟩,
 f14:=⟨Tryz.f126.name,by decide,Tryz.func126.trans (congrArg some (by kernel_rfl))⟩,
 f15:=Tryz.func94.trans (congrArg some (by kernel_rfl)),
 f20:=⟨Tryz.f189.name,by decide,Tryz.func189.trans (congrArg some (by kernel_rfl))⟩,
 f21:=⟨Tryz.f190.name,by decide,Tryz.func190.trans (congrArg some (by kernel_rfl))⟩,
 f22:=⟨Tryz.f191.name,by decide,Tryz.func191.trans (congrArg some (by kernel_rfl))⟩,
 f23:=⟨Tryz.f192.name,by decide,Tryz.func192.trans (congrArg some (by kernel_rfl))⟩,
 f24:=⟨Tryz.f193.name,by decide,Tryz.func193.trans (congrArg some (by kernel_rfl))⟩,
 f25:=⟨Tryz.f194.name,by decide,Tryz.func194.trans (congrArg some (by kernel_rfl))⟩,
 f26:=⟨Tryz.f195.name,by decide,Tryz.func195.trans (congrArg some (by kernel_rfl))⟩,
 f27:=⟨Tryz.f196.name,by decide,Tryz.func196.trans (congrArg some (by kernel_rfl))⟩,
 f28:=Tryz.func140.trans (congrArg some (by kernel_rfl)),
 f29:=Tryz.func141.trans (congrArg some (by kernel_rfl)),
 f46:=⟨Tryz.f254.name,by decide,Tryz.func254.trans (congrArg some (by kernel_rfl))⟩,
 f47:=Tryz.func204.trans (congrArg some (by kernel_rfl)),
 f48:=Tryz.func205.trans (congrArg some (by kernel_rfl)),
 f49:=⟨Tryz.f255.name,by decide,Tryz.func255.trans (congrArg some (by kernel_rfl))⟩,
 f50:=⟨Tryz.f256.name,by decide,Tryz.func256.trans (congrArg some (by kernel_rfl))⟩,
 f57:=⟨Tryz.f290.name,by decide,Tryz.func290.trans (congrArg some (by kernel_rfl))⟩,
 t0:=Tryz.underlying0,
 a0:=Tryz.isAgg0,
 z0:=Tryz.sizeOf0,
 v0:=Tryz.zeroValue0,
 t3:=Tryz.underlying3,
 a3:=Tryz.isAgg3,
 z3:=Tryz.sizeOf3,
 v3:=Tryz.zeroValue3,
 t4:=Tryz.underlying4,
 a4:=Tryz.isAgg4,
 z4:=Tryz.sizeOf4,
 v4:=Tryz.zeroValue4,
 t5:=Tryz.underlying5,
 a5:=Tryz.isAgg5,
 z5:=Tryz.sizeOf5,
 v5:=Tryz.zeroValue5,
 t9:=Tryz.underlying9,
 a9:=Tryz.isAgg9,
 z9:=Tryz.sizeOf9,
 v9:=Tryz.zeroValue9,
 t22:=Tryz.underlying54,
 a22:=Tryz.isAgg54,
 z22:=Tryz.sizeOf54,
 v22:=Tryz.zeroValue54,
 a24:=Tryz.isAgg3,
 z24:=Tryz.sizeOf3,
 t25:=Tryz.underlying151,
 a25:=Tryz.isAgg151,
 z25:=Tryz.sizeOf151,
 v25:=Tryz.zeroValue151,
 t39:=Tryz.underlying157,
 a39:=Tryz.isAgg157,
 z39:=Tryz.sizeOf157,
 v39:=Tryz.zeroValue157,
 t45:=Tryz.underlying200,
 a45:=Tryz.isAgg200,
 z45:=Tryz.sizeOf200,
 v45:=Tryz.zeroValue200,
 t46:=Tryz.underlying201,
 a46:=Tryz.isAgg201,
 z46:=Tryz.sizeOf201,
 v46:=Tryz.zeroValue201,
 t50:=Tryz.underlying68,
 a50:=Tryz.isAgg68,
 z50:=Tryz.sizeOf68,
 v50:=Tryz.zeroValue68,
 t53:=Tryz.underlying208,
 a53:=Tryz.isAgg208,
 z53:=Tryz.sizeOf208,
 v53:=Tryz.zeroValue208,
 t55:=Tryz.underlying210,
 a55:=Tryz.isAgg210,
 z55:=Tryz.sizeOf210,
 v55:=Tryz.zeroValue210,
 t66:=Tryz.underlying275,
 a66:=Tryz.isAgg275,
 z66:=Tryz.sizeOf275,
 v66:=Tryz.zeroValue275,
 t70:=Tryz.underlying109,
 a70:=Tryz.isAgg109,
 z70:=Tryz.sizeOf109,
 v70:=Tryz.zeroValue109,
 t76:=Tryz.underlying306,
 a76:=Tryz.isAgg306,
 z76:=Tryz.sizeOf306,
 v76:=Tryz.zeroValue306,
 t77:=Tryz.underlying262,
 a77:=Tryz.isAgg262,
 z77:=Tryz.sizeOf262,
 v77:=Tryz.zeroValue262 }
end Go.Proofs.YtcakfaakbpdklaaGreatDoorV
namespace Go.Proofs.YtcakfaakbpdklaaGreatDoorV
open Go Go.Proofs
open Go.Proofs.Tryz renaming prog→y5c
def A0:Ann:=⟨[],[],[],[],none⟩
noncomputable def cd (f:Func):Code:=match f.body with | some c=>c | none => .skip
noncomputable def tp (f:Func) (K:VK):QE:=zfc y5c f.results.toList K
theorem qq {a b:Prop} (h:a) (e:b=a:=by kernel_rfl):b:=e.mpr h
noncomputable def nk (A:Ann) (n:Nat) (e:List (Nat × Value)) (w:World) (p:List Nat) (f:Func) (K:VK):Prop:=nav A y5c n (fun c Q=>qbj A y5c n c Q e w) p (cd f) (tp f K)
noncomputable def nl (A:Ann) (n:Nat) (e:List (Nat × Value)) (w:World) (p:List Nat) (f:Func) (K:VK):Prop:=nav A y5c n (qqa A y5c n e w) p (cd f) (tp f K)
noncomputable section
variable {K:VK} {w:World} {x0 x1 x2 x3 y0 y1 y2 y3 y5 y6 y14:Value}
namespace F66
def ann:Ann:=⟨[(5,[0])],[],[],[],none⟩
variable (K:VK) (y0:Value) (w:World)
def k5:Prop:=nk ann 18 [(0,y0)] w [1,1] Tryz.f66 K
attribute [irreducible] k5
end F66
theorem F66.k5.to (h:(K y0 w)):F66.k5 K y0 w:=qq h
theorem F66.sh (h:(C.aj .lss x0 x1 w fun a b=>
 C.am a (K x1 b) (C.aj .gtr x0 x2 b fun c d=>
 C.am c (K x2 d) (F66.k5 K x0 d)))):C.i y5c 66 #[x0,x1,x2] w K:=q9 (A:=F66.ann) (args:=[x0,x1,x2]) (qq h)
namespace F117
def ann:Ann:=⟨[(3,[0]),(5,[0,3]),(6,[3])],[(4,[0,3])],[],[],none⟩
variable (K:VK) (y0 y3:Value) (w:World)
def k3:Prop:=nk ann 22 [(0,y0)] w [1,1] Tryz.f117 K
def k6:Prop:=nk ann 22 [(3,y3)] w [1,1,1,1] Tryz.f117 K
def l4:Prop:=nl ann 22 [(0,y0),(3,y3)] w [1,1,1,0,0] Tryz.f117 K
def k5:Prop:=nk ann 22 [(0,y0),(3,y3)] w [1,1,1,0,0,0,1] Tryz.f117 K
attribute [irreducible] k3 k6 l4 k5
end F117
theorem F117.k3.to (h:(F117.l4 K y0 (.int .i64 1) w)):F117.k3 K y0 w:=qq h
theorem F117.k6.to (h:(K y3 w)):F117.k6 K y3 w:=qq h
theorem F117.l4.to (h:(C.aj .lss y3 (.int .i64 5) w fun a b=>
 C.q true a (fun K=>K y3 b) b fun c d=>
 C.q true a (fun K=>C.i y5c 175 #[c] d K) d fun f g=>
 C.q true a (fun K=>K y0 g) g fun i j=>
 C.q true a (fun K=>C.aj .add i (.int .i64 1) j K) j fun k m=>
 C.q true a (fun K=>C.aj .lss f k m K) m fun o p=>
 C.a2 (some a) (some o) (some (.bool false)) p fun q r=>
 C.am q (F117.k5 K y0 y3 r) (F117.k6 K y3 r))):F117.l4 K y0 y3 w:=by unfold F117.l4 nl;exact qah (qq h)
theorem F117.k5.to (h:(C.aj .add y3 (.int .i64 1) w fun a b=>
 F117.l4 K y0 a b)):F117.k5 K y0 y3 w:=qq h
theorem F117.sh (h:(C.aj .lss x0 (.int .i64 0) w fun a b=>
 C.q false a (fun K=>K x0 b) b fun c d=>
 C.q false a (fun K=>C.aj .gtr c (.int .i64 127) d K) d fun f g=>
 C.a2 (some a) (some (.bool true)) (some f) g fun i j=>
 C.am i (K (.int .i64 0) j) (F117.k3 K x0 j))):C.i y5c 117 #[x0] w K:=q9 (A:=F117.ann) (args:=[x0]) (qq h)
namespace F120
def ann:Ann:=⟨[(3,[0])],[],[],[],none⟩
variable (K:VK) (y0:Value) (w:World)
def k3:Prop:=nk ann 9 [(0,y0)] w [1,1] Tryz.f120 K
attribute [irreducible] k3
end F120
theorem F120.k3.to (h:(C.aj .add y0 (.int .i64 32) w fun a b=>
 C.bi y5c .quo 3 (.tmp 7) (.const (.int .i64 32)) a (.int .i64 32) b fun c d=>
 K c d)):F120.k3 K y0 w:=qq h
theorem F120.sh (h:(C.i y5c 117 #[x0] w fun a b=>
 C.aj .neq a (.int .i64 5) b fun c d=>
 C.am c (K (.int .i64 0) d) (F120.k3 K x0 d))):C.i y5c 120 #[x0] w K:=q9 (A:=F120.ann) (args:=[x0]) (qq h)
namespace F175
def ann:Ann:=⟨[(3,[0])],[],[],[],none⟩
variable (K:VK) (y0:Value) (w:World)
def k3:Prop:=nk ann 12 [(0,y0)] w [1,1] Tryz.f175 K
attribute [irreducible] k3
end F175
theorem F175.k3.to (h:(C.aj .sub y0 (.int .i64 1) w fun a b=>
 C.bi y5c .shl 3 (.const (.int .i64 2)) (.tmp 10) (.int .i64 2) a b fun c d=>
 K c d)):F175.k3 K y0 w:=qq h
theorem F175.sh (h:(C.aj .lss x0 (.int .i64 1) w fun a b=>
 C.q false a (fun K=>K x0 b) b fun c d=>
 C.q false a (fun K=>C.aj .geq c (.int .i64 5) d K) d fun f g=>
 C.a2 (some a) (some (.bool true)) (some f) g fun i j=>
 C.am i (K (.int .i64 0) j) (F175.k3 K x0 j))):C.i y5c 175 #[x0] w K:=q9 (A:=F175.ann) (args:=[x0]) (qq h)
namespace F263
def ann:Ann:=⟨[(3,[0])],[],[],[],none⟩
variable (K:VK) (y0:Value) (w:World)
def k3:Prop:=nk ann 9 [(0,y0)] w [1,1] Tryz.f263 K
attribute [irreducible] k3
end F263
theorem F263.k3.to (h:(C.i y5c 175 #[y0] w fun a b=>
 C.bi y5c .quo 3 (.const (.int .i64 32)) (.tmp 7) (.int .i64 32) a b fun c d=>
 K c d)):F263.k3 K y0 w:=qq h
theorem F263.sh (h:(C.i y5c 175 #[x0] w fun a b=>
 C.aj .eql a (.int .i64 0) b fun c d=>
 C.am c (K (.int .i64 0) d) (F263.k3 K x0 d))):C.i y5c 263 #[x0] w K:=q9 (A:=F263.ann) (args:=[x0]) (qq h)
namespace F272
def ann:Ann:=⟨[(3,[0])],[],[],[],none⟩
variable (K:VK) (y0:Value) (w:World)
def k3:Prop:=nk ann 11 [(0,y0)] w [1,1] Tryz.f272 K
attribute [irreducible] k3
end F272
theorem F272.k3.to (h:(C.bi y5c .quo 3 (.tmp 9) (.const (.int .i64 32)) y0 (.int .i64 32) w fun a b=>
 K a b)):F272.k3 K y0 w:=qq h
theorem F272.sh (h:(C.aj .lss x0 (.int .i64 0) w fun a b=>
 C.q false a (fun K=>K x0 b) b fun c d=>
 C.q false a (fun K=>C.aj .geq c (.int .i64 2048) d K) d fun f g=>
 C.a2 (some a) (some (.bool true)) (some f) g fun i j=>
 C.am i (K (.int .i64 (-1)) j) (F272.k3 K x0 j))):C.i y5c 272 #[x0] w K:=q9 (A:=F272.ann) (args:=[x0]) (qq h)
namespace F284
def ann:Ann:=⟨[(3,[0,1])],[],[],[],none⟩
variable (K:VK) (y0 y1:Value) (w:World)
def k3:Prop:=nk ann 19 [(0,y0),(1,y1)] w [1,1] Tryz.f284 K
attribute [irreducible] k3
end F284
theorem F284.k3.to (h:(C.i y5c 175 #[y0] w fun a b=>
 C.bi y5c .rem 3 (.tmp 14) (.tmp 16) y1 a b fun c d=>
 C.aj .sub y1 c d fun f g=>
 K f g)):F284.k3 K y0 y1 w:=qq h
theorem F284.sh (h:(C.i y5c 175 #[x0] w fun a b=>
 C.aj .eql a (.int .i64 0) b fun c d=>
 C.q false c (fun K=>K x1 d) d fun f g=>
 C.q false c (fun K=>C.i y5c 272 #[f] g K) g fun i j=>
 C.q false c (fun K=>C.aj .lss i (.int .i64 0) j K) j fun k m=>
 C.a2 (some c) (some (.bool true)) (some k) m fun o p=>
 C.am o (K (.int .i64 (-1)) p) (F284.k3 K x0 x1 p))):C.i y5c 284 #[x0,x1] w K:=q9 (A:=F284.ann) (args:=[x0,x1]) (qq h)
namespace F343
def ann:Ann:=⟨[(4,[0,1])],[],[],[],none⟩
variable (K:VK) (y0 y1:Value) (w:World)
def k4:Prop:=nk ann 22 [(0,y0),(1,y1)] w [1,1] Tryz.f343 K
attribute [irreducible] k4
end F343
theorem F343.k4.to (h:(C.i y5c 346 #[y1] w fun a b=>
 C.i y5c 175 #[y0] b fun c d=>
 C.bi y5c .quo 3 (.tmp 18) (.tmp 20) a c d fun f g=>
 K (.tuple #[f,(.bool true)]) g)):F343.k4 K y0 y1 w:=qq h
theorem F343.sh (h:(C.i y5c 284 #[x0,x1] w fun a b=>
 C.aj .lss a (.int .i64 0) b fun c d=>
 C.q false c (fun K=>K a d) d fun f g=>
 C.q false c (fun K=>K x1 g) g fun i j=>
 C.q false c (fun K=>C.aj .neq f i j K) j fun k m=>
 C.a2 (some c) (some (.bool true)) (some k) m fun o p=>
 C.am o (K (.tuple #[(.int .i64 0),(.bool false)]) p) (F343.k4 K x0 x1 p))):C.i y5c 343 #[x0,x1] w K:=q9 (A:=F343.ann) (args:=[x0,x1]) (qq h)
namespace F346
def ann:Ann:=⟨[(3,[0])],[],[],[],none⟩
variable (K:VK) (y0:Value) (w:World)
def k3:Prop:=nk ann 8 [(0,y0)] w [1,1] Tryz.f346 K
attribute [irreducible] k3
end F346
theorem F346.k3.to (h:(C.bi y5c .rem 3 (.tmp 6) (.const (.int .i64 32)) y0 (.int .i64 32) w fun a b=>
 K a b)):F346.k3 K y0 w:=qq h
theorem F346.sh (h:(C.i y5c 272 #[x0] w fun a b=>
 C.aj .lss a (.int .i64 0) b fun c d=>
 C.am c (K (.int .i64 (-1)) d) (F346.k3 K x0 d))):C.i y5c 346 #[x0] w K:=q9 (A:=F346.ann) (args:=[x0]) (qq h)
namespace F249
def ann:Ann:=⟨[(3,[0,1,2])],[],[],[],none⟩
variable (K:VK) (y0 y1 y2:Value) (w:World)
def k3:Prop:=nk ann 31 [(0,y0),(1,y1),(2,y2)] w [1,1] Tryz.f249 K
attribute [irreducible] k3
end F249
theorem F249.k3.to (h:(C.aj .mul y0 (.int .i64 32) w fun a b=>
 C.i y5c 175 #[y1] b fun c d=>
 C.aj .mul y2 c d fun f g=>
 C.aj .add a f g fun i j=>
 K (.tuple #[i,(.bool true)]) j)):F249.k3 K y0 y1 y2 w:=qq h
theorem F249.sh (h:(C.aj .lss x0 (.int .i64 0) w fun a b=>
 C.q false a (fun K=>K x0 b) b fun c d=>
 C.q false a (fun K=>C.aj .geq c (.int .i64 64) d K) d fun f g=>
 C.a2 (some a) (some (.bool true)) (some f) g fun i j=>
 C.q false i (fun K=>K x2 j) j fun k m=>
 C.q false i (fun K=>C.aj .lss k (.int .i64 0) m K) m fun o p=>
 C.a2 (some i) (some (.bool true)) (some o) p fun q r=>
 C.q false q (fun K=>K x2 r) r fun s t=>
 C.q false q (fun K=>K x1 t) t fun u v=>
 C.q false q (fun K=>C.i y5c 263 #[u] v K) v fun x y=>
 C.q false q (fun K=>C.aj .geq s x y K) y fun z aa=>
 C.a2 (some q) (some (.bool true)) (some z) aa fun ab ac=>
 C.am ab (K (.tuple #[(.int .i64 0),(.bool false)]) ac) (F249.k3 K x0 x1 x2 ac))):C.i y5c 249 #[x0,x1,x2] w K:=q9 (A:=F249.ann) (args:=[x0,x1,x2]) (qq h)
namespace F177
def ann:Ann:=⟨[(3,[0,1])],[],[],[],none⟩
variable (K:VK) (y0 y1:Value) (w:World)
def k3:Prop:=nk ann 30 [(0,y0),(1,y1)] w [1,1] Tryz.f177 K
attribute [irreducible] k3
end F177
theorem F177.k3.to (h:(C.aj .mul y0 (.int .i64 32) w fun a b=>
 C.aj .add y0 y1 b fun c d=>
 C.aj .mul c (.int .i64 32) d fun f g=>
 C.aj .sub f (.int .i64 1) g fun i j=>
 K (.tuple #[a,i,(.bool true)]) j)):F177.k3 K y0 y1 w:=qq h
theorem F177.sh (h:(C.aj .lss x0 (.int .i64 0) w fun a b=>
 C.q false a (fun K=>K x1 b) b fun c d=>
 C.q false a (fun K=>C.aj .lss c (.int .i64 1) d K) d fun f g=>
 C.a2 (some a) (some (.bool true)) (some f) g fun i j=>
 C.q false i (fun K=>K x0 j) j fun k m=>
 C.q false i (fun K=>C.aj .geq k (.int .i64 64) m K) m fun o p=>
 C.a2 (some i) (some (.bool true)) (some o) p fun q r=>
 C.q false q (fun K=>K x1 r) r fun s t=>
 C.q false q (fun K=>K x0 t) t fun u v=>
 C.q false q (fun K=>C.aj .sub (.int .i64 64) u v K) v fun x y=>
 C.q false q (fun K=>C.aj .gtr s x y K) y fun z aa=>
 C.a2 (some q) (some (.bool true)) (some z) aa fun ab ac=>
 C.am ab (K (.tuple #[(.int .i64 0),(.int .i64 0),(.bool false)]) ac) (F177.k3 K x0 x1 ac))):C.i y5c 177 #[x0,x1] w K:=q9 (A:=F177.ann) (args:=[x0,x1]) (qq h)
namespace F180
def ann:Ann:=⟨[(3,[0,1])],[],[],[],none⟩
variable (K:VK) (y0 y1:Value) (w:World)
def k3:Prop:=nk ann 24 [(0,y0),(1,y1)] w [1,1] Tryz.f180 K
attribute [irreducible] k3
end F180
theorem F180.k3.to (h:(C.aj .mul y0 (.int .i64 128) w fun a b=>
 C.aj .add a y1 b fun c d=>
 K (.tuple #[c,(.bool true)]) d)):F180.k3 K y0 y1 w:=qq h
theorem F180.sh (h:(C.aj .lss x0 (.int .i64 0) w fun a b=>
 C.q false a (fun K=>K x0 b) b fun c d=>
 C.q false a (fun K=>C.aj .geq c (.int .i64 1099511627776) d K) d fun f g=>
 C.a2 (some a) (some (.bool true)) (some f) g fun i j=>
 C.q false i (fun K=>K x1 j) j fun k m=>
 C.q false i (fun K=>C.aj .lss k (.int .i64 0) m K) m fun o p=>
 C.a2 (some i) (some (.bool true)) (some o) p fun q r=>
 C.q false q (fun K=>K x1 r) r fun s t=>
 C.q false q (fun K=>C.aj .gtr s (.int .i64 127) t K) t fun u v=>
 C.a2 (some q) (some (.bool true)) (some u) v fun x y=>
 C.am x (K (.tuple #[(.int .i64 0),(.bool false)]) y) (F180.k3 K x0 x1 y))):C.i y5c 180 #[x0,x1] w K:=q9 (A:=F180.ann) (args:=[x0,x1]) (qq h)
namespace F199
def ann:Ann:=⟨[(3,[0])],[],[],[],none⟩
variable (K:VK) (y0:Value) (w:World)
def k3:Prop:=nk ann 16 [(0,y0)] w [1,1] Tryz.f199 K
attribute [irreducible] k3
end F199
theorem F199.k3.to (h:(C.bi y5c .quo 2 (.tmp 12) (.const (.int .i64 128)) y0 (.int .i64 128) w fun a b=>
 C.bi y5c .rem 2 (.tmp 14) (.const (.int .i64 128)) y0 (.int .i64 128) b fun c d=>
 K (.tuple #[a,c,(.bool true)]) d)):F199.k3 K y0 w:=qq h
theorem F199.sh (h:(C.aj .lss x0 (.int .i64 0) w fun a b=>
 C.q false a (fun K=>K x0 b) b fun c d=>
 C.q false a (fun K=>C.bi y5c .quo 2 (.tmp 8) (.const (.int .i64 128)) c (.int .i64 128) d K) d fun f g=>
 C.q false a (fun K=>C.aj .geq f (.int .i64 1099511627776) g K) g fun i j=>
 C.a2 (some a) (some (.bool true)) (some i) j fun k m=>
 C.am k (K (.tuple #[(.int .i64 0),(.int .i64 0),(.bool false)]) m) (F199.k3 K x0 m))):C.i y5c 199 #[x0] w K:=q9 (A:=F199.ann) (args:=[x0]) (qq h)

theorem F113.sh (h:(C.i y5c 66 #[x0,(.int .i64 0),(.int .i64 9)] w fun a b=>
 C.ay y5c (Instr.makeMap 245 none) b fun c d=>
 C.ay y5c (Instr.build 247 #[(0,a),(1,c)]) d fun f g=>
 C.a3 (.cells (Value.cells f) 247) g fun i j=>
 K i j)):C.i y5c 113 #[x0] w K:=q9 (A:=A0) (args:=[x0]) (qq h)
namespace F124
def ann:Ann:=⟨[(3,[0,1,2,3]),(6,[0,1,2,3])],[],[],[],none⟩
variable (K:VK) (y0 y1 y2 y3:Value) (w:World)
def k3:Prop:=nk ann 61 [(0,y0),(1,y1),(2,y2),(3,y3)] w [1,1] Tryz.f124 K
def k6:Prop:=nk ann 61 [(0,y0),(1,y1),(2,y2),(3,y3)] w [1,1,1] Tryz.f124 K
attribute [irreducible] k3 k6
end F124
theorem F124.k3.to (h:(C.i y5c 185 #[y0,y3] w fun a b=>
 C.a1 0 a b fun c d=>
 C.a1 1 a d fun f g=>
 C.aj .geq c (.int .i64 0) g fun i j=>
 C.am i (K (.bool false) j) (F124.k6 K y0 y1 y2 y3 j))):F124.k3 K y0 y1 y2 y3 w:=qq h
theorem F124.k6.to (h:(C.ae y0 w fun a b=>
 C.ab 1 a b fun c d=>
 C.ai c d fun f g=>
 C.ay y5c (Instr.build 265 #[(0,y1),(1,y2)]) g fun i j=>
 C.cw y5c (Instr.mapUpdate 245 f i y3) j fun k=>
 K (.bool true) k)):F124.k6 K y0 y1 y2 y3 w:=qq h
theorem F124.sh (h:(C.bi y5c .eql 168 (.tmp 11) (.const (.pointer none)) x0 (.pointer none) w fun a b=>
 C.q false a (fun K=>K x0 b) b fun c d=>
 C.q false a (fun K=>C.ae c d K) d fun f g=>
 C.q false a (fun K=>C.ab 1 f g K) g fun i j=>
 C.q false a (fun K=>C.ai i j K) j fun k m=>
 C.q false a (fun K=>C.bi y5c .eql 245 (.tmp 17) (.const (.map none)) k (.map none) m K) m fun o p=>
 C.a2 (some a) (some (.bool true)) (some o) p fun q r=>
 C.q false q (fun K=>K x1 r) r fun s t=>
 C.q false q (fun K=>C.aj .lss s (.int .i64 0) t K) t fun u v=>
 C.a2 (some q) (some (.bool true)) (some u) v fun x y=>
 C.q false x (fun K=>K x1 y) y fun z aa=>
 C.q false x (fun K=>K x0 aa) aa fun ab ac=>
 C.q false x (fun K=>C.ae ab ac K) ac fun ad ae=>
 C.q false x (fun K=>C.ab 0 ad ae K) ae fun af ag=>
 C.q false x (fun K=>C.ai af ag K) ag fun ah ai=>
 C.q false x (fun K=>C.aj .geq z ah ai K) ai fun aj ak=>
 C.a2 (some x) (some (.bool true)) (some aj) ak fun al am=>
 C.q false al (fun K=>K x2 am) am fun an ao=>
 C.q false al (fun K=>C.i y5c 175 #[an] ao K) ao fun ap aq=>
 C.q false al (fun K=>C.aj .eql ap (.int .i64 0) aq K) aq fun ar au=>
 C.a2 (some al) (some (.bool true)) (some ar) au fun av aw=>
 C.q false av (fun K=>K x3 aw) aw fun ax ay=>
 C.q false av (fun K=>C.aj .lss ax (.int .i64 0) ay K) ay fun az ba=>
 C.a2 (some av) (some (.bool true)) (some az) ba fun bb bc=>
 C.q false bb (fun K=>K x3 bc) bc fun bd be=>
 C.q false bb (fun K=>C.aj .geq bd (.int .i64 64) be K) be fun bf bg=>
 C.a2 (some bb) (some (.bool true)) (some bf) bg fun bh bi=>
 C.am bh (K (.bool false) bi) (F124.k3 K x0 x1 x2 x3 bi))):C.i y5c 124 #[x0,x1,x2,x3] w K:=q9 (A:=F124.ann) (args:=[x0,x1,x2,x3]) (qq h)
namespace F184
def ann:Ann:=⟨[(3,[0,1,2]),(6,[])],[],[],[],none⟩
variable (K:VK) (y0 y1 y2:Value) (w:World)
def k3:Prop:=nk ann 24 [(0,y0),(1,y1),(2,y2)] w [1,1] Tryz.f184 K
def k6:Prop:=nk ann 24 [] w [1,1,1] Tryz.f184 K
attribute [irreducible] k3 k6
end F184
theorem F184.k3.to (h:(C.ae y0 w fun a b=>
 C.ab 1 a b fun c d=>
 C.ai c d fun f g=>
 C.ay y5c (Instr.build 265 #[(0,y1),(1,y2)]) g fun i j=>
 C.ay y5c (Instr.lookup 245 f i true) j fun k m=>
 C.a1 0 k m fun o p=>
 C.a1 1 k p fun q r=>
 C.am q (K o r) (F184.k6 K r))):F184.k3 K y0 y1 y2 w:=qq h
theorem F184.k6.to (h:(K (.int .i64 (-1)) w)):F184.k6 K w:=qq h
theorem F184.sh (h:(C.bi y5c .eql 168 (.tmp 9) (.const (.pointer none)) x0 (.pointer none) w fun a b=>
 C.am a (K (.int .i64 (-1)) b) (F184.k3 K x0 x1 x2 b))):C.i y5c 184 #[x0,x1,x2] w K:=q9 (A:=F184.ann) (args:=[x0,x1,x2]) (qq h)
namespace F185
def ann:Ann:=⟨[(3,[0,1]),(5,[1,14]),(8,[])],[(4,[1,14])],[],[(7,(.take 0 (.take 2 (.take 1 (.take 4 (.take 3 (.take 5 .fin)))))))],none⟩
variable (K:VK) (y0 y1 y14:Value) (w:World)
def k3:Prop:=nk ann 27 [(0,y0),(1,y1)] w [1,1] Tryz.f185 K
def k8:Prop:=nk ann 27 [] w [1,1,1] Tryz.f185 K
def l4:Prop:=nl ann 27 [(1,y1),(14,y14)] w [1,1,0,1,0] Tryz.f185 K
def k5:Prop:=nk ann 27 [(1,y1),(14,y14)] w [1,1,0,1,0,0,1,1] Tryz.f185 K
attribute [irreducible] k3 k8 l4 k5
end F185
theorem F185.k3.to (h:(C.ae y0 w fun a b=>
 C.ab 1 a b fun c d=>
 C.ai c d fun f g=>
 C.ay y5c (Instr.range 245 f) g fun i j=>
 F185.l4 K y1 i j)):F185.k3 K y0 y1 w:=qq h
theorem F185.k8.to (h:(K (.tuple #[(.int .i64 (-1)),(.int .i64 0)]) w)):F185.k8 K w:=qq h
theorem F185.l4.to (h:(C.ay y5c (Instr.next y14 false 0) w fun a b=>
 C.a1 0 a b fun c d=>
 C.am c (F185.k5 K y1 y14 d) (F185.k8 K d))):F185.l4 K y1 y14 w:=by unfold F185.l4 nl;exact qah (qq h)
theorem F185.k5.to (h:(C.ay y5c (Instr.entry y14) w fun a b=>
 C.a1 0 a b fun c d=>
 C.a1 1 a d fun f g=>
 C.a3 (.cells #[.int .i64 0,.int .i64 0] 265) g fun i j=>
 C.ak 2 i c j fun k=>
 C.aj .eql f y1 k fun m o=>
 C.am m (C.a9 o fun S p=>
 C.ab 0 i p fun q r=>
 C.ab 1 i r fun s t=>
 C.aq S q t fun u v=>
 C.aq S s v fun x y=>
 K (.tuple #[u,x]) y) (F185.l4 K y1 y14 o))):F185.k5 K y1 y14 w:=qq h
theorem F185.sh (h:(C.bi y5c .eql 168 (.tmp 8) (.const (.pointer none)) x0 (.pointer none) w fun a b=>
 C.am a (K (.tuple #[(.int .i64 (-1)),(.int .i64 0)]) b) (F185.k3 K x0 x1 b))):C.i y5c 185 #[x0,x1] w K:=q9 (A:=F185.ann) (args:=[x0,x1]) (qq h)
namespace F211
def ann:Ann:=⟨[(3,[0,1]),(6,[0,1,5,6]),(7,[0,1,5,6]),(11,[5])],[(5,[0,1,5,6])],[],[],none⟩
variable (K:VK) (y0 y1 y5 y6:Value) (w:World)
def k3:Prop:=nk ann 35 [(0,y0),(1,y1)] w [1,1] Tryz.f211 K
def k11:Prop:=nk ann 35 [(5,y5)] w [1,1,1,1] Tryz.f211 K
def l5:Prop:=nl ann 35 [(0,y0),(1,y1),(5,y5),(6,y6)] w [1,1,1,0,1,0] Tryz.f211 K
def k7:Prop:=nk ann 35 [(0,y0),(1,y1),(5,y5),(6,y6)] w [1,1,1,0,1,0,0,1] Tryz.f211 K
def k6:Prop:=nk ann 35 [(0,y0),(1,y1),(5,y5),(6,y6)] w [1,1,1,0,1,0,0,1,1] Tryz.f211 K
attribute [irreducible] k3 k11 l5 k7 k6
end F211
theorem F211.k3.to (h:(F211.l5 K y0 y1 (.slice none 0 0) (.int .i64 1) w)):F211.k3 K y0 y1 w:=qq h
theorem F211.k11.to (h:(C.i y5c 262 #[y5] w fun a b=>
 K y5 b)):F211.k11 K y5 w:=qq h
theorem F211.l5.to (h:(C.i y5c 175 #[y6] w fun a b=>
 C.aj .gtr a (.int .i64 0) b fun c d=>
 C.am c (F211.k7 K y0 y1 y5 y6 d) (F211.k11 K y5 d))):F211.l5 K y0 y1 y5 y6 w:=by unfold F211.l5 nl;exact qah (qq h)
theorem F211.k7.to (h:(C.i y5c 184 #[y0,y1,y6] w fun a b=>
 C.aj .geq a (.int .i64 0) b fun c d=>
 C.am c (C.ay y5c (Instr.buildSlice 54 1 #[(0,a)]) d fun f g=>
 C.ay y5c (Builtin.append_ #[54,54] 54 #[y5,f]) g fun i j=>
 C.ae y0 j fun k m=>
 C.ab 1 k m fun o p=>
 C.ai o p fun q r=>
 C.ay y5c (Instr.build 265 #[(0,y1),(1,y6)]) r fun s t=>
 C.ay y5c (Builtin.delete_ #[245,265] 0 #[q,s]) t fun _ u=>
 F211.k6 K y0 y1 i y6 u) (F211.k6 K y0 y1 y5 y6 d))):F211.k7 K y0 y1 y5 y6 w:=qq h
theorem F211.k6.to (h:(C.aj .add y6 (.int .i64 1) w fun a b=>
 F211.l5 K y0 y1 y5 a b)):F211.k6 K y0 y1 y5 y6 w:=qq h
theorem F211.sh (h:(C.bi y5c .eql 168 (.tmp 8) (.const (.pointer none)) x0 (.pointer none) w fun a b=>
 C.am a (K (.slice none 0 0) b) (F211.k3 K x0 x1 b))):C.i y5c 211 #[x0,x1] w K:=q9 (A:=F211.ann) (args:=[x0,x1]) (qq h)
end
end Go.Proofs.YtcakfaakbpdklaaGreatDoorV
namespace Go.Proofs.YtcakfaakbpdklaaGreatDoorV
open Go Go.RowKit
open Go.Proofs.Tryz renaming prog→y5c
section
variable {κ : Type}
def ent (kv : κ → Value) (x : κ × Value × Nat):MapEntry:={ key:=kv x.1,val:=x.2.1,born:=x.2.2 }
def qda (kv : κ → Value) (w:World) (b:Nat) (l:List (κ × Value × Nat)) (c:Nat):Prop:=w.heap[b]?=some (.map (l.map (ent kv)).toArray c)
theorem qda.keep {kv : κ → Value} {S:List Nat} {w w':World} {b c:Nat} {l:List (κ × Value × Nat)} (h:qda kv w b l c) (hf:Fr S w w') (hS:b∉S):qda kv w' b l c:=hf.at_ h hS
theorem C.c2 {P:Program} {w:World} {K:VK} {t:TypeId} {kv : κ → Value} (hk:∀w',Fr [] w w'→qda kv w' w.heap.size [] 0→w'.heap.size=w.heap.size+1→K (.map (some w.heap.size)) w'):C.ay P (Instr.makeMap t none) w K:=by
 have hn:=New.mk' w (.map #[] 0)
 refine C.a4 (v := .map (some w.heap.size)) (w':=w.alloc (.map #[] 0)) ?_ (hk _ hn.fr hn.at_ hn.sz)
 simp[Instr.makeMap,newObj,Sem.run]
end
section
variable {κ : Type} [DecidableEq κ]
def fnd (a : κ):List (κ × Value × Nat)→Nat→Option (Nat × Value)
 | [],_=>none
 | x :: l,i=>if x.1=a then some (i,x.2.1) else fnd a l (i+1)
theorem qfi {a : κ}:∀ {l:List (κ × Value × Nat)} {i:Nat},(∀x∈l,x.1≠a)→fnd a l i=none
 | [],_,_=>rfl
 | x :: l,i,h=>by
  unfold fnd
  rw[if_neg (h x (by simp)),qfi fun y hy=>h y (by simp[hy])]
theorem qji {a : κ}:∀ {l:List (κ × Value × Nat)} {i:Nat},(∃x∈l,x.1=a)→∃(j:Nat) (x : κ × Value × Nat),l[j]?=some x∧x.1=a∧(∀k y,k<j→l[k]?=some y→y.1≠a)∧fnd a l i=some (i+j,x.2.1)
 | [],_,h=>by obtain⟨x,hx,_⟩:=h;cases hx
 | y :: l,i,h=>by
  by_cases c:y.1=a
  ·exact⟨0,y,rfl,c,fun k _ hk=>by omega,by unfold fnd;rw[if_pos c];rfl⟩
  ·have h':∃x∈l,x.1=a:=by
    obtain⟨x,hx,e⟩:=h
    rcases y4b.1 hx with d | d
    ·subst d;exact absurd e c
    ·exact⟨x,d,e⟩
   obtain⟨j,x,h1,h2,h3,h4⟩:=qji (i:=i+1) h'
   refine⟨j+1,x,by simpa using h1,h2,fun k z hk hz=>?_,?_⟩
   ·cases k with
    | zero=>simp at hz;subst hz;exact c
    | succ k=>exact h3 k z (by omega) (by simpa using hz)
   ·unfold fnd
    rw[if_neg c,h4]
    congr 2
    omega
structure qhb (P:Program) (kt:TypeId) (kv : κ → Value):Prop where
 check:∀e a w,(Instr.checkKey e 10000 kt (kv a)).run P w = .ok () w
 find:∀a l w,(Instr.findKey kt (kv a) (l.map (ent kv))).run P w = .ok (fnd a l 0) w
 same:∀a,Instr.sameBits 10000 (kv a) (kv a)=true
theorem qhb.asked {P:Program} {kt:TypeId} {kv : κ → Value} {d:TypeDesc} (hu:P.underlying kt=some d) (hc:∀e a w,(Instr.checkKey e 10000 kt (kv a)).run P w = .ok () w) (hn:∀a b,Instr.sameNow d (kv a) (kv b)=none)
  (he:∀a b w,(Op.equal kt (kv a) (kv b)).run P w = .ok (decide (a=b)) w) (hs:∀a,Instr.sameBits 10000 (kv a) (kv a)=true):qhb P kt kv where
 check:=hc
 find:=fun a l w=>by
  have key:∀(l:List (κ × Value × Nat)) (i:Nat),(Instr.findAsking kt (kv a) (l.map (ent kv)) i).run P w = .ok (fnd a l i) w:=by
   intro l
   induction l with
   | nil=>intro i;rfl
   | cons x l ih=>
    intro i
    simp only[y4a,Instr.findAsking,ent,y4g,he,y2m,fnd]
    by_cases c:x.1=a
    ·simp[c]
    ·simp only[Ne.symm c,decide_false,y2b,if_false,if_neg c]
     exact ih (i+1)
  cases l with
  | nil=>simp[Instr.findKey,run_underlying hu,Instr.findNow,fnd]
  | cons x l=>
   have:=key (x :: l) 0
   simp only[y4a] at this ⊢
   simp[Instr.findKey,run_underlying hu,Instr.findNow,ent,hn] at this ⊢
   exact this
 same:=hs
section
variable {P:Program} {w:World} {K:VK} {t kt et:TypeId} {kv : κ → Value} {b c:Nat} {l:List (κ × Value × Nat)}
theorem qe0 {es:Array MapEntry} {k:Nat} (hb:w.heap[b]?=some (.map es k)):(getObj b).run P w = .ok (.map es k) w:=by simp[getObj,Sem.run,hb]
theorem qgl {o:Obj} (hb:w.heap[b]?=some o) (o':Obj):Upd w b o' (w.putObj b o'):=by
 have hlt:=qac hb
 refine⟨⟨rfl,rfl,rfl,by simp,fun i _ hi=>?_⟩,World.putObj_heap_same hlt,by simp⟩
 simp only[y2d] at hi
 exact World.putObj_heap_other hi
theorem qgk (es:Array MapEntry) (k:Nat) {es':Array MapEntry} {k':Nat} (hb:w.heap[b]?=some (.map es' k')):(setObj b (.map es k)).run P w = .ok () (w.putObj b (.map es k)):=by
 simp[setObj,Sem.run,World.putObj,hb]
theorem C.ct (hK:qhb P kt kv) (ht:P.underlying t=some (.map kt et)) {z:Value} (hz:qm0 P et=some z) (hb:qda kv w b l c) (a : κ) {ok:Bool} {v:Value} {is:Bool}
  (hv:(fnd a l 0=none∧v=z∧is=false)∨(∃j,fnd a l 0=some (j,v)∧is=true)) (hk:K (if ok then .tuple #[v,.bool is] else v) w):C.ay P (Instr.lookup t (.map (some b)) (kv a) ok) w K:=by
 refine C.a4 ?_ hk
 have hz':=qmt (w:=w) hz
 rcases hv with⟨h1,rfl,rfl⟩ | ⟨j,h1,rfl⟩
 ·simp only[Instr.lookup,y4g,run_underlying ht,y2m,qe0 hb,hK.check,hK.find,h1,hz',y4h]
 ·simp only[Instr.lookup,y4g,run_underlying ht,y2m,qe0 hb,hK.check,hK.find,h1,y4h]
theorem C.c5 {KU:World→Prop} (hK:qhb P kt kv) (ht:P.underlying t=some (.map kt et)) (hb:qda kv w b l c) (a : κ) (v:Value) (hn:fnd a l 0=none)
  (hk:∀w',Fr [b] w w'→w'.heap.size=w.heap.size→qda kv w' b (l ++ [(a,v,c)]) (c+1)→KU w'):C.cw P (Instr.mapUpdate t (.map (some b)) (kv a) v) w KU:=by
 have hu:=qgl hb (.map ((l.map (ent kv)).toArray.push { key:=kv a,val:=v,born:=c }) (c+1))
 refine⟨_,?_,hk _ hu.fr hu.sz ?_⟩
 ·simp only[Instr.mapUpdate,y4g,run_underlying ht,y2m,qe0 hb,hK.check,hK.find,hn,qgk _ _ hb]
 ·have:=hu.at_
  rw[List.push_toArray] at this
  simpa[qda,ent] using this
theorem C.c6 {KU:World→Prop} (hK:qhb P kt kv) (ht:P.underlying t=some (.map kt et)) (hb:qda kv w b l c) (a : κ) (v:Value) {j:Nat} {x : κ × Value × Nat} (hj:l[j]?=some x) (hx:x.1=a) (hf:fnd a l 0=some (j,x.2.1))
  (hk:∀w',Fr [b] w w'→w'.heap.size=w.heap.size→qda kv w' b (l.set j (a,v,x.2.2)) c→KU w'):C.cw P (Instr.mapUpdate t (.map (some b)) (kv a) v) w KU:=by
 subst hx
 have hjl:j<l.length:=(y0m.1 hj).1
 have hxj:l[j]=x:=(y0m.1 hj).2
 have hkey:((((l.map (ent kv)).toArray)[j]?).map (·.key)).getD (kv x.1)=kv x.1:=by simp[hj,ent]
 have hu:=qgl hb (.map ((l.map (ent kv)).toArray.modify j fun e=>{ e with key:=kv x.1,val:=v }) c)
 refine⟨_,?_,hk _ hu.fr hu.sz ?_⟩
 ·simp only[Instr.mapUpdate,y4g,run_underlying ht,y2m,qe0 hb,hK.check,hK.find,hf,hkey,Instr.keyThatStays,hK.same,if_true,y4h,qgk _ _ hb]
 ·have:=hu.at_
  have e:(l.map (ent kv)).toArray.modify j (fun e=>{ e with key:=kv x.1,val:=v })=((l.set j (x.1,v,x.2.2)).map (ent kv)).toArray:=by
   apply Array.ext
   ·simp
   ·intro i h1 h2
    simp only[Array.getElem_modify,List.getElem_toArray,y3h,y3d]
    split
    ·rename_i e;subst e;simp[ent,hxj]
    ·rfl
  exact this.trans (by rw[e])
theorem C.c4 {t' ty:TypeId} (hK:qhb P kt kv) (ht:P.underlying t=some (.map kt et)) (hb:qda kv w b l c) (a : κ) {l':List (κ × Value × Nat)} (hl:l'=match fnd a l 0 with | some (j,_)=>l.eraseIdx j | none=>l)
  (hk:∀w',Fr [b] w w'→w'.heap.size=w.heap.size→qda kv w' b l' c→K (.tuple #[]) w'):C.ay P (Builtin.delete_ #[t,t'] ty #[.map (some b),kv a]) w K:=by
 have hu:=qgl hb (.map ((l'.map (ent kv)).toArray) c)
 refine C.a4 (v := .tuple #[]) ?_ (hk _ hu.fr hu.sz hu.at_)
 cases hf:fnd a l 0 with
 | none=>
  rw[hf] at hl
  subst hl
  simp[Builtin.delete_,run_underlying ht,qe0 hb,hK.check,hK.find,hf,qgk _ _ hb]
 | some p=>
  obtain⟨j,v⟩:=p
  rw[hf] at hl
  subst hl
  have e:(l.map (ent kv)).toArray.eraseIdxIfInBounds j=((l.eraseIdx j).map (ent kv)).toArray:=by
   apply y4u
   simp[List.eraseIdx_eq_take_drop_succ]
  simp only[Builtin.delete_,y1n,y0z,y0y,y4g,run_underlying ht,y2m,qe0 hb,hK.check,hK.find,hf,qgk _ _ hb,e,y4h]
end
end
end Go.Proofs.YtcakfaakbpdklaaGreatDoorV
namespace Go.Proofs.YtcakfaakbpdklaaGreatDoorV
open Go Go.Proofs Go.RowKit
open Go.Proofs.Tryz renaming prog→y5c
def qci (a:Int × Int):Value := .agg #[.int .i64 a.1,.int .i64 a.2]
theorem zff : ∃ f g : Field, (Tryz.prog.fieldsOf 265).toList = [f, g] ∧ (f.name != "_") = true ∧ (g.name != "_") = true ∧ f.type = 3 ∧ g.type = 3 ∧ f.offset = 0 ∧ g.offset = 1 := ⟨(Tryz.prog.fieldsOf 265)[0]!, (Tryz.prog.fieldsOf 265)[1]!, by kernel_rfl, by kernel_rfl, by kernel_rfl, by kernel_rfl, by kernel_rfl, by kernel_rfl, by kernel_rfl⟩
theorem qxb (x y:Int) (w:World):(part 3 #[.int .i64 x,.int .i64 y] 0).run y5c w = .ok (.int .i64 x) w:=by kernel_rfl
theorem qxc (x y:Int) (w:World):(part 3 #[.int .i64 x,.int .i64 y] 1).run y5c w = .ok (.int .i64 y) w:=by kernel_rfl
theorem qst (x y:Int) (w:World) (d:Nat):(Op.equalIn (d+1) 3 (.int .i64 x) (.int .i64 y)).run y5c w = .ok (x == y) w:=by
 simp[Op.equalIn,run_underlying Tryz.underlying3]
theorem qzy (a b:Int × Int) (w:World) (d:Nat):(Op.equalIn (d+1+1) 265 (qci a) (qci b)).run y5c w = .ok (decide (a.1=b.1) && decide (a.2=b.2)) w:=by
 obtain⟨f,g,e,hf,hg,tf,tg,of,og⟩:=zff
 have hf : (f.name ≠ "_") = True := by simpa using hf
 have hg : (g.name ≠ "_") = True := by simpa using hg
 unfold qci
 rw[run_equalIn_struct w (d+1) 265 _ _ Tryz.underlying265 (by kernel_rfl),e]
 simp only[Op.eqFields,hf,hg,tf,tg,of,og,if_true,y4g,qxb,qst,y2m]
 by_cases h1:a.1=b.1 <;> by_cases h2:a.2=b.2 <;> simp[h1,h2,qst,qxc]
theorem zfe (a b:Int × Int) (w:World):(Op.equal 265 (qci a) (qci b)).run y5c w = .ok (decide (a=b)) w:=by
 have e:decide (a=b)=(decide (a.1=b.1) && decide (a.2=b.2)):=by
  rw[y3p];simp[y4n]
 rw[e]
 exact qzy a b w 9998
theorem zfd (e:Bool) (a:Int × Int) (w:World) (d:Nat):(Instr.checkKey e (d+1+1) 265 (qci a)).run y5c w = .ok () w:=by
 kernel_rfl
theorem qh0:qhb y5c 265 qci:=
 qhb.asked Tryz.underlying265 (fun e a w=>zfd e a w 9998) (fun a b=>rfl) zfe (fun a=>by
  have h:∀d,Instr.sameBits (d+1+1) (qci a) (qci a)=true:=fun d=>by simp[qci,Instr.sameBits]
  exact h 9998)
section
variable {K:VK} {w:World}
theorem qdb {a b c:Int} (h:K (.int .i64 (if a<b then b else if a>c then c else a)) w):C.i y5c 66 #[.int .i64 a,.int .i64 b,.int .i64 c] w K:=by
 refine F66.sh ?_
 by_cases h1:a<b
 ·simp only[zv,h1]
  rwa [if_pos h1] at h
 ·rw[if_neg h1] at h
  by_cases h2:a>c
  ·simp only[zv,h1,h2]
   rwa [if_pos h2] at h
  ·simp only[zv,h1,h2]
   rw[if_neg h2] at h
   exact F66.k5.to h
theorem qcn {k:Int} (h:K (.int .i64 (csz k)) w):C.i y5c 175 #[.int .i64 k] w K:=by
 refine F175.sh ?_
 by_cases h1:k<1
 ·simp only[zv,h1]
  rwa [show csz k=0 by unfold csz;repeat (rw[if_neg (by omega)])] at h
 ·by_cases h2:k≥5
  ·simp only[zv,h1,h2]
   rwa [show csz k=0 by unfold csz;repeat (rw[if_neg (by omega)])] at h
  ·simp only[zv,h1,h2]
   refine F175.k3.to ?_
   simp only[C.bo]
   rw[qab (n:=k-1) (by omega)]
   have:k=1∨k=2∨k=3∨k=4:=by omega
   rcases this with rfl | rfl | rfl | rfl
   ·exact⟨.int .i64 2,by kernel_rfl,h⟩
   ·exact⟨.int .i64 4,by kernel_rfl,h⟩
   ·exact⟨.int .i64 8,by kernel_rfl,h⟩
   ·exact⟨.int .i64 16,by kernel_rfl,h⟩
end
end Go.Proofs.YtcakfaakbpdklaaGreatDoorV
namespace Go.Proofs.YtcakfaakbpdklaaGreatDoorV
open Go
open Go.Proofs.Tryz renaming prog→y5c
section
variable {P:Program} {w:World} {t:TypeId}
theorem qqo {ft:TypeId} {k:IntKind} (hu:P.underlying ft=some (.int k)) {xs:Array Value} {o:Nat} {v:Value} (hx:xs[o]?=some v):(part ft xs o).run P w = .ok v w:=by
 simp[part,isAgg,underlying,hu,hx]
theorem qrm {ft:TypeId} {k:IntKind} (hu:P.underlying ft=some (.int k)) (d:Nat) (a b:Int):(Op.equalIn (d+1) ft (.int k a) (.int k b)).run P w = .ok (a == b) w:=by
 simp[Op.equalIn,underlying,hu]
def qfk:List IntKind→List Int→List Value
 | k :: ks,n :: ns => .int k n :: qfk ks ns
 | _,_=>[]
def qgu (P:Program):List Field→List IntKind→Nat→Bool
 | [],[],_=>true
 | f :: fs, k :: ks, i => !(f.name == "_") && (match P.underlying f.type with | some (.int k') => k' == k | _ => false) && Nat.beq f.offset i && qgu P fs ks (i + 1)
 | _,_,_=>false
theorem qi4 (d:Nat) (X Y:Array Value):∀(fs:List Field) (ks:List IntKind) (i:Nat) (xs ys:List Int),qgu P fs ks i=true→xs.length=ks.length→ys.length=ks.length→
  (∀j,j<ks.length→X[i+j]?=(qfk ks xs)[j]?)→(∀j,j<ks.length→Y[i+j]?=(qfk ks ys)[j]?)→
  (Op.eqFields (d+1) X Y fs).run P w = .ok (xs == ys) w
 | [],[],i,[],[],_,_,_,_,_=>by simp[Op.eqFields]
 | f :: fs,k :: ks,i,a :: xs,b :: ys,h,hx,hy,hX,hY=>by
  simp only[qgu,y2y,y2n] at h
  obtain⟨⟨⟨h1,h2⟩,h3⟩,h4⟩:=h
  have hu:P.underlying f.type=some (.int k):=by
   split at h2
   ·rename_i k' hk;rw[hk];simp only[beq_iff_eq] at h2;rw[h2]
   ·cases h2
  have ho:f.offset=i:=y1h h3
  have hn : f.name ≠ "_" := by simpa using h1
  have x0:X[f.offset]?=some (.int k a):=by have:=hX 0 (by simp);simpa[ho,qfk] using this
  have y0:Y[f.offset]?=some (.int k b):=by have:=hY 0 (by simp);simpa[ho,qfk] using this
  rw[Op.eqFields]
  simp only[if_pos hn,y4g,qqo hu x0,qqo hu y0,qrm hu,y2m]
  by_cases hab:a=b
  ·have hb:(a == b)=true:=by simpa using hab
   have ih:=qi4 d X Y fs ks (i+1) xs ys h4 (by simpa using hx) (by simpa using hy)
    (fun j hj=>by have:=hX (j+1) (by simp;omega);rw[show i+(j+1)=i+1+j by omega] at this;simpa[qfk] using this)
    (fun j hj=>by have:=hY (j+1) (by simp;omega);rw[show i+(j+1)=i+1+j by omega] at this;simpa[qfk] using this)
   simp[hab,ih]
  ·have hb:(a == b)=false:=by simpa using hab
   have:(a :: xs == b :: ys)=false:=by simp[hab]
   simp[hb,this]
 | [],_ :: _,_,_,_,h,_,_,_,_=>by simp[qgu] at h
 | _ :: _,[],_,_,_,h,_,_,_,_=>by simp[qgu] at h
 | _ :: _,_ :: _,_,[],_,_,h,_,_,_=>by simp at h
 | _ :: _,_ :: _,_,_,[],_,_,h,_,_=>by simp at h
 | [],[],_,_ :: _,_,_,h,_,_,_=>by simp at h
 | [],[],_,_,_ :: _,_,_,h,_,_=>by simp at h
theorem qpy {fs:Array Field} {ks:List IntKind} (d:Nat) (hu:P.underlying t=some (.struct fs)) (hp:P.stoodInHeld t=false) (hr:qgu P fs.toList ks 0=true) (xs ys:List Int) (hx:xs.length=ks.length) (hy:ys.length=ks.length):
  (Op.equalIn (d+2) t (.agg (qfk ks xs).toArray) (.agg (qfk ks ys).toArray)).run P w = .ok (xs == ys) w:=by
 have hf:P.fieldsOf t=fs:=by simp[Program.fieldsOf,hu]
 rw[run_equalIn_struct (P:=P) w (d+1) t _ _ (by rw[hf];exact hu) hp,hf]
 exact qi4 d _ _ fs.toList ks 0 xs ys hr hx hy (fun j hj=>by simp) (fun j hj=>by simp)
theorem qsp {fs:Array Field} {ks:List IntKind} (x y:Operand) (hu:P.underlying t=some (.struct fs)) (hg:P.eqGuardType P.depth t=false) (hp:P.stoodInHeld t=false) (hr:qgu P fs.toList ks 0=true) (xs ys:List Int) (hx:xs.length=ks.length) (hy:ys.length=ks.length):
  (do eqGuard .eql t x y (.agg (qfk ks xs).toArray) (.agg (qfk ks ys).toArray);binOp .eql t (.agg (qfk ks xs).toArray) (.agg (qfk ks ys).toArray):Sem Value).run P w = .ok (.bool (xs == ys)) w:=
 qkg (by simp[eqGuard,hg]) rfl (qpy 9998 hu hp hr xs ys hx hy)
theorem qpl (x y:Operand) (a:Int):(do eqGuard .and t x y (.int .i64 a) (.int .i64 1);binOp .and t (.int .i64 a) (.int .i64 1):Sem Value).run P w = .ok (.int .i64 (a % 2)) w:=by
 have h1:(BitVec.ofInt 64 1).toNat=2 ^ 1-1:=by decide
 have key:(BitVec.ofInt 64 a &&& BitVec.ofInt 64 1).toNat=(a % ((2 ^ 64:Nat):Int)).toNat % 2 ^ 1:=by
  rw[BitVec.toNat_and,BitVec.toNat_ofInt,h1,Nat.and_two_pow_sub_one_eq_mod]
 have e:IntKind.i64.wrap ((BitVec.ofInt 64 a &&& BitVec.ofInt 64 1).toNat:Nat)=a % 2:=by
  rw[key,IntKind.wrap_i64]
  omega
 have e':(Op.intBits .and .i64 a 1:Sem Value)=pure (.int .i64 (IntKind.i64.wrap ((BitVec.ofInt 64 a &&& BitVec.ofInt 64 1).toNat:Nat))):=rfl
 simp only[y4g,qat,y2m]
 show (Op.intBits .and .i64 a 1).run P w=_
 rw[e',e]
 rfl
theorem qz0 (x y:Operand) (a:Int):(do eqGuard .shr t x y (.int .i64 a) (.int .u64 1);binOp .shr t (.int .i64 a) (.int .u64 1):Sem Value).run P w = .ok (.int .i64 (a / 2)) w:=by
 simp only[y4g,qat,y2m]
 show (Op.shift .shr .i64 a .u64 1).run P w=_
 have:a.fdiv 2=a / 2:=by rw[y0j _ (by decide)]
 simp[Op.shift,IntKind.bits,this]
theorem qcl (x y:Operand) (a b:Int) (hb:b≠0):(do eqGuard .quo t x y (.int .i64 a) (.int .i64 b);binOp .quo t (.int .i64 a) (.int .i64 b):Sem Value).run P w = .ok (.int .i64 (IntKind.i64.wrap (a.tdiv b))) w:=by
 simp only[y4g,qat,y2m]
 show (Op.intDiv .quo .i64 a b).run P w=_
 simp[Op.intDiv,hb]
theorem qe3 (x y:Operand) (a b:Int) (hb:b≠0):(do eqGuard .rem t x y (.int .i64 a) (.int .i64 b);binOp .rem t (.int .i64 a) (.int .i64 b):Sem Value).run P w = .ok (.int .i64 (a.tmod b)) w:=by
 simp only[y4g,qat,y2m]
 show (Op.intDiv .rem .i64 a b).run P w=_
 simp[Op.intDiv,hb]
end
end Go.Proofs.YtcakfaakbpdklaaGreatDoorV
namespace Go.Proofs.YtcakfaakbpdklaaGreatDoorV
open Go Go.Proofs Go.RowKit
open Go.Proofs.Tryz renaming prog→y5c
theorem qsn {k:Int} (h1:1≤k) (h2:k<5):csz k>0:=by
 have:k=1∨k=2∨k=3∨k=4:=by omega
 rcases this with rfl | rfl | rfl | rfl <;> decide
theorem qpv {k:Int} (h:k<1∨5≤k):csz k=0:=by
 unfold csz
 repeat (rw[if_neg (by omega)])
theorem qkv {k:Int} (h:k<1∨5≤k):qae k=0:=by
 unfold qae
 repeat (rw[if_neg (by omega)])
theorem qtv {k:Int} (h1:1≤k) (h2:k<5):IntKind.i64.wrap ((32:Int).tdiv (csz k))=qae k:=by
 have:k=1∨k=2∨k=3∨k=4:=by omega
 rcases this with rfl | rfl | rfl | rfl <;> decide
theorem qjg (k:Int):0≤csz k∧csz k≤16:=by
 by_cases h:k<1∨5≤k
 ·rw[qpv h];omega
 ·have:k=1∨k=2∨k=3∨k=4:=by omega
  rcases this with rfl | rfl | rfl | rfl <;> decide
theorem zes {k:Int} (h:csz k≠0):1≤k∧k<5:=by
 apply y0q
 intro hc
 exact h (qpv (by omega))
theorem qct (k:Int):0≤qae k∧qae k≤16:=by
 by_cases h:k<1∨5≤k
 ·rw[qkv h];omega
 ·have:k=1∨k=2∨k=3∨k=4:=by omega
  rcases this with rfl | rfl | rfl | rfl <;> decide
section
variable {K:VK} {w:World}
theorem qtl {n:Int} (h:K (.int .i64 (cOf n)) w):C.i y5c 117 #[.int .i64 n] w K:=by
 refine F117.sh ?_
 unfold cOf at h
 by_cases h1:n<0
 ·simp only[zv,h1]
  rwa [if_pos (.inl h1)] at h
 simp only[zv,h1]
 by_cases h2:n>127
 ·simp only[zv,h2]
  rwa [if_pos (.inr h2)] at h
 simp only[zv,h2]
 rw[if_neg (by omega)] at h
 refine F117.k3.to ?_
 have step:∀k:Int,1≤k→k<5→(¬csz k<n+1→K (.int .i64 k) w)→(csz k<n+1→F117.l4 K (.int .i64 n) (.int .i64 (k+1)) w)→F117.l4 K (.int .i64 n) (.int .i64 k) w:=fun k k1 k5 a b=>by
  refine F117.l4.to ?_
  simp only[zv,k5]
  refine qcn ?_
  simp only[C.au]
  rw[qab (n:=n+1) (by omega)]
  by_cases c:csz k<n+1
  ·simp only[zv,c]
   refine F117.k5.to ?_
   simp only[C.a6]
   rw[qab (n:=k+1) (by omega)]
   exact b c
  ·simp only[zv,c]
   exact F117.k6.to (a c)
 have e1:csz 1=2:=rfl
 have e2:csz 2=4:=rfl
 have e3:csz 3=8:=rfl
 have e4:csz 4=16:=rfl
 refine step 1 (by omega) (by omega) (fun a=>?_) fun a1=>step 2 (by omega) (by omega) (fun a=>?_) fun a2=>step 3 (by omega) (by omega) (fun a=>?_) fun a3=>step 4 (by omega) (by omega) (fun a=>?_) fun a4=>?_
 ·rwa [if_pos (by omega)] at h
 ·rw[if_neg (by omega)] at h
  rwa [if_pos (by omega)] at h
 ·rw[if_neg (by omega),if_neg (by omega)] at h
  rwa [if_pos (by omega)] at h
 ·rw[if_neg (by omega),if_neg (by omega),if_neg (by omega)] at h
  rwa [if_pos (by omega)] at h
 ·rw[if_neg (by omega),if_neg (by omega),if_neg (by omega),if_neg (by omega)] at h
  refine F117.l4.to ?_
  simp only[zv,show ¬((4+1:Int)<5) by omega]
  exact F117.k6.to h
theorem qm1 {k:Int} (h:K (.int .i64 (qae k)) w):C.i y5c 263 #[.int .i64 k] w K:=by
 refine F263.sh (qcn ?_)
 by_cases c:csz k=0
 ·simp only[zv,eq_self,c]
  have:qae k=0:=qkv (by
   apply y0q;intro hc
   have:=qsn (k:=k) (by omega) (by omega);omega)
  rwa [this] at h
 ·obtain⟨k1,k5⟩:=zes c
  simp only[zv,c]
  refine F263.k3.to (qcn ⟨_,qcl _ _ 32 (csz k) c,?_⟩)
  rw[qtv k1 k5]
  exact h
theorem zbh {n:Int} (h:K (.int .i64 (qcu n)) w):C.i y5c 120 #[.int .i64 n] w K:=by
 refine F120.sh (qtl ?_)
 unfold qcu at h
 by_cases c:cOf n=5
 ·rw[if_pos c] at h
  have hn:0≤n∧n≤127:=by
   apply y0q;intro hc
   unfold cOf at c
   rw[if_pos (by omega)] at c
   cases c
  simp only[zv,eq_self,ne_eq,c,not_true_eq_false]
  refine F120.k3.to ?_
  simp only[C.a6]
  rw[qab (n:=n+32) (by omega)]
  refine⟨_,qcl _ _ (n+32) 32 (by decide),?_⟩
  rw[y0i (by omega),qab (by omega)]
  exact h
 ·rw[if_neg c] at h
  simp only[zv,ne_eq,c,not_false_eq_true]
  exact h
theorem qfe {a:Int} (h:K (.int .i64 (qap a)) w):C.i y5c 272 #[.int .i64 a] w K:=by
 refine F272.sh ?_
 unfold qap at h
 by_cases h1:a<0
 ·simp only[zv,h1]
  rwa [if_neg (by omega)] at h
 simp only[zv,h1]
 by_cases h2:a≥2048
 ·simp only[zv,h2]
  rwa [if_neg (by omega)] at h
 simp only[zv,h2]
 rw[if_pos (by omega)] at h
 refine F272.k3.to ⟨_,qcl _ _ a 32 (by decide),?_⟩
 rw[y0i (by omega),qab (by omega)]
 exact h
theorem qp4 {a:Int}:qap a<0↔¬(0≤a∧a<2048):=by
 unfold qap
 by_cases c:0≤a∧a<2048
 ·rw[if_pos c];omega
 ·rw[if_neg c];omega
theorem qr3 {k a:Int} (h:K (.int .i64 (qcx k a)) w):C.i y5c 284 #[.int .i64 k,.int .i64 a] w K:=by
 refine F284.sh (qcn ?_)
 unfold qcx at h
 by_cases c:csz k=0
 ·simp only[zv,eq_self,c]
  rwa [if_pos (.inl c)] at h
 have hs:=qjg k
 simp only[zv,c]
 refine qfe ?_
 by_cases d:qap a<0
 ·simp only[zv,d]
  rwa [if_pos (.inr d)] at h
 rw[if_neg (by omega)] at h
 simp only[zv,d]
 have ha:0≤a∧a<2048:=by
  apply y0q;intro hc;exact d (qp4.2 hc)
 refine F284.k3.to (qcn ⟨_,qe3 _ _ a (csz k) c,?_⟩)
 simp only[C.bo]
 rw[y0k ha.1]
 have:=Int.emod_nonneg a c
 have:=Int.emod_lt_of_pos a (show 0<csz k by omega)
 rw[qab (by omega)]
 exact h
theorem za4 {k a:Int} (h:K (.tuple #[.int .i64 (qfr k a).1,.bool (qfr k a).2]) w):C.i y5c 343 #[.int .i64 k,.int .i64 a] w K:=by
 refine F343.sh (qr3 ?_)
 unfold qfr at h
 by_cases c:qcx k a<0
 ·simp only[zv,c]
  rwa [if_pos (.inl c)] at h
 simp only[zv,c]
 by_cases d:qcx k a=a
 ·simp only[zv,eq_self,ne_eq,d,not_true_eq_false]
  rw[if_neg (by omega)] at h
  have c':=c
  have hk:¬(csz k=0∨qap a<0):=fun e=>by
   unfold qcx at c
   rw[if_pos e] at c
   omega
  have ha:0≤a∧a<2048:=by
   apply y0q;intro hc;exact hk (.inr (qp4.2 hc))
  have hs:=qjg k
  refine F343.k4.to (F346.sh (qfe ?_))
  simp only[zv,show ¬(qap a<0) from fun e=>hk (.inr e)]
  refine F346.k3.to ⟨_,qe3 _ _ a 32 (by decide),?_⟩
  refine qcn ⟨_,qcl _ _ _ (csz k) (fun e=>hk (.inl e)),?_⟩
  rw[y0k ha.1,y0i (by omega)]
  have h1:0≤a % 32 / csz k:=Int.ediv_nonneg (by omega) (by omega)
  have h2:a % 32 / csz k≤a % 32:=Int.ediv_le_self _ (by omega)
  rw[qab (by omega)]
  exact h
 ·simp only[zv,ne_eq,d,not_false_eq_true]
  rwa [if_pos (.inr d)] at h
theorem qtg {p k i:Int} (hp:0≤p∧p<64) (hi:0≤i∧i<qae k) (h:K (.tuple #[.int .i64 (gAt p k i).1,.bool true]) w):C.i y5c 249 #[.int .i64 p,.int .i64 k,.int .i64 i] w K:=by
 have hc:=qct k
 have hs:=qjg k
 have e:(gAt p k i).1=p*32+i*csz k:=by unfold gAt;rw[if_pos (by omega)]
 rw[e] at h
 refine F249.sh ?_
 simp only[zv,show ¬(p<0) by omega,show ¬(p≥64) by omega,show ¬(i<0) by omega]
 refine qm1 ?_
 simp only[zv,show ¬(i≥qae k) by omega]
 refine F249.k3.to ?_
 simp only[C.bp]
 refine qcn ?_
 simp only[zv]
 have h1:0≤i*csz k:=y3y hi.1 hs.1
 have h2:i*csz k≤16*16:=y3z (by omega) hs.2 hs.1 (by omega)
 rw[qab (n:=p*32) (by omega),qab (n:=i*csz k) (by omega),qab (n:=p*32+i*csz k) (by omega)]
 exact h
theorem qka {p n:Int} (hp:0≤p∧p<64) (hn:1≤n∧n≤64-p) (h:K (.tuple #[.int .i64 (p*32),.int .i64 ((p+n)*32-1),.bool true]) w):C.i y5c 177 #[.int .i64 p,.int .i64 n] w K:=by
 refine F177.sh ?_
 simp only[zv,show ¬(p<0) by omega,show ¬(n<1) by omega,show ¬(p≥64) by omega]
 rw[qab (n:=64-p) (by omega)]
 simp only[zv,show ¬(n>64-p) by omega]
 refine F177.k3.to ?_
 simp only[zv]
 rw[qab (n:=p*32) (by omega),qab (n:=p+n) (by omega),qab (n:=(p+n)*32) (by omega),qab (n:=(p+n)*32-1) (by omega)]
 exact h
theorem za7 {s n:Int} (h:∀ok,K (.tuple #[.int .i64 (qem s n),.bool ok]) w):C.i y5c 180 #[.int .i64 s,.int .i64 n] w K:=by
 refine F180.sh ?_
 unfold qem at h
 by_cases h1:s<0
 ·simp only[zv,h1]
  have:=h false;rwa [if_neg (by omega)] at this
 simp only[zv,h1]
 by_cases h2:s≥1099511627776
 ·simp only[zv,h2]
  have:=h false;rwa [if_neg (by omega)] at this
 simp only[zv,h2]
 by_cases h3:n<0
 ·simp only[zv,h3]
  have:=h false;rwa [if_neg (by omega)] at this
 simp only[zv,h3]
 by_cases h4:n>127
 ·simp only[zv,h4]
  have:=h false;rwa [if_neg (by omega)] at this
 simp only[zv,h4]
 refine F180.k3.to ?_
 simp only[zv]
 rw[qab (n:=s*128) (by omega),qab (n:=s*128+n) (by omega)]
 have:=h true;rwa [if_pos (by omega)] at this
theorem qxy {a:Int} (ha : -9223372036854775808≤a∧a≤9223372036854775807) (h:∀ok,K (.tuple #[.int .i64 (qf5 a).1,.int .i64 (qf5 a).2,.bool ok]) w):C.i y5c 199 #[.int .i64 a] w K:=by
 refine F199.sh ?_
 unfold qf5 at h
 by_cases h1:a<0
 ·simp only[zv,h1]
  have:=h false;rwa [if_neg (by omega)] at this
 simp only[zv,h1]
 refine⟨_,qcl _ _ a 128 (by decide),?_⟩
 rw[y0i (by omega),qab (by omega)]
 by_cases h2:a / 128≥1099511627776
 ·simp only[zv,h2]
  have:=h false;rwa [if_neg (by omega)] at this
 simp only[zv,h2]
 refine F199.k3.to ⟨_,qcl _ _ a 128 (by decide),_,qe3 _ _ a 128 (by decide),?_⟩
 rw[y0i (by omega),y0k (by omega),qab (by omega)]
 have:=h true;rwa [if_pos (by omega)] at this
end
def qag (l:List Int):List (List Value):=l.map fun n=>[.int .i64 n]
theorem qak (l:List Int):(qag l).length=l.length:=by simp[qag]
theorem qfj {l:List Int} {j:Nat} (h:j<l.length):(qag l)[j]?=some [.int .i64 l[j]]:=by simp[qag,h]
theorem qle (l k:List Int):qag (l ++ k)=qag l ++ qag k:=by simp[qag]
section
variable {K:VK} {w:World}
theorem C.bx {v:Value} {l:List Int} {k:IntKind} {i:Nat} (h:RdS w v 1 (qag l)) (hi:i<l.length) (hk:∀g o cs e fz,w.heap[g]?=some (.cells cs e fz)→cs[o]?=some (.int .i64 l[i])→K (.pointer (some ⟨g,o,none⟩)) w):
  C.bk 1 v (.int k (i:Int)) w K:=by
 refine C.bw h (by omega) (by rw[y2t];exact qfj hi) fun g o cs e fz hg _ hc=>hk g o cs e fz hg ?_
 have:=hc 0 (by omega)
 simpa using this
end
section
variable {P:Program} {K:VK} {w:World} {t ty e:TypeId} {sz bytes:Nat} {z:Value}
theorem C.ci {W0:World} {v src:Value} {xs ys:List (List Value)} (ht:P.underlying t=some (.slice e)) (hinfo:(P.info? e).map (fun i=>(i.zero,i.size,i.bytes))=some (some z,sz,bytes)) (hz:z.cells.size=sz) (hsz:0<sz)
  (hf:Fr [] W0 w) (hn:qaj W0 v) (hv:qad w v e sz xs) (hs:RdS w src sz ys) (h1:∀y∈ys,∀u∈y,u.oneCell'=true)
  (hb:(xs.length+ys.length)*bytes≤140737488355328) (hm:xs.length+ys.length≤9223372036854775807)
  (hk:∀v' w',Fr [] W0 w'→qaj W0 v'→qad w' v' e sz (xs ++ ys)→Fr (qaa v) w w'→(∀g∈qaa v',g∈qaa v∨w.heap.size≤g)→K v' w'):C.ay P (Builtin.append_ #[t,t] ty #[v,src]) w K:=by
 refine C.b7 ht hinfo hz hsz hv hs h1 hb hm fun v' w' ho hf' hbk _=>?_
 have hg:∀g∈qaa v',g∈qaa v∨w.heap.size≤g:=fun g hg=>by
  rw[qam] at hg
  rcases hbk with c | ⟨g',c,d⟩
  ·exact .inl (qam.2 (by rw[←c];exact hg))
  ·rw[hg] at c
   simp only[y2k] at c
   exact .inr (by omega)
 refine hk v' w' (hf.then hf' fun x hx => .inr (hn x (qam.1 hx))) (fun g hgg=>?_) ho hf' hg
 rcases hg g (qam.2 hgg) with c | c
 ·exact hn g (qam.1 c)
 ·have:=hf.size;omega
theorem C.cp {W0:World} {v xv:Value} {xs:List (List Value)} {x:List Value} (ht:P.underlying t=some (.slice e)) (hinfo:(P.info? e).map (fun i=>(i.zero,i.size,i.bytes))=some (some z,sz,bytes)) (hz:z.cells.size=sz) (hsz:0<sz)
  (hbs:(Instr.buildSlice t 1 #[(0,xv)]).run P w = .ok (.slice (some ⟨w.heap.size,0,none⟩) 1 1) (w.alloc (.cells x.toArray e))) (hx:x.length=sz) (hone:∀u∈x,u.oneCell'=true)
  (hf:Fr [] W0 w) (hn:qaj W0 v) (hv:qad w v e sz xs) (hb:(xs.length+1)*bytes≤140737488355328) (hm:xs.length+1≤9223372036854775807)
  (hk:∀v' w',Fr [] W0 w'→qaj W0 v'→qad w' v' e sz (xs ++ [x])→Fr (qaa v) w w'→(∀g∈qaa v',g∈qaa v∨w.heap.size≤g)→K v' w'):
  C.ay P (Instr.buildSlice t 1 #[(0,xv)]) w fun y w1=>C.ay P (Builtin.append_ #[t,t] ty #[v,y]) w1 K:=by
 refine C.a4 hbs ?_
 have hw:=New.mk' w (.cells x.toArray e)
 refine C.ci (ys:=[x]) ht hinfo hz hsz (hf.trans hw.fr) hn (hv.keep hw.fr (by simp)) (RdS.of_block hw.at_ rfl (by simp) (by simp) (by simpa using hx) (by simp[←hx])) (by simpa using hone) (by simpa using hb) (by simpa using hm) fun v' w' a b c d e'=>hk v' w' a b c (hw.fr.w.trans d) fun g hg=>?_
 rcases e' g hg with c | c
 ·exact .inl c
 ·have:=hw.fr.size;exact .inr (by omega)
end
end Go.Proofs.YtcakfaakbpdklaaGreatDoorV
namespace Go.Proofs.YtcakfaakbpdklaaGreatDoorV
open Go Go.RowKit
open Go.Proofs.Tryz renaming prog→y5c
theorem qad.ne {w:World} {v v':Value} {e e':TypeId} {sz sz':Nat} {xs ys:List (List Value)} (h:qad w v e sz xs) (h':qad w v' e' sz' ys) (he:e≠e'):∀g∈qaa v,g∉qaa v':=by
 intro g hg hg'
 rw[qam] at hg hg'
 obtain⟨⟨_,h3⟩,_⟩:=h
 obtain⟨⟨_,h3'⟩,_⟩:=h'
 rcases h3 with⟨rfl,_⟩ | ⟨k,cap,cur,rfl,_,hh,_⟩
 ·simp[Value.ownBlock] at hg
 ·rcases h3' with⟨rfl,_⟩ | ⟨k',cap',cur',rfl,_,hh',_⟩
  ·simp[Value.ownBlock] at hg'
  ·simp only[Value.ownBlock,y2k] at hg hg'
   rw[hg] at hh
   rw[hg',hh] at hh'
   simp only[y2k,Obj.cells.injEq] at hh'
   exact he hh'.2.1
theorem qad.nb {w:World} {v:Value} {e:TypeId} {sz:Nat} {xs:List (List Value)} {g:Nat} {cs:Array Value} {e':TypeId} {fz:Nat × Nat} (h:qad w v e sz xs) (hg:w.heap[g]?=some (.cells cs e' fz)) (he:e≠e'):g∉qaa v:=by
 intro hg'
 rw[qam] at hg'
 obtain⟨⟨_,h3⟩,_⟩:=h
 rcases h3 with⟨rfl,_⟩ | ⟨k,cap,cur,rfl,_,hh,_⟩
 ·simp[Value.ownBlock] at hg'
 ·simp only[Value.ownBlock,y2k] at hg'
  rw[hg',hg] at hh
  simp only[y2k,Obj.cells.injEq] at hh
  exact he hh.2.1.symm
end Go.Proofs.YtcakfaakbpdklaaGreatDoorV
namespace Go.Proofs.YtcakfaakbpdklaaGreatDoorV
open Go Go.Proofs Go.RowKit
open Go.Proofs.Tryz renaming prog→y5c
theorem qkp {w:World} {l:Nat} {o o':Obj} (h:w.heap[l]?=some o'):Upd w l o (w.putObj l o):=by
 have hl:=qac h
 refine⟨⟨rfl,rfl,rfl,by simp[World.putObj],fun b hb hS=>?_⟩,?_,by simp[World.putObj]⟩
 ·simp only[y2d] at hS
  simp[World.putObj,Ne.symm hS]
 ·simp[World.putObj,hl]
theorem qwq:∀ {env:Env} {t:Nat} {v:Value},lk env t=some v→(t,v)∈env
 | [],t,v,h=>by simp[lk] at h
 | (s,u) :: env,t,v,h=>by
  simp only[lk] at h
  cases hb:Nat.beq s t with
  | true=>
   rw[hb] at h
   simp only[cond_true,y2k] at h
   rw[y1h hb] at *
   rw[h];simp
  | false=>
   rw[hb] at h
   simp only[cond_false] at h
   exact List.mem_cons_of_mem _ (qwq h)
theorem qwb {tmps:Array Value} {env:Env} (h:∀x∈env,tmps[x.1]?=some x.2):∀t v,lkT env t=some v→tmps[t]?=some v:=fun t v ht=>h (t,v) (qwq (qg2 ht).2)
section
variable {K:VK} {w:World}
theorem bsI (a:Int):(Instr.buildSlice 54 1 #[(0,.int .i64 a)]).run y5c w = .ok (.slice (some ⟨w.heap.size,0,none⟩) 1 1) (w.alloc (.cells #[.int .i64 a] 3)):=by kernel_rfl
theorem qp8 {l:List Int}:∀y∈qag l,∀u∈y,u.oneCell'=true:=by
 intro y hy u hu
 simp only[qag,y4l] at hy
 obtain⟨x,_,rfl⟩:=hy
 simp only[y4b,y3i,or_false] at hu
 subst hu
 rfl
theorem C.cu {W0:World} {v:Value} {l:List Int} {n:Int} (hf:Fr [] W0 w) (hn:qaj W0 v) (hv:qad w v 3 1 (qag l)) (hl:l.length≤17592186044415)
  (hk:∀v' w',Fr [] W0 w'→qaj W0 v'→qad w' v' 3 1 (qag (l ++ [n]))→Fr (qaa v) w w'→(∀g∈qaa v',g∈qaa v∨w.heap.size≤g)→K v' w'):
  C.ay y5c (Instr.buildSlice 54 1 #[(0,.int .i64 n)]) w fun x w1=>C.ay y5c (Builtin.append_ #[54,54] 54 #[v,x]) w1 K:=
 C.cp (x:=[.int .i64 n]) (e:=3) (sz:=1) (bytes:=8) (z := .int .i64 0) Tryz.underlying54 (by kernel_rfl) rfl (by decide) (bsI n) rfl (by simp[Value.oneCell']) hf hn hv (by rw[qak];omega) (by rw[qak];omega) fun v' w' a b c d e=>hk v' w' a b (by rw[qle];exact c) d e
def qia (w:World):World:={ w with heap := #[] }
theorem qhz (w:World):Fr [] (qia w) w:=⟨rfl,rfl,rfl,by simp[qia],fun i hi=>by simp[qia] at hi⟩
theorem qg5 (w:World) (v:Value):qaj (qia w) v:=fun g _=>by simp[qia]
theorem C.cx {v:Value} {l:List Int} {n:Int} (hv:qad w v 3 1 (qag l)) (hl:l.length≤17592186044415)
  (hk:∀v' w',qad w' v' 3 1 (qag (l ++ [n]))→Fr (qaa v) w w'→(∀g∈qaa v',g∈qaa v∨w.heap.size≤g)→K v' w'):
  C.ay y5c (Instr.buildSlice 54 1 #[(0,.int .i64 n)]) w fun x w1=>C.ay y5c (Builtin.append_ #[54,54] 54 #[v,x]) w1 K:=
 C.cu (qhz w) (qg5 w v) hv hl fun v' w' _ _ a b c=>hk v' w' a b c
end
theorem qng {W0 w:World} {v v':Value} (h:qaj W0 v) (hs:W0.heap.size≤w.heap.size) (hg:∀g∈qaa v',g∈qaa v∨w.heap.size≤g):qaj W0 v':=fun g hx=>by
 rcases hg g (qam.2 hx) with c | c
 ·exact h.blk g c
 ·omega
theorem qad.no {w:World} {v:Value} {e:TypeId} {sz:Nat} {xs:List (List Value)} {b:Nat} {o:Obj} (h:qad w v e sz xs) (hb:w.heap[b]?=some o) (hne:∀cs e' fz,o ≠ .cells cs e' fz):b∉qaa v:=fun hg=>by
 obtain⟨⟨_,hx⟩,_⟩:=h
 rcases hx with⟨e,_⟩ | ⟨k,cap,cur,e,_,hh,_⟩
 ·rw[e] at hg;simp[qaa,Value.ownBlock] at hg
 ·rw[e] at hg
  simp[qaa,Value.ownBlock] at hg
  subst hg
  rw[hb] at hh
  exact hne _ _ _ (y3k hh)
end Go.Proofs.YtcakfaakbpdklaaGreatDoorV
