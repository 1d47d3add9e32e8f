/- Part 3 of what the law needs: own lemmas, in the order in which they build. -/
import Derived.Test.YtcakfaakbpdklaaGreatDoorTopFrees02
set_option linter.unusedSimpArgs false
set_option linter.unusedVariables false
namespace Go.Proofs.YtcakfaakbpdklaaGreatDoorV
open Go Go.Proofs Go.RowKit
theorem qp3 {p i:Nat} {k:Int} (hp:p<64) (hi:(i:Int)<qae k):gAt (p:Int) k (i:Int)=((p:Int)*32+i*csz k,true):=by
 unfold gAt
 rw[if_pos (by omega)]
theorem qiz {k:Int} {p i j:Nat} (h0:0<csz k) (h:(p:Int)*32+i*csz k=(p:Int)*32+j*csz k):i=j:=by
 rcases qcw k with⟨_,e,_⟩ | ⟨_,e,_⟩ | ⟨_,e,_⟩ | ⟨_,e,_⟩ | ⟨_,e,_⟩ <;> rw[e] at h h0 <;> omega
theorem qkm {k:Int} {p i:Nat} (hi:(i:Int)<qae k):0<csz k∧32*(p:Int)≤(p:Int)*32+i*csz k∧(p:Int)*32+i*csz k+csz k≤32*p+32:=by
 rcases qcw k with⟨_,e,f⟩ | ⟨_,e,f⟩ | ⟨_,e,f⟩ | ⟨_,e,f⟩ | ⟨_,e,f⟩ <;> rw[f] at hi <;> rw[e] <;> omega
theorem qn3 (m:List Int) (p k i x:Int):(qe8 m p k i x).length=m.length:=qc0 _ _ _
theorem qmf {m:List Int} {p i:Nat} {k x:Int} (hp:p<64) (hi:(i:Int)<qae k) (hm:p*32+31<m.length) {y:Int} (h0:0≤y) (hy:y<m.length):qao (qe8 m p k i x) y=if y=(p:Int)*32+i*csz k then -1-x else qao m y:=by
 have hs:=qkm (p:=p) hi
 unfold qe8
 rw[qp3 hp hi]
 exact qft (by simp only;omega) (by simp only;omega) h0 hy
theorem qky {m:List Int} {p:Nat} {k:Int} (hp:p<64) (hm:p*32+31<m.length):∀(n:Nat),(n:Int)≤qae k→(qcy m p k n).length=m.length∧(∀j:Nat,j<n→qao (qcy m p k n) ((p:Int)*32+j*csz k) = -1-((j+1:Nat):Int))∧∀y:Int,0≤y→y<m.length→(∀j:Nat,j<n→y≠(p:Int)*32+j*csz k)→qao (qcy m p k n) y=qao m y
 | 0,_=>⟨rfl,fun j h=>by omega,fun y _ _ _=>rfl⟩
 | n+1,hn=>by
  obtain⟨h1,h2,h3⟩:=qky (m:=m) (k:=k) hp hm n (by omega)
  have hi:(n:Int)<qae k:=by omega
  have e:∀y:Int,0≤y→y<m.length→qao (qcy m p k (n+1)) y=if y=(p:Int)*32+n*csz k then -1-((n+1:Nat):Int) else qao (qcy m p k n) y:=fun y a b=>
   qmf (x:=((n+1:Nat):Int)) hp hi (by omega) a (by omega)
  refine⟨(qn3 _ _ _ _ _).trans h1,fun j hj=>?_,fun y a b c=>?_⟩
  ·have hs:=qkm (p:=p) (k:=k) (i:=j) (by omega)
   rw[e _ (by omega) (by omega)]
   by_cases q:j=n
   ·subst q;rw[if_pos rfl]
   ·rw[if_neg fun q'=>q (qiz hs.1 q'),h2 j (by omega)]
  ·rw[e y a b,if_neg (c n (by omega)),h3 y a b fun j hj=>c j (by omega)]
theorem qn9 {m:List Int} {p:Nat} {k:Int} {n:Nat} (hn:(n:Int)=qae k) (h:∀j:Nat,j<n→qao m ((p:Int)*32+j*csz k) = -1-((j+1:Nat):Int)):∀(d i:Nat),i+d=n→qf0 m p k i ((List.range d).map (i + ·))
 | 0,i,e=>by show (i:Int)=qae k;omega
 | d+1,i,e=>by
  rw[List.range_succ_eq_map,y4a,List.map_map]
  refine⟨by simp,((i+1:Nat):Int),?_,?_⟩
  ·have:=h i (by omega)
   simp only[y4j]
   rw[←this];congr 1;omega
  ·have:=qn9 hn h d (i+1) (by omega)
   have e2:(fun x=>i+x) ∘ Nat.succ=fun x=>i+1+x:=by funext x;simp;omega
   rw[e2];exact this
def qav (c c':Ce) (b:Nat):Prop:=c'.tk b=c.tk b∧(c.tk b=true→c'.rsz b=c.rsz b∧∀x:Nat,b≤x→x<b+c.rsz b→qao c'.m (x:Int)=qao c.m (x:Int))
theorem qav.refl (c:Ce) (b:Nat):qav c c b:=⟨rfl,fun _=>⟨rfl,fun _ _ _=>rfl⟩⟩
theorem qav.trans {c c' c'':Ce} {b:Nat} (h:qav c c' b) (g:qav c' c'' b):qav c c'' b:=
 ⟨g.1.trans h.1,fun hb=>⟨(g.2 (by rw[h.1,hb])).1.trans (h.2 hb).1,fun x a1 a2=>((g.2 (by rw[h.1,hb])).2 x a1 (by rw[(h.2 hb).1];exact a2)).trans ((h.2 hb).2 x a1 a2)⟩⟩
theorem qav.symm {c c':Ce} {b:Nat} (h:qav c c' b):qav c' c b:=
 ⟨h.1.symm,fun hb=>⟨((h.2 (by rw[←h.1,hb])).1).symm,fun x a1 a2=>((h.2 (by rw[←h.1,hb])).2 x a1 (by rw[←(h.2 (by rw[←h.1,hb])).1];exact a2)).symm⟩⟩
theorem qav.obj' {c c':Ce} {b:Nat} {ser:Int} {fs:List V2} (h:qav c c' b) (o:qa3 c b ser fs):qa3 c' b ser fs:=by
 obtain⟨h1,h2⟩:=h.2 o.tk
 have hl:=o.len
 exact⟨by rw[h.1];exact o.tk,by rw[h2 b (by omega) (by omega)];exact o.head,o.ser,by rw[h1];exact hl,fun i hi=>⟨(o.fld i hi).1,by rw[h2 _ (by omega) (by omega)];exact (o.fld i hi).2⟩⟩
theorem qav.obj {c c':Ce} {b:Nat} {ser:Int} {fs:List V2} (h:qav c c' b):qa3 c' b ser fs↔qa3 c b ser fs:=⟨h.symm.obj',h.obj'⟩
section
variable {c:Ce}
theorem qb1 {c:Ce} {ks m:List Int} {tk:Bs} {p:Nat} {v:Int × Int} (hp:p<c.ch.length) (q:Nat):(⟨ks,m,c.ch.set p v,tk⟩:Ce).chain (q:Int)=if q=p then v else c.chain (q:Int):=by
 unfold Ce.chain
 simp only[y2t,y0h,y2u]
 by_cases e:p=q
 ·subst e;simp[hp]
 ·rw[if_neg e,if_neg (Ne.symm e)]
theorem qua {ks:List Int} {k:Int} {p:Nat} (h:qeq ks k=some p):csz k≠0∧p<ks.length∧kAt ks (p:Int)=0:=by
 unfold qeq at h
 split at h
 ·cases h
 rename_i h0
 obtain⟨h1,h2,_⟩:=y0a.1 h
 exact⟨h0,h1,by rw[qet h1];simpa using h2⟩
theorem qiv {c c':Ce} {b:Nat} (h5:kAt c'.ks ((b / 32:Nat):Int)=kAt c.ks ((b / 32:Nat):Int)) (hs:kAt c.ks ((b / 32:Nat):Int)=5→qaq c'.ks ((b / 32:Nat):Int)=qaq c.ks ((b / 32:Nat):Int)):c'.rsz b=c.rsz b:=by
 unfold Ce.rsz
 rw[h5]
 by_cases e:kAt c.ks ((b / 32:Nat):Int)=5
 ·rw[if_pos e,if_pos e,hs e]
 ·rw[if_neg e,if_neg e]
theorem qik {ks:List Int} {p n:Nat} (h:kAt ks (p:Int)=5) (h1:1≤n) (h2:∀i,i+1<n→kAt ks ((p+1+i:Nat):Int)=6) (h3:kAt ks ((p+n:Nat):Int)≠6):qaq ks (p:Int)=n:=by
 unfold qaq
 rw[h,if_neg (by decide),if_pos rfl,y2t,qy8 (ks.drop (p+1)) (n-1)]
 ·omega
 ·intro i hi
  have:=h2 i (by omega)
  rw[y2h]
  rw[qii] at this
  cases hx:ks[p+1+i]? with
  | none=>rw[hx] at this;simp at this
  | some x=>rw[hx] at this;simp at this;rw[this]
 ·intro hc
  rw[y2h,show p+1+(n-1)=p+n by omega] at hc
  rw[qii,hc] at h3
  exact h3 rfl
theorem qmh {ks ks':List Int} {p:Nat} (h:kAt ks (p:Int)=5) (hk:∀q:Nat,kAt ks (q:Int)≠0→kAt ks' (q:Int)=kAt ks (q:Int)) (h6:∀q:Nat,kAt ks' (q:Int)=6→kAt ks (q:Int)≠6→1≤q∧kAt ks ((q-1:Nat):Int)=0):qaq ks' (p:Int)=qaq ks (p:Int):=by
 obtain⟨s1,s2,s3,s4⟩:=qcj h
 refine qik (by rw[hk p (by rw[h];decide),h]) s1 (fun i hi=>by rw[hk _ (by rw[s3 i hi];decide),s3 i hi]) fun hc=>?_
 obtain⟨g1,g2⟩:=h6 _ hc s4
 by_cases e:qaq ks (p:Int)=1
 ·rw[e,show p+1-1=p by omega,h] at g2;cases g2
 ·have:=s3 (qaq ks (p:Int)-2) (by omega)
  rw[show p+1+(qaq ks (p:Int)-2)=p+qaq ks (p:Int)-1 by omega,g2] at this
  cases this
theorem CI.tk_kind (h:CI c) {a:Nat} (ha:c.tk a=true):kAt c.ks ((a / 32:Nat):Int)≠0∧kAt c.ks ((a / 32:Nat):Int)≠6:=by
 obtain⟨_,⟨hk,_⟩ | ⟨hk,_⟩⟩:=h.tk a ha
 ·exact⟨fun e=>by rw[e] at hk;exact absurd hk (by decide),fun e=>by rw[e] at hk;exact absurd hk (by decide)⟩
 ·rw[hk];exact⟨by decide,by decide⟩
theorem CI.end_small (h:CI c) {a x:Nat} (ha:c.tk a=true) (h0:0<csz (kAt c.ks ((a / 32:Nat):Int))) (h1:a≤x) (h2:x<a+c.rsz a):x / 32=a / 32:=by
 obtain⟨_,⟨hk,hm⟩ | ⟨hk,_⟩⟩:=h.tk a ha
 ·unfold Ce.rsz at h2
  rw[if_neg (fun e=>by rw[e,qid] at hk;omega)] at h2
  exact (qgz hk hm h1 h2).1
 ·rw[hk] at h0;exact absurd h0 (by decide)
theorem CI.word_kind (h:CI c) {a x:Nat} (ha:c.tk a=true) (h1:a≤x) (h2:x<a+c.rsz a):kAt c.ks ((x / 32:Nat):Int)=kAt c.ks ((a / 32:Nat):Int)∨kAt c.ks ((x / 32:Nat):Int)=6:=by
 obtain⟨_,⟨hk,hm⟩ | ⟨hk,hm⟩⟩:=h.tk a ha
 ·rw[h.end_small ha hk h1 h2];exact .inl rfl
 ·unfold Ce.rsz at h2
  rw[if_pos hk] at h2
  obtain⟨s1,s2,s3,s4⟩:=qcj hk
  by_cases e:x / 32=a / 32
  ·rw[e];exact .inl rfl
  ·right
   have:=s3 (x / 32-a / 32-1) (by omega)
   rw[show a / 32+1+(x / 32-a / 32-1)=x / 32 by omega] at this
   exact this
theorem CI.carve (h:CI c) {k:Int} {p:Nat} (hk:qeq c.ks k=some p):CI (c.carve k).1∧(c.carve k).2=some p∧(∀b,qav c (c.carve k).1 b)∧(c.carve k).1.ks=c.ks.set p k∧kAt c.ks (p:Int)=0∧p<c.ks.length:=by
 obtain⟨h0,hp,hz⟩:=qua hk
 have hml:=h.ml
 have hnp:=h.np
 have hcl:=h.cl
 have hcs:=qcw k
 have hc0:0<qae k∧0<csz k∧qae k*csz k=32∧k≠5∧k≠6∧0<k:=by
  rcases hcs with⟨_,e,f⟩ | ⟨_,e,f⟩ | ⟨_,e,f⟩ | ⟨_,e,f⟩ | ⟨_,e,f⟩ <;> rw[e] at h0 ⊢ <;> rw[f] <;> omega
 have hopen:qd3 c.m p k:=⟨by omega,by omega,hc0.1,by omega⟩
 have hb:qb8 c.m p k=(qcy (qba c.m ((p:Int)*32) 32 0) p k (qae k).toNat,(0,qae k)):=by unfold qb8;rw[if_pos hopen]
 have ec:c.carve k=({ c with ks:=c.ks.set p k,m:=(qb8 c.m p k).1,ch:=c.ch.set p (qb8 c.m p k).2 },some p):=by unfold Ce.carve;rw[hk]
 have hfl:=qbs c.m ((p:Int)*32) 32 0
 obtain⟨l1,l2,l3⟩:=qky (m:=qba c.m ((p:Int)*32) 32 0) (p:=p) (k:=k) (by omega) (by omega) (qae k).toNat (by omega)
 generalize hM:qcy (qba c.m ((p:Int)*32) 32 0) p k (qae k).toNat=M at *
 have hoff:∀x:Nat,x<c.m.length→x / 32≠p→qao M (x:Int)=qao c.m (x:Int):=fun x hx hne=>by
  rw[l3 x (by omega) (by omega) fun j hj=>?_,qgj (by unfold mIn;omega) (by omega) (by omega),if_neg (by omega)]
  have hs:=qkm (p:=p) (k:=k) (i:=j) (by omega)
  omega
 have hkq:∀q:Nat,kAt (c.ks.set p k) (q:Int)=if q=p then k else kAt c.ks (q:Int):=fun q=>qnb q hp
 have hno:∀a,c.tk a=true→a / 32≠p:=fun a ha e=>(h.tk_kind ha).1 (by rw[e,hz])
 rw[ec,hb]
 refine⟨⟨by simp[h.np],by simp only[y3r];rw[l1,hfl];exact hml,by simp[hcl],fun a ha=>?_,fun q hq=>?_,fun q hq=>?_⟩,rfl,fun b=>⟨rfl,fun hb=>⟨qiv ?_ fun h5=>qmh h5 (fun q hq=>?_) fun q hq h6=>?_,fun x h1 h2=>?_⟩⟩,rfl,hz,hp⟩
 ·simp only[y3r]
  rw[hkq,if_neg (hno a ha)]
  exact h.tk a ha
 ·simp only at hq ⊢
  rw[hkq] at hq
  by_cases e:q=p
  ·rw[if_pos e] at hq;exact absurd hq hc0.2.2.2.2.1
  ·rw[if_neg e] at hq
   have:=h.six q hq
   refine⟨this.1,?_⟩
   rw[hkq,if_neg]
   ·exact this.2
   ·intro e2;rw[e2,hz] at this;rcases this.2 with g | g <;> cases g
 ·simp only at hq ⊢
  rw[hkq] at hq ⊢
  by_cases e:q=p
  ·subst e
   rw[if_pos rfl]
   refine⟨(List.range (qae k).toNat).map (0 + ·),?_,fun i=>?_,?_,?_⟩
   ·simpa using List.nodup_range
   ·simp only[y4k,List.map_id',y3x]
    constructor
    ·intro hi
     refine⟨by omega,?_⟩
     cases ht:c.tk (32*q+i*(csz k).toNat) with
     | false=>rfl
     | true=>
      exfalso
      have hs:=qkm (p:=q) (k:=k) (i:=i) (by omega)
      have:((i*(csz k).toNat:Nat):Int)=i*csz k:=by rw[Int.natCast_mul,y1z (by omega)]
      exact hno _ ht (by omega)
    ·rintro⟨hi,_⟩;omega
   ·rw[qb1 (by omega),if_pos rfl]
    exact qn9 (n:=(qae k).toNat) (by omega) l2 _ 0 (by omega)
   ·rw[qb1 (by omega),if_pos rfl];simp;omega
  ·rw[if_neg e] at hq ⊢
   obtain⟨L,hL⟩:=h.fr q hq
   have hql:=qg0 (ks:=c.ks) (p:=q) (by intro e;rw[e] at hq;revert hq;decide)
   refine⟨L,hL.nd,hL.mem,?_,?_⟩
   ·rw[qb1 (by omega),if_neg e]
    refine hL.ch.keep fun i hi=>?_
    obtain⟨q1,q2⟩:=(hL.mem i).1 hi
    obtain⟨e1,_,_,e4,e5⟩:=qaz (ks:=c.ks) (p:=q) (i:=i) rfl hq q1
    rw[←e4]
    exact hoff _ (by omega) (by omega)
   ·rw[qb1 (by omega),if_neg e];exact hL.n
 ·simp only;rw[hkq,if_neg (hno b hb)]
 ·rw[hkq,if_neg];intro e;rw[e,hz] at hq;exact hq rfl
 ·rw[hkq] at hq
  by_cases e:q=p
  ·rw[if_pos e] at hq;exact absurd hq hc0.2.2.2.2.1
  ·rw[if_neg e] at hq;exact absurd hq h6
 ·have:=(h.rsz_pos hb).2
  refine hoff x (by omega) fun e=>?_
  rcases h.word_kind hb h1 h2 with g | g
  ·rw[e,hz] at g;exact (h.tk_kind hb).1 g.symm
  ·rw[e,hz] at g;cases g
end
structure qx3 (c c':Ce) (a n:Nat):Prop where
 off:c.tk a=false
 on:c'.tk a=true
 kept:∀b,b≠a→qav c c' b
 rsz:c'.rsz a=n
 zero:∀x:Nat,a≤x→x<a+n→qao c'.m (x:Int)=0
section
variable {c:Ce}
theorem qkz {m:List Int} {p:Nat} {k x:Int} {L:List Nat} (h:qf0 m p k x L) (hL:∀i∈L,(i:Int)<qae k) (h0:0≤qae k):0≤x∧x≤qae k:=by
 cases L with
 | nil=>have:x=qae k:=h;omega
 | cons j L=>have e:x=j:=h.1;have:=hL j (by simp);omega
theorem CI.left_eq (h:CI c) {p:Nat} (hs:0<csz (kAt c.ks (p:Int))) {L:List Nat} (hL:qlz c p (kAt c.ks (p:Int)) L):c.left (p:Int)=L.length:=by
 unfold Ce.left Ce.small
 rw[if_pos (by simpa using hs),hL.n]
theorem CI.take (h:CI c) (p:Int):(c.take p=(c,none)∧c.left p=0)∨∃(q a:Nat) (c':Ce),p=q∧q<c.ks.length∧0<csz (kAt c.ks (q:Int))∧c.take p=(c',some (a:Int))∧CI c'∧qx3 c c' a (csz (kAt c.ks (q:Int))).toNat∧c'.ks=c.ks∧a / 32=q:=by
 by_cases h0:c.left p=0
 ·left
  refine⟨?_,h0⟩
  unfold Ce.take;rw[if_pos h0]
 right
 have hsm:0<csz (kAt c.ks p):=by
  apply y0q
  intro hc
  apply h0
  unfold Ce.left Ce.small
  rw[if_neg (by simpa using hc)]
 have hp0:0≤p∧p<c.ks.length:=by
  apply y0q
  intro hc
  rw[qck hc] at hsm
  exact absurd hsm (by decide)
 obtain⟨q,rfl⟩:=y1b hp0.1
 have hml:=h.ml
 have hnp:=h.np
 have hcl:=h.cl
 obtain⟨L,hL⟩:=h.fr q hsm
 rw[h.left_eq hsm hL] at h0
 generalize hkd:kAt c.ks (q:Int)=k at *
 obtain⟨nd,mem,ch,hn⟩:=hL
 cases L with
 | nil=>exact absurd rfl h0
 | cons i L=>
  obtain⟨c1,x,c2,c3⟩:=ch
  obtain⟨m1,m2⟩:=(mem i).1 (by simp)
  have hc0:0<qae k:=by omega
  have hx:=qkz c3 (fun j hj=>((mem j).1 (by simp[hj])).1) (by omega)
  obtain⟨e1,e2,e3,e4,e5⟩:=qaz hkd hsm m1
  have e4':(q:Int)*32+i*csz k=((32*q+i*(csz k).toNat:Nat):Int):=by omega
  have hop:qd3 c.m (q:Int) k:=⟨by omega,by omega,hc0,by omega⟩
  have hnx:qkj c.m (q:Int) k (i:Int)=some x:=by
   unfold qkj
   rw[qp3 (by omega) m1]
   simp only
   rw[show (q:Int)*32+i*csz k=32*q+i*csz k by omega,c2,if_neg (by omega)]
   congr 1;omega
  have ht:qch c.m (q:Int) k (c.chain q)=((i:Int),(x,(c.chain q).2-1)):=by
   unfold qch
   rw[c1,if_pos ⟨hop,by simp only[hn,y3a];omega,by omega,m1⟩,hnx]
  generalize ha:32*q+i*(csz k).toNat=a at *
  have hsz:0≤csz k∧((csz k).toNat:Int)=csz k:=by omega
  have hst:c.take (q:Int)=({ c with ch:=c.ch.set q (x,(c.chain q).2-1),tk:=qay c.tk a true,m:=qba c.m (a:Int) (csz k) 0 },some (a:Int)):=by
   have hne:¬c.left (q:Int)=0:=by
    unfold Ce.left Ce.small
    rw[hkd,if_pos (by simpa using hsm),hn];simp only[y3a];omega
   unfold Ce.take
   rw[if_neg hne]
   simp only[hkd,ht,qp3 (p:=q) (by omega) m1,e4',y2t]
   unfold qjd Ce.n
   rw[if_pos (by omega),y2t]
  have htk:∀b,(qay c.tk a true) b=if b=a then true else c.tk b:=fun b=>rfl
  have hfill:∀y:Nat,y<c.m.length→qao (qba c.m (a:Int) (csz k) 0) (y:Int)=if a≤y∧y<a+(csz k).toNat then 0 else qao c.m (y:Int):=fun y hy=>by
   rw[qgj (by unfold mIn;omega) (by omega) (by omega)]
   by_cases cc:a≤y∧y<a+(csz k).toNat
   ·rw[if_pos (by omega),if_pos cc]
   ·rw[if_neg (by omega),if_neg cc]
  refine⟨q,a,_,rfl,by omega,by rw[hkd];exact hsm,hst,⟨hnp,by simp only;rw[qbs];exact hml,by simp[hcl],fun b hb=>?_,h.six,fun p' hp'=>?_⟩,⟨m2,by simp only;rw[htk,if_pos rfl],fun b hb=>⟨by simp only;rw[htk,if_neg hb],fun tb=>⟨rfl,fun y y1 y2=>?_⟩⟩,?_,fun y y1 y2=>?_⟩,rfl,by omega⟩
  ·simp only at hb ⊢
   rw[htk] at hb
   by_cases e:b=a
   ·subst e
    rw[e1,hkd]
    exact⟨by omega,.inl ⟨hsm,e2⟩⟩
   ·rw[if_neg e] at hb;exact h.tk b hb
  ·simp only at hp' ⊢
   by_cases e:p'=q
   ·subst e
    rw[hkd]
    have hni:i∉L:=(y3s.1 nd).1
    refine⟨L,(y3s.1 nd).2,fun j=>?_,?_,?_⟩
    ·simp only[htk]
     constructor
     ·intro hj
      obtain⟨g1,g2⟩:=(mem j).1 (by simp[hj])
      refine⟨g1,?_⟩
      rw[if_neg,g2]
      intro e
      have:j=i:=qiz (k:=k) (p:=p') hsm (by
       have:=(qaz hkd hsm g1).2.2.2.1
       omega)
      subst this;exact hni hj
     ·rintro⟨g1,g2⟩
      by_cases e:32*p'+j*(csz k).toNat=a
      ·rw[if_pos e] at g2;cases g2
      ·rw[if_neg e] at g2
       have:=(mem j).2 ⟨g1,g2⟩
       rcases y4b.1 this with rfl | g
       ·exact absurd ha e
       ·exact g
    ·rw[qb1 (by omega),if_pos rfl]
     refine c3.keep fun j hj=>?_
     obtain⟨g1,g2⟩:=(mem j).1 (by simp[hj])
     obtain⟨f1,f2,f3,f4,f5⟩:=qaz hkd hsm g1
     have hji:j≠i:=fun e=>hni (e ▸ hj)
     rw[←f4,hfill _ (by omega),if_neg]
     intro cc
     obtain⟨_,z⟩:=qgz hsm e2 cc.1 cc.2
     have:32*p'+j*(csz k).toNat=a:=by omega
     exact hji (qiz (k:=k) (p:=p') hsm (by omega))
    ·rw[qb1 (by omega),if_pos rfl,hn];simp
   ·obtain⟨L',hL'⟩:=h.fr p' hp'
    have hql:=qg0 (ks:=c.ks) (p:=p') (by intro e;rw[e] at hp';revert hp';decide)
    refine⟨L',hL'.nd,fun j=>?_,?_,?_⟩
    ·rw[hL'.mem j]
     simp only[htk]
     constructor
     ·rintro⟨g1,g2⟩
      have:=(qaz rfl hp' g1).1
      exact⟨g1,by rw[if_neg (fun e=>by rw[e] at this;omega)];exact g2⟩
     ·rintro⟨g1,g2⟩
      have:=(qaz rfl hp' g1).1
      rw[if_neg (fun e=>by rw[e] at this;omega)] at g2
      exact⟨g1,g2⟩
    ·rw[qb1 (by omega),if_neg e]
     refine hL'.ch.keep fun j hj=>?_
     obtain⟨q1,q2⟩:=(hL'.mem j).1 hj
     obtain⟨g1,_,_,g4,g5⟩:=qaz rfl hp' q1
     rw[←g4,hfill _ (by omega),if_neg (by omega)]
    ·rw[qb1 (by omega),if_neg e];exact hL'.n
  ·have:=(h.rsz_pos tb).2
   rw[hfill y (by omega),if_neg]
   intro cc
   obtain⟨z1,z⟩:=qgz hsm e2 cc.1 cc.2
   have g:=h.home_in tb y1 y2
   rw[qih (by rw[z1,e1,hkd];exact hsm),z1,e1,hkd,z] at g
   omega
  ·show Ce.rsz _ a=_
   unfold Ce.rsz
   simp only
   rw[e1,hkd,if_neg (fun e=>by rw[e,qid] at hsm;omega)]
  ·rw[hkd] at y2
   rw[hfill y (by omega),if_pos ⟨y1,y2⟩]
theorem qg1 (n:Nat):∀(l:List Int) (p run s:Nat),qde n l p run=some s→run≤p→p-run≤s∧∀i,i<n→(p-run≤s+i∧s+i<p)∨(p≤s+i∧l[s+i-p]?=some 0)
 | [],p,run,s,h,hr=>by
  unfold qde at h
  split at h
  ·cases h;exact⟨by omega,fun i hi => .inl (by omega)⟩
  ·cases h
 | k :: ks,p,run,s,h,hr=>by
  unfold qde at h
  split at h
  ·rename_i hk
   obtain⟨g1,g2⟩:=qg1 n ks (p+1) (run+1) s h (by omega)
   refine⟨by omega,fun i hi=>?_⟩
   rcases g2 i hi with g | ⟨g,g'⟩
   ·by_cases e:s+i=p
    ·right;refine⟨by omega,?_⟩
     rw[e,Nat.sub_self];simp[hk]
    ·left;omega
   ·right;refine⟨by omega,?_⟩
    rw[show s+i-p=(s+i-(p+1))+1 by omega];simpa using g'
  ·split at h
   ·cases h;exact⟨by omega,fun i hi => .inl (by omega)⟩
   ·obtain⟨g1,g2⟩:=qg1 n ks (p+1) 0 s h (by omega)
    refine⟨by omega,fun i hi=>?_⟩
    rcases g2 i hi with g | ⟨g,g'⟩
    ·omega
    ·right;refine⟨by omega,?_⟩
     rw[show s+i-p=(s+i-(p+1))+1 by omega];simpa using g'
theorem qt9 {ks:List Int} {n:Int} {p:Nat} (h:qd4 ks n=some p):1≤n∧p+n.toNat≤ks.length∧∀q:Nat,p≤q→q<p+n.toNat→kAt ks (q:Int)=0:=by
 unfold qd4 at h
 split at h
 ·cases h
 obtain⟨_,g⟩:=qg1 _ _ _ _ _ h (by omega)
 have g':∀q:Nat,p≤q→q<p+n.toNat→ks[q]?=some 0:=fun q a b=>by
  rcases g (q-p) (by omega) with g | ⟨_,g⟩
  ·omega
  ·rw[←g];congr 1;omega
 refine⟨by omega,?_,fun q a b=>by rw[qii,g' q a b];rfl⟩
 apply y0q
 intro hc
 have:=g' (p+n.toNat-1) (by omega) (by omega)
 rw[y1l (by omega)] at this
 cases this
theorem CI.large (h:CI c) {n:Int} {p:Nat} (hp:qd4 c.ks n=some p):∃c':Ce,c.large n=(c',some ((32*p:Nat):Int))∧CI c'∧qx3 c c' (32*p) (32*n.toNat)∧∀q:Nat,kAt c.ks (q:Int)≠0→kAt c'.ks (q:Int)=kAt c.ks (q:Int):=by
 obtain⟨h1,h2,h3⟩:=qt9 hp
 have hml:=h.ml
 have hnp:=h.np
 have hcl:=h.cl
 have hkl:(qbi c.ks p n.toNat 6).length=c.ks.length:=qbx h2
 have e:qfs (p:Int) n=((p:Int)*32,((p:Int)+n)*32-1,true):=by unfold qfs;rw[if_pos (by omega)]
 have hst:c.large n=({ c with ks:=(qbi c.ks p n.toNat 6).set p 5,tk:=qay c.tk (32*p) true,m:=qba c.m ((32*p:Nat):Int) (n*32) 0 },some ((32*p:Nat):Int)):=by
  unfold Ce.large
  rw[hp]
  simp only[e,show (p:Int)*32=((32*p:Nat):Int) by omega]
  unfold qjd Ce.n
  rw[if_pos (by omega),y2t]
 have hk:∀q:Nat,kAt ((qbi c.ks p n.toNat 6).set p 5) (q:Int)=if q=p then 5 else if p≤q∧q<p+n.toNat then 6 else kAt c.ks (q:Int):=fun q=>by
  rw[qnb q (by omega),qna q h2]
 have hkeep:∀q:Nat,kAt c.ks (q:Int)≠0→¬(p≤q∧q<p+n.toNat):=fun q hq cc=>hq (h3 q cc.1 cc.2)
 have hk0:∀q:Nat,kAt c.ks (q:Int)≠0→kAt ((qbi c.ks p n.toNat 6).set p 5) (q:Int)=kAt c.ks (q:Int):=fun q hq=>by
  have:=hkeep q hq
  rw[hk,if_neg (by omega),if_neg this]
 have h6:∀q:Nat,kAt ((qbi c.ks p n.toNat 6).set p 5) (q:Int)=6→kAt c.ks (q:Int)≠6→1≤q∧kAt c.ks ((q-1:Nat):Int)=0:=fun q hq ho=>by
  rw[hk] at hq
  by_cases e1:q=p
  ·rw[if_pos e1] at hq;cases hq
  ·rw[if_neg e1] at hq
   by_cases e2:p≤q∧q<p+n.toNat
   ·exact⟨by omega,h3 _ (by omega) (by omega)⟩
   ·rw[if_neg e2] at hq;exact absurd hq ho
 have htk:∀b,(qay c.tk (32*p) true) b=if b=32*p then true else c.tk b:=fun b=>rfl
 have hno:∀b,c.tk b=true→¬(p≤b / 32∧b / 32<p+n.toNat):=fun b hb=>hkeep _ (h.tk_kind hb).1
 have hfill:∀y:Nat,y<c.m.length→qao (qba c.m ((32*p:Nat):Int) (n*32) 0) (y:Int)=if 32*p≤y∧y<32*p+32*n.toNat then 0 else qao c.m (y:Int):=fun y hy=>by
  rw[qgj (by unfold mIn;omega) (by omega) (by omega)]
  by_cases cc:32*p≤y∧y<32*p+32*n.toNat
  ·rw[if_pos (by omega),if_pos cc]
  ·rw[if_neg (by omega),if_neg cc]
 refine⟨_,hst,⟨by simp only[y3r];omega,by simp only[y3r];rw[qbs];omega,hcl,fun b hb=>?_,fun q hq=>?_,fun q hq=>?_⟩,⟨?_,by simp only;rw[htk,if_pos rfl],fun b hb=>⟨by simp only;rw[htk,if_neg hb],fun tb=>⟨qiv ?_ fun h5=>qmh h5 hk0 h6,fun y y1 y2=>?_⟩⟩,?_,fun y y1 y2=>?_⟩,hk0⟩
 ·simp only[y3r] at hb ⊢
  rw[htk] at hb
  by_cases e1:b=32*p
  ·subst e1
   rw[show 32*p / 32=p by omega,hk,if_pos rfl]
   exact⟨by omega,.inr ⟨rfl,by omega⟩⟩
  ·rw[if_neg e1] at hb
   rw[hkl,hk0 _ (h.tk_kind hb).1]
   exact h.tk b hb
 ·simp only at hq ⊢
  by_cases ho:kAt c.ks (q:Int)=6
  ·have:=h.six q ho
   refine⟨this.1,?_⟩
   rw[hk0 _ (by rcases this.2 with g | g <;> rw[g] <;> decide)]
   exact this.2
  ·obtain⟨g1,g2⟩:=h6 q hq ho
   rw[hk] at hq
   by_cases e1:q=p
   ·rw[if_pos e1] at hq;cases hq
   ·rw[if_neg e1] at hq
    by_cases e2:p≤q∧q<p+n.toNat
    ·refine⟨g1,?_⟩
     rw[hk]
     by_cases e3:q-1=p
     ·left;rw[if_pos e3]
     ·right;rw[if_neg e3,if_pos (by omega)]
    ·rw[if_neg e2] at hq;exact absurd hq ho
 ·simp only at hq ⊢
  have hq0:¬(p≤q∧q<p+n.toNat)∧kAt ((qbi c.ks p n.toNat 6).set p 5) (q:Int)=kAt c.ks (q:Int):=by
   rw[hk] at hq ⊢
   by_cases e1:q=p
   ·rw[if_pos e1] at hq;exact absurd hq (by decide)
   ·rw[if_neg e1] at hq ⊢
    by_cases e2:p≤q∧q<p+n.toNat
    ·rw[if_pos e2] at hq;exact absurd hq (by decide)
    ·exact⟨e2,by rw[if_neg e2]⟩
  rw[hq0.2] at hq ⊢
  obtain⟨L,hL⟩:=h.fr q hq
  have hql:=qg0 (ks:=c.ks) (p:=q) (by intro e;rw[e] at hq;revert hq;decide)
  refine⟨L,hL.nd,fun j=>?_,hL.ch.keep fun j hj=>?_,hL.n⟩
  ·rw[hL.mem j]
   simp only[htk]
   constructor
   ·rintro⟨g1,g2⟩
    have:=(qaz rfl hq g1).1
    exact⟨g1,by rw[if_neg (fun e=>by rw[e] at this;omega)];exact g2⟩
   ·rintro⟨g1,g2⟩
    have:=(qaz rfl hq g1).1
    rw[if_neg (fun e=>by rw[e] at this;omega)] at g2
    exact⟨g1,g2⟩
  ·obtain⟨q1,q2⟩:=(hL.mem j).1 hj
   obtain⟨g1,_,_,g4,g5⟩:=qaz rfl hq q1
   rw[←g4,hfill _ (by omega),if_neg (by omega)]
 ·cases ht:c.tk (32*p) with
  | false=>rfl
  | true=>exact absurd ⟨by omega,by omega⟩ (hno _ ht)
 ·simp only;exact hk0 _ (h.tk_kind tb).1
 ·have:=(h.rsz_pos tb).2
  have hw:kAt c.ks ((y / 32:Nat):Int)≠0:=by
   rcases h.word_kind tb y1 y2 with g | g
   ·rw[g];exact (h.tk_kind tb).1
   ·rw[g];decide
  have:=hkeep _ hw
  rw[hfill y (by omega),if_neg (by omega)]
 ·show Ce.rsz _ (32*p)=_
  unfold Ce.rsz
  simp only
  rw[show 32*p / 32=p by omega,hk,if_pos rfl,if_pos rfl,qik (n:=n.toNat) (by rw[hk,if_pos rfl]) (by omega) (fun i hi=>by rw[hk,if_neg (by omega),if_pos (by omega)]) ?_]
  rw[hk,if_neg (by omega),if_neg (by omega)]
  intro hc
  obtain⟨g1,g2⟩:=h.six _ hc
  rw[show p+n.toNat-1=p+(n.toNat-1) by omega,h3 _ (by omega) (by omega)] at g2
  rcases g2 with g | g <;> cases g
 ·rw[hfill y (by omega),if_pos ⟨y1,y2⟩]
end
theorem qmn:∀(n:Nat) (L:List Nat),L.Nodup→(∀x∈L,x<n)→L.length≤n
 | 0,L,_,h=>by
  cases L with
  | nil=>simp
  | cons a L=>exact absurd (h a (by simp)) (by omega)
 | n+1,L,hn,h=>by
  have h1:=qmn n (L.erase n) (hn.erase n) fun x hx=>by
   have:=(hn.mem_erase_iff).1 hx
   have:=h x this.2
   omega
  have:(L.erase n).length=if n∈L then L.length-1 else L.length:=List.length_erase
  split at this <;> omega
section
variable {c:Ce}
theorem qlz.few {p:Nat} {k:Int} {L:List Nat} (h:qlz c p k L) {i:Nat} (hi:(i:Int)<qae k) (ht:c.tk (32*p+i*(csz k).toNat)=true):(L.length:Int)<qae k:=by
 have hni:i∉L:=fun hm=>by rw[((h.mem i).1 hm).2] at ht;cases ht
 have:=qmn (qae k).toNat (i :: L) (y3s.2 ⟨hni,h.nd⟩) fun x hx=>by
  rcases y4b.1 hx with rfl | g
  ·omega
  ·have:=((h.mem x).1 g).1;omega
 simp only[y3a] at this
 omega
theorem qsk {k:Int} {a:Nat} (h0:0<csz k) (hm:(a:Int) % csz k=0):∃i:Nat,(a:Int) % 32 / csz k=i∧(i:Int)<qae k∧a=32*(a / 32)+i*(csz k).toNat:=by
 refine⟨((a:Int) % 32 / csz k).toNat,?_⟩
 rcases qcw k with⟨_,e,f⟩ | ⟨_,e,f⟩ | ⟨_,e,f⟩ | ⟨_,e,f⟩ | ⟨_,e,f⟩ <;> rw[e] at h0 hm ⊢ <;> rw[f] <;> simp only[Int.reduceToNat] <;> omega
theorem CI.give (h:CI c) {a:Nat} (ha:c.tk a=true):(c.give (a:Int)).2=true∧CI (c.give (a:Int)).1∧(c.give (a:Int)).1.tk a=false∧(∀b,b≠a→qav c (c.give (a:Int)).1 b)∧∀q:Nat,0<csz (kAt c.ks (q:Int))→kAt (c.give (a:Int)).1.ks (q:Int)=kAt c.ks (q:Int):=by
 have hit:=h.isIt ha
 have hlt:=h.tk_lt ha
 have hsm:=h.small_n
 have hml:=h.ml
 have hnp:=h.np
 have hcl:=h.cl
 obtain⟨hpl,hk⟩:=h.tk a ha
 have hpg:qap (a:Int)=((a / 32:Nat):Int):=by unfold qap;rw[if_pos (by omega)];omega
 have hrem:qlb c.n c.tk (a:Int)=qay c.tk a false:=by
  have hit':qd0 c.n c.tk (a:Int)=true:=hit
  unfold qlb
  rw[if_pos hit',y2t]
 have htk:∀b,(qay c.tk a false) b=if b=a then false else c.tk b:=fun b=>rfl
 rcases hk with⟨hk,hm⟩ | ⟨hk,hm⟩
 ·obtain⟨i,e1,hi,e2⟩:=qsk hk hm
  generalize hp:a / 32=p at *
  generalize hkd:kAt c.ks (p:Int)=k at *
  have hk5:k≠5:=fun e=>by rw[e,qid] at hk;omega
  obtain⟨L,nd,mem,ch,hn⟩:=h.fr p (by rw[hkd];exact hk)
  rw[hkd] at mem ch
  have hfew:=qlz.few ⟨nd,mem,ch,hn⟩ hi (by rw[←e2];exact ha)
  have hni:i∉L:=fun hm=>by have:=((mem i).1 hm).2;rw[←e2,ha] at this;cases this
  have hx:=qkz ch (fun j hj=>((mem j).1 hj).1) (by omega)
  have hcell:(qfr k (a:Int)).1=(i:Int):=by
   unfold qfr
   have hb:qcx k (a:Int)=a:=by unfold qcx;rw[hpg,if_neg (by omega),hm];omega
   rw[hb,if_neg (by omega)]
   exact e1
  have hg:qdr c.m (p:Int) k (c.chain p) (i:Int)=(qe8 c.m p k i (c.chain p).1,((i:Int),(c.chain p).2+1)):=by
   unfold qdr
   rw[if_pos ⟨⟨by omega,by omega,by omega,by omega⟩,by omega,hi,by omega,by omega,hx.1,hx.2⟩]
  have hst:c.give (a:Int)=({ c with tk:=qay c.tk a false,m:=qe8 c.m p k i (c.chain p).1,ch:=c.ch.set p ((i:Int),(c.chain p).2+1) },true):=by
   unfold Ce.give
   rw[if_pos hit]
   simp only[hpg,hkd,if_neg hk5,hcell,hg,hrem,y2t]
  obtain⟨f1,f2,f3,f4,f5⟩:=qaz hkd hk hi
  have hld:∀y:Nat,y<c.m.length→qao (qe8 c.m (p:Int) k i (c.chain p).1) (y:Int)=if y=a then -1-(c.chain p).1 else qao c.m (y:Int):=fun y hy=>by
   rw[qmf (by omega) hi (by omega) (by omega) (by omega)]
   by_cases cc:y=a
   ·rw[if_pos (by omega),if_pos cc]
   ·rw[if_neg (by omega),if_neg cc]
  rw[hst]
  refine⟨rfl,⟨hnp,by simp only;rw[qn3];exact hml,by simp[hcl],fun b hb=>?_,h.six,fun q hq=>?_⟩,by simp only;rw[htk,if_pos rfl],fun b hb=>⟨by simp only;rw[htk,if_neg hb],fun tb=>⟨rfl,fun y y1 y2=>?_⟩⟩,fun q _=>rfl⟩
  ·simp only at hb ⊢
   rw[htk] at hb
   by_cases e:b=a
   ·rw[if_pos e] at hb;cases hb
   ·rw[if_neg e] at hb;exact h.tk b hb
  ·simp only at hq ⊢
   by_cases e:q=p
   ·subst e
    rw[hkd]
    refine⟨i :: L,y3s.2 ⟨hni,nd⟩,fun j=>?_,?_,?_⟩
    ·simp only[htk,y4b]
     constructor
     ·rintro (rfl | hj)
      ·exact⟨hi,by rw[if_pos e2.symm]⟩
      ·obtain⟨g1,g2⟩:=(mem j).1 hj
       refine⟨g1,?_⟩
       split
       ·rfl
       ·exact g2
     ·rintro⟨g1,g2⟩
      by_cases e:32*q+j*(csz k).toNat=a
      ·left
       have:=(qaz hkd hk g1).2.2.2.1
       exact qiz (k:=k) (p:=q) hk (by omega)
      ·rw[if_neg e] at g2
       exact .inr ((mem j).2 ⟨g1,g2⟩)
    ·rw[qb1 (by omega),if_pos rfl]
     refine⟨rfl,(c.chain q).1,?_,ch.keep fun j hj=>?_⟩
     ·rw[←f4,hld _ (by omega),if_pos e2.symm]
     ·obtain⟨g1,g2⟩:=(mem j).1 hj
      obtain⟨w1,w2,w3,w4,w5⟩:=qaz hkd hk g1
      rw[←w4,hld _ (by omega),if_neg]
      intro e
      rw[e,ha] at g2;cases g2
    ·rw[qb1 (by omega),if_pos rfl,hn];simp only[y3a];omega
   ·obtain⟨L',hL'⟩:=h.fr q hq
    have hql:=qg0 (ks:=c.ks) (p:=q) (by intro e;rw[e] at hq;revert hq;decide)
    refine⟨L',hL'.nd,fun j=>?_,?_,?_⟩
    ·rw[hL'.mem j]
     simp only[htk]
     constructor
     ·rintro⟨g1,g2⟩
      have:=(qaz rfl hq g1).1
      exact⟨g1,by rw[if_neg (fun e=>by rw[e] at this;omega)];exact g2⟩
     ·rintro⟨g1,g2⟩
      have:=(qaz rfl hq g1).1
      rw[if_neg (fun e=>by rw[e] at this;omega)] at g2
      exact⟨g1,g2⟩
    ·rw[qb1 (by omega),if_neg e]
     refine hL'.ch.keep fun j hj=>?_
     obtain⟨q1,q2⟩:=(hL'.mem j).1 hj
     obtain⟨g1,_,_,g4,g5⟩:=qaz rfl hq q1
     rw[←g4,hld _ (by omega),if_neg (by omega)]
    ·rw[qb1 (by omega),if_neg e];exact hL'.n
  ·have hrb:=(h.rsz_pos tb).2
   rw[hld y (by omega),if_neg]
   rintro rfl
   exact hb (h.apart ha tb (y4q _) (by have:=(h.rsz_pos ha).1;omega) y1 y2).symm
 ·obtain⟨s1,s2,s3,s4⟩:=qcj hk
  have hrs:c.rsz a=32*qaq c.ks ((a / 32:Nat):Int):=by unfold Ce.rsz;rw[if_pos hk]
  have hpage:∀b,c.tk b=true→b≠a→¬(a / 32≤b / 32∧b / 32<a / 32+qaq c.ks ((a / 32:Nat):Int)):=fun b tb hb cc=>
   hb (h.apart tb ha (y4q b) (by have:=(h.rsz_pos tb).1;omega) (by omega) (by rw[hrs];omega))
  generalize hp:a / 32=p at *
  generalize hz:qaq c.ks (p:Int)=z at *
  have hst:c.give (a:Int)=({ c with tk:=qay c.tk a false,ks:=qbi c.ks p z 0 },true):=by
   unfold Ce.give
   rw[if_pos hit]
   simp only[hpg,if_pos hk,hrem]
   unfold qhl
   rw[hz,if_neg (by omega),y2t]
  have hkp:∀q:Nat,kAt (qbi c.ks p z 0) (q:Int)=if p≤q∧q<p+z then 0 else kAt c.ks (q:Int):=fun q=>qna q s2
  have hin:∀q:Nat,p≤q→q<p+z→kAt c.ks (q:Int)=5∨kAt c.ks (q:Int)=6:=fun q q1 q2=>by
   by_cases e:q=p
   ·subst e;exact .inl hk
   ·right
    have:=s3 (q-p-1) (by omega)
    rwa [show p+1+(q-p-1)=q by omega] at this
  have hoff:∀q:Nat,0<csz (kAt c.ks (q:Int))→¬(p≤q∧q<p+z):=fun q hq cc=>by
   rcases hin q cc.1 cc.2 with g | g <;> rw[g] at hq <;> exact absurd hq (by decide)
  rw[hst]
  refine⟨rfl,⟨by simp only;rw[qbx s2];exact hnp,by simp only;rw[qbx s2];exact hml,hcl,fun b hb=>?_,fun q hq=>?_,fun q hq=>?_⟩,by simp only;rw[htk,if_pos rfl],fun b hb=>⟨by simp only;rw[htk,if_neg hb],fun tb=>⟨qiv ?_ fun h5=>?_,fun y y1 y2=>rfl⟩⟩,fun q hq=>?_⟩
  ·simp only at hb ⊢
   rw[htk] at hb
   by_cases e:b=a
   ·rw[if_pos e] at hb;cases hb
   ·rw[if_neg e] at hb
    rw[qbx s2,hkp,if_neg (hpage b hb e)]
    exact h.tk b hb
  ·simp only at hq ⊢
   rw[hkp] at hq
   by_cases e:p≤q∧q<p+z
   ·rw[if_pos e] at hq;cases hq
   ·rw[if_neg e] at hq
    obtain⟨g1,g2⟩:=h.six q hq
    refine⟨g1,?_⟩
    rw[hkp,if_neg]
    ·exact g2
    ·intro cc
     have:q=p+z:=by omega
     subst this;exact s4 hq
  ·simp only at hq ⊢
   have hnq:¬(p≤q∧q<p+z):=fun cc=>by rw[hkp,if_pos cc] at hq;exact absurd hq (by decide)
   rw[hkp,if_neg hnq] at hq ⊢
   obtain⟨L',hL'⟩:=h.fr q hq
   refine⟨L',hL'.nd,fun j=>?_,hL'.ch,hL'.n⟩
   rw[hL'.mem j]
   simp only[htk]
   constructor
   ·rintro⟨g1,g2⟩
    refine⟨g1,?_⟩
    split
    ·rfl
    ·exact g2
   ·rintro⟨g1,g2⟩
    have:=(qaz rfl hq g1).1
    rw[if_neg (fun e=>by rw[e] at this;omega)] at g2
    exact⟨g1,g2⟩
  ·simp only;rw[hkp,if_neg (hpage b tb hb)]
  ·obtain⟨t1,t2,t3,t4⟩:=qcj h5
   have hrb:c.rsz b=32*qaq c.ks ((b / 32:Nat):Int):=by unfold Ce.rsz;rw[if_pos h5]
   have hb32:b % 32=0:=by
    obtain⟨_,⟨g,_⟩ | ⟨_,g⟩⟩:=h.tk b tb
    ·rw[h5] at g;exact absurd g (by decide)
    ·exact g
   refine qik (by simp only;rw[hkp,if_neg (hpage b tb hb),h5]) t1 (fun j hj=>?_) ?_
   ·simp only;rw[hkp,if_neg,t3 j hj]
    intro cc
    exact hb (h.apart tb ha (x:=32*(b / 32+1+j)) (by omega) (by rw[hrb];omega) (by omega) (by rw[hrs];omega))
   ·simp only;rw[hkp]
    by_cases cc:p≤b / 32+qaq c.ks ((b / 32:Nat):Int)∧b / 32+qaq c.ks ((b / 32:Nat):Int)<p+z
    ·rw[if_pos cc];decide
    ·rw[if_neg cc];exact t4
  ·simp only;rw[hkp,if_neg (hoff q hq)]
theorem CI.drop (h:CI c) (p:Int):CI (c.drop p).1∧(∀b,qav c (c.drop p).1 b)∧(∀q:Nat,(q:Int)≠p→kAt (c.drop p).1.ks (q:Int)=kAt c.ks (q:Int)):=by
 by_cases hd:c.small p=true∧qae (kAt c.ks p)≤c.left p
 rotate_left
 ·have:c.drop p=(c,false):=by unfold Ce.drop;rw[if_neg hd]
  rw[this]
  exact⟨h,fun b=>qav.refl c b,fun _ _=>rfl⟩
 obtain⟨d1,d2⟩:=hd
 have hs:0<csz (kAt c.ks p):=by simpa[Ce.small] using d1
 have hp0:0≤p∧p<c.ks.length:=by
  apply y0q
  intro hc
  rw[qck hc] at hs
  exact absurd hs (by decide)
 obtain⟨p,rfl⟩:=y1b hp0.1
 have hnp:=h.np
 have hml:=h.ml
 obtain⟨L,hL⟩:=h.fr p hs
 rw[h.left_eq hs hL] at d2
 have hno:∀b,c.tk b=true→b / 32≠p:=fun b tb e=>by
  obtain⟨_,⟨g,gm⟩ | ⟨g,_⟩⟩:=h.tk b tb
  ·rw[e] at g gm
   obtain⟨i,_,hi,e2⟩:=qsk g gm
   rw[e] at e2
   have:=hL.few hi (by rw[←e2];exact tb)
   omega
  ·rw[e] at g;rw[g] at hs;exact absurd hs (by decide)
 have hst:c.drop (p:Int)=({ c with ks:=qbi c.ks p 1 0 },true):=by
  unfold Ce.drop
  rw[if_pos ⟨d1,by rw[h.left_eq hs hL];exact d2⟩]
  unfold qhl
  rw[qrn hs,if_neg (by decide),y2t]
 have hkp:∀q:Nat,kAt (qbi c.ks p 1 0) (q:Int)=if q=p then 0 else kAt c.ks (q:Int):=fun q=>by
  rw[qna q (by omega)]
  by_cases e:q=p
  ·rw[if_pos (by omega),if_pos e]
  ·rw[if_neg (by omega),if_neg e]
 have hnz:∀q:Nat,csz (kAt c.ks (q:Int))=0→kAt (qbi c.ks p 1 0) (q:Int)=kAt c.ks (q:Int):=fun q hq=>by
  rw[hkp,if_neg];rintro rfl;omega
 rw[hst]
 refine⟨⟨by simp only;rw[qbx (by omega)];exact hnp,by simp only;rw[qbx (by omega)];exact hml,h.cl,fun b tb=>?_,fun q hq=>?_,fun q hq=>?_⟩,fun b=>⟨rfl,fun tb=>⟨qiv ?_ fun h5=>?_,fun y y1 y2=>rfl⟩⟩,fun q hq=>?_⟩
 ·simp only at tb ⊢
  rw[qbx (by omega),hkp,if_neg (hno b tb)]
  exact h.tk b tb
 ·simp only at hq ⊢
  rw[hkp] at hq
  by_cases e:q=p
  ·rw[if_pos e] at hq;cases hq
  ·rw[if_neg e] at hq
   obtain⟨g1,g2⟩:=h.six q hq
   refine⟨g1,?_⟩
   rw[hnz]
   ·exact g2
   ·rcases g2 with g | g <;> rw[g] <;> decide
 ·simp only at hq ⊢
  have hqp:q≠p:=fun e=>by rw[hkp,if_pos e] at hq;exact absurd hq (by decide)
  rw[hkp,if_neg hqp] at hq ⊢
  obtain⟨L',hL'⟩:=h.fr q hq
  exact⟨L',hL'.nd,hL'.mem,hL'.ch,hL'.n⟩
 ·simp only;rw[hkp,if_neg (hno b tb)]
 ·obtain⟨t1,t2,t3,t4⟩:=qcj h5
  refine qik (by simp only;rw[hnz _ (by rw[h5];decide),h5]) t1 (fun j hj=>by simp only;rw[hnz _ (by rw[t3 j hj];decide),t3 j hj]) ?_
  simp only
  rw[hkp]
  by_cases e:b / 32+qaq c.ks ((b / 32:Nat):Int)=p
  ·rw[if_pos e];decide
  ·rw[if_neg e];exact t4
 ·simp only;rw[hkp,if_neg (by omega)]
end
structure SI (s:St):Prop where
 hi:HI s.c s.made
 m0:0≤s.made
 own:∀a p,s.own a=some p→0≤p∧kAt s.c.ks p=a.2∧0<csz a.2∧a∈qev
 inj:∀a b p,s.own a=some p→s.own b=some p→a=b
structure qe6 (s s':St) (a n:Nat):Prop where
 off:s.c.tk a=false
 obj:qa3 s'.c a s.made (List.replicate n (0,0))
 kept:∀b,b≠a→qav s.c s'.c b
 made:s'.made=s.made+1
theorem HI.ser_lt {c:Ce} {made:Int} (h:HI c made) {a:Nat} {ser:Int} {fs:List V2} (o:qa3 c a ser fs):ser<made:=by
 obtain⟨ser',fs',o',hl⟩:=h.obj a o.tk
 rw[(o.same o').1];exact hl
theorem qpm {c c':Ce} {own:Om} {made:Int} {a m:Nat} {n:Int} (h:HI c made) (hm:qx3 c c' a m) (hc:CI c') (hn:0≤n∧n≤127) (hnm:n+1≤m) (h0:0≤made) (h1:made<1099511627775) (s:St) (hs:s.c=c∧s.made=made):
  ∃s',(⟨c',own,made⟩:St).begin (a:Int) n=s'∧qe6 s s' a n.toNat∧HI s'.c s'.made∧s'.own=own∧s'.c.ks=c'.ks:=by
 obtain⟨rfl,rfl⟩:=hs
 have hr:=hc.rsz_pos hm.on
 have hrs:=hm.rsz
 have hh:qem s.made n=s.made*128+n:=by unfold qem;rw[if_pos (by omega)]
 have hst:=hc.store_in (x:=a) (w:=qem s.made n) hm.on (y4q _) (by omega)
 have hci:=hc.stored (x:=a) (w:=qem s.made n) hm.on (y4q _) (by omega)
 have hld:∀y:Nat,y<c'.m.length→qao (qb9 c'.m (a:Int) (qem s.made n)) (y:Int)=if y=a then s.made*128+n else qao c'.m (y:Int):=fun y hy=>by
  rw[qft (by omega) (by omega) (by omega) (by omega),hh]
  by_cases e:y=a
  ·rw[if_pos (by omega),if_pos e]
  ·rw[if_neg (by omega),if_neg e]
 have hk:∀b,b≠a→qav s.c { c' with m:=qb9 c'.m (a:Int) (qem s.made n) } b:=fun b hb=>by
  refine⟨(hm.kept b hb).1,fun tb=>⟨((hm.kept b hb).2 tb).1,fun x x1 x2=>?_⟩⟩
  have tb':c'.tk b=true:=by rw[(hm.kept b hb).1,tb]
  have hrb:c'.rsz b=s.c.rsz b:=((hm.kept b hb).2 tb).1
  have:=(hc.rsz_pos tb').2
  simp only
  rw[hld x (by omega),if_neg,((hm.kept b hb).2 tb).2 x x1 x2]
  rintro rfl
  exact hb (hc.apart tb' hm.on x1 (by omega) (y4q _) (by omega))
 have ho:qa3 { c' with m:=qb9 c'.m (a:Int) (qem s.made n) } a s.made (List.replicate n.toNat (0,0)):=by
  refine⟨hm.on,?_,by omega,?_,fun i hi=>?_⟩
  ·simp only[y1m]
   rw[hld a (by omega),if_pos rfl];omega
  ·simp only[y1m]
   refine⟨by omega,?_⟩
   show n.toNat+1≤c'.rsz a
   omega
  ·simp only[y1m] at hi
   simp only[y1g]
   refine⟨qs8,?_⟩
   rw[hld _ (by omega),if_neg (by omega),hm.zero _ (by omega) (by omega),zab]
 have hms:w64 (s.made+1)=s.made+1:=qeg (by omega)
 refine⟨_,rfl,⟨hm.off,?_,fun b hb=>?_,?_⟩,?_,rfl,?_⟩
 ·unfold St.begin;simp only;rw[hst];exact ho
 ·unfold St.begin;simp only;rw[hst];exact hk b hb
 ·unfold St.begin;simp only;exact hms
 ·unfold St.begin;simp only;rw[hst,hms]
  refine⟨hci,fun b hb=>?_,fun b b' ser fs gs o1 o2=>?_⟩
  ·by_cases e:b=a
   ·subst e;exact⟨_,_,ho,by omega⟩
   ·rw[(hk b e).1] at hb
    obtain⟨ser,fs,o,hl⟩:=h.obj b hb
    exact⟨ser,fs,(hk b e).obj.2 o,by omega⟩
  ·by_cases e:b=a
   ·by_cases e':b'=a
    ·rw[e,e']
    ·subst e
     have:=(ho.same o1).1
     have:=h.ser_lt ((hk b' e').obj.1 o2)
     omega
   ·by_cases e':b'=a
    ·subst e'
     have:=(ho.same o2).1
     have:=h.ser_lt ((hk b e).obj.1 o1)
     omega
    ·exact h.one b b' ser fs gs ((hk b e).obj.1 o1) ((hk b' e').obj.1 o2)
 ·unfold St.begin;simp only;rw[hst]
theorem zb7 {n:Int} (h:csz (cOf n)≠0):0≤n∧n≤127∧n+1≤csz (cOf n):=by
 unfold cOf at *
 by_cases c0:n<0∨n>127
 ·rw[if_pos c0] at h;exact absurd rfl h
 rw[if_neg c0] at h ⊢
 by_cases c1:n<2
 ·rw[if_pos c1] at h ⊢;rw[show csz 1=2 from rfl];omega
 rw[if_neg c1] at h ⊢
 by_cases c2:n<4
 ·rw[if_pos c2] at h ⊢;rw[show csz 2=4 from rfl];omega
 rw[if_neg c2] at h ⊢
 by_cases c3:n<8
 ·rw[if_pos c3] at h ⊢;rw[show csz 3=8 from rfl];omega
 rw[if_neg c3] at h ⊢
 by_cases c4:n<16
 ·rw[if_pos c4] at h ⊢;rw[show csz 4=16 from rfl];omega
 ·rw[if_neg c4] at h;exact absurd rfl h
theorem zf9 {n:Int} (h:cOf n=5):0≤n∧n≤127∧qcu n=(n+32) / 32:=by
 have h':=h
 unfold cOf at h
 refine⟨?_,?_,by unfold qcu;rw[if_pos h']⟩
 all_goals
  by_cases c0:n<0∨n>127
  ·rw[if_pos c0] at h;cases h
  ·omega
theorem zeq (n:Int):cOf n=0∨cOf n=5∨(cOf n≠5∧cOf n≠0∧0<csz (cOf n)∧1≤cOf n∧cOf n≤4):=by
 unfold cOf
 repeat' split
 all_goals first | exact .inl rfl | exact .inr (.inl rfl) | exact .inr (.inr (by decide))
section
variable {s:St}
theorem St.fast_ok (h:SI s) (hM:s.made<1099511627775) (t n:Int):(s.fast t n=(s,none)∧(csz (cOf n)=0∨s.c.left (qdw s.own (t,cOf n))=0))∨∃(a:Nat) (s':St),s.fast t n=(s',some (a:Int))∧qe6 s s' a n.toNat∧SI s'∧s'.own=s.own:=by
 unfold St.fast
 by_cases h0:csz (cOf n)=0
 ·rw[if_pos h0];exact .inl ⟨rfl,.inl h0⟩
 rw[if_neg h0]
 rcases h.hi.ci.take (qdw s.own (t,cOf n)) with⟨e,e0⟩ | ⟨q,a,c',e1,e2,e3,e4,e5,e6,e7,e8⟩
 ·rw[e];exact .inl ⟨rfl,.inr e0⟩
 right
 rw[e4]
 have hq:s.own (t,cOf n)=some (q:Int):=by
  unfold qdw at e1
  cases ho:s.own (t,cOf n) with
  | none=>rw[ho] at e1;simp only[Option.getD_none] at e1;omega
  | some p=>rw[ho] at e1;simp at e1;rw[e1]
 obtain⟨_,k2,_,_⟩:=h.own _ _ hq
 simp only at k2
 obtain⟨n1,n2,n3⟩:=zb7 h0
 obtain⟨s',b1,b2,b3,b4,b5⟩:=qpm (own:=s.own) h.hi e6 e5 ⟨n1,n2⟩ (by rw[k2];omega) h.m0 hM s ⟨rfl,rfl⟩
 refine⟨a,s',by simp only;rw[b1],b2,⟨b3,by rw[b2.made];have:=h.m0;omega,fun x p hx=>?_,fun x y p hx hy=>h.inj x y p (by rw[←b4];exact hx) (by rw[←b4];exact hy)⟩,b4⟩
 rw[b4] at hx
 rw[b5,e7]
 exact h.own x p hx
theorem qip {f:Om} {p:Int} (h:(qbt f p).1<0):∀a∈qev,f a≠some p:=by
 intro a ha e
 unfold qbt at h
 cases hf:qev.find? (fun a=>decide (f a=some p)) with
 | none=>exact absurd e (by simpa using y2i.1 hf a ha)
 | some b=>
  rw[hf] at h
  have hb:=List.mem_of_find?_eq_some hf
  have:∀b∈qev,0≤b.1:=by decide
  have:=this b hb
  simp only at h
  omega
theorem quf {f:Om} {p:Int} (h:∀a∈qev,f a≠some p):(qbt f p).1<0:=by
 unfold qbt
 rw[y2i.2 fun a ha=>by simpa using h a ha]
 decide
theorem qzz {t k:Int} (ht:0≤t∧t<9) (hk:1≤k∧k≤4):(t,k)∈qev:=by
 have key:∀t:Fin 9,∀k:Fin 5,1≤k.val→((t.val:Int),(k.val:Int))∈qev:=by decide
 have:=key ⟨t.toNat,by omega⟩ ⟨k.toNat,by omega⟩ (by simp only;omega)
 simpa[show (t.toNat:Int)=t by omega,show (k.toNat:Int)=k by omega] using this
theorem qod {k:Int}:∀(d p:Nat) {q:Nat},s.openAt k d p=some q→(qbt s.own q).1<0∧kAt s.c.ks q=k∧0<s.c.left q
 | 0,_,_,h=>by cases h
 | d+1,p,q,h=>by
  unfold St.openAt at h
  split at h
  ·rename_i hc;cases h;exact hc
  ·exact qod d (p+1) h
theorem qzq (h:SI s) (np:Nat) {k:Int} (h0:0<csz k):((s.openP np k).2=none)∨∃(p:Nat) (s':St),s.openP np k=(s',some (p:Int))∧SI s'∧(qbt s'.own p).1<0∧kAt s'.c.ks p=k∧0<s'.c.left p∧(∀b,qav s.c s'.c b)∧s'.made=s.made∧s'.own=s.own:=by
 unfold St.openP
 cases ho:s.openAt k np 0 with
 | some p=>
  obtain⟨o1,o2,o3⟩:=qod np 0 ho
  exact .inr ⟨p,s,rfl,h,o1,o2,o3,fun b=>qav.refl _ _,rfl,rfl⟩
 | none=>
  simp only
  cases hk:qeq s.c.ks k with
  | none=>left;unfold Ce.carve;rw[hk];rfl
  | some p=>
   right
   obtain⟨c1,c2,c3,c4,c5,c6⟩:=h.hi.ci.carve hk
   have hka:∀q:Nat,kAt (s.c.carve k).1.ks (q:Int)=if q=p then k else kAt s.c.ks (q:Int):=fun q=>by rw[c4];exact qnb q c6
   have hhi:HI (s.c.carve k).1 s.made:=by
    refine⟨c1,fun b hb=>?_,fun a b ser fs gs o1 o2=>h.hi.one a b ser fs gs ((c3 a).obj.1 o1) ((c3 b).obj.1 o2)⟩
    rw[(c3 b).1] at hb
    obtain⟨ser,fs,o,hl⟩:=h.hi.obj b hb
    exact⟨ser,fs,(c3 b).obj.2 o,hl⟩
   refine⟨p,⟨(s.c.carve k).1,s.own,s.made⟩,by rw[c2];rfl,⟨hhi,h.m0,fun a q ha=>?_,h.inj⟩,quf fun a ha e=>?_,?_,?_,c3,rfl,rfl⟩
   ·obtain⟨q0,q1,q2,q3⟩:=h.own a q ha
    refine⟨q0,?_,q2,q3⟩
    obtain⟨q,rfl⟩:=y1b q0
    simp only
    rw[hka,if_neg,q1]
    rintro rfl
    rw[c5] at q1
    rw[←q1] at q2
    exact absurd q2 (by decide)
   ·obtain⟨q0,q1,q2,q3⟩:=h.own a p e
    rw[c5] at q1
    rw[←q1] at q2
    exact absurd q2 (by decide)
   ·simp only;rw[hka,if_pos rfl]
   ·simp only
    have hkp:kAt (s.c.carve k).1.ks (p:Int)=k:=by rw[hka,if_pos rfl]
    obtain⟨L,hL⟩:=c1.fr p (by rw[hkp];exact h0)
    rw[c1.left_eq (by rw[hkp];exact h0) hL]
    have hc0:0<qae k:=by
     rcases qcw k with⟨_,e,f⟩ | ⟨_,e,f⟩ | ⟨_,e,f⟩ | ⟨_,e,f⟩ | ⟨_,e,f⟩ <;> rw[e] at h0 <;> rw[f] <;> omega
    have:(0:Nat)∈L:=by
     refine (hL.mem 0).2 ⟨by rw[hkp];omega,?_⟩
     rw[(c3 _).1]
     cases ht:s.c.tk (32*p+0*(csz (kAt (s.c.carve k).1.ks (p:Int))).toNat) with
     | false=>rfl
     | true=>have:=(h.hi.ci.tk_kind ht).1;rw[show (32*p+0*(csz (kAt (s.c.carve k).1.ks (p:Int))).toNat) / 32=p by omega] at this;exact absurd c5 this
    have:=List.length_pos_of_mem this
    omega
theorem St.slow_ok (h:SI s) (hM:s.made<1099511627775) (np:Nat) {nt:Int} (hnt:nt≤9) (t n:Int):(∃e,e≠0∧s.slow np nt t n=(s,0,e))∨∃(a:Nat) (s':St),s.slow np nt t n=(s',(a:Int),0)∧qe6 s s' a n.toNat∧SI s':=by
 unfold St.slow
 simp only
 by_cases c1:cOf n=0∨t<0∨nt≤t
 ·rw[if_pos c1];exact .inl ⟨4,by decide,rfl⟩
 rw[if_neg c1]
 by_cases c2:cOf n=5
 ·rw[if_pos c2]
  obtain⟨n1,n2,n3⟩:=zf9 c2
  cases hp:qd4 s.c.ks (qcu n) with
  | none=>
   left
   refine⟨10,by decide,?_⟩
   unfold Ce.large;rw[hp]
  | some p=>
   right
   obtain⟨c',l1,l2,l3,l4⟩:=h.hi.ci.large hp
   obtain⟨s',b1,b2,b3,b4,b5⟩:=qpm (own:=s.own) h.hi l3 l2 ⟨n1,n2⟩ (by omega) h.m0 hM s ⟨rfl,rfl⟩
   refine⟨32*p,s',by rw[l1];simp only;rw[b1],b2,⟨b3,by rw[b2.made];have:=h.m0;omega,fun x q hx=>?_,fun x y p hx hy=>h.inj x y p (by rw[←b4];exact hx) (by rw[←b4];exact hy)⟩⟩
   rw[b4] at hx
   obtain⟨q0,q1,q2,q3⟩:=h.own x q hx
   obtain⟨q,rfl⟩:=y1b q0
   refine⟨q0,?_,q2,q3⟩
   rw[b5,l4,q1]
   intro e;rw[q1] at e;rw[e] at q2;exact absurd q2 (by decide)
 rw[if_neg c2]
 have hk:0<csz (cOf n)∧1≤cOf n∧cOf n≤4:=by rcases zeq n with g | g | g <;> omega
 rcases St.fast_ok h hM t n with⟨e,_⟩ | ⟨a,s',e,e1,e2,e3⟩
 rotate_left
 ·rw[e];exact .inr ⟨a,s',rfl,e1,e2⟩
 rw[e]
 simp only
 rcases qzq h np hk.1 with g | ⟨p,s',g1,g2,g3,g4,g5,g6,g7,g8⟩
 ·left
  refine⟨10,by decide,?_⟩
  generalize s.openP np (cOf n)=z at g
  obtain⟨z1,z2⟩:=z
  simp only at g
  subst g;rfl
 right
 rw[g1]
 simp only
 have hpl:p<s'.c.ks.length:=qg0 (by rw[g4];omega)
 have hnp:=g2.hi.ci.np
 have hmay:qnh nt s'.own t (cOf n) p:=⟨by omega,by omega,by omega,by omega,by omega,g3⟩
 rw[if_pos hmay]
 have hs2:SI ({ s' with own:=qln s'.own (t,cOf n) p }:St):=by
  refine⟨g2.hi,g2.m0,fun a q ha=>?_,fun a b q ha hb=>?_⟩
  ·simp only[qln] at ha
   by_cases e:a=(t,cOf n)
   ·rw[if_pos e] at ha
    cases ha
    subst e
    exact⟨by omega,g4,hk.1,qzz (by omega) ⟨hk.2.1,hk.2.2⟩⟩
   ·rw[if_neg e] at ha
    exact g2.own a q ha
  ·simp only[qln] at ha hb
   by_cases e:a=(t,cOf n)
   ·by_cases e':b=(t,cOf n)
    ·rw[e,e']
    ·rw[if_pos e] at ha
     rw[if_neg e'] at hb
     cases ha
     exact absurd hb (qip g3 b (g2.own b p hb).2.2.2)
   ·by_cases e':b=(t,cOf n)
    ·rw[if_neg e] at ha
     rw[if_pos e'] at hb
     cases hb
     exact absurd ha (qip g3 a (g2.own a p ha).2.2.2)
    ·rw[if_neg e] at ha
     rw[if_neg e'] at hb
     exact g2.inj a b q ha hb
 rcases St.fast_ok hs2 (by simp only;omega) t n with⟨z1,z2⟩ | ⟨a,s2,f1,f2,f3,f4⟩
 ·exfalso
  rcases z2 with z | z
  ·omega
  ·unfold qdw at z
   simp only[qln,if_true,y3f] at z
   omega
 ·refine⟨a,s2,by rw[f1];rfl,⟨?_,?_,fun b hb=>(g6 b).trans (f2.kept b hb),?_⟩,f3⟩
  ·rw[←(g6 a).1];exact f2.off
  ·have:=f2.obj;simp only at this;rw[g7] at this;exact this
  ·have:=f2.made;simp only at this;rw[g7] at this;exact this
end
section
variable {s:St}
theorem HI.kept {c c':Ce} {made:Int} (h:HI c made) (hc:CI c') (hk:∀b,qav c c' b):HI c' made:=by
 refine⟨hc,fun b hb=>?_,fun a b ser fs gs o1 o2=>h.one a b ser fs gs ((hk a).obj.1 o1) ((hk b).obj.1 o2)⟩
 rw[(hk b).1] at hb
 obtain⟨ser,fs,o,hl⟩:=h.obj b hb
 exact⟨ser,fs,(hk b).obj.2 o,hl⟩
theorem SI.drop (h:SI s) {p:Int} (hp:∀a q,s.own a=some q→q≠p):SI { s with c:=(s.c.drop p).1 }∧∀b,qav s.c (s.c.drop p).1 b:=by
 obtain⟨d1,d2,d3⟩:=h.hi.ci.drop p
 refine⟨⟨h.hi.kept d1 d2,h.m0,fun a q ha=>?_,h.inj⟩,d2⟩
 obtain⟨q0,q1,q2,q3⟩:=h.own a q ha
 obtain⟨q,rfl⟩:=y1b q0
 exact⟨q0,by simp only;rw[d3 q (hp a q ha)];exact q1,q2,q3⟩
theorem qmc:∀(l:List Int) (s:St),SI s→(∀a q,s.own a=some q→q∉l)→SI (s.dropAll l)∧(∀b,qav s.c (s.dropAll l).c b)∧(s.dropAll l).made=s.made∧(s.dropAll l).own=s.own
 | [],s,h,_=>⟨h,fun b=>qav.refl _ _,rfl,rfl⟩
 | p :: l,s,h,hl=>by
  obtain⟨d1,d2⟩:=h.drop (p:=p) fun a q ha e=>hl a q ha (by rw[e];simp)
  obtain⟨e1,e2,e3,e4⟩:=qmc l _ d1 fun a q ha hq=>hl a q ha (by simp[hq])
  exact⟨e1,fun b=>(d2 b).trans (e2 b),e3,e4⟩
theorem St.quit_ok (h:SI s) (t:Int):SI (s.quit t)∧(∀b,qav s.c (s.quit t).c b)∧(s.quit t).made=s.made:=by
 have h1:SI ({ s with own:=qio s.own t }:St):=by
  refine⟨h.hi,h.m0,fun a q ha=>?_,fun a b p ha hb=>?_⟩
  ·simp only[qio] at ha
   split at ha
   ·cases ha
   ·exact h.own a q ha
  ·simp only[qio] at ha hb
   split at ha
   ·cases ha
   ·split at hb
    ·cases hb
    ·exact h.inj a b p ha hb
 obtain⟨d1,d2,d3,_⟩:=qmc ((qd5 s.own t).mergeSort fun x y=>decide (x≤y)) _ h1 fun a q ha hq=>by
  rw[List.mem_mergeSort] at hq
  simp only[qio] at ha
  split at ha
  ·cases ha
  ·rename_i hne
   unfold qd5 at hq
   obtain⟨k,_,hk⟩:=List.mem_filterMap.1 hq
   exact hne (by rw[h.inj a (t,k) q ha hk])
 exact⟨d1,d2,d3⟩
theorem St.trim_ok (h:SI s) (p:Int):SI (s.trim p)∧(∀b,qav s.c (s.trim p).c b)∧(s.trim p).made=s.made∧(s.trim p).own=s.own:=by
 unfold St.trim
 split
 ·rename_i ho
  obtain⟨d1,d2⟩:=h.drop (p:=p) fun a q ha e=>qip ho a (h.own a q ha).2.2.2 (by rw[ha,e])
  exact⟨d1,d2,rfl,rfl⟩
 ·exact⟨h,fun b=>qav.refl _ _,rfl,rfl⟩
theorem St.give_ok (h:SI s) {a:Nat} (ha:s.c.tk a=true):(s.c.give (a:Int)).2=true∧SI { s with c:=(s.c.give (a:Int)).1 }∧(s.c.give (a:Int)).1.tk a=false∧∀b,b≠a→qav s.c (s.c.give (a:Int)).1 b:=by
 obtain⟨g1,g2,g3,g4,g5⟩:=h.hi.ci.give ha
 refine⟨g1,⟨⟨g2,fun b hb=>?_,fun x y ser fs gs o1 o2=>?_⟩,h.m0,fun x q hx=>?_,h.inj⟩,g3,g4⟩
 ·by_cases e:b=a
  ·subst e;simp only at hb;rw[g3] at hb;cases hb
  ·simp only at hb;rw[(g4 b e).1] at hb
   obtain⟨ser,fs,o,hl⟩:=h.hi.obj b hb
   exact⟨ser,fs,(g4 b e).obj.2 o,hl⟩
 ·have hx:x≠a:=by rintro rfl;have:=o1.tk;simp only at this;rw[g3] at this;cases this
  have hy:y≠a:=by rintro rfl;have:=o2.tk;simp only at this;rw[g3] at this;cases this
  exact h.hi.one x y ser fs gs ((g4 x hx).obj.1 o1) ((g4 y hy).obj.1 o2)
 ·obtain⟨q0,q1,q2,q3⟩:=h.own x q hx
  obtain⟨q,rfl⟩:=y1b q0
  exact⟨q0,by simp only;rw[g5 q (by rw[q1];exact q2)];exact q1,q2,q3⟩
theorem St.set_ok (h:SI s) {a:Nat} {ser:Int} {fs:List V2} (o:qa3 s.c a ser fs) {i:Int} {v:V2} (hv:vOk v=true) (hi:0≤i∧i<fs.length):
  (s.set (a:Int) i v).2=true∧qa3 (s.set (a:Int) i v).1.c a ser (fs.set i.toNat v)∧(∀b,b≠a→qav s.c (s.set (a:Int) i v).1.c b)∧(s.set (a:Int) i v).1.c.tk=s.c.tk∧SI (s.set (a:Int) i v).1∧(s.set (a:Int) i v).1.made=s.made:=by
 have hc:=h.hi.ci
 have hn:=hc.small_n
 have hr:=hc.rsz_pos o.tk
 have hl:=o.len
 obtain⟨i,rfl⟩:=y1b hi.1
 have hx:w64 (w64 ((a:Int)+1)+i)=((a+1+i:Nat):Int):=by
  rw[qeg (n:=(a:Int)+1) (by omega),qeg (by omega)];omega
 have hst:=hc.store_in (x:=a+1+i) (w:=qdh v) o.tk (by omega) (by omega)
 have hci:=hc.stored (x:=a+1+i) (w:=qdh v) o.tk (by omega) (by omega)
 have hset:s.set (a:Int) (i:Int) v=({ s with c:={ s.c with m:=qb9 s.c.m ((a+1+i:Nat):Int) (qdh v) } },true):=by
  unfold St.set
  rw[(St.read_obj hc o).1,if_pos ⟨hv,by omega,by omega⟩,hx,hst]
 have hld:∀y:Nat,y<s.c.m.length→qao (qb9 s.c.m ((a+1+i:Nat):Int) (qdh v)) (y:Int)=if y=a+1+i then qdh v else qao s.c.m (y:Int):=fun y hy=>by
  rw[qft (by omega) (by omega) (by omega) (by omega)]
  by_cases e:y=a+1+i
  ·rw[if_pos (by omega),if_pos e]
  ·rw[if_neg (by omega),if_neg e]
 have ho:qa3 { s.c with m:=qb9 s.c.m ((a+1+i:Nat):Int) (qdh v) } a ser (fs.set i v):=by
  refine⟨o.tk,?_,o.ser,by simp only[y3r];exact o.len,fun j hj=>?_⟩
  ·simp only[y3r];rw[hld a (by omega),if_neg (by omega)];exact o.head
  ·simp only[y3r] at hj
   simp only
   rw[hld _ (by omega),y3d]
   by_cases e:i=j
   ·subst e;rw[if_pos rfl,if_pos rfl];exact⟨hv,rfl⟩
   ·rw[if_neg e,if_neg (by omega)];exact o.fld j hj
 have hk:∀b,b≠a→qav s.c { s.c with m:=qb9 s.c.m ((a+1+i:Nat):Int) (qdh v) } b:=fun b hb=>⟨rfl,fun tb=>⟨rfl,fun x x1 x2=>by
  have:=(hc.rsz_pos tb).2
  simp only
  rw[hld x (by omega),if_neg]
  rintro rfl
  exact hb (hc.apart tb o.tk x1 x2 (by omega) (by omega))⟩⟩
 rw[hset]
 refine⟨rfl,by simpa using ho,hk,rfl,⟨⟨hci,fun b hb=>?_,fun x y se f g o1 o2=>?_⟩,h.m0,h.own,h.inj⟩,rfl⟩
 ·by_cases e:b=a
  ·subst e;exact⟨_,_,ho,h.hi.ser_lt o⟩
  ·obtain⟨se,f,o',hl'⟩:=h.hi.obj b hb
   exact⟨se,f,(hk b e).obj.2 o',hl'⟩
 ·by_cases e:x=a
  ·by_cases e':y=a
   ·rw[e,e']
   ·subst e
    obtain⟨rfl,rfl⟩:=o1.same ho
    exact h.hi.one _ _ _ _ _ o ((hk y e').obj.1 o2)
  ·by_cases e':y=a
   ·subst e'
    obtain⟨rfl,rfl⟩:=o2.same ho
    exact h.hi.one _ _ _ _ _ ((hk x e).obj.1 o1) o
   ·exact h.hi.one x y se f g ((hk x e).obj.1 o1) ((hk y e').obj.1 o2)
theorem St.set_none {x i:Int} {v:V2} (h:¬(vOk v=true∧0≤i∧i<s.fields x)):s.set x i v=(s,false):=by
 unfold St.set
 rw[if_neg h]
end
theorem Ce.new_ok {n:Int} (hn:n≤64):CI (Ce.new n)∧∀a,(Ce.new n).tk a=false:=by
 have hk:∀p:Nat,kAt (List.replicate n.toNat (0:Int)) (p:Int)=0∨kAt (List.replicate n.toNat (0:Int)) (p:Int) = -1:=fun p=>by
  by_cases c:p<n.toNat
  ·left;rw[qet (by simpa using c)];simp
  ·right;exact qck (by simp;omega)
 refine⟨⟨by simp[Ce.new];omega,by simp[Ce.new],by simp[Ce.new],fun a ha=>by simp[Ce.new] at ha,fun p hp=>?_,fun p hp=>?_⟩,fun a=>rfl⟩
 ·rcases hk p with g | g <;> simp only[Ce.new] at hp <;> rw[g] at hp <;> cases hp
 ·rcases hk p with g | g <;> simp only[Ce.new] at hp <;> rw[g] at hp <;> exact absurd hp (by decide)
theorem St.new_ok {n:Int} (hn:n≤64):SI ⟨Ce.new n,fun _=>none,0⟩:=by
 obtain⟨h1,h2⟩:=Ce.new_ok hn
 refine⟨⟨h1,fun a ha=>?_,fun a b ser fs gs o=>?_⟩,y4s 0,fun a p h=>(by cases h),fun a b p h=>(by cases h)⟩
 ·simp only at ha;rw[h2] at ha;cases ha
 ·have:=o.tk;rw[h2] at this;cases this
def SS (d:Int) (s s':St):Prop:=SI s→s.made+d≤1099511627775→SI s'∧s.made≤s'.made∧s'.made≤s.made+d
theorem SS.refl (s:St) {d:Int} (h:0≤d:=by decide):SS d s s:=fun a _=>⟨a,by omega,by omega⟩
theorem SS.of {s s':St} (e:s'=s) {d:Int} (h:0≤d:=by decide):SS d s s':=by subst e;exact SS.refl _ h
theorem SS.trans {d d':Int} {s s' s'':St} (h:SS d s s') (g:SS d' s' s'') (h0:0≤d:=by decide) (h1:0≤d':=by decide):SS (d+d') s s'':=fun a b=>by
 obtain⟨p1,p2,p3⟩:=h a (by omega)
 obtain⟨q1,q2,q3⟩:=g p1 (by omega)
 exact⟨q1,by omega,by omega⟩
theorem SS.then0 {d:Int} {s s' s'':St} (h:SS d s s') (g:SS 0 s' s'') (h0:0≤d:=by decide):SS d s s'':=by
 have:=h.trans g h0;rwa [Int.add_zero] at this
theorem SS.up {d d':Int} {s s':St} (h:SS d s s') (hd:d≤d'):SS d' s s':=fun a b=>by
 obtain⟨p1,p2,p3⟩:=h a (by omega)
 exact⟨p1,p2,by omega⟩
theorem SS.mk0 {s s':St} (h:SI s→SI s'∧s'.made=s.made):SS 0 s s':=fun a _=>by
 obtain⟨p,q⟩:=h a
 exact⟨p,by omega,by omega⟩
theorem zcc (s:St) (a:Int):SS 0 s { s with c:=(s.c.give a).1 }:=SS.mk0 fun h=>by
 by_cases hi:s.c.isIt a=true
 ·obtain⟨a,rfl,ha⟩:=(qlf h.hi.ci).1 hi
  exact⟨(St.give_ok h ha).2.1,rfl⟩
 ·have:s.c.give a=(s.c,false):=by unfold Ce.give;rw[if_neg hi]
  rw[this];exact⟨h,rfl⟩
theorem zfg (s:St) (a i:Int) (v:V2):SS 0 s (s.set a i v).1:=SS.mk0 fun h=>by
 by_cases hc:vOk v=true∧0≤i∧i<s.fields a
 ·by_cases hi:s.c.isIt a=true
  ·obtain⟨a,rfl,ha⟩:=(qlf h.hi.ci).1 hi
   obtain⟨ser,fs,o,_⟩:=h.hi.obj a ha
   have:=(St.read_obj h.hi.ci o).1
   obtain⟨_,_,_,_,h5,h6⟩:=St.set_ok h o hc.1 (i:=i) (by omega)
   exact⟨h5,h6⟩
  ·exfalso
   unfold St.fields St.read at hc
   rw[if_neg hi] at hc
   simp only at hc
   omega
 ·rw[St.set_none hc];exact⟨h,rfl⟩
theorem zcb (s:St) (t n:Int):SS 1 s (match s.fast t n with | (_,none)=>s | (s',some _)=>s'):=fun h hm=>by
 rcases St.fast_ok h (by omega) t n with⟨e,_⟩ | ⟨a,s',e,e1,e2,e3⟩
 ·rw[e];exact⟨h,y4s _,by simp only;omega⟩
 ·rw[e];simp only;have:=e1.made;exact⟨e2,by omega,by omega⟩
theorem zcw (s:St) (np:Nat) {nt:Int} (hnt:nt≤9) (t n:Int):SS 1 s (s.slow np nt t n).1:=fun h hm=>by
 rcases St.slow_ok h (by omega) np hnt t n with⟨e,_,e1⟩ | ⟨a,s',e,e1,e2⟩
 ·rw[e1];exact⟨h,y4s _,by simp only;omega⟩
 ·rw[e];simp only;have:=e1.made;exact⟨e2,by omega,by omega⟩
section
variable (cf:Cf)
theorem qfq:∀(d:Nat) (c:Co),(c.advance cf d).s=c.s
 | 0,_=>rfl
 | d+1,c=>by
  unfold Co.advance
  repeat' split
  all_goals first | rfl | (rw[qfq];done) | (rw[qfq];rfl)
theorem qko (c:Co):(c.tUnit cf).1.s=c.s:=by
 unfold Co.tUnit
 repeat' split
 all_goals first | rfl | (unfold Co.entry;simp only;split <;> rfl) | (split <;> rfl)
theorem qrq (c:Co) (a:Int):SS 0 c.s (c.sweepOne a).s:=by
 unfold Co.sweepOne
 split
 ·exact SS.refl _
 ·exact zcc _ _
theorem qk6:∀(l:List Int) (c:Co),SS 0 c.s (c.sweepAll l).s
 | [],c=>SS.refl _
 | a :: l,c=>(qrq c a).then0 (qk6 l _)
theorem zaf (c:Co):SS 0 c.s (c.wUnit cf).1.s:=by
 unfold Co.wUnit
 split
 ·exact SS.refl _
 ·exact (qk6 _ c).then0 (SS.mk0 fun h=>⟨(St.trim_ok h _).1,(St.trim_ok h _).2.2.1⟩)
theorem qs6 (c:Co):SS 0 c.s (c.unit cf).1.s:=by
 have h1:∀(r:Co × Bool),SS 0 c.s r.1.s→SS 0 c.s (if r.2 then ({ r.1 with units:=w64 (r.1.units+1) }:Co) else r.1).s:=fun r h=>by split <;> exact h
 unfold Co.unit
 refine h1 _ ?_
 split
 ·have ht:=qko cf c
  generalize c.tUnit cf=z at ht
  obtain⟨d,b⟩:=z
  simp only at ht
  cases b with
  | true=>exact SS.of ht
  | false=>simp only;unfold Co.adv;rw[qfq];exact SS.of ht
 ·split
  ·have hw:=zaf cf c
   generalize c.wUnit cf=z at hw
   obtain⟨d,b⟩:=z
   simp only at hw ⊢
   split <;> exact hw
  ·exact SS.refl _
theorem qlx:∀(n:Nat) (c:Co),SS 0 c.s (c.workN cf n).1.s
 | 0,c=>SS.refl _
 | n+1,c=>by
  have h:=qs6 cf c
  unfold Co.workN
  generalize c.unit cf=z at h
  obtain⟨d,b⟩:=z
  cases b with
  | true=>exact h.then0 (qlx n d)
  | false=>exact h
theorem qfh (c:Co):(c.beginC cf).1.s=c.s:=by
 unfold Co.beginC Co.adv
 split
 ·simp only;rw[qfq];rfl
 ·rfl
theorem qn0 (c:Co) (t:Int):SS 0 c.s (c.detach cf t).s:=by
 unfold Co.detach Co.adv
 split
 ·simp only;rw[qfq];exact SS.mk0 fun h=>⟨(St.quit_ok h t).1,(St.quit_ok h t).2.2⟩
 ·exact SS.refl _
theorem qqq (c:Co) (t:Int):(c.poll cf t).s=c.s:=by
 unfold Co.poll Co.adv
 split
 ·simp only;rw[qfq]
  split
  ·rfl
  ·split <;> rfl
 ·rfl
theorem qh4 (c:Co) (t:Int) (v:V2):(c.push t v).1.s=c.s:=by unfold Co.push;split <;> rfl
theorem qoy (c:Co) (t:Int):(c.pop t).1.s=c.s:=by
 unfold Co.pop
 split
 ·split <;> rfl
 ·rfl
theorem qgo (c:Co) (a:Int):(c.color cf a).s=c.s:=by
 unfold Co.color
 split
 ·rfl
 ·split <;> rfl
theorem qyp (c:Co) (t n:Int):SS 1 c.s (c.fast cf t n).1.s:=by
 unfold Co.fast
 split
 ·have h:=zcb c.s t n
  generalize c.s.fast t n=z at h
  obtain⟨s',o⟩:=z
  cases o with
  | none=>exact h
  | some a=>simp only;rw[qgo];exact h
 ·exact SS.refl _
theorem qyu (h8:cf.threads≤8) (c:Co) (t n:Int):SS 1 c.s (c.slow cf t n).1.s:=by
 unfold Co.slow
 split
 ·have h:=zcw c.s cf.pages.toNat (nt:=cf.threads+1) (by omega) t n
  generalize c.s.slow cf.pages.toNat (cf.threads+1) t n=z at h
  obtain⟨s',a,e⟩:=z
  simp only at h ⊢
  split
  ·rw[qgo];exact h
  ·exact h
 ·exact SS.refl _
theorem qrd (c:Co) (t a i:Int) (v:V2):SS 0 c.s (c.write t a i v).1.s:=by
 unfold Co.write
 split
 ·exact zfg _ _ _ _
 ·exact SS.refl _
theorem qpr (m:Ma) (t n:Int):(m.charge cf t n).co=m.co:=by unfold Ma.charge;split <;> rfl
theorem qxj (m:Ma) (x:Stp):SS 0 m.co.s (m.tax cf x).1.co.s:=by
 unfold Ma.tax
 split
 ·exact SS.refl _
 ·simp only
  split
  ·exact SS.refl _
  ·simp only;rw[qpr];exact qlx cf _ _
theorem qpk (m:Ma) (n:Int):SS 0 m.co.s (m.ahead cf n).1.co.s:=qlx cf _ _
theorem qzm (h8:cf.threads≤8) (m:Ma) (x:Stp):SS 1 m.co.s (m.slow cf x).1.co.s:=by
 unfold Ma.slow
 simp only
 have h1:(if m.co.phase=0∧qa1 m.co.s.c.ks<cf.trigger then ({ m with co:=(m.co.beginC cf).1 }:Ma) else m).co.s=m.co.s:=by
  split
  ·exact qfh cf _
  ·rfl
 generalize (if m.co.phase=0∧qa1 m.co.s.c.ks<cf.trigger then ({ m with co:=(m.co.beginC cf).1 }:Ma) else m)=m1 at h1
 have h2:=qxj cf m1 x
 rw[h1] at h2
 generalize m1.tax cf x=z at h2
 obtain⟨m2,y⟩:=z
 simp only at h2 ⊢
 split
 ·exact h2.up (by decide)
 ·exact h2.trans (qyu cf h8 _ _ _)
theorem zan (m:Ma) (x:Stp) (a:Int) (y:Ans):(m.got x a y).1.co.s=m.co.s:=qh4 _ _ _
theorem qyd (h8:cf.threads≤8) (m:Ma) (x:Stp):SS 1 m.co.s (m.alloc cf x).1.co.s:=by
 unfold Ma.alloc
 split
 ·exact SS.refl _
 split
 ·exact SS.refl _
 have h:=qyp cf m.co x.t x.n
 generalize m.co.fast cf x.t x.n=z at h
 obtain⟨c,o⟩:=z
 cases o with
 | some a=>simp only;rw[zan];exact h
 | none=>
  simp only
  have h2:=qzm cf h8 m x
  split
  ·exact h2
  ·rw[zan];exact h2
theorem zcq (m:Ma) (x:Stp):(m.pushS x).1.co.s=m.co.s:=by
 unfold Ma.pushS
 split
 ·rfl
 ·have h:=qh4 m.co x.t (m.value x).1
  generalize m.co.push x.t (m.value x).1=z at h
  obtain⟨c,o⟩:=z
  cases o
  ·rfl
  ·exact h
theorem qz2 (m:Ma) (x:Stp):SS 0 m.co.s (m.spend cf x).1.co.s:=by
 unfold Ma.spend
 split
 ·split
  ·exact SS.of (qfh cf _)
  ·exact SS.refl _
 split
 ·exact SS.refl _
 split
 ·exact SS.refl _
 split
 ·exact qpk cf _ _
 split
 ·exact SS.refl _
 split
 ·exact SS.refl _
 simp only
 rw[qpr]
 exact qpk cf _ _
theorem zeu (h8:cf.threads≤8) (m:Ma) (x:Stp):SS 1 m.co.s (m.doS cf x).1.co.s:=by
 unfold Ma.doS
 split
 ·exact SS.refl _
 split
 ·exact (qn0 cf _ _).up (by decide)
 split
 ·exact qyd cf h8 _ _
 split
 ·exact SS.of (zcq _ _)
 split
 ·have h:=qoy m.co x.t
  generalize m.co.pop x.t=z at h
  obtain⟨c,o⟩:=z
  cases o
  ·exact SS.refl _
  ·exact SS.of h
 split
 ·unfold Ma.writeS
  split
  ·exact SS.refl _
  ·split
   ·exact SS.refl _
   ·exact (qrd _ _ _ _ _).up (by decide)
 split
 ·exact SS.refl _
 split
 ·exact SS.of (qqq cf _ _)
 ·exact (qz2 cf _ _).up (by decide)
theorem zcz (h8:cf.threads≤8) (m:Ma) (x:Stp):SS 1 m.co.s (m.step cf x).1.co.s:=by
 unfold Ma.step
 split
 ·exact SS.refl _
 split
 ·exact SS.refl _
 have h:=zeu cf h8 m x
 simp only
 split
 ·exact h
 ·exact h
end
def Fl (s:St) (a j b:Nat):Prop:=∃ser fs,qa3 s.c a ser fs∧fs[j]?=some (2,(b:Int))
structure Gro (S:Nat→Prop) (g g':Gy):Prop where
 up:∀a,g.mks a=true→g'.mks a=true
 new:∀a,g'.mks a=true→g.mks a=true∨(S a∧a<2048∧(g'.over=true∨((a:Int),0)∈g'.l))
 ov:g.over=true→g'.over=true
 li:∀e∈g.l,e∈g'.l
 ln:∀e∈g'.l,e∈g.l∨∃a:Nat,e=((a:Int),0)∧g'.mks a=true
theorem Gro.refl (S:Nat→Prop) (g:Gy):Gro S g g:=⟨fun _ h=>h,fun _ h => .inl h,fun h=>h,fun _ h=>h,fun _ h => .inl h⟩
theorem Gro.trans {S:Nat→Prop} {g g' g'':Gy} (h:Gro S g g') (k:Gro S g' g''):Gro S g g'':=by
 refine⟨fun a x=>k.up a (h.up a x),fun a x=>?_,fun x=>k.ov (h.ov x),fun e x=>k.li e (h.li e x),fun e x=>?_⟩
 ·rcases k.new a x with y | y
  ·rcases h.new a y with z | ⟨z1,z2,z3⟩
   ·exact .inl z
   ·exact .inr ⟨z1,z2,z3.imp k.ov (k.li _)⟩
  ·exact .inr y
 ·rcases k.ln e x with y | y
  ·rcases h.ln e y with z | ⟨a,z1,z2⟩
   ·exact .inl z
   ·exact .inr ⟨a,z1,k.up a z2⟩
  ·exact .inr y
theorem qf6 (g:Gy) {a:Nat} (h:a<2048):g.is (a:Int)=g.mks a:=by
 unfold Gy.is qd0
 rw[decide_eq_true (show (0:Int)≤(a:Int) by omega),decide_eq_true (show (a:Int)<2048 by omega)]
 rfl
theorem qt7 (g:Gy) {a:Int} (h:g.is a=true):∃n:Nat,a=n∧n<2048∧g.mks n=true:=by
 unfold Gy.is qd0 at h
 simp only[y2y,decide_eq_true_eq] at h
 exact⟨a.toNat,by omega,by omega,h.2⟩
section
variable (room:Int)
theorem qex (S:Nat→Prop) (g:Gy) {a:Int} (hS:∀n:Nat,a=n→S n):Gro S g (g.shade room a):=by
 unfold Gy.shade
 split
 rotate_left
 ·exact Gro.refl S g
 rename_i hc
 obtain⟨h0,h1,h2⟩:=hc
 obtain⟨n,rfl⟩:=y1b h0
 have hb:g.black (n:Int)={ g with mks:=qay g.mks n true }:=by unfold Gy.black;rw[if_pos ⟨h0,h1⟩,y2t]
 rw[hb]
 have hm:∀b,(qay g.mks n true) b=true↔b=n∨g.mks b=true:=fun b=>by
  unfold qay
  by_cases e:b=n
  ·rw[if_pos e];simp[e]
  ·rw[if_neg e];simp[e]
 unfold Gy.push
 simp only
 split
 ·refine⟨fun b x=>(hm b).2 (.inr x),fun b x=>?_,fun _=>rfl,fun e x=>x,fun e x => .inl x⟩
  rcases (hm b).1 x with rfl | y
  ·exact .inr ⟨hS _ rfl,by omega,.inl rfl⟩
  ·exact .inl y
 ·refine⟨fun b x=>(hm b).2 (.inr x),fun b x=>?_,fun x=>x,fun e x=>by simp[x],fun e x=>?_⟩
  ·rcases (hm b).1 x with rfl | y
   ·exact .inr ⟨hS _ rfl,by omega,.inr (by simp)⟩
   ·exact .inl y
  ·rcases y3q.1 x with y | y
   ·exact .inl y
   ·simp only[y2d] at y
    subst y
    exact .inr ⟨n,rfl,(hm n).2 (.inl rfl)⟩
theorem qiy (g:Gy) {n:Nat} (h:n<2048):(g.shade room (n:Int)).mks n=true:=by
 by_cases hm:g.mks n=true
 ·exact (qex room (fun _=>True) g fun _ _=>trivial).up n hm
 ·unfold Gy.shade
  rw[if_pos ⟨by omega,by omega,by rw[qf6 g h];simpa using hm⟩]
  have hb:g.black (n:Int)={ g with mks:=qay g.mks n true }:=by unfold Gy.black;rw[if_pos ⟨by omega,by omega⟩,y2t]
  rw[hb]
  unfold Gy.push
  split <;> simp[qay]
theorem qc6 (S:Nat→Prop):∀(l:List Int) (g:Gy),(∀n:Nat,(n:Int)∈l→S n)→Gro S g (g.shadeAll room l)
 | [],g,_=>Gro.refl S g
 | a :: l,g,h=>(qex room S g fun n e=>h n (by simp[e])).trans (qc6 S l _ fun n x=>h n (by simp[x]))
theorem qhw:∀(l:List Int) (g:Gy) (n:Nat),(n:Int)∈l→n<2048→(g.shadeAll room l).mks n=true
 | [],g,n,h,_=>by cases h
 | a :: l,g,n,h,hn=>by
  rw[Gy.shadeAll]
  by_cases e:a=(n:Int)
  ·subst e
   exact (qc6 room (fun _=>True) l _ fun _ _=>trivial).up n (qiy room g hn)
  ·rcases y4b.1 h with rfl | x
   ·exact absurd rfl e
   ·exact qhw l _ n x hn
theorem qes (cf:Cf) (S:Nat→Prop) {s:St} {a:Int}:∀(d:Nat) (i:Int) (g:Gy),(∀(j:Int) (n:Nat),i≤j→j<i+d→(s.get a j).1=(2,(n:Int))→S n)→Gro S g (qc8 cf s a d i g)
 | 0,_,g,_=>Gro.refl S g
 | d+1,i,g,h=>by
  rw[qc8]
  by_cases e:(s.get a i).1.1=2
  ·rw[if_pos e]
   exact (qex cf.stack S g fun n en=>h i n (by omega) (by omega) (Prod.ext e en)).trans (qes cf S d (i+1) _ fun j n a1 a2=>h j n (by omega) (by omega))
  ·rw[if_neg e]
   exact qes cf S d (i+1) _ fun j n a1 a2=>h j n (by omega) (by omega)
theorem qnm (cf:Cf) {s:St} {a:Int}:∀(d:Nat) (i:Int) (g:Gy) (j:Int) (n:Nat),i≤j→j<i+d→(s.get a j).1=(2,(n:Int))→n<2048→(qc8 cf s a d i g).mks n=true
 | 0,i,g,j,n,a1,a2,_,_=>by omega
 | d+1,i,g,j,n,a1,a2,hg,hn=>by
  rw[qc8]
  by_cases e:j=i
  ·subst e
   rw[hg,if_pos rfl]
   have:=qiy cf.stack g hn
   generalize g.shade cf.stack (n:Int)=g1 at this
   exact (qes cf (fun _=>True) d (j+1) g1 fun _ _ _ _ _=>trivial).up n this
  ·exact qnm cf d (i+1) _ j n (by omega) (by omega) hg hn
theorem qgi (cf:Cf) (S:Nat→Prop) {s:St}:∀(l:List Int) (g:Gy),(∀a∈l,∀(j:Int) (n:Nat),0≤j→(s.get a j).1=(2,(n:Int))→(qbr cf s l g).is a=true→S n)→Gro S g (qbr cf s l g)
 | [],g,_=>Gro.refl S g
 | a :: l,g,h=>by
  rw[qbr]
  rw[qbr] at h
  have h2:=qgi cf (fun _=>True) (s:=s) l (if g.is a then qc8 cf s a (s.fields a).toNat 0 g else g) fun _ _ _ _ _ _ _=>trivial
  have h1:Gro S g (if g.is a then qc8 cf s a (s.fields a).toNat 0 g else g):=by
   by_cases e:g.is a=true
   ·rw[if_pos e]
    rw[if_pos e] at h h2
    refine qes cf S _ 0 g fun j n a1 a2 hg=>h a (by simp) j n a1 hg ?_
    obtain⟨m,rfl,hm,hk⟩:=qt7 g e
    rw[qf6 _ hm]
    exact h2.up m ((qes cf (fun _=>True) _ 0 g fun _ _ _ _ _=>trivial).up m hk)
   ·rw[if_neg e];exact Gro.refl S g
  exact h1.trans (qgi cf S l _ fun b hb j n a1 hg hi=>h b (by simp[hb]) j n a1 hg hi)
theorem qmk (cf:Cf) {s:St}:∀(l:List Int) (g:Gy) (a:Int),a∈l→g.is a=true→∀(j:Int) (n:Nat),0≤j→j<s.fields a→(s.get a j).1=(2,(n:Int))→n<2048→(qbr cf s l g).mks n=true
 | [],g,a,h,_,_,_,_,_,_,_=>by cases h
 | b :: l,g,a,h,hi,j,n,j0,j1,hg,hn=>by
  rw[qbr]
  by_cases e:b=a
  ·subst e
   rw[if_pos hi]
   exact (qgi cf (fun _=>True) l _ fun _ _ _ _ _ _ _=>trivial).up n (qnm cf _ 0 g j n j0 (by omega) hg hn)
  ·rcases y4b.1 h with rfl | x
   ·exact absurd rfl e
   ·refine qmk cf l _ a x ?_ j n j0 j1 hg hn
    split
    ·obtain⟨m,rfl,hm,hk⟩:=qt7 g hi
     rw[qf6 _ hm]
     exact (qes cf (fun _=>True) _ 0 g fun _ _ _ _ _=>trivial).up m hk
    ·exact hi
end
def Pd (c:Co) (a j:Nat):Prop:=c.g.over=true∨(∃i:Int,((a:Int),i)∈c.g.l∧i≤j)∨(c.tp ≠ -1∧c.tp≤((a / 32:Nat):Int))
structure PC (c:Co) (Q:Nat→Prop):Prop where
 m1:∀a,c.g.mks a=true→Q a
 bf:∀l∈c.b,∀b:Nat,(b:Int)∈l→Q b
 pd:∀a j b,c.g.mks a=true→Fl c.s a j b→Pd c a j→Q b
 cl:∀a j b,Q a→c.g.mks a=false→Fl c.s a j b→Q b
theorem PC.shaded {S Q:Nat→Prop} {c c':Co} (h:PC c' Q) (hg:Gro S c.g c'.g) (hs:c'.s=c.s) (hb:∀l∈c.b,∀b:Nat,(b:Int)∈l→Q b) (ht:c'.tp=c.tp):PC c Q:=by
 refine⟨fun a x=>h.m1 a (hg.up a x),hb,fun a j b x f p=>h.pd a j b (hg.up a x) (by rw[hs];exact f) ?_,fun a j b q x f=>?_⟩
 ·rcases p with p | ⟨i,p,q⟩ | p
  ·exact .inl (hg.ov p)
  ·exact .inr (.inl ⟨i,hg.li _ p,q⟩)
  ·exact .inr (.inr (by rw[ht];exact p))
 ·by_cases e:c'.g.mks a=true
  ·rcases hg.new a e with y | ⟨_,_,y⟩
   ·rw[x] at y;cases y
   ·refine h.pd a j b e (by rw[hs];exact f) ?_
    rcases y with y | y
    ·exact .inl y
    ·exact .inr (.inl ⟨0,y,by omega⟩)
  ·exact h.cl a j b q (by simpa using e) (by rw[hs];exact f)
theorem qds {r:Rg} {t:Int}:r.live t=true↔0≤t∧t<r.l.length∧(r.l.getD t.toNat (false,0)).1=true:=by
 unfold Rg.live
 simp only[y2y,decide_eq_true_eq]
 exact⟨fun h=>⟨h.1.1,h.1.2,h.2⟩,fun h=>⟨⟨h.1,h.2.1⟩,h.2.2⟩⟩
theorem qzp {r:Rg} {t:Int} (h:r.live t=true):r.ofT t=(r.l.getD t.toNat (false,0)).2:=by unfold Rg.ofT;rw[if_pos h]
theorem qgx {α : Type} {l:List α} {i j:Nat} {x d : α}:(l.set i x).getD j d=if i=j∧i<l.length then x else l.getD j d:=by
 rw[y0h,y2u,y0h]
 by_cases e:i=j
 ·subst e
  by_cases h:i<l.length
  ·simp[h]
  ·simp[h]
 ·simp[e]
theorem qg4 {α : Type} {l:List α} {i:Nat} {x y : α} (h:y∈l.set i x):y=x∨y∈l:=by
 rcases y0r h with h | h
 ·exact .inr h
 ·exact .inl h
theorem qvq {r:Rg} (h:r.agreed=true) {t:Int} (ht:r.live t=true):r.ep≤r.ofT t:=by
 obtain⟨h0,h1,h2⟩:=qds.1 ht
 rw[qzp ht]
 unfold Rg.agreed at h
 have hm:r.l.getD t.toNat (false,0)∈r.l:=by rw[qcb (by omega)];exact y3g _
 have:=y2x.1 h _ hm
 rw[h2] at this
 simp only[Bool.true_and,y2n,decide_eq_false_iff_not] at this
 omega
theorem qim {r:Rg} {t:Int} {m:Bool × Int} (h0:0≤t) (h1:t<r.l.length) (u:Int):({ r with l:=r.l.set t.toNat m }:Rg).live u=if u=t then m.1 else r.live u:=by
 unfold Rg.live
 simp only[y3r,qgx]
 by_cases e:u=t
 ·subst e
  rw[if_pos rfl,if_pos ⟨rfl,by omega⟩,decide_eq_true h0,decide_eq_true h1]
  simp
 ·rw[if_neg e]
  by_cases e2:0≤u
  ·rw[if_neg (by omega)]
  ·simp[e2]
theorem qni {r:Rg} {t:Int} {m:Bool × Int} (h0:0≤t) (h1:t<r.l.length) (u:Int):({ r with l:=r.l.set t.toNat m }:Rg).ofT u=if u=t then (if m.1 then m.2 else -1) else r.ofT u:=by
 unfold Rg.ofT
 rw[qim h0 h1 u]
 simp only[qgx]
 by_cases e:u=t
 ·subst e
  rw[if_pos rfl,if_pos rfl,if_pos (show u.toNat=u.toNat∧u.toNat<r.l.length from⟨rfl,by omega⟩)]
 ·rw[if_neg e,if_neg e]
  by_cases hl:r.live u=true
  ·rw[if_pos hl,if_pos hl]
   obtain⟨u0,_,_⟩:=qds.1 hl
   rw[if_neg (by omega)]
  ·rw[if_neg hl,if_neg hl]
structure NI (c:Co) (N:Nat→Prop):Prop where
 m1:∀a,c.g.mks a=true→N a
 bf:∀l∈c.b,∀b:Nat,(b:Int)∈l→N b
 rt:∀l∈c.th,∀b:Nat,(2,(b:Int))∈l→N b
 gl:∀n:Nat,c.global=n→N n
 cl:∀a j b,N a→Fl c.s a j b→N b
theorem Fl.same {s s':St} (h:∀b,qav s.c s'.c b) {a j b:Nat}:Fl s' a j b↔Fl s a j b:=by
 constructor
 ·rintro⟨ser,fs,o,e⟩;exact⟨ser,fs,(h a).obj.1 o,e⟩
 ·rintro⟨ser,fs,o,e⟩;exact⟨ser,fs,(h a).obj.2 o,e⟩
theorem qme {s:St} (h:SI s) {x i:Int} {n:Nat} (hg:(s.get x i).1=(2,(n:Int))) (hi:0≤i):∃a:Nat,x=a∧s.c.tk a=true∧Fl s a i.toNat n∧n<2048∧i<s.fields x∧(s.get x i).2=true:=by
 by_cases ht:s.c.isIt x=true
 ·obtain⟨a,rfl,ha⟩:=(qlf h.hi.ci).1 ht
  obtain⟨ser,fs,o,_⟩:=h.hi.obj a ha
  have e:=St.get_obj h.hi.ci o i
  rw[if_pos hi] at e
  cases hf:fs[i.toNat]? with
  | none=>rw[hf] at e;rw[e] at hg;simp at hg
  | some v=>
   rw[hf] at e
   rw[e] at hg ⊢
   simp only at hg
   subst hg
   have hl:i.toNat<fs.length:=by
    apply y0q
    intro hc
    rw[y1l (by omega)] at hf;cases hf
   refine⟨a,rfl,ha,⟨ser,fs,o,hf⟩,?_,?_,rfl⟩
   ·have:=(o.fld i.toNat hl).1
    have e2:fs[i.toNat]=(2,(n:Int)):=by rw[y0v hl] at hf;exact y3k hf
    rw[e2] at this
    have:=qhg (by simpa[vOk] using this)
    omega
   ·rw[(St.read_obj h.hi.ci o).1];omega
 ·unfold St.get St.fields St.read at hg
  rw[if_neg ht,if_neg (by simp only;omega)] at hg
  simp at hg
theorem qjh {s:St} (h:SI s) {a j b:Nat} (hf:Fl s a j b):(s.get (a:Int) (j:Int)).1=(2,(b:Int))∧(j:Int)<s.fields (a:Int)∧s.c.tk a=true∧b<2048:=by
 obtain⟨ser,fs,o,e⟩:=hf
 have hl:j<fs.length:=by
  apply y0q
  intro hc
  rw[y1l (by omega)] at e;cases e
 refine⟨?_,by rw[(St.read_obj h.hi.ci o).1];omega,o.tk,?_⟩
 ·have:=St.get_obj h.hi.ci o (j:Int)
  rw[if_pos (by omega),y2t,e] at this
  rw[this]
 ·have:=(o.fld j hl).1
  have e2:fs[j]=(2,(b:Int)):=by rw[y0v hl] at e;exact y3k e
  rw[e2] at this
  have:=qhg (by simpa[vOk] using this)
  omega
def qa5 (c:Co) (a:Nat):Prop:=c.s.c.tk a=true∧(c.phase=5→((a / 32:Nat):Int)<c.at_∨c.g.mks a=true)
structure KI (cf:Cf) (E:Int) (c:Co):Prop where
 si:SI c.s
 ni:NI c (qa5 c)
 t8:0≤cf.threads∧cf.threads≤8
 thl:c.th.length=8
 rl:c.r.l.length=cf.threads.toNat
 bl:c.b.length=cf.threads.toNat
 vok:∀l∈c.th,∀v∈l,vOk v=true
 bok:∀l∈c.b,∀x∈l,0≤x∧x<2048
 ent:∀e∈c.g.l,∃n:Nat,e.1=n∧c.g.mks n=true∧0≤e.2
 gn:0≤c.global∧c.global<2048
 lv:∀t:Nat,c.r.live t=false→c.th.getD t []=[]
 ep:∀t:Nat,c.r.live t=true→c.r.ofT t≤c.r.ep
 e0:0≤c.r.ep∧c.r.ep≤E
 ph:0≤c.phase∧c.phase≤5
 calm:c.phase≤1∨c.phase=5→c.g.l=[]∧c.tp = -1∧c.g.over=false
 p01:c.phase≤1→∀a,c.g.mks a=false
 p5:c.phase=5→(∀l∈c.b,l=[])∧0≤c.at_∧∀a,c.g.mks a=true→c.at_≤((a / 32:Nat):Int)
 p24:2≤c.phase→c.phase≤4→c.g.mks c.global.toNat=true∧∀Q,PC c Q→(∀t:Nat,c.r.live t=true→(c.phase=2→c.r.ofT t=c.r.ep)→∀b:Nat,(2,(b:Int))∈c.th.getD t []→Q b)∧∀a j b,c.g.mks a=true→Fl c.s a j b→Q b
 p2:c.phase=2→c.tp = -1∧∀a,c.g.mks a=true→c.g.over=true∨((a:Int),0)∈c.g.l
 tpr:c.tp = -1∨(0≤c.tp∧c.tp<cf.pages)
section
variable {cf:Cf} {E:Int} {c:Co}
theorem KI.up (h:KI cf E c) {E':Int} (he:E≤E'):KI cf E' c:={ h with e0:=⟨h.e0.1,by have:=h.e0.2;omega⟩ }
theorem NI.gr {N S:Nat→Prop} {g':Gy} (h:NI c N) (hg:Gro S c.g g') (hS:∀a,S a→N a):NI { c with g:=g' } N:=
 ⟨fun a x=>(hg.new a x).elim (h.m1 a) fun y=>hS a y.1,h.bf,h.rt,h.gl,h.cl⟩
theorem KI.gr {S:Nat→Prop} {g':Gy} (h:KI cf E c) (h2:2≤c.phase) (h4:c.phase≤4) (hg:Gro S c.g g') (hS:∀a,S a→c.s.c.tk a=true):KI cf E { c with g:=g' }:=by
 have hK:∀a,qa5 { c with g:=g' } a↔qa5 c a:=fun a=>⟨fun x=>⟨x.1,fun e=>absurd e (by omega)⟩,fun x=>⟨x.1,fun e=>absurd e (by simp only;omega)⟩⟩
 have hn:=h.ni.gr hg fun a x=>⟨hS a x,fun e=>absurd e (by omega)⟩
 refine { h with ni:=⟨fun a x=>(hK a).2 (hn.m1 a x),fun l hl b hb=>(hK b).2 (hn.bf l hl b hb),fun l hl b hb=>(hK b).2 (hn.rt l hl b hb),fun n e=>(hK n).2 (hn.gl n e),fun a j b x f=>(hK b).2 (hn.cl a j b ((hK a).1 x) f)⟩,ent:=fun e he=>?_,calm:=fun e=>?_,p01:=fun e=>?_,p5:=fun e=>?_,p24:=fun _ _=>⟨hg.up _ (h.p24 h2 h4).1,fun Q hQ=>?_⟩,p2:=fun e=>⟨(h.p2 e).1,fun a x=>?_⟩ }
 ·rcases hg.ln e he with y | ⟨a,rfl,y⟩
  ·obtain⟨n,e1,e2,e3⟩:=h.ent e y
   exact⟨n,e1,hg.up n e2,e3⟩
  ·exact⟨a,rfl,y,y4s 0⟩
 ·simp only at e;omega
 ·simp only at e;omega
 ·simp only at e;omega
 ·have hQ':PC c Q:=hQ.shaded hg rfl hQ.bf rfl
  obtain⟨q1,q2⟩:=(h.p24 h2 h4).2 Q hQ'
  refine⟨q1,fun a j b x f=>?_⟩
  rcases hg.new a x with y | ⟨_,_,y⟩
  ·exact q2 a j b y f
  ·refine hQ.pd a j b x f ?_
   rcases y with y | y
   ·exact .inl y
   ·exact .inr (.inl ⟨0,y,by omega⟩)
 ·rcases hg.new a x with y | ⟨_,_,y⟩
  ·exact ((h.p2 e).2 a y).imp hg.ov (hg.li _)
  ·exact y
theorem qq9 (h:KI cf E c) (hE:E≤1000000000):w64 (c.r.ep+1)=c.r.ep+1:=qeg (by have:=h.e0;omega)
theorem KI.one_two (h:KI cf E c) (hE:E≤1000000000) (h1:c.phase=1):KI cf (E+1) (({ c with b:=c.b.map fun _=>[],g:=c.g.shade cf.stack c.global }:Co).raise 2):=by
 obtain⟨c1,c2,c3⟩:=h.calm (.inl (by omega))
 have cm:=h.p01 (by omega)
 obtain⟨n,hn⟩:=y1b h.gn.1
 have hg2:=h.gn.2
 have hkn:=h.ni.gl n hn
 have hg:Gro (fun a=>a=n) c.g (c.g.shade cf.stack c.global):=qex _ _ _ fun m e=>by omega
 have hgm:(c.g.shade cf.stack c.global).mks n=true:=by rw[hn];exact qiy _ _ (by omega)
 generalize c.g.shade cf.stack c.global=g' at hg hgm
 have hb:∀l∈(c.b.map fun _=>([]:List Int)),l=[]:=fun l hl=>by
  obtain⟨_,_,e⟩:=y4l.1 hl;exact e.symm
 have hE':=qq9 h hE
 have hful:∀a,g'.mks a=true→g'.over=true∨((a:Int),0)∈g'.l:=fun a x=>by
  rcases hg.new a x with y | y
  ·rw[cm] at y;cases y
  ·exact y.2.2
 have hKe:∀a,qa5 c a→qa5 (({ c with b:=c.b.map fun _=>[],g:=g' }:Co).raise 2) a:=fun a x=>⟨x.1,fun e=>absurd (show (2:Int)=5 from e) (by decide)⟩
 unfold Co.raise at hKe ⊢
 unfold Rg.raise at hKe ⊢
 refine⟨h.si,⟨fun a x=>?_,fun l hl b hb'=>?_,fun l hl b hb'=>hKe _ (h.ni.rt l hl b hb'),fun m e=>hKe _ (h.ni.gl m e),fun a j b x f=>hKe _ (h.ni.cl a j b ⟨x.1,fun e=>absurd e (by omega)⟩ f)⟩,h.t8,h.thl,h.rl,by simp only[y3t];exact h.bl,h.vok,fun l hl x hx=>?_,fun e he=>?_,h.gn,h.lv,fun t ht=>?_,?_,by simp only;decide,fun e=>?_,fun e=>?_,fun e=>?_,fun _ _=>⟨by simp only;rw[hn];exact hgm,fun Q hQ=>⟨fun t ht hc=>?_,fun a j b x f=>?_⟩⟩,fun _=>⟨c2,hful⟩,.inl c2⟩
 ·rcases hg.new a x with y | y
  ·rw[cm] at y;cases y
  ·rw[y.1];exact hKe _ hkn
 ·rw[hb l hl] at hb';cases hb'
 ·rw[hb l hl] at hx;cases hx
 ·rcases hg.ln e he with y | ⟨a,rfl,y⟩
  ·rw[c1] at y;cases y
  ·exact⟨a,rfl,y,y4s 0⟩
 ·simp only at ht ⊢
  have:=h.ep t ht
  rw[hE']
  show c.r.ofT t≤c.r.ep+1
  omega
 ·simp only;rw[hE'];have:=h.e0;omega
 ·simp only at e;omega
 ·simp only at e;omega
 ·simp only at e;omega
 ·have h3:=h.ep t ht
  have:=hc rfl
  simp only at this
  rw[hE'] at this
  have:c.r.ofT t=c.r.ep+1:=this
  omega
 ·refine hQ.pd a j b x f ?_
  rcases hful a x with y | y
  ·exact .inl y
  ·exact .inr (.inl ⟨0,y,by omega⟩)
theorem KI.two_three (h:KI cf E c) (h2:c.phase=2) (ha:c.r.agreed=true):KI cf E { c with phase:=3 }:=by
 have hK:∀a,qa5 { c with phase:=3 } a↔qa5 c a:=fun a=>⟨fun x=>⟨x.1,fun e=>absurd e (by omega)⟩,fun x=>⟨x.1,fun e=>absurd (show (3:Int)=5 from e) (by decide)⟩⟩
 obtain⟨g1,g2⟩:=h.p24 (by omega) (by omega)
 refine { h with ni:=⟨fun a x=>(hK a).2 (h.ni.m1 a x),fun l hl b hb=>(hK b).2 (h.ni.bf l hl b hb),fun l hl b hb=>(hK b).2 (h.ni.rt l hl b hb),fun n e=>(hK n).2 (h.ni.gl n e),fun a j b x f=>(hK b).2 (h.ni.cl a j b ((hK a).1 x) f)⟩,ph:=by simp only;decide,calm:=fun e=>?_,p01:=fun e=>?_,p5:=fun e=>?_,p24:=fun _ _=>⟨g1,fun Q hQ=>?_⟩,p2:=fun e=>?_ }
 ·simp only at e;omega
 ·simp only at e;omega
 ·simp only at e;omega
 ·obtain⟨q1,q2⟩:=g2 Q ⟨hQ.m1,hQ.bf,hQ.pd,hQ.cl⟩
  refine⟨fun t ht _=>q1 t ht fun _=>?_,q2⟩
  have:=qvq ha ht
  have:=h.ep t ht
  omega
 ·simp only at e;omega
theorem KI.three (h:KI cf E c) {p:Int} (h3:c.phase=3∨c.phase=4) (hp:p=3∨p=4):KI cf E { c with phase:=p }:=by
 have hK:∀a,qa5 { c with phase:=p } a↔qa5 c a:=fun a=>⟨fun x=>⟨x.1,fun e=>absurd e (by omega)⟩,fun x=>⟨x.1,fun e=>absurd e (by simp only;omega)⟩⟩
 obtain⟨g1,g2⟩:=h.p24 (by omega) (by omega)
 refine { h with ni:=⟨fun a x=>(hK a).2 (h.ni.m1 a x),fun l hl b hb=>(hK b).2 (h.ni.bf l hl b hb),fun l hl b hb=>(hK b).2 (h.ni.rt l hl b hb),fun n e=>(hK n).2 (h.ni.gl n e),fun a j b x f=>(hK b).2 (h.ni.cl a j b ((hK a).1 x) f)⟩,ph:=by simp only;omega,calm:=fun e=>?_,p01:=fun e=>?_,p5:=fun e=>?_,p24:=fun _ _=>⟨g1,fun Q hQ=>?_⟩,p2:=fun e=>?_ }
 ·simp only at e;omega
 ·simp only at e;omega
 ·simp only at e;omega
 ·obtain⟨q1,q2⟩:=g2 Q ⟨hQ.m1,hQ.bf,hQ.pd,hQ.cl⟩
  exact⟨fun t ht _=>q1 t ht fun e=>by omega,q2⟩
 ·simp only at e;omega
theorem KI.raised (h:KI cf E c) (hE:E≤1000000000) (h3:c.phase=3∨c.phase=4):KI cf (E+1) { c with r:=c.r.raise }:=by
 have hE':=qq9 h hE
 obtain⟨g1,g2⟩:=h.p24 (by omega) (by omega)
 refine { h with ni:=⟨h.ni.m1,h.ni.bf,h.ni.rt,h.ni.gl,h.ni.cl⟩,ep:=fun t ht=>?_,e0:=?_,p24:=fun _ _=>⟨g1,fun Q hQ=>?_⟩ }
 ·have:=h.ep t ht
  show c.r.ofT t≤w64 (c.r.ep+1)
  rw[hE'];omega
 ·show 0≤w64 (c.r.ep+1)∧w64 (c.r.ep+1)≤E+1
  rw[hE'];have:=h.e0;omega
 ·obtain⟨q1,q2⟩:=g2 Q ⟨hQ.m1,hQ.bf,hQ.pd,hQ.cl⟩
  exact⟨fun t ht _=>q1 t ht fun e=>by omega,q2⟩
theorem KI.four_five (h:KI cf E c) (h4:c.phase=4) (hb:qea c.b=true) (hi:c.tIdle=true):KI cf E { c with phase:=5,at_:=0,freed:=0 }:=by
 obtain⟨g1,g2⟩:=h.p24 (by omega) (by omega)
 unfold Co.tIdle at hi
 simp only[y2y,List.isEmpty_iff,decide_eq_true_eq,y2n] at hi
 obtain⟨⟨i1,i2⟩,i3⟩:=hi
 have hbe:∀l∈c.b,l=[]:=fun l hl=>by
  have:=y2x.1 hb l hl
  simpa using this
 have hQ:PC c (fun a=>c.g.mks a=true):=by
  refine⟨fun a x=>x,fun l hl b hm=>?_,fun a j b x f p=>?_,fun a j b x y f=>?_⟩
  ·rw[hbe l hl] at hm;cases hm
  ·rcases p with p | ⟨i,p,_⟩ | p
   ·rw[i3] at p;cases p
   ·rw[i1] at p;cases p
   ·exact absurd i2 p.1
  ·rw[x] at y;cases y
 obtain⟨q1,q2⟩:=g2 _ hQ
 have hKm:∀a,c.g.mks a=true→qa5 { c with phase:=5,at_:=0,freed:=0 } a:=fun a x=>⟨(h.ni.m1 a x).1,fun _ => .inr x⟩
 have hKe:∀a,qa5 { c with phase:=5,at_:=0,freed:=0 } a→c.g.mks a=true:=fun a x=>by
  rcases x.2 rfl with y | y
  ·simp only at y;omega
  ·exact y
 refine { h with ni:=⟨fun a x=>hKm a x,fun l hl b hm=>?_,fun l hl b hm=>?_,fun n e=>hKm n ?_,fun a j b x f=>hKm b (q2 a j b (hKe a x) f)⟩,ph:=by simp only;decide,calm:=fun _=>⟨i1,i2,i3⟩,p01:=fun e=>?_,p5:=fun _=>⟨hbe,y4s 0,fun a _=>by simp only;omega⟩,p24:=fun _ e=>?_,p2:=fun e=>?_ }
 ·simp only at hl;rw[hbe l hl] at hm;cases hm
 ·simp only at hl
  obtain⟨t,ht,e⟩:=y1y hl
  have e':c.th.getD t []=l:=by rw[qcb ht,e]
  refine hKm b (q1 t ?_ (fun e=>by omega) b (by rw[e'];exact hm))
  cases hlv:c.r.live t with
  | true=>rfl
  | false=>rw[h.lv t hlv] at e';rw[←e'] at hm;cases hm
 ·simp only at e
  rw[e] at g1
  simpa using g1
 ·simp only at e;omega
 ·simp only at e;omega
 ·simp only at e;omega
theorem KI.adv:∀(d:Nat) (c:Co) (E:Int),KI cf E c→(E:Int)+d≤1000000000→KI cf (E+d) (c.advance cf d)
 | 0,c,E,h,_=>by simpa[Co.advance] using h
 | d+1,c,E,h,hd=>by
  rw[Co.advance]
  by_cases ha:c.r.agreed=true
  rotate_left
  ·rw[if_neg ha];exact h.up (by omega)
  rw[if_pos ha]
  by_cases c1:c.phase=1
  ·rw[if_pos c1]
   have:=h.one_two (by omega) c1
   exact (KI.adv d _ (E+1) this (by omega)).up (by omega)
  rw[if_neg c1]
  by_cases c2:c.phase=2
  ·rw[if_pos c2]
   exact (KI.adv d _ E (h.two_three c2 ha) (by omega)).up (by omega)
  rw[if_neg c2]
  by_cases c4:c.phase=4∧qea c.b=true∧c.tIdle=true
  ·rw[if_pos c4]
   exact (KI.adv d _ E (h.four_five c4.1 c4.2.1 c4.2.2) (by omega)).up (by omega)
  rw[if_neg c4]
  by_cases c5:c.phase=4
  ·rw[if_pos c5]
   exact (KI.adv d _ E (h.three (.inr c5) (.inl rfl)) (by omega)).up (by omega)
  ·rw[if_neg c5];exact h.up (by omega)
end
end Go.Proofs.YtcakfaakbpdklaaGreatDoorV
