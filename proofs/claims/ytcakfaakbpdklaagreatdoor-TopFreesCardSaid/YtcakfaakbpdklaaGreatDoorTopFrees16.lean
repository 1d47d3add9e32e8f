/- Part 16 of what the law needs: own lemmas, in the order in which they build. -/
import Derived.Test.YtcakfaakbpdklaaGreatDoorProg
import Derived.Test.YtcakfaakbpdklaaGreatDoorTopFrees15
set_option linter.unusedSimpArgs false
set_option linter.unusedVariables false
set_option maxRecDepth 100000
namespace Go.Proofs.YtcakfaakbpdklaaGreatDoorV
open Go Go.Proofs Go.RowKit
open Go.Proofs.Tryz renaming prog→y5c
open Go.IntKind renaming i64→j6
open Go.Value renaming int→y4w,pointer→y4x,slice→y4y,agg→y5b
section
variable {K:VK} {w w':World} {A:Mad} {g:Gw} {cf:Cf} {B:Int} {x:Ma}
theorem qts (c:Co) (t:Int):(c.attach t).r.l.length=c.r.l.length:=by
 unfold Co.attach Rg.attach
 split <;> simp
theorem qtz (cf:Cf) (c:Co) (t:Int):(c.detach cf t).r.l.length=c.r.l.length:=by
 unfold Co.detach
 split
 ·show (Co.advance cf 4 _).r.l.length=_
  rw[qm6]
  unfold Rg.detach
  split <;> simp
 ·rfl
theorem qzu (cf:Cf) (c:Co) (t:Int):(c.poll cf t).r.l.length=c.r.l.length:=by
 have cl:(c.r.confirm t).1.l.length=c.r.l.length:=by unfold Rg.confirm;split <;> simp
 unfold Co.poll
 split
 ·show (Co.advance cf 4 _).r.l.length=_
  rw[qm6]
  simp only
  split
  ·exact cl
  ·split
   ·exact cl
   ·exact cl
 ·rfl
theorem zgi (c:Co) (t:Int):(c.pop t).1.r=c.r:=by
 unfold Co.pop
 split
 ·split <;> rfl
 ·rfl
theorem zgn {s:Stp} (h:qaf A g cf B w x) (hB:B≤1000000000000) (hi:0≤s.i) (hj:0≤s.j) (hth:s.kd=16∨s.kd=17∨∃t:Nat,s.t=(t:Int)∧t<cf.threads.toNat)
  (hk:∀g' w',MTo A cf.threads.toNat g w g' w'→qaf A g' cf (B+64) w' (x.doS cf s).1→K (anV (x.doS cf s).2) w'):
  C.i y5c 57 #[y4x (some ⟨A.ma,0,none⟩),stV s] w K:=by
 have up:∀ {g':Gw} {w':World} {x':Ma},qaf A g' cf B w' x'→qaf A g' cf (B+64) w' x':=fun h=>h.mono (by omega)
 refine F57.sh (C.av fun y w1 hn1=>C.av fun r w2 hn2=>?_)
 have l1:=hn1.is
 have l2:=hn2.is
 have s1:=hn1.fr.size
 have lr:=qac hn2.at_
 have f2:=hn1.fr.trans hn2.fr
 have h2:=h.keep0 f2
 have e2:qdc w2 y r s:=⟨hn2.fr.at_ hn1.at_ (by simp),_,hn2.at_,rfl⟩
 have yl2:Loc A cf.threads.toNat g y w2:=h.loc (by omega) (qac e2.y)
 have rl2:Loc A cf.threads.toNat g r w2:=h.loc (by omega) lr
 have S2:∀w',Fr [] w2 w'→w'.heap[A.ma]?=some (maB A cf)∧w'.heap[y]?=some (.cells (stV s).cells 40 (0,0)):=fun w' hf=>⟨hf.at_ h2.blk (by simp),hf.at_ e2.y (by simp)⟩
 unfold Ma.doS at hk
 have put:∀(a:Ans) g3 w3 (x3:Ma),MTo A cf.threads.toNat g w2 g3 w3→qaf A g3 cf (B+64) w3 x3→(∀g' w',MTo A cf.threads.toNat g w g' w'→qaf A g' cf (B+64) w' x3→K (anV a) w')→C.ak 5 (y4x (some ⟨r,0,none⟩)) (anV a) w3 fun w4=>C.an 5 (y4x (some ⟨r,0,none⟩)) w4 fun r _=>K r w4:=fun a g3 w3 x3 t3 h3 hk=>by
  have e3:=e2.to t3 yl2 rl2
  obtain⟨cr,r3,rs3⟩:=e3.r
  exact qcs (a:=a) ((MTo.w f2).trans t3) h3 (rl2.step t3) (by omega) r3 rs3 fun w' ht' h'=>hk _ w' ht' h'
 have okEnd:∀g3 w3 (x3:Ma),MTo A cf.threads.toNat g w2 g3 w3→qaf A g3 cf (B+64) w3 x3→(∀g' w',MTo A cf.threads.toNat g w g' w'→qaf A g' cf (B+64) w' x3→K (anV Ans.ok) w')→F57.k27 K (y4x (some ⟨r,0,none⟩)) w3:=fun g3 w3 x3 t3 h3 hk=>
  F57.k27.to (C.a4 qkd (put Ans.ok g3 w3 x3 t3 h3 hk))
 have th:s.kd≠16→s.kd≠17→∃t:Nat,s.t=(t:Int)∧t<cf.threads.toNat:=fun a b=>by
  rcases hth with e | e | e
  ·exact absurd e a
  ·exact absurd e b
  ·exact e
 try simp only[zv]
 refine C.ad (v:=y4w j6 s.kd) e2.y rfl ?_
 by_cases k1:s.kd=1
 ·rw[if_pos k1] at hk
  simp only[zv,eq_self,k1]
  refine C.a5 (fun w'=>w'.heap[A.ma]?=some (maB A cf)∧w'.heap[y]?=some (.cells (stV s).cells 40 (0,0))) fun w3 hf3 _=>⟨S2 w3 hf3,?_⟩
  have h3:=h2.keep0 hf3
  refine C.ao (v:=y4x (some ⟨A.Q.co,0,none⟩)) (fun w' hw=>⟨_,_,_,hw.1,rfl⟩) (C.ao (v:=y4w j6 s.t) (fun w' hw=>⟨_,_,_,hw.2,rfl⟩) ⟨qxr h3.co fun w4 ht4 h4=>?_,trivial⟩)
  have h4':=h3.setC ht4 h4 (qts _ _)
  have t4:MTo A cf.threads.toNat g w3 _ w4:=MTo.c ht4
  exact⟨⟨h4'.blk,(yl2.fr hf3).at_ t4 (S2 w3 hf3).2⟩,okEnd _ w4 _ ((MTo.w hf3).trans t4) (up h4') hk⟩
 rw[if_neg k1] at hk
 simp only[zv,k1]
 by_cases k2:s.kd=2
 ·rw[if_pos k2] at hk
  simp only[zv,eq_self,k2]
  refine C.a5 (fun w'=>w'.heap[A.ma]?=some (maB A cf)∧w'.heap[y]?=some (.cells (stV s).cells 40 (0,0))) fun w3 hf3 _=>⟨S2 w3 hf3,?_⟩
  have h3:=h2.keep0 hf3
  refine C.ao (v:=y4x (some ⟨A.Q.co,0,none⟩)) (fun w' hw=>⟨_,_,_,hw.1,rfl⟩) (C.ao (v:=y4w j6 s.t) (fun w' hw=>⟨_,_,_,hw.2,rfl⟩) ⟨qxw h3.co fun m' w4 ht4 h4=>?_,trivial⟩)
  have h4':=h3.setC ht4 h4 (qtz _ _ _)
  have t4:MTo A cf.threads.toNat g w3 { g with m:=m' } w4:=MTo.c ht4
  exact⟨⟨h4'.blk,(yl2.fr hf3).at_ t4 (S2 w3 hf3).2⟩,okEnd _ w4 _ ((MTo.w hf3).trans t4) (up h4') hk⟩
 rw[if_neg k2] at hk
 simp only[zv,k2]
 by_cases k3:s.kd=3
 ·rw[if_pos k3] at hk
  simp only[zv,eq_self,k3]
  obtain⟨t,et,ht⟩:=th (by omega) (by omega)
  exact C.ax e2.y rfl (zau (s:=s) (t:=t) h2 hB et ht fun g3 w3 t3 h3=>put _ g3 w3 _ t3 (up h3) hk)
 rw[if_neg k3] at hk
 simp only[zv,k3]
 have psh:(s.kd=4∨s.kd=5∨s.kd=6∨s.kd=7∨s.kd=9)→C.an 7 (y4x (some ⟨y,0,none⟩)) w2 fun x42 w27=>C.i y5c 101 #[y4x (some ⟨A.ma,0,none⟩),x42] w27 fun x43 w28=>C.ak 5 (y4x (some ⟨r,0,none⟩)) x43 w28 fun w29=>C.an 5 (y4x (some ⟨r,0,none⟩)) w29 fun r30 _=>K r30 w29:=fun hp=>by
  rw[if_pos hp] at hk
  exact C.ax e2.y rfl (zbj (s:=s) h2 hi fun g3 w3 t3 h3=>put _ g3 w3 _ t3 (up h3) hk)
 by_cases k4:s.kd=4
 ·simp only[zv,eq_self,k4]
  exact psh (by omega)
 simp only[zv,k4]
 by_cases k5:s.kd=5
 ·simp only[zv,eq_self,k5]
  exact psh (by omega)
 simp only[zv,k5]
 by_cases k6:s.kd=6
 ·simp only[zv,eq_self,k6]
  exact psh (by omega)
 simp only[zv,k6]
 by_cases k7:s.kd=7
 ·simp only[zv,eq_self,k7]
  exact psh (by omega)
 simp only[zv,k7]
 by_cases k9:s.kd=9
 ·simp only[zv,eq_self,k9]
  exact psh (by omega)
 rw[if_neg (by omega)] at hk
 simp only[zv,k9]
 by_cases k8:s.kd=8
 ·rw[if_pos k8] at hk
  simp only[zv,eq_self,k8]
  refine C.a5 (fun w'=>w'.heap[A.ma]?=some (maB A cf)∧w'.heap[y]?=some (.cells (stV s).cells 40 (0,0))) fun w3 hf3 _=>⟨S2 w3 hf3,?_⟩
  have h3:=h2.keep0 hf3
  have e3:=e2.fr hf3
  have yl3:=yl2.fr hf3
  have rl3:=rl2.fr hf3
  have fin:∀(b:Bool) (v:V2) z g4 w4 (x4:Ma),MTo A cf.threads.toNat g w3 g4 w4→qaf A g4 cf B w4 x4→w4.heap[z]?=some (.cells (V v.1 v.2).cells 60 (0,0))→
    (b=false→∀g' w',MTo A cf.threads.toNat g w g' w'→qaf A g' cf (B+64) w' x4→K (anV (Ans.err 4)) w')→(b=true→∀g' w',MTo A cf.threads.toNat g w g' w'→qaf A g' cf (B+64) w' x4→K (anV ⟨0,(x4.told v).1,(x4.told v).2,0,0⟩) w')→
    F57.k17 K (y4x (some ⟨A.ma,0,none⟩)) (y4x (some ⟨r,0,none⟩)) (y4x (some ⟨z,0,none⟩)) (.bool b) w4:=fun b v z g4 w4 x4 t4 h4 hz hk0 hk1=>by
   have e4:=e3.to t4 yl3 rl3
   obtain⟨cr,r4,rs4⟩:=e4.r
   refine F57.k17.to ?_
   cases b with
   | false=>
    simp only[zv]
    exact qdd (e:=4) (((MTo.w f2).trans (MTo.w hf3)).trans t4) h4 (rl3.step t4) (by omega) r4 rs4 fun w' ht' h'=>hk0 rfl _ w' ht' (up h')
   | true=>
    simp only[zv]
    refine F57.k19.to (C.ax hz rfl (ql6 (v:=v) h4 fun w5 hf5=>?_))
    exact put _ g4 w5 x4 (((MTo.w hf3).trans t4).trans (MTo.w hf5)) (up (h4.keep0 hf5)) (hk1 rfl)
  have okr:∀(c':Co) (o:Option V2),x.co.pop s.t=(c',o)→c'.r.l.length=x.co.r.l.length:=fun c' o e=>by have:=zgi x.co s.t;rw[e] at this;simp only at this;rw[this]
  refine C.ao (v:=y4x (some ⟨A.Q.co,0,none⟩)) (fun w' hw=>⟨_,_,_,hw.1,rfl⟩) (C.ao (v:=y4w j6 s.t) (fun w' hw=>⟨_,_,_,hw.2,rfl⟩) ⟨zal h3.co fun m' w4 ht4 h4=>?_,C.av fun z w4 hn4=>?_,trivial⟩)
  ·have h4':=h3.setC ht4 h4 (okr _ _ rfl)
   have t4:MTo A cf.threads.toNat g w3 { g with m:=m' } w4:=MTo.c ht4
   have y4:=yl3.at_ t4 e3.y
   refine⟨⟨h4'.blk,y4⟩,?_⟩
   cases ep:x.co.pop s.t with
   | mk c' o=>
    rw[ep] at hk h4'
    cases o with
    | none=>
     have e0:c'=x.co:=by
      unfold Co.pop at ep
      split at ep
      ·split at ep
       ·simp at ep
       ·simp only[y4e] at ep;exact ep.1.symm
      ·simp only[y4e] at ep;exact ep.1.symm
     subst e0
     simp only at hk
     try simp only[zv]
     refine⟨C.av fun z w5 hn5=>⟨⟨hn5.fr.at_ h4'.blk (by simp),hn5.fr.at_ y4 (by simp)⟩,C.a0 (x:=V 0 0) hn5.at_ rfl qal rfl fun w6 hu6=>?_,trivial⟩,trivial⟩
     have l5:=hn5.is
     have f46:Fr [] w4 w6:=hn5.fr.then hu6.fr (by simp;omega)
     have h6:=h4'.keep0 f46
     exact⟨⟨h6.blk,f46.at_ y4 (by simp)⟩,fin false (0,0) z _ w6 _ (t4.trans (MTo.w f46)) h6 hu6.at_ (fun _=>hk) (fun e=>by cases e)⟩
    | some v=>
     simp only at hk
     try simp only[zv]
     refine⟨C.av fun z w5 hn5=>⟨⟨hn5.fr.at_ h4'.blk (by simp),hn5.fr.at_ y4 (by simp)⟩,C.a0 (x:=V v.1 v.2) hn5.at_ rfl qal rfl fun w6 hu6=>?_,trivial⟩,trivial⟩
     have l5:=hn5.is
     have f46:Fr [] w4 w6:=hn5.fr.then hu6.fr (by simp;omega)
     have h6:=h4'.keep0 f46
     exact⟨⟨h6.blk,f46.at_ y4 (by simp)⟩,fin true v z _ w6 _ (t4.trans (MTo.w f46)) h6 hu6.at_ (fun e=>by cases e) (fun _=>hk)⟩
  ·have l4:=hn4.is
   have s3:=hf3.size
   have s2:=f2.size
   have h4:=h3.keep0 hn4.fr
   have y4:=hn4.fr.at_ e3.y (by simp)
   have zl4:Loc A cf.threads.toNat g z w4:=h3.loc (by omega) (qac hn4.at_)
   refine⟨⟨h4.blk,y4⟩,zal h4.co fun m' w5 ht5 h5=>?_,trivial⟩
   have h5':=h4.setC ht5 h5 (okr _ _ rfl)
   have t5:MTo A cf.threads.toNat g w4 { g with m:=m' } w5:=MTo.c ht5
   have y5:=(yl3.fr hn4.fr).at_ t5 y4
   have z5:=zl4.at_ t5 hn4.at_
   have zl5:=zl4.step t5
   have hzy:z≠y:=by have:=yl3.lt;omega
   have hza:z≠A.ma:=by have:=qac h3.blk;omega
   refine⟨⟨h5'.blk,y5⟩,?_⟩
   cases ep:x.co.pop s.t with
   | mk c' o=>
    rw[ep] at hk h5'
    cases o with
    | none=>
     have e0:c'=x.co:=by
      unfold Co.pop at ep
      split at ep
      ·split at ep
       ·simp at ep
       ·simp only[y4e] at ep;exact ep.1.symm
      ·simp only[y4e] at ep;exact ep.1.symm
     subst e0
     simp only at hk
     try simp only[zv]
     refine⟨C.a0 (x:=V 0 0) z5 rfl qal rfl fun w6 hu6=>?_,trivial⟩
     have h6:=h5'.keepL hu6.fr zl5
     exact⟨⟨h6.blk,hu6.fr.at_ y5 (by simpa using Ne.symm hzy)⟩,fin false (0,0) z _ w6 _ (((MTo.w hn4.fr).trans t5).then hu6.fr (by simp;omega)) h6 hu6.at_ (fun _=>hk) (fun e=>by cases e)⟩
    | some v=>
     simp only at hk
     try simp only[zv]
     refine⟨C.a0 (x:=V v.1 v.2) z5 rfl qal rfl fun w6 hu6=>?_,trivial⟩
     have h6:=h5'.keepL hu6.fr zl5
     exact⟨⟨h6.blk,hu6.fr.at_ y5 (by simpa using Ne.symm hzy)⟩,fin true v z _ w6 _ (((MTo.w hn4.fr).trans t5).then hu6.fr (by simp;omega)) h6 hu6.at_ (fun e=>by cases e) (fun _=>hk)⟩
 rw[if_neg k8] at hk
 simp only[zv,k8]
 by_cases k10:s.kd=10
 ·rw[if_pos k10] at hk
  simp only[zv,eq_self,k10]
  exact C.ax e2.y rfl (qyb (s:=s) h2 hi hj fun g3 w3 t3 h3=>put _ g3 w3 _ t3 (up h3) hk)
 rw[if_neg k10] at hk
 simp only[zv,k10]
 have asks:(s.kd=11∨s.kd=12)→C.an 7 (y4x (some ⟨y,0,none⟩)) w2 fun x42 w27=>C.i y5c 104 #[y4x (some ⟨A.ma,0,none⟩),x42] w27 fun x43 w28=>C.ak 5 (y4x (some ⟨r,0,none⟩)) x43 w28 fun w29=>C.an 5 (y4x (some ⟨r,0,none⟩)) w29 fun r30 _=>K r30 w29:=fun hp=>by
  rw[if_pos hp] at hk
  exact C.ax e2.y rfl (zft (s:=s) h2 hp hi hj fun w3 t3 h3=>put _ g w3 _ t3 (up h3) hk)
 by_cases k11:s.kd=11
 ·simp only[zv,eq_self,k11]
  exact asks (.inl k11)
 simp only[zv,k11]
 by_cases k12:s.kd=12
 ·simp only[zv,eq_self,k12]
  exact asks (.inr k12)
 rw[if_neg (fun e=>e.elim k11 k12)] at hk
 simp only[zv,k12]
 by_cases k14:s.kd=14
 ·rw[if_pos k14] at hk
  simp only[zv,eq_self,k14]
  refine C.a5 (fun w'=>w'.heap[A.ma]?=some (maB A cf)∧w'.heap[y]?=some (.cells (stV s).cells 40 (0,0))) fun w3 hf3 _=>⟨S2 w3 hf3,?_⟩
  have h3:=h2.keep0 hf3
  refine C.ao (v:=y4x (some ⟨A.Q.co,0,none⟩)) (fun w' hw=>⟨_,_,_,hw.1,rfl⟩) (C.ao (v:=y4w j6 s.t) (fun w' hw=>⟨_,_,_,hw.2,rfl⟩) ⟨zdu h3.co fun b m' w4 ht4 h4=>?_,trivial⟩)
  have h4':=h3.setC ht4 h4 (qzu _ _ _)
  have t4:MTo A cf.threads.toNat g w3 { g with m:=m' } w4:=MTo.c ht4
  exact⟨⟨h4'.blk,(yl2.fr hf3).at_ t4 (S2 w3 hf3).2⟩,okEnd _ w4 _ ((MTo.w hf3).trans t4) (up h4') hk⟩
 rw[if_neg k14] at hk
 simp only[zv,k14]
 exact C.ax e2.y rfl (qya (s:=s) h2 hB hth fun g3 w3 t3 h3=>put _ g3 w3 _ t3 h3 hk)
theorem qvm {s:Stp} (h:qaf A g cf B w x) (hB:B≤1000000000000) (hk:∀g' w',MTo A cf.threads.toNat g w g' w'→qaf A g' cf (B+64) w' (x.step cf s).1→K (anV (x.step cf s).2) w'):
  C.i y5c 20 #[y4x (some ⟨A.ma,0,none⟩),stV s] w K:=by
 have up:∀ {g':Gw} {w':World} {x':Ma},qaf A g' cf B w' x'→qaf A g' cf (B+64) w' x':=fun h=>h.mono (by omega)
 refine F20.sh (C.av fun y w1 hn1=>C.av fun r w2 hn2=>?_)
 have l1:=hn1.is
 have l2:=hn2.is
 have s1:=hn1.fr.size
 have lr:=qac hn2.at_
 have f2:=hn1.fr.trans hn2.fr
 have h2:=h.keep0 f2
 have e2:qdc w2 y r s:=⟨hn2.fr.at_ hn1.at_ (by simp),_,hn2.at_,rfl⟩
 have yl2:Loc A cf.threads.toNat g y w2:=h.loc (by omega) (qac e2.y)
 have rl2:Loc A cf.threads.toNat g r w2:=h.loc (by omega) lr
 unfold Ma.step at hk
 have err:∀(e:Int) w3,Fr [] w2 w3→(∀g' w',MTo A cf.threads.toNat g w g' w'→qaf A g' cf (B+64) w' x→K (anV (Ans.err e)) w')→C.i y5c 54 #[y4w j6 e] w3 fun x1 w1=>C.ak 5 (y4x (some ⟨r,0,none⟩)) x1 w1 fun w2=>C.an 5 (y4x (some ⟨r,0,none⟩)) w2 fun r _=>K r w2:=fun e w3 hf3 hk=>
  qdd (e:=e) (MTo.w (f2.trans hf3)) (h2.keep0 hf3) (rl2.fr hf3) (by omega) (hf3.at_ hn2.at_ (by simp)) rfl fun w' ht' h'=>hk g w' ht' (up h')
 refine ql2 h2 ?_
 try simp only[zv]
 refine F20.k3.to (C.ax e2.y rfl (zax (s:=s) fun w3 hf3=>?_))
 try simp only[C.bh]
 by_cases c1:s.check=0
 ·rw[if_neg (by simp[c1])] at hk
  simp only[zv,eq_self,c1,ne_eq,not_true_eq_false]
  have h3:=h2.keep0 hf3
  refine F20.k6.to (C.ax (hf3.at_ e2.y (by simp)) rfl (zf4 (s:=s) h3 fun w4 hf4=>?_))
  have f24:=hf3.trans hf4
  have h4:=h2.keep0 f24
  try simp only[C.bh]
  by_cases c2:x.who cf s=0
  ·rw[if_neg (by simp[c2])] at hk
   simp only at hk
   simp only[zv,eq_self,c2,ne_eq,not_true_eq_false]
   have hsm:¬(s.kd<1∨17<s.kd)∧s.small.any (fun n=>decide (n<0) || decide (255<n))=false:=by
    unfold Stp.check at c1
    by_cases a1:s.kd<1∨17<s.kd
    ·rw[if_pos a1] at c1;exact absurd c1 (by decide)
    ·rw[if_neg a1] at c1
     refine⟨a1,?_⟩
     cases hh:s.small.any (fun n=>decide (n<0) || decide (255<n)) with
     | false=>rfl
     | true=>rw[if_pos hh] at c1;exact absurd c1 (by decide)
   have rng:0≤s.t∧0≤s.i∧0≤s.j:=by
    have:=hsm.2
    simp only[Stp.small,List.any_cons,List.any_nil,Bool.or_false,Bool.or_eq_false_iff,decide_eq_false_iff_not] at this
    omega
   have hth:s.kd=16∨s.kd=17∨∃t:Nat,s.t=(t:Int)∧t<cf.threads.toNat:=by
    by_cases a1:16≤s.kd
    ·have:=hsm.1;omega
    ·unfold Ma.who at c2
     rw[if_neg a1] at c2
     by_cases a2:cf.threads≤s.t
     ·rw[if_pos a2] at c2;exact absurd c2 (by decide)
     ·exact .inr (.inr ⟨s.t.toNat,by omega,by omega⟩)
   refine F20.k9.to (C.ax (f24.at_ e2.y (by simp)) rfl (zgn (s:=s) h4 hB rng.2.1 rng.2.2 hth fun g5 w5 t5 h5=>?_))
   have e5:=(e2.fr f24).to t5 (yl2.fr f24) (rl2.fr f24)
   have yl5:=(yl2.fr f24).step t5
   have rl5:=(rl2.fr f24).step t5
   have tt5:=(MTo.w (f2.trans f24)).trans t5
   have sz5:=tt5.fr.size
   generalize x.doS cf s=p at *
   obtain⟨x5,a5⟩:=p
   simp only at hk h5 ⊢
   refine C.av fun z w6 hn6=>C.a0 (x:=anV a5) hn6.at_ rfl qc3 rfl fun w7 hu7=>?_
   have l6:=hn6.is
   have f57:Fr [] w5 w7:=hn6.fr.then hu7.fr (by simp;omega)
   have h7:=h5.keep0 f57
   have e7:=e5.fr f57
   have z7:=hu7.at_
   have zl7:Loc A cf.threads.toNat g5 z w7:=h5.loc (by omega) (qac z7)
   have tt7:=tt5.trans (MTo.w f57)
   have fin:∀g8 w8 (x8:Ma),MTo A cf.threads.toNat g5 w7 g8 w8→qaf A g8 cf (B+64) w8 x8→(∀g' w',MTo A cf.threads.toNat g w g' w'→qaf A g' cf (B+64) w' x8→K (anV a5) w')→F20.k12 K (y4x (some ⟨r,0,none⟩)) (y4x (some ⟨z,0,none⟩)) w8:=fun g8 w8 x8 t8 h8 hk=>by
    have e8:=e7.to t8 (yl5.fr f57) (rl5.fr f57)
    obtain⟨cr,r8,rs8⟩:=e8.r
    exact F20.k12.to (C.ax (zl7.at_ t8 z7) rfl (qcs (a:=a5) (tt7.trans t8) h8 ((rl5.fr f57).step t8) (by omega) r8 rs8 fun w' ht' h'=>hk _ w' ht' h'))
   try simp only[zv]
   refine C.ad (v:=y4w j6 s.kd) e7.y rfl ?_
   by_cases d1:3≤s.kd
   ·simp only[zv,show s.kd≥3 from d1]
    refine C.ad (v:=y4w j6 s.kd) e7.y rfl ?_
    by_cases d2:s.kd≤12
    ·simp only[zv,d2]
     refine C.ad (v:=y4w j6 a5.code) z7 rfl ?_
     by_cases d3:a5.code=0
     ·rw[if_pos ⟨d1,d2,d3⟩] at hk
      simp only[zv,eq_self,d3]
      obtain⟨t,et,ht⟩:∃t:Nat,s.t=(t:Int)∧t<cf.threads.toNat:=by
       rcases hth with e | e | e
       ·omega
       ·omega
       ·exact e
      refine C.a5 (fun w'=>w'.heap[A.ma]?=some (maB A cf)∧w'.heap[y]?=some (.cells (stV s).cells 40 (0,0))) fun w8 hf8 _=>⟨⟨hf8.at_ h7.blk (by simp),hf8.at_ e7.y (by simp)⟩,?_⟩
      have h8:=h7.keep0 hf8
      refine C.bn (vs:=[y4x (some ⟨A.lg,0,none⟩),y4x (some ⟨A.bn,0,none⟩)]) (fun w' hw=>qaf.prS hw.1) (C.ao (v:=y4w j6 s.t) (fun w' hw=>⟨_,_,_,hw.2,rfl⟩) ?_)
      rw[et] at hk ⊢
      refine⟨zak h8 ht (by omega) (by omega) fun g9 w9 t9 h9=>?_,trivial⟩
      have e9:=(e7.fr hf8).to t9 ((yl5.fr f57).fr hf8) ((rl5.fr f57).fr hf8)
      exact⟨⟨h9.blk,e9.y⟩,fin g9 w9 _ ((MTo.w hf8).trans t9) h9 hk⟩
     ·rw[if_neg (fun e=>d3 e.2.2)] at hk
      simp only[zv,d3]
      exact fin g5 w7 x5 (MTo.refl _ _ _ _) h7 hk
    ·rw[if_neg (fun e=>d2 e.2.1)] at hk
     simp only[zv,d2]
     exact fin g5 w7 x5 (MTo.refl _ _ _ _) h7 hk
   ·rw[if_neg (fun e=>d1 e.1)] at hk
    simp only[zv,show ¬s.kd≥3 from d1]
    exact fin g5 w7 x5 (MTo.refl _ _ _ _) h7 hk
  ·rw[if_pos c2] at hk
   simp only[zv,c2,ne_eq,not_false_eq_true]
   exact err _ w4 f24 hk
 ·rw[if_pos c1] at hk
  simp only[zv,c1,ne_eq,not_false_eq_true]
  exact err _ w3 hf3 hk
end
section
variable {K:VK} {w:World}
theorem qp9 (n:Nat) (v:Int):qag (List.replicate n v)=List.replicate n [y4w j6 v]:=by simp[qag]
theorem qhx {n:Int} {hi:Int} (h0:0≤n) (h1:n≤hi):(if n<0 then 0 else if n>hi then hi else n)=n:=by
 rw[if_neg (by omega),if_neg (by omega)]
theorem zdt {n:Nat} (hn:n≤64) (hk:∀b kv w',Fr [] w w'→w.heap.size≤b→b<w'.heap.size→(∀x∈qaa kv,w.heap.size≤x∧x<w'.heap.size)→qbh w' b kv (List.replicate n 0)→K (y4x (some ⟨b,0,none⟩)) w'):
  C.i y5c 170 #[y4w j6 (n:Int)] w K:=by
 refine F170.sh (qdb ?_)
 rw[qhx (by omega) (by omega)]
 refine C.b6 (e:=3) (sz:=1) (bytes:=8) (z:=y4w j6 0) n Tryz.underlying54 (by kernel_rfl) rfl (by decide) (by simp[Value.cells,Value.oneCell']) (by omega) (by omega) fun g w1 hn1 ho1=>?_
 refine C.a4 (w':=w1) (v:=y5b #[.bool true,y4y (some ⟨g,0,none⟩) n n]) (by kernel_rfl) (C.av fun b w2 hn2=>?_)
 have l1:=hn1.is
 have l2:=hn2.is
 have s1:=hn1.fr.size
 have z2:=qac hn2.at_
 refine hk b (y4y (some ⟨g,0,none⟩) n n) w2 (hn1.fr.trans hn2.fr) (by omega) z2 (fun x hx=>?_) ⟨hn2.at_,?_,?_⟩
 ·simp[qaa,Value.ownBlock] at hx;have:=qac hn1.at_;omega
 ·rw[qp9];exact ho1.keep hn2.fr (by simp)
 ·simpa using hn
theorem zdp {n:Nat} (hn:n≤2048) (hk:∀b mv w',Fr [] w w'→w.heap.size≤b→b<w'.heap.size→(∀x∈qaa mv,w.heap.size≤x∧x<w'.heap.size)→qax w' b mv (List.replicate n 0)→K (y4x (some ⟨b,0,none⟩)) w'):
  C.i y5c 172 #[y4w j6 (n:Int)] w K:=by
 refine F172.sh (qdb ?_)
 rw[qhx (by omega) (by omega)]
 refine C.b6 (e:=2) (sz:=1) (bytes:=8) (z:=y4w j6 0) n Tryz.underlying52 (by kernel_rfl) rfl (by decide) (by simp[Value.cells,Value.oneCell']) (by omega) (by omega) fun g w1 hn1 ho1=>?_
 refine C.a4 (w':=w1) (v:=y5b #[.bool true,y4y (some ⟨g,0,none⟩) n n]) (by kernel_rfl) (C.av fun b w2 hn2=>?_)
 have l1:=hn1.is
 have l2:=hn2.is
 have s1:=hn1.fr.size
 have z2:=qac hn2.at_
 refine hk b (y4y (some ⟨g,0,none⟩) n n) w2 (hn1.fr.trans hn2.fr) (by omega) z2 (fun x hx=>?_) ⟨hn2.at_,?_,?_,?_⟩
 ·simp[qaa,Value.ownBlock] at hx;have:=qac hn1.at_;omega
 ·rw[qp9];exact ho1.keep hn2.fr (by simp)
 ·simpa using hn
 ·intro x hx;simp at hx;omega
theorem zgt:(Instr.buildSlice 54 0 #[]).run y5c w = .ok (y4y (some ⟨w.heap.size,0,none⟩) 0 0) (w.alloc (.cells #[] 3)):=by kernel_rfl
theorem qxv {v:Value} {l:List Int} (hv:RdS w v 1 (qag l)) (hl:l.length≤1000000) (h:∀v' w',Fr [] w w'→qad w' v' 3 1 (qag l)→qaj w v'→K v' w'):C.i y5c 240 #[v] w K:=by
 have hv':=hv
 obtain⟨A,c,rfl,h1,h2,h3⟩:=hv
 refine F240.sh ⟨_,qgv (e:=3) _ _ _ _ _ Tryz.underlying54,?_⟩
 cases A with
 | none=>
  have:l=[]:=by
   cases l with
   | nil=>rfl
   | cons x l=>obtain⟨g,o,cs,e,fz,hA,_⟩:=h3 (by simp[qag]);cases hA
  subst this
  simp only[Option.isNone_none,C.ah]
  exact h _ w (Fr.refl _ _) (qad.nil w 3 1) (qaj.nil w)
 | some a=>
  simp only[Option.isNone_some,C.ac]
  refine F240.k3.to (C.a4 zgt ?_)
  have hn:=New.mk' w (.cells #[] 3)
  refine C.b7 (xs:=[]) (e:=3) (sz:=1) (bytes:=8) (z:=y4w j6 0) Tryz.underlying54 (by kernel_rfl) rfl (by decide) (qad.of_block hn.at_ rfl (by simp) (by simp) rfl (by simp) (by simp)) (hv'.keep hn.fr) qp8 (by rw[qak];simp;omega) (by rw[qak];simp;omega) fun v' w' ho hf hb _=>?_
  refine h v' w' (hn.fr.then hf fun x hx=>?_) (by simpa using ho) fun g hg=>?_
  ·rw[qam] at hx
   simp only[Value.ownBlock,y2k] at hx
   exact .inr (by omega)
  ·rcases hb with hb | ⟨g',hb,hle⟩
   ·rw[hb] at hg
    simp only[Value.ownBlock,y2k] at hg
    omega
   ·rw[hg] at hb
    simp only[y2k] at hb
    have:=hn.fr.size
    omega
end
theorem ch0 (p:Nat):(List.replicate 64 ((0:Int),(0:Int))).getD p (0,0)=(0,0):=by
 unfold List.getD
 cases h:(List.replicate 64 ((0:Int),(0:Int)))[p]? with
 | none=>rfl
 | some v=>exact y0w (y1r h)
def qtw (b mb tb:Nat):Array Value := #[y4x (some ⟨b,0,none⟩),y4x (some ⟨mb,0,none⟩),y4w j6 0,y4w j6 0,y4w j6 0,y4w j6 0,y4w j6 0,y4w j6 0,y4w j6 0,y4w j6 0,y4w j6 0,y4w j6 0,y4w j6 0,y4w j6 0,y4w j6 0,y4w j6 0,y4w j6 0,y4w j6 0,y4w j6 0,y4w j6 0,y4w j6 0,y4w j6 0,y4w j6 0,y4w j6 0,y4w j6 0,y4w j6 0,y4w j6 0,y4w j6 0,y4w j6 0,y4w j6 0,y4w j6 0,y4w j6 0,y4w j6 0,y4w j6 0,y4w j6 0,y4w j6 0,y4w j6 0,y4w j6 0,y4w j6 0,y4w j6 0,y4w j6 0,y4w j6 0,y4w j6 0,y4w j6 0,y4w j6 0,y4w j6 0,y4w j6 0,y4w j6 0,y4w j6 0,y4w j6 0,y4w j6 0,y4w j6 0,y4w j6 0,y4w j6 0,y4w j6 0,y4w j6 0,y4w j6 0,y4w j6 0,y4w j6 0,y4w j6 0,y4w j6 0,y4w j6 0,y4w j6 0,y4w j6 0,y4w j6 0,y4w j6 0,y4w j6 0,y4w j6 0,y4w j6 0,y4w j6 0,y4w j6 0,y4w j6 0,y4w j6 0,y4w j6 0,y4w j6 0,y4w j6 0,y4w j6 0,y4w j6 0,y4w j6 0,y4w j6 0,y4w j6 0,y4w j6 0,y4w j6 0,y4w j6 0,y4w j6 0,y4w j6 0,y4w j6 0,y4w j6 0,y4w j6 0,y4w j6 0,y4w j6 0,y4w j6 0,y4w j6 0,y4w j6 0,y4w j6 0,y4w j6 0,y4w j6 0,y4w j6 0,y4w j6 0,y4w j6 0,y4w j6 0,y4w j6 0,y4w j6 0,y4w j6 0,y4w j6 0,y4w j6 0,y4w j6 0,y4w j6 0,y4w j6 0,y4w j6 0,y4w j6 0,y4w j6 0,y4w j6 0,y4w j6 0,y4w j6 0,y4w j6 0,y4w j6 0,y4w j6 0,y4w j6 0,y4w j6 0,y4w j6 0,y4w j6 0,y4w j6 0,y4w j6 0,y4w j6 0,y4w j6 0,y4w j6 0,y4w j6 0,y4w j6 0,y4w j6 0,y4x (some ⟨tb,0,none⟩)]
def zer (b mb tb:Nat):Value:=y5b (qtw b mb tb)
theorem qtx (b mb tb:Nat):(zer b mb tb).cells=qtw b mb tb:=by rfl
theorem zgp {w:World} (b mb tb:Nat):(Instr.build 244 #[(0,y5b #[y4x (some ⟨b,0,none⟩)]),(1,y4x (some ⟨mb,0,none⟩)),(3,y4x (some ⟨tb,0,none⟩))]).run y5c w = .ok (zer b mb tb) w:=by kernel_rfl
theorem qyn (b mb tb:Nat):∀p,p<64→(qtw b mb tb)[2+p*2]?=some (y4w j6 0)∧(qtw b mb tb)[2+p*2+1]?=some (y4w j6 0)
 | 0,_ | 1,_ | 2,_ | 3,_ | 4,_ | 5,_ | 6,_ | 7,_ | 8,_ | 9,_ | 10,_ | 11,_ | 12,_ | 13,_ | 14,_ | 15,_ | 16,_ | 17,_ | 18,_ | 19,_ | 20,_ | 21,_ | 22,_ | 23,_ | 24,_ | 25,_ | 26,_ | 27,_ | 28,_ | 29,_ | 30,_ | 31,_ | 32,_ | 33,_ | 34,_ | 35,_ | 36,_ | 37,_ | 38,_ | 39,_ | 40,_ | 41,_ | 42,_ | 43,_ | 44,_ | 45,_ | 46,_ | 47,_ | 48,_ | 49,_ | 50,_ | 51,_ | 52,_ | 53,_ | 54,_ | 55,_ | 56,_ | 57,_ | 58,_ | 59,_ | 60,_ | 61,_ | 62,_ | 63,_=>⟨rfl,rfl⟩
 | p+64,h=>by omega
section
variable {K:VK} {w:World}
theorem zdh {n:Nat} (hn:n≤64) (hk:∀(A:Cad) w',Fr [] w w'→(∀x∈A.all,w.heap.size≤x∧x<w'.heap.size)→qar A w' (Ce.new n)→K (y4x (some ⟨A.cel,0,none⟩)) w'):
  C.i y5c 112 #[y4w j6 (n:Int)] w K:=by
 refine F112.sh (zdt hn fun b kv w1 hf1 hb1 hb1' hk1 hp1=>?_)
 refine F171.sh ⟨_,qan _ _ _ Tryz.underlying234,?_⟩
 try simp only[zv]
 refine F171.k3.to ?_
 try simp only[zv]
 refine C.ad (v:=kv) hp1.blk rfl (qxv hp1.own.rd (by simp;omega) fun v2 w2 hf2 ho2 hn2=>C.bg ho2.rd ?_)
 rw[qak,y1m]
 try simp only[C.bp]
 rw[qab (n:=(n:Int)*32) (by omega),show (n:Int)*32=((n*32:Nat):Int) by omega]
 refine C.a4 (w':=w2) (v:=y5b #[y4x (some ⟨b,0,none⟩)]) (by kernel_rfl) (zdp (n:=n*32) (by omega) fun mb mv w3 hf3 hb3 hb3' hk3 hm3=>?_)
 refine quq (by omega) (by omega) fun tb w4 hf4 e4 s4 ht4=>?_
 refine C.a4 (zgp b mb tb) (C.av fun cb w5 hn5=>?_)
 have l5:=hn5.is
 have s1:=hf1.size
 have s2:=hf2.size
 have s3:=hf3.size
 have s5:=hn5.fr.size
 have z5:=qac hn5.at_
 have f15:=((hf2.trans hf3).trans hf4).trans hn5.fr
 refine hk ⟨cb,b,mb,tb,kv,mv⟩ w5 (hf1.trans f15) (fun x hx=>?_) ?_
 ·simp only[Cad.all,y4b,y3q] at hx
  rcases hx with rfl | rfl | rfl | rfl | hx | hx
  ·omega
  ·omega
  ·omega
  ·omega
  ·have:=hk1 x hx;omega
  ·have:=hk3 x hx;omega
 ·have nn:(Ce.new (n:Int)).n=((n*32:Nat):Int):=by simp[Ce.n,Ce.new]
  have hb:=hn5.at_
  rw[qtx] at hb
  refine⟨⟨_,hb,rfl,rfl,rfl,rfl,fun p hp=>?_⟩,?_,?_,?_,by simp[Ce.new],by simp[Ce.new],fun p=>?_⟩
  ·have e0:(Ce.new (n:Int)).ch.getD p (0,0)=(0,0):=ch0 p
   rw[e0]
   exact qyn b mb tb p hp
  ·have:=hp1.keep0 f15;simpa[Ce.new] using this
  ·have:=hm3.keep0 (hf4.trans hn5.fr);simpa[Ce.new] using this
  ·rw[nn];exact ht4.keep hn5.fr (by simp)
  ·have e0:(Ce.new (n:Int)).ch.getD p (0,0)=(0,0):=ch0 p
   rw[e0];simp
end
section
variable {K:VK} {w:World}
theorem qwg (n:Nat):qa1 (List.replicate n 0)=(n:Int):=by
 unfold qa1
 congr 1
 rw[List.countP_eq_length.2 (by intro a ha;simp[y0w ha]),y1m]
theorem zd4 {n:Nat} {nt:Int} (hn:n≤64) (h0:0≤nt) (h9:nt≤9) (hT:TzB w) (hz:0<w.heap.size) (hk:∀(D:Sad) w',Fr [] w w'→(∀x∈D.all,x=0∨(w.heap.size≤x∧x<w'.heap.size))→qau D n nt w' ⟨Ce.new n,fun _=>none,0⟩→K (y4x (some ⟨D.st,0,none⟩)) w'):
  C.i y5c 73 #[y4w j6 (n:Int),y4w j6 nt] w K:=by
 refine F73.sh (zdh hn fun A w1 hf1 hA1 hc1=>zdr fun ob om w2 hf2 ho2 hm2 hne h2=>?_)
 rw[qhx h0 (by omega)] at h2
 have s1:=hf1.size
 have s2:=hf2.size
 have lo2:=h2.lt
 have c2:=hc1.keep0 hf2
 refine C.a4 (w':=w2) (v:=y5b #[y4x (some ⟨A.cel,0,none⟩),y4x (some ⟨ob,0,none⟩),y4w j6 0,y4w j6 0,y4w j6 0]) (by kernel_rfl) (C.av fun st w3 hn3=>?_)
 have l3:=hn3.is
 have c3:=c2.keep0 hn3.fr
 have o3:=h2.keep hn3.fr (by simp) (by simp)
 try simp only[zv]
 refine C.ad (v:=y4x (some ⟨A.cel,0,none⟩)) hn3.at_ rfl (qry c3 fun w4 hf4=>?_)
 rw[show (Ce.new (n:Int)).ks=List.replicate n 0 by simp[Ce.new],qwg]
 have b4:=hf4.at_ hn3.at_ (by simp)
 refine C.bb b4 rfl rfl (by simp[Value.cells]) fun w5 hu5=>?_
 refine C.a4 (qlj _ _ _ _ _) (C.a4 (qqg _ _ _ _ _) ?_)
 rw[show min (max nt 0) 9=nt by omega]
 refine C.bb hu5.at_ rfl rfl (by simp[Value.cells]) fun w6 hu6=>?_
 have z3:=qac hn3.at_
 have s4:=hf4.size
 have s5:=hu5.fr.size
 have s6:=hu6.fr.size
 have f6:Fr [] w w6:=((((hf1.trans hf2).trans hn3.fr).trans hf4).then hu5.fr (by simp;omega)).then hu6.fr (by simp;omega)
 have nA:∀x∈A.all,x≠st:=fun x hx=>by have:=hA1 x hx;omega
 have c6:qar A w6 (Ce.new (n:Int)):=((c3.keep0 hf4).keepA hu5.fr (fun x hx=>by simpa using nA x hx)).keepA hu6.fr (fun x hx=>by simpa using nA x hx)
 have o6:qdl w6 ob om nt (fun _=>none):=((o3.keep hf4 (by simp) (by simp)).keep hu5.fr (by simp;omega) (by simp;omega)).keep hu6.fr (by simp;omega) (by simp;omega)
 refine hk ⟨A,st,ob,om⟩ w6 f6 (fun x hx=>?_) ⟨⟨by simp only;omega,by simp only;omega,hne,fun e=>?_,fun e=>?_,fun e=>?_,fun e=>?_⟩,?_,c6,o6,hn,hT.keep f6 (by simp)⟩
 ·simp only[Sad.all,y4b] at hx
  rcases hx with rfl | rfl | rfl | rfl | hx
  ·exact .inl rfl
  ·exact .inr (by omega)
  ·exact .inr (by omega)
  ·exact .inr (by omega)
  ·have:=hA1 x hx;exact .inr (by omega)
 ·have:=hA1 _ e;simp only at this;omega
 ·have:=hA1 _ e;simp only at this;omega
 ·have:=hA1 _ e;simp only at this;omega
 ·simp only[y4b] at e
  rcases e with e | e | e | e
  ·omega
  ·omega
  ·omega
  ·have:=hA1 0 e;omega
 ·have:=hu6.at_
  simpa[Value.cells] using this
end
section
variable {K:VK} {w:World}
theorem qib {n lo hi:Int} (h0:lo≤n) (h1:n≤hi):(if n<lo then lo else if n>hi then hi else n)=n:=by
 rw[if_neg (by omega),if_neg (by omega)]
theorem zdm {room:Int} (h1:1≤room) (h2:room≤256) (hk:∀(G:Gad) w',Fr [] w w'→[G.gr,G.wa,G.sk,G.mb].Nodup→(∀x∈[G.gr,G.wa,G.sk,G.mb],w.heap.size≤x∧x<w'.heap.size)→qbb G (y4y none 0 0) room w' ⟨[],false,fun _=>false⟩→K (y4x (some ⟨G.gr,0,none⟩)) w'):
  C.i y5c 74 #[y4w j6 room] w K:=by
 refine F74.sh (F115.sh (qdb ?_))
 rw[qib h1 h2]
 refine C.a4 (w':=w) (v:=y5b #[y4y none 0 0,y4w j6 room,.bool false]) (by kernel_rfl) (C.av fun sk w1 hn1=>?_)
 refine C.a4 (w':=w1) (v:=y5b #[y4x (some ⟨sk,0,none⟩)]) (by kernel_rfl) (C.av fun wa w2 hn2=>?_)
 refine quq (n:=2048) (by omega) (by omega) fun mb w3 hf3 e3 s3 hm3=>?_
 refine C.a4 (w':=w3) (v:=y5b #[y4x (some ⟨wa,0,none⟩),y4x (some ⟨mb,0,none⟩)]) (by kernel_rfl) (C.av fun gr w4 hn4=>?_)
 have l1:=hn1.is
 have l2:=hn2.is
 have l4:=hn4.is
 have s1:=hn1.fr.size
 have s2:=hn2.fr.size
 have z1:=qac hn1.at_
 have z2:=qac hn2.at_
 have z4:=qac hn4.at_
 have s34:=hn4.fr.size
 refine hk ⟨gr,wa,sk,mb⟩ w4 (((hn1.fr.trans hn2.fr).trans hf3).trans hn4.fr) ?_ (fun x hx=>?_) ⟨hn4.at_,?_,⟨?_,qad.nil _ _ _,⟨h1,h2⟩,by simp;omega⟩,hm3.keep hn4.fr (by simp)⟩
 ·simp only[y3s,y4b,y3i,or_false,not_or,not_false_eq_true,List.nodup_nil,and_true]
  omega
 ·simp only[y4b,y3i,or_false] at hx
  rcases hx with rfl | rfl | rfl | rfl <;> omega
 ·exact hn4.fr.at_ (hf3.at_ hn2.at_ (by simp)) (by simp)
 ·exact hn4.fr.at_ (hf3.at_ (hn2.fr.at_ hn1.at_ (by simp)) (by simp)) (by simp)
theorem zdj {n:Nat} (hn:n≤8) (hk:∀re rv w',Fr [] w w'→w.heap.size≤re→re<w'.heap.size→(∀x∈qaa rv,w.heap.size≤x∧x<w'.heap.size)→qbw re rv w' ⟨0,List.replicate n (false,0)⟩→K (y4x (some ⟨re,0,none⟩)) w'):
  C.i y5c 75 #[y4w j6 (n:Int)] w K:=by
 refine F75.sh (qdb ?_)
 rw[qhx (by omega) (by omega)]
 refine C.b6 (e:=212) (sz:=2) (bytes:=16) (z:=y5b #[.bool false,y4w j6 0]) n Tryz.underlying181 (by kernel_rfl) rfl (by decide) (by simp[Value.cells,Value.oneCell']) (by omega) (by omega) fun g w1 hn1 ho1=>?_
 refine C.a4 (w':=w1) (v:=y5b #[.bool true,y4w j6 0,y4y (some ⟨g,0,none⟩) n n]) (by kernel_rfl) (C.av fun b w2 hn2=>?_)
 have l1:=hn1.is
 have l2:=hn2.is
 have s1:=hn1.fr.size
 have z1:=qac hn1.at_
 have z2:=qac hn2.at_
 have s2:=hn2.fr.size
 refine hk b (y4y (some ⟨g,0,none⟩) n n) w2 (hn1.fr.trans hn2.fr) (by omega) z2 (fun x hx=>?_) ⟨hn2.at_,?_,by simpa using hn⟩
 ·simp[qaa,Value.ownBlock] at hx;omega
 ·have e:qg3 (List.replicate n (false,0))=List.replicate n [.bool false,y4w j6 0]:=by simp[qg3]
  rw[e];exact ho1.keep hn2.fr (by simp)
theorem zdk {n:Nat} (hn:n≤8) (hk:∀bu bv w',Fr [] w w'→w.heap.size≤bu→bu<w'.heap.size→(∀x∈qaa bv,w.heap.size≤x∧x<w'.heap.size)→qbv bu bv (List.replicate n (y4y none 0 0)) w' (List.replicate n [])→K (y4x (some ⟨bu,0,none⟩)) w'):
  C.i y5c 76 #[y4w j6 (n:Int)] w K:=by
 refine F76.sh (qdb ?_)
 rw[qhx (by omega) (by omega)]
 refine C.b6 (e:=54) (sz:=1) (bytes:=24) (z:=y4y none 0 0) n Tryz.underlying184 (by kernel_rfl) rfl (by decide) (by simp[Value.cells,Value.oneCell']) (by omega) (by omega) fun g w1 hn1 ho1=>?_
 refine C.a4 (w':=w1) (v:=y5b #[.bool true,y4y (some ⟨g,0,none⟩) n n]) (by kernel_rfl) (C.av fun b w2 hn2=>?_)
 have l1:=hn1.is
 have l2:=hn2.is
 have s1:=hn1.fr.size
 have z1:=qac hn1.at_
 have z2:=qac hn2.at_
 have s2:=hn2.fr.size
 have nob:∀v∈List.replicate n (Value.slice none 0 0),qaa v=[]:=fun v hv=>by rw[y0w hv];rfl
 refine hk b (y4y (some ⟨g,0,none⟩) n n) w2 (hn1.fr.trans hn2.fr) (by omega) z2 (fun x hx=>?_) ⟨hn2.at_,?_,⟨by simp,fun i h1 h2=>?_,fun i j h1 h2 _ x hx=>?_⟩,by simpa using hn,fun l hl=>?_⟩
 ·simp[qaa,Value.ownBlock] at hx;omega
 ·have e:qfn (List.replicate n (y4y none 0 0))=List.replicate n [y4y none 0 0]:=by simp[qfn]
  rw[e];exact ho1.keep hn2.fr (by simp)
 ·have e1:(List.replicate n (Value.slice none 0 0))[i]=y4y none 0 0:=by simp
  have e2:((List.replicate n ([]:List Int)).map qag)[i]=[]:=by simp[qag]
  rw[e1,e2];exact qad.nil _ _ _
 ·rw[nob _ (y3g h1)] at hx;simp at hx
 ·rw[y0w hl];simp
theorem zea {st gr:Nat} {pages chunk:Int} (h1:1≤pages∧pages≤64) (h2:1≤chunk∧chunk≤16) (hk:∀tr w',New w tr (.cells #[y4x (some ⟨st,0,none⟩),y4x (some ⟨gr,0,none⟩),y4w j6 pages,y4w j6 chunk,y4w j6 (-1)] 188) w'→K (y4x (some ⟨tr,0,none⟩)) w'):
  C.i y5c 77 #[y4x (some ⟨st,0,none⟩),y4x (some ⟨gr,0,none⟩),y4w j6 pages,y4w j6 chunk] w K:=by
 refine F77.sh (qdb ?_)
 rw[qib h1.1 h1.2]
 refine qdb ?_
 rw[qib h2.1 h2.2]
 exact C.a4 (w':=w) (v:=y5b #[y4x (some ⟨st,0,none⟩),y4x (some ⟨gr,0,none⟩),y4w j6 pages,y4w j6 chunk,y4w j6 (-1)]) (by kernel_rfl) (C.av hk)
theorem zef {st gr:Nat} {pages:Int} (h1:1≤pages∧pages≤64) (hk:∀sw w',New w sw (.cells #[y4x (some ⟨st,0,none⟩),y4x (some ⟨gr,0,none⟩),y4w j6 pages,y4w j6 pages,y4w j6 0] 190) w'→K (y4x (some ⟨sw,0,none⟩)) w'):
  C.i y5c 78 #[y4x (some ⟨st,0,none⟩),y4x (some ⟨gr,0,none⟩),y4w j6 pages] w K:=by
 refine F78.sh (qdb ?_)
 rw[qib h1.1 h1.2]
 exact C.a4 (w':=w) (v:=y5b #[y4x (some ⟨st,0,none⟩),y4x (some ⟨gr,0,none⟩),y4w j6 pages,y4w j6 pages,y4w j6 0]) (by kernel_rfl) (C.av hk)
end
end Go.Proofs.YtcakfaakbpdklaaGreatDoorV
namespace Go.Proofs.YtcakfaakbpdklaaGreatDoorV
open Go Go.Proofs
open Go.Proofs.Tryz renaming prog→y5c
open Go.IntKind renaming i64→j6
open Go.Value renaming int→y4w,pointer→y4x,slice→y4y,agg→y5b
noncomputable section
variable {K:VK} {w:World} {x0 y1:Value}
namespace F41
def ann:Ann:=⟨[(4,[1])],[],[],[(4,(.take 0 (.take 2 (.take 6 (.take 1 (.take 3 (.take 4 (.take 7 (.take 10 (.go 5 (.go 8 (.take 9 (.take 11 (.go 12 (.take 13 .fin) .fin))) .fin) .fin)))))))))),(5,(.take 0 (.take 1 (.take 2 (.take 5 (.take 3 (.take 6 (.go 4 (.go 7 (.take 8 (.take 9 (.go 10 (.take 11 (.take 12 (.go 13 .fin .fin))) .fin))) .fin) .fin)))))))),(6,(.take 0 (.take 1 (.take 2 (.take 3 (.take 4 (.take 5 (.take 7 (.take 8 (.take 9 (.take 10 (.take 12 (.take 14 (.take 17 (.take 18 (.take 19 (.take 20 (.take 22 (.take 23 (.take 24 (.take 25 (.take 27 (.take 6 (.take 11 (.take 13 (.take 15 (.take 21 (.take 26 (.take 28 (.go 16 (.go 29 (.take 30 (.take 31 (.go 32 (.take 33 (.take 34 (.go 35 .fin .fin))) .fin))) .fin) .fin)))))))))))))))))))))))))))))),(7,(.take 0 (.take 1 (.take 2 (.take 3 (.take 4 (.take 6 (.take 5 (.take 7 (.go 8 (.take 9 (.take 10 (.take 11 (.take 12 (.take 13 (.go 14 .fin .fin)))))) .fin))))))))))],none⟩
variable (K:VK) (y1:Value) (w:World)
def k4:Prop:=nk ann 85 [(1,y1)] w [1,1] Tryz.f41 K
attribute [irreducible] k4
end F41
theorem F41.k4.to (h:(C.a9 w fun S a=>
 C.ab 0 y1 a fun b c=>
 C.ab 1 y1 c fun d f=>
 C.ab 8 y1 f fun g i=>
 C.aq S b i fun j k=>
 C.aq S d k fun m o=>
 C.aj .add m (y4w j6 1) o fun p q=>
 C.aq S g q fun r s=>
 C.bm S 10 y1 s fun t u=>
 (C.i y5c 73 #[j,p] u fun v x=>
 (S x∧
 (C.i y5c 74 #[r] x fun y z=>
 (S z∧
 ∃aa,(∀w',S w'→(Instr.build 123 #[(0,v),(1,y)]).run y5c w' = .ok aa w')∧(∃ab,(∀w',S w'→(Instr.build 132 #[(0,aa),(1,t)]).run y5c w' = .ok ab w')∧((C.a3 (.cells (Value.cells ab) 132) z fun ac ad=>
 (S ad∧
 C.a9 ad fun S ae=>
 C.ab 1 y1 ae fun af ag=>
 C.ab 1 y1 ag fun ah ai=>
 C.aq S af ai fun aj ak=>
 C.aq S ah ak fun al am=>
 (C.i y5c 75 #[aj] am fun an ao=>
 (S ao∧
 (C.i y5c 76 #[al] ao fun ap aq=>
 (S aq∧
 C.ae ac aq fun ar au=>
 C.ab 12 ar au fun av aw=>
 (C.ak 1 av an aw fun ax=>
 (S ax∧
 C.ae ac ax fun ay az=>
 C.ab 13 ay az fun ba bb=>
 (C.ak 1 ba ap bb fun bc=>
 (S bc∧
 C.a9 bc fun S bd=>
 C.ae ac bd fun be bf=>
 C.ab 0 be bf fun bg bh=>
 C.ab 0 bg bh fun bi bj=>
 C.ae ac bj fun bk bl=>
 C.ab 0 bk bl fun bm bn=>
 C.ab 1 bm bn fun bo bp=>
 C.ab 0 y1 bp fun bq br=>
 C.ab 7 y1 br fun bs bt=>
 C.ae ac bt fun bu bv=>
 C.ab 0 bu bv fun bw bx=>
 C.ab 0 bw bx fun bz ca=>
 C.ae ac ca fun cb cc=>
 C.ab 0 cb cc fun ce cf=>
 C.ab 1 ce cf fun cg ch=>
 C.ab 0 y1 ch fun ci cj=>
 C.aq S bi cj fun ck cl=>
 C.aq S bo cl fun cm cn=>
 C.aq S bq cn fun co cp=>
 C.aq S bs cp fun cq cr=>
 C.aq S bz cr fun cs ct=>
 C.aq S cg ct fun cu cv=>
 C.aq S ci cv fun cw cx=>
 (C.i y5c 77 #[ck,cm,co,cq] cx fun cy cz=>
 (S cz∧
 (C.i y5c 78 #[cs,cu,cw] cz fun da db=>
 (S db∧
 C.ae ac db fun dc dd=>
 C.ab 14 dc dd fun de df=>
 (C.ak 1 de cy df fun dg=>
 (S dg∧
 C.ae ac dg fun dh di=>
 C.ab 15 dh di fun dj dk=>
 (C.ak 1 dj da dk fun dl=>
 (S dl∧
 C.a9 dl fun S dm=>
 C.ae ac dm fun dn dp=>
 C.ab 0 dn dp fun dq dr=>
 C.ab 0 dq dr fun ds dt=>
 C.ab 1 y1 dt fun du dv=>
 C.aq S ds dv fun dw dx=>
 C.aq S du dx fun dy dz=>
 (C.i y5c 79 #[dw,dy,(y4w j6 4)] dz fun ea eb=>
 (S eb∧
 C.a1 0 ea eb fun ec ed=>
 C.a1 1 ea ed fun ee ef=>
 C.ae ac ef fun eg eh=>
 C.ab 24 eg eh fun ei ej=>
 (C.ak 1 ei ec ej fun ek=>
 (S ek∧
 K (.tuple #[ac,(y4w j6 0)]) ek))∧True))∧True))∧True))∧True))∧True))∧True))∧True))∧True))∧True))∧True))∧True))))∧True))∧True)):F41.k4 K y1 w:=qq h
theorem F41.sh (h:(C.a3 (.cells (Value.cells x0) 23) w fun a b=>
 C.an 10 a b fun c d=>
 C.i y5c 11 #[c] d fun f g=>
 C.aj .neq f (y4w j6 0) g fun i j=>
 C.am i (K (.tuple #[(y4x none),f]) j) (F41.k4 K a j))):C.i y5c 41 #[x0] w K:=q9 (A:=F41.ann) (args:=[x0]) (qq h)
end
end Go.Proofs.YtcakfaakbpdklaaGreatDoorV
namespace Go.Proofs.YtcakfaakbpdklaaGreatDoorV
open Go Go.Proofs Go.RowKit
open Go.Proofs.Tryz renaming prog→y5c
open Go.IntKind renaming i64→j6
open Go.Value renaming int→y4w,pointer→y4x,slice→y4y,agg→y5b
def coV (st gr:Nat) (cf:Cf):Array Value := #[y4x (some ⟨st,0,none⟩),y4x (some ⟨gr,0,none⟩),y4w j6 cf.pages,y4w j6 cf.threads,y4w j6 cf.window,y4w j6 cf.quantum,y4w j6 cf.target,y4w j6 cf.cap,y4w j6 cf.tax,y4w j6 cf.chunk,y4w j6 cf.stack,y4w j6 cf.trigger,y4x none,y4x none,y4x none,y4x none,y4y none 0 0,y4y none 0 0,y4y none 0 0,y4y none 0 0,y4y none 0 0,y4y none 0 0,y4y none 0 0,y4y none 0 0,y4w j6 0,y4w j6 0,y4w j6 0,y4w j6 0]
section
variable {K:VK} {w:World}
theorem zf6 (st gr:Nat):(Instr.build 123 #[(0,y4x (some ⟨st,0,none⟩)),(1,y4x (some ⟨gr,0,none⟩))]).run y5c w = .ok (y5b #[y4x (some ⟨st,0,none⟩),y4x (some ⟨gr,0,none⟩)]) w:=by kernel_rfl
theorem bCo (st gr:Nat) (cf:Cf):(Instr.build 132 #[(0,y5b #[y4x (some ⟨st,0,none⟩),y4x (some ⟨gr,0,none⟩)]),(1,y5b (cfV cf).toArray)]).run y5c w = .ok (y5b (coV st gr cf)) w:=by kernel_rfl
structure Cf.Co (cf:Cf):Prop where
 pg:1≤cf.pages∧cf.pages≤64
 th:1≤cf.threads∧cf.threads≤8
 ck:1≤cf.chunk∧cf.chunk≤16
 sk:1≤cf.stack∧cf.stack≤256
theorem zay {y:Nat} {cf:Cf} (hy:w.heap[y]?=some (.cells (cfV cf).toArray 23 (0,0))) (hc:cf.Co) (hT:TzB w) (hz:0<w.heap.size)
  (hk:∀(Q:Kad) (m:Mv) w',Fr [] w w'→m.all=[]→(∀x∈Q.fix ++ (Q.H.fix ++ Q.H.D.all),x=0∨w.heap.size≤x)→qai Q m cf w' (Co.new cf)→K (.tuple #[y4x (some ⟨Q.co,0,none⟩),y4w j6 0]) w'):
  F41.k4 K (y4x (some ⟨y,0,none⟩)) w:=by
 have Y:∀w',Fr [] w w'→w'.heap[y]?=some (.cells (cfV cf).toArray 23 (0,0)):=fun w' hf=>hf.at_ hy (by simp)
 have ly:=qac hy
 obtain⟨⟨p1,p2⟩,⟨t1,t2⟩,ck,sk⟩:=hc
 obtain⟨np,hnp⟩:=y1b (show 0≤cf.pages by omega)
 obtain⟨nt,hnt⟩:=y1b (show 0≤cf.threads by omega)
 refine F41.k4.to (C.a5 (fun w'=>w'.heap[y]?=some (.cells (cfV cf).toArray 23 (0,0))) fun w1 hf1 _=>⟨Y w1 hf1,?_⟩)
 try simp only[zv]
 refine C.ao (v:=y4w j6 cf.pages) (fun w' hw=>⟨_,_,_,hw,rfl⟩) (C.ao (v:=y4w j6 cf.threads) (fun w' hw=>⟨_,_,_,hw,rfl⟩) ?_)
 try simp only[C.a6]
 refine C.ao (v:=y4w j6 cf.stack) (fun w' hw=>⟨_,_,_,hw,rfl⟩) (C.bn (vs:=cfV cf) (fun w' hw=>⟨_,_,_,hw,by simp[cfV],rfl⟩) ?_)
 rw[qab (n:=cf.threads+1) (by omega),hnp]
 have s1:=hf1.size
 refine⟨zd4 (n:=np) (nt:=cf.threads+1) (by omega) (by omega) (by omega) (hT.keep hf1 (by simp)) (by omega) fun D w2 hf2 hD2 h2=>⟨hf2.at_ (Y w1 hf1) (by simp),?_⟩,trivial⟩
 have s2:=hf2.size
 refine⟨zdm sk.1 sk.2 fun G w3 hf3 nd3 hG3 h3=>?_,trivial⟩
 have s3:=hf3.size
 have f3:=(hf1.trans hf2).trans hf3
 refine⟨Y w3 f3,⟨_,fun w' _=>zf6 D.st G.gr,⟨_,fun w' _=>bCo D.st G.gr cf,C.av fun co w4 hn4=>⟨Y w4 (f3.trans hn4.fr),?_⟩,trivial⟩⟩⟩
 have l4:=hn4.is
 have s4:=hn4.fr.size
 have z4:=qac hn4.at_
 have f4:=f3.trans hn4.fr
 refine C.a5 (fun w'=>w'.heap[y]?=some (.cells (cfV cf).toArray 23 (0,0))) fun w5 hf5 _=>⟨Y w5 (f4.trans hf5),?_⟩
 have s5:=hf5.size
 have f5:=f4.trans hf5
 try simp only[zv]
 refine C.ao (v:=y4w j6 cf.threads) (fun w' hw=>⟨_,_,_,hw,rfl⟩) (C.ao (v:=y4w j6 cf.threads) (fun w' hw=>⟨_,_,_,hw,rfl⟩) ?_)
 rw[hnt]
 refine⟨zdj (n:=nt) (by omega) fun re rv w6 hf6 hr6 hr6' hv6 h6=>⟨Y w6 (f5.trans hf6),?_⟩,trivial⟩
 have s6:=hf6.size
 refine⟨zdk (n:=nt) (by omega) fun bu bv w7 hf7 hb7 hb7' hv7 h7=>⟨Y w7 ((f5.trans hf6).trans hf7),?_⟩,trivial⟩
 have s7:=hf7.size
 have f7:=(f5.trans hf6).trans hf7
 have c7:=((hf5.trans hf6).trans hf7).at_ hn4.at_ (by simp)
 refine⟨C.bb c7 rfl rfl (by simp[Value.cells,coV]) fun w8 hu8=>⟨?_,?_⟩,trivial⟩
 ·exact hu8.fr.at_ (Y w7 f7) (by simp;omega)
 refine⟨C.bb hu8.at_ rfl rfl (by simp[Value.cells,coV]) fun w9 hu9=>⟨?_,?_⟩,trivial⟩
 ·exact hu9.fr.at_ (hu8.fr.at_ (Y w7 f7) (by simp;omega)) (by simp;omega)
 have Y9:=hu9.fr.at_ (hu8.fr.at_ (Y w7 f7) (by simp;omega)) (by simp;omega)
 have c9:w9.heap[co]?=some (.cells #[y4x (some ⟨D.st,0,none⟩),y4x (some ⟨G.gr,0,none⟩),y4w j6 cf.pages,y4w j6 cf.threads,y4w j6 cf.window,y4w j6 cf.quantum,y4w j6 cf.target,y4w j6 cf.cap,y4w j6 cf.tax,y4w j6 cf.chunk,y4w j6 cf.stack,y4w j6 cf.trigger,y4x (some ⟨re,0,none⟩),y4x (some ⟨bu,0,none⟩),y4x none,y4x none,y4y none 0 0,y4y none 0 0,y4y none 0 0,y4y none 0 0,y4y none 0 0,y4y none 0 0,y4y none 0 0,y4y none 0 0,y4w j6 0,y4w j6 0,y4w j6 0,y4w j6 0] 132 (0,0)):=hu9.at_
 have f79:Fr [co] w7 w9:=hu8.fr.trans hu9.fr
 have s9:=f79.size
 refine C.a5 (fun w'=>w'.heap[y]?=some (.cells (cfV cf).toArray 23 (0,0))∧∃cs:Array Value,w'.heap[co]?=some (.cells cs 132 (0,0))∧cs[0]?=some (y4x (some ⟨D.st,0,none⟩))∧cs[1]?=some (y4x (some ⟨G.gr,0,none⟩))) fun w10 hf10 _=>⟨⟨hf10.at_ Y9 (by simp),_,hf10.at_ c9 (by simp),rfl,rfl⟩,?_⟩
 have s10:=hf10.size
 refine C.ao (v:=y4x (some ⟨D.st,0,none⟩)) (fun w' hw=>by obtain⟨_,cs,a,b,_⟩:=hw;exact⟨cs,_,_,a,b⟩) ?_
 refine C.ao (v:=y4x (some ⟨G.gr,0,none⟩)) (fun w' hw=>by obtain⟨_,cs,a,_,b⟩:=hw;exact⟨cs,_,_,a,b⟩) ?_
 refine C.ao (v:=y4w j6 cf.pages) (fun w' hw=>⟨_,_,_,hw.1,rfl⟩) (C.ao (v:=y4w j6 cf.chunk) (fun w' hw=>⟨_,_,_,hw.1,rfl⟩) ?_)
 refine C.ao (v:=y4x (some ⟨D.st,0,none⟩)) (fun w' hw=>by obtain⟨_,cs,a,b,_⟩:=hw;exact⟨cs,_,_,a,b⟩) (C.ao (v:=y4x (some ⟨G.gr,0,none⟩)) (fun w' hw=>by obtain⟨_,cs,a,_,b⟩:=hw;exact⟨cs,_,_,a,b⟩) (C.ao (v:=y4w j6 cf.pages) (fun w' hw=>⟨_,_,_,hw.1,rfl⟩) ?_))
 refine⟨zea ⟨p1,p2⟩ ck fun tr w11 hn11=>⟨⟨hn11.fr.at_ (hf10.at_ Y9 (by simp)) (by simp),_,hn11.fr.at_ (hf10.at_ c9 (by simp)) (by simp),rfl,rfl⟩,?_⟩,trivial⟩
 have l11:=hn11.is
 have s11:=hn11.fr.size
 have z11:=qac hn11.at_
 refine⟨zef ⟨p1,p2⟩ fun sw w12 hn12=>?_,trivial⟩
 have l12:=hn12.is
 have s12:=hn12.fr.size
 have z12:=qac hn12.at_
 have f9c:=(hf10.trans hn11.fr).trans hn12.fr
 have Y12:=f9c.at_ Y9 (by simp)
 have c12:=f9c.at_ c9 (by simp)
 refine⟨⟨Y12,_,c12,rfl,rfl⟩,?_⟩
 refine⟨C.bb c12 rfl rfl (by simp) fun w13 hu13=>⟨⟨hu13.fr.at_ Y12 (by simp;omega),_,hu13.at_,rfl,rfl⟩,?_⟩,trivial⟩
 refine⟨C.bb hu13.at_ rfl rfl (by simp) fun w14 hu14=>⟨⟨hu14.fr.at_ (hu13.fr.at_ Y12 (by simp;omega)) (by simp;omega),_,hu14.at_,rfl,rfl⟩,?_⟩,trivial⟩
 have Y14:=hu14.fr.at_ (hu13.fr.at_ Y12 (by simp;omega)) (by simp;omega)
 have c14:w14.heap[co]?=some (.cells #[y4x (some ⟨D.st,0,none⟩),y4x (some ⟨G.gr,0,none⟩),y4w j6 cf.pages,y4w j6 cf.threads,y4w j6 cf.window,y4w j6 cf.quantum,y4w j6 cf.target,y4w j6 cf.cap,y4w j6 cf.tax,y4w j6 cf.chunk,y4w j6 cf.stack,y4w j6 cf.trigger,y4x (some ⟨re,0,none⟩),y4x (some ⟨bu,0,none⟩),y4x (some ⟨tr,0,none⟩),y4x (some ⟨sw,0,none⟩),y4y none 0 0,y4y none 0 0,y4y none 0 0,y4y none 0 0,y4y none 0 0,y4y none 0 0,y4y none 0 0,y4y none 0 0,y4w j6 0,y4w j6 0,y4w j6 0,y4w j6 0] 132 (0,0)):=hu14.at_
 have fce:Fr [co] w12 w14:=hu13.fr.trans hu14.fr
 have s14:=fce.size
 refine C.a5 (fun w'=>w'.heap[y]?=some (.cells (cfV cf).toArray 23 (0,0))∧∃cs:Array Value,w'.heap[co]?=some (.cells cs 132 (0,0))∧cs[0]?=some (y4x (some ⟨D.st,0,none⟩))) fun w15 hf15 _=>⟨⟨hf15.at_ Y14 (by simp),_,hf15.at_ c14 (by simp),rfl⟩,?_⟩
 have s15:=hf15.size
 refine C.ao (v:=y4x (some ⟨D.st,0,none⟩)) (fun w' hw=>by obtain⟨_,cs,a,b⟩:=hw;exact⟨cs,_,_,a,b⟩) (C.ao (v:=y4w j6 cf.threads) (fun w' hw=>⟨_,_,_,hw.1,rfl⟩) ?_)
 have nco:∀x∈D.all,x≠co:=fun x hx=>by rcases hD2 x hx with e | e <;> omega
 have h14:qau D np (cf.threads+1) w15 ⟨Ce.new np,fun _=>none,0⟩:=((((h2.keep0 ((((hf3.trans hn4.fr).trans hf5).trans hf6).trans hf7)).keep f79 (fun x hx=>by simpa using nco x hx)).keep0 f9c).keep fce (fun x hx=>by simpa using nco x hx)).keep0 hf15
 refine⟨qse h14 fun w16 hf16 h16=>?_,trivial⟩
 have s16:=hf16.size
 have nD:∀x,w2.heap.size≤x→x∉D.S:=fun x hx e=>by rcases hD2 x (D.sub x e) with e' | e' <;> omega
 have nDy:y∉D.S:=fun e=>by
  rcases hD2 y (D.sub y e) with e' | e'
  ·exact h14.ok.z (e' ▸ by have:=D.subT y e;simpa[Sad.all] using this)
  ·omega
 have c15:=hf15.at_ c14 (by simp)
 have c16:=hf16.at_ c15 (nD co (by omega))
 refine⟨⟨hf16.at_ (hf15.at_ Y14 (by simp)) nDy,_,c16,rfl⟩,?_⟩
 try simp only[zv]
 refine⟨C.bb c16 rfl rfl (by simp) fun w17 hu17=>⟨⟨hu17.fr.at_ (hf16.at_ (hf15.at_ Y14 (by simp)) nDy) (by simp;omega),_,hu17.at_,rfl⟩,?_⟩,trivial⟩
 have s17:=hu17.fr.size
 generalize hr:St.slow np (cf.threads+1) ⟨Ce.new np,fun _=>none,0⟩ cf.threads 4=r at *
 have en:Co.new cf=⟨r.1,⟨[],false,fun _=>false⟩,⟨0,List.replicate nt (false,0)⟩,List.replicate nt [], -1,cf.pages,0,List.replicate 8 [],r.2.1,0,0,0⟩:=by
  have e1:cf.pages.toNat=np:=by omega
  have e2:cf.threads.toNat=nt:=by omega
  unfold Co.new
  simp only[e1,e2]
  rw[show Ce.new cf.pages=Ce.new (np:Int) by rw[hnp],hr]
 have nz:∀x∈D.S,w1.heap.size≤x∧x<w2.heap.size:=fun x hx=>by
  rcases hD2 x (D.sub x hx) with e | e
  ·exact absurd (e ▸ (by have:=D.subT x hx;simpa[Sad.all] using this):(0:Nat)∈D.st :: D.ob :: D.om :: D.A.all) h14.ok.z
  ·exact e
 have one:∀ {a b:World},Fr [co] a b→Fr (co :: D.S) a b:=fun h=>h.mono fun x hx=>by simp only[y2d] at hx;simp[hx]
 have tl:∀ {a b:World},Fr D.S a b→Fr (co :: D.S) a b:=fun h=>h.mono fun x hx=>by simp[hx]
 have fc7:Fr (co :: D.S) w12 w17:=(((one fce).trans hf15.w).trans (tl hf16)).trans (one hu17.fr)
 have f7e:Fr (co :: D.S) w7 w17:=((one f79).trans f9c.w).trans fc7
 have f11e:Fr (co :: D.S) w11 w17:=hn12.fr.w.trans fc7
 have f3e:Fr (co :: D.S) w3 w17:=((((hn4.fr.trans hf5).trans hf6).trans hf7).w).trans f7e
 have fT:Fr [] w w17:=f7.then f7e (fun x hx=>by
  simp only[y4b] at hx
  rcases hx with e | e
  ·exact .inr (by omega)
  ·exact .inr (by have:=nz x e;omega))
 have nD2:∀x,w2.heap.size≤x→x∉D.all:=fun x hx e=>by rcases hD2 x e with e' | e' <;> omega
 have gx:∀x∈[G.gr,G.wa,G.sk,G.mb],x∉co :: D.S:=fun x hx e=>by
  have:=hG3 x hx
  simp only[y4b] at e
  rcases e with e | e
  ·omega
  ·have:=nz x e;omega
 have frng:∀x∈[co,re,bu] ++ (qaa rv ++ qaa bv) ++ [tr,sw] ,w3.heap.size≤x∧x<w17.heap.size:=fun x hx=>by
  simp only[y3q,y4b,y3i,or_false] at hx
  rcases hx with ((e | e | e) | (e | e)) | (e | e)
  ·omega
  ·omega
  ·omega
  ·have:=hv6 x e;omega
  ·have:=hv7 x e;omega
  ·omega
  ·omega
 have nx7:∀x,w4.heap.size≤x→x∉co :: D.S:=fun x hx e=>by
  simp only[y4b] at e
  rcases e with e | e
  ·omega
  ·have:=nz x e;omega
 rw[en] at hk
 have c17:=hu17.at_
 refine hk ⟨⟨D,G,tr,sw,w17.heap.size⟩,co,re,bu,rv,bv⟩ ⟨y4y none 0 0,List.replicate nt (y4y none 0 0),List.replicate 8 (y4y none 0 0)⟩ w17 fT ?_ ?_ ?_
 ·simp[Mv.all,qbp,qaa,Value.ownBlock]
 ·intro x hx
  simp only[Kad.fix,Had.fix,y3q,y4b,y3i,or_false] at hx
  rcases hx with (e | e | e | e | e) | (e | e | e | e | e | e) | e
  ·exact .inr (by omega)
  ·exact .inr (by omega)
  ·exact .inr (by omega)
  ·exact .inr (by have:=hv6 x e;omega)
  ·exact .inr (by have:=hv7 x e;omega)
  ·exact .inr (by omega)
  ·exact .inr (by omega)
  ·exact .inr (by have:=hG3 x (by simp[e]);omega)
  ·exact .inr (by have:=hG3 x (by simp[e]);omega)
  ·exact .inr (by have:=hG3 x (by simp[e]);omega)
  ·exact .inr (by have:=hG3 x (by simp[e]);omega)
  ·rcases hD2 x e with e' | e'
   ·exact .inl e'
   ·exact .inr (by omega)
 ·have hNof:∀n,qbp (List.replicate n (Value.slice none 0 0))=[]:=fun n=>by simp[qbp,qaa,Value.ownBlock]
  have stF:=h16.keep hu17.fr (fun x hx=>by simpa using nco x hx)
  have gyF:qbb G (y4y none 0 0) cf.stack w17 ⟨[],false,fun _=>false⟩:=h3.keep f3e (fun x hx=>gx x (by
   simp only[Gad.all,Gad.S,qaa,Value.ownBlock,y4b,y3i,or_false] at hx
   simp only[y4b,y3i,or_false]
   omega))
  have hNd:∀x∈[tr,sw,G.gr,G.wa,G.sk,G.mb],x∉D.all:=fun x hx=>nD2 x (by
   simp only[y4b,y3i,or_false] at hx
   rcases hx with e | e | e | e | e | e
   ·omega
   ·omega
   all_goals have:=hG3 x (by simp[e]);omega)
  have hG4:=hG3
  refine⟨⟨fun x hx=>?_,fun x hx=>?_⟩,⟨⟨?_,hNd,fun x hx=>?_⟩,?_,gyF,?_,?_,by simp[qaa,Value.ownBlock],y4q _,⟨p1,p2⟩,ck⟩,⟨_,c17,rfl,rfl,rfl,rfl,rfl,rfl,rfl,fun j hj=>?_,rfl,rfl,rfl,rfl⟩,?_,?_,⟨by simp,fun i a b=>?_,fun i j a b _ x hx=>?_⟩,by simp,fun l hl=>?_,?_,?_⟩
  ·have hx':w3.heap.size≤x∧x<w7.heap.size:=by
    simp only[Kad.fix,y3q,y4b] at hx
    rcases hx with e | e | e | e | e
    ·omega
    ·omega
    ·omega
    ·have:=hv6 x e;omega
    ·have:=hv7 x e;omega
   intro e
   simp only[Had.fix,y3q,y4b,y3i,or_false] at e
   rcases e with (e | e | e | e | e | e) | e
   ·omega
   ·omega
   ·have:=hG3 x (by simp[e]);omega
   ·have:=hG3 x (by simp[e]);omega
   ·have:=hG3 x (by simp[e]);omega
   ·have:=hG3 x (by simp[e]);omega
   ·exact nD2 x (by omega) e
  ·simp only[Kad.fix,y3q,y4b] at hx
   simp only
   rcases hx with e | e | e | e | e
   ·omega
   ·omega
   ·omega
   ·have:=hv6 x e;omega
   ·have:=hv7 x e;omega
  ·have q1:=hG3 G.gr (by simp)
   have q2:=hG3 G.wa (by simp)
   have q3:=hG3 G.sk (by simp)
   have q4:=hG3 G.mb (by simp)
   simp only[Had.fix]
   rw[y3s,y3s]
   refine⟨?_,?_,nd3⟩
   ·simp only[y4b,y3i,or_false];omega
   ·simp only[y4b,y3i,or_false];omega
  ·simp only[Had.fix,y3q,y4b,y3i,or_false] at hx
   simp only
   rcases hx with (e | e | e | e | e | e) | e
   ·omega
   ·omega
   ·have:=hG3 x (by simp[e]);omega
   ·have:=hG3 x (by simp[e]);omega
   ·have:=hG3 x (by simp[e]);omega
   ·have:=hG3 x (by simp[e]);omega
   ·rcases hD2 x e with e' | e' <;> omega
  ·have e1:cf.pages.toNat=np:=by omega
   rw[e1];exact stF
  ·exact f11e.at_ hn11.at_ (nx7 tr (by omega))
  ·exact fc7.at_ hn12.at_ (nx7 sw (by omega))
  ·have:j=0∨j=1∨j=2∨j=3∨j=4∨j=5∨j=6∨j=7:=by omega
   rcases this with h | h | h | h | h | h | h | h <;> subst h <;> rfl
  ·exact h6.keep (hf7.w.trans f7e) (nx7 _ (by omega)) (fun x hx=>nx7 x (by have:=hv6 x hx;omega))
  ·exact h7.keep f7e (nx7 _ (by omega)) (fun x hx=>nx7 x (by have:=hv7 x hx;omega)) (by rw[hNof];simp)
  ·have e1:(List.replicate 8 (Value.slice none 0 0))[i]=y4y none 0 0:=y1g _
   have e2:((List.replicate 8 ([]:List V2)).map vaC)[i]=[]:=by rw[y3h,y1g];rfl
   rw[e1,e2];exact qad.nil _ _ _
  ·have e1:(List.replicate 8 (Value.slice none 0 0))[i]=y4y none 0 0:=y1g _
   rw[e1] at hx
   simp[qaa,Value.ownBlock] at hx
  ·rw[y0w hl];simp
  ·simp only;rw[hNof];simp
  ·simp only;rw[hNof];simp
end
section
variable {K:VK} {w:World}
theorem qym (a b:Int) (A:Option Addr) (n c:Nat):(Instr.build 141 #[(0,y4w j6 a),(1,y4w j6 b),(2,y4y A n c)]).run y5c w = .ok (y5b #[y4w j6 a,y4w j6 b,y4y A n c]) w:=by kernel_rfl
theorem qx1 (T:Nat) (hT:T≤8) (win most:Int) (hw:1≤win∧win≤64) (hm:0≤most∧most≤win) (h:∀g bb w',Fr [] w w'→w.heap.size≤g→w.heap.size≤bb→Led w' g bb T win most (fun _=>y4y none 0 0) (fun _=>[])→K (y4x (some ⟨g,0,none⟩)) w'):
  C.i y5c 42 #[y4w j6 (T:Int),y4w j6 win,y4w j6 most] w K:=by
 refine F42.sh (qez _ _ _ ?_)
 rw[show qbl win 1 64=win by unfold qbl;omega]
 refine qez _ _ _ ?_
 rw[show qbl most 0 win=most by unfold qbl;omega]
 refine qez _ _ _ ?_
 rw[show qbl (T:Int) 0 8=T by unfold qbl;omega]
 refine C.b6 (e:=231) (sz:=3) (bytes:=40) (z:=y5b #[y4y none 0 0,y4w j6 0,y4w j6 0]) T Tryz.underlying139 (by kernel_rfl) rfl (by decide) (by intro u hu;simp only[Value.cells,y4b,y3i,or_false] at hu;rcases hu with rfl | rfl | rfl <;> rfl) (by omega) (by omega) fun bb w1 hn1 ho1=>?_
 refine C.a4 (qym _ _ _ _ _) (C.av fun g w2 hn2=>?_)
 have lb:=qac hn1.at_
 refine h g bb w2 (hn1.fr.trans hn2.fr) (by have:=hn2.is;have:=hn1.fr.size;omega) (by have:=hn1.is;omega) ⟨hn2.at_,⟨_,hn2.fr.at_ hn1.at_ (by simp),?_,fun t ht=>?_⟩,fun t _=>qad.nil _ _ _,by have:=hn2.is;omega,by simp[qaa,Value.ownBlock],by simp[qaa,Value.ownBlock]⟩
 ·simp[size_madeCells]
 ·have e:∀k,k<3→(madeCells #[y4y none 0 0,y4w j6 0,y4w j6 0] (T*3))[t*3+k]?=(#[y4y none 0 0,y4w j6 0,y4w j6 0]:Array Value)[k]?:=fun k hk=>by
   unfold madeCells
   rw[Array.getElem?_map,Array.getElem?_range,if_pos (by omega)]
   simp only[y3l]
   have:(t*3+k) % (#[y4y none 0 0,y4w j6 0,y4w j6 0]:Array Value).size=k:=by
    show (t*3+k) % 3=k
    omega
   rw[this]
   match k,hk with
   | 0,_=>rfl
   | 1,_=>rfl
   | 2,_=>rfl
  exact⟨e 0 (by omega),⟨0,e 1 (by omega)⟩,⟨0,e 2 (by omega)⟩⟩
end
section
variable {K:VK} {w:World} {A:Mad} {g:Gw} {cf:Cf} {B:Int} {x:Ma}
theorem qo9 (h:qaf A g cf B w x) (hk:K (y4w j6 x.co.phase) w):C.i y5c 23 #[y4x (some ⟨A.ma,0,none⟩)] w K:=by
 refine F23.sh (ql2 h ?_)
 try simp only[zv]
 refine F23.k3.to ?_
 try simp only[zv]
 exact C.ad (v:=y4x (some ⟨A.Q.co,0,none⟩)) h.blk rfl (qh9 h.co hk)
theorem qns (h:qaf A g cf B w x) (hk:K (y4w j6 x.co.cycles) w):C.i y5c 24 #[y4x (some ⟨A.ma,0,none⟩)] w K:=by
 refine F24.sh (ql2 h ?_)
 try simp only[zv]
 refine F24.k3.to ?_
 try simp only[zv]
 exact C.ad (v:=y4x (some ⟨A.Q.co,0,none⟩)) h.blk rfl (qu1 h.co hk)
end
end Go.Proofs.YtcakfaakbpdklaaGreatDoorV
namespace Go.Proofs.YtcakfaakbpdklaaGreatDoorV
open Go Go.Proofs
open Go.Proofs.Tryz renaming prog→y5c
open Go.IntKind renaming i64→j6
open Go.Value renaming int→y4w,pointer→y4x,slice→y4y,agg→y5b
noncomputable section
variable {K:VK} {w:World} {x0 y0 y1 y5 y6:Value}
namespace F11
def ann:Ann:=⟨[(3,[])],[],[],[],none⟩
variable (K:VK) (w:World)
def k3:Prop:=nk ann 6 [] w [1,1] Tryz.f11 K
attribute [irreducible] k3
end F11
theorem F11.k3.to (h:(K (y4w j6 0) w)):F11.k3 K w:=qq h
theorem F11.sh (h:(C.a3 (.cells (Value.cells x0) 23) w fun a b=>
 C.an 10 a b fun c d=>
 C.i y5c 36 #[c] d fun f g=>
 C.aj .neq f (y4w j6 0) g fun i j=>
 C.am i (K (y4w j6 6) j) (F11.k3 K j))):C.i y5c 11 #[x0] w K:=q9 (A:=F11.ann) (args:=[x0]) (qq h)

theorem F31.sh (h:(C.a3 (.cells #[y4w j6 0,y4w j6 0,y4w j6 0,y4w j6 0,y4w j6 0,y4w j6 0,y4w j6 0,y4w j6 0,y4w j6 0,y4w j6 0] 23) w fun a b=>
 C.ay y5c (Instr.build 23 #[(0,(y4w j6 16)),(1,(y4w j6 4)),(2,(y4w j6 20)),(3,(y4w j6 4)),(4,(y4w j6 700)),(5,(y4w j6 100)),(6,(y4w j6 4)),(7,(y4w j6 4)),(8,(y4w j6 16)),(9,(y4w j6 4))]) b fun c d=>
 C.ak 10 a c d fun f=>
 C.an 10 a f fun r4 _=>
 K r4 f)):C.i y5c 31 #[] w K:=q9 (A:=A0) (args:=[]) (qq h)
namespace F36
def ann:Ann:=⟨[(3,[1,5,6]),(6,[1,5,6]),(7,[1]),(9,[])],[(2,[1,5,6])],[],[(4,(.take 0 (.take 4 (.take 6 (.take 9 (.take 1 (.take 2 (.take 3 (.take 5 (.take 7 (.take 10 (.take 11 (.take 12 (.go 8 (.take 13 .fin) .fin))))))))))))))],none⟩
variable (K:VK) (y1 y5 y6:Value) (w:World)
def k7:Prop:=nk ann 37 [(1,y1)] w [1,1] Tryz.f36 K
def l2:Prop:=nl ann 37 [(1,y1),(5,y5),(6,y6)] w [1,0,1,0] Tryz.f36 K
def k3:Prop:=nk ann 37 [(1,y1),(5,y5),(6,y6)] w [1,0,1,0,0,1,1] Tryz.f36 K
def k6:Prop:=nk ann 37 [(1,y1),(5,y5),(6,y6)] w [1,0,1,0,0,1,1,1] Tryz.f36 K
def k9:Prop:=nk ann 37 [] w [1,1,1] Tryz.f36 K
attribute [irreducible] k7 l2 k3 k6 k9
end F36
theorem F36.k7.to (h:(C.ab 2 y1 w fun a b=>
 C.ai a b fun c d=>
 C.ab 4 y1 d fun f g=>
 C.ai f g fun i j=>
 C.aj .sub (y4w j6 1000) i j fun k m=>
 C.aj .mul c k m fun o p=>
 C.ab 3 y1 p fun q r=>
 C.ai q r fun s t=>
 C.aj .mul (y4w j6 1000) s t fun u v=>
 C.aj .lss o u v fun x y=>
 C.am x (K (y4w j6 11) y) (F36.k9 K y))):F36.k7 K y1 w:=qq h
theorem F36.l2.to (h:(C.aj .lss y6 (y4w j6 10) w fun a b=>
 C.am a (F36.k3 K y1 y5 y6 b) (F36.k7 K y1 b))):F36.l2 K y1 y5 y6 w:=by unfold F36.l2 nl;exact qah (qq h)
theorem F36.k3.to (h:(C.ay y5c (Instr.index 112 y5 y6) w fun a b=>
 C.a3 (.cells #[y4x none,y4w j6 0,y4w j6 0] 111) b fun c d=>
 C.ak 3 c a d fun f=>
 C.a9 f fun S g=>
 C.ab 0 c g fun i j=>
 C.ab 1 c j fun k m=>
 C.ab 2 c m fun o p=>
 C.ab 0 c p fun q r=>
 C.aq S i r fun s t=>
 C.ae s t fun u v=>
 C.aq S u v fun x y=>
 C.aq S k y fun z aa=>
 C.aq S o aa fun ab ac=>
 C.aq S q ac fun ad ae=>
 C.ae ad ae fun af ag=>
 C.aq S af ag fun ah ai=>
 (C.i y5c 66 #[x,z,ab] ai fun aj ak=>
 (S ak∧
 C.aj .neq aj ah ak fun al am=>
 C.am al (C.aj .add y6 (y4w j6 1) am fun an ao=>
 K an ao) (F36.k6 K y1 y5 y6 am)))∧True)):F36.k3 K y1 y5 y6 w:=qq h
theorem F36.k6.to (h:(C.aj .add y6 (y4w j6 1) w fun a b=>
 F36.l2 K y1 y5 a b)):F36.k6 K y1 y5 y6 w:=qq h
theorem F36.k9.to (h:(K (y4w j6 0) w)):F36.k9 K w:=qq h
theorem F36.sh (h:(C.a3 (.cells (Value.cells x0) 23) w fun a b=>
 C.i y5c 65 #[a] b fun c d=>
 F36.l2 K a c (y4w j6 0) d)):C.i y5c 36 #[x0] w K:=q9 (A:=F36.ann) (args:=[x0]) (qq h)
namespace F43
def ann:Ann:=⟨[(3,[1])],[],[],[],none⟩
variable (K:VK) (y1:Value) (w:World)
def k3:Prop:=nk ann 13 [(1,y1)] w [1,1] Tryz.f43 K
attribute [irreducible] k3
end F43
theorem F43.k3.to (h:(C.ab 2 y1 w fun a b=>
 C.ai a b fun c d=>
 C.ab 4 y1 d fun f g=>
 C.ai f g fun i j=>
 C.aj .sub (y4w j6 1000) i j fun k m=>
 C.aj .mul c k m fun o p=>
 C.bi y5c .quo 3 (.tmp 11) (.const (y4w j6 1000)) o (y4w j6 1000) p fun q r=>
 K q r)):F43.k3 K y1 w:=qq h
theorem F43.sh (h:(C.a3 (.cells (Value.cells x0) 23) w fun a b=>
 C.an 10 a b fun c d=>
 C.i y5c 36 #[c] d fun f g=>
 C.aj .neq f (y4w j6 0) g fun i j=>
 C.am i (K (y4w j6 0) j) (F43.k3 K a j))):C.i y5c 43 #[x0] w K:=q9 (A:=F43.ann) (args:=[x0]) (qq h)
namespace F65
def ann:Ann:=⟨[],[],[],[(1,(.take 0 (.take 1 (.take 2 (.take 4 (.take 5 (.take 6 (.take 8 (.take 9 (.take 10 (.take 12 (.take 13 (.take 14 (.take 16 (.take 17 (.take 18 (.take 20 (.take 21 (.take 22 (.take 24 (.take 25 (.take 26 (.take 28 (.take 29 (.take 30 (.take 32 (.take 33 (.take 34 (.take 36 (.take 37 (.take 38 (.take 3 (.take 7 (.take 11 (.take 15 (.take 19 (.take 23 (.take 27 (.take 31 (.take 35 (.take 39 (.take 40 (.go 41 .fin .fin)))))))))))))))))))))))))))))))))))))))))))],none⟩
end F65
theorem F65.sh (h:(C.a3 (.cells #[y4x none,y4w j6 0,y4w j6 0,y4x none,y4w j6 0,y4w j6 0,y4x none,y4w j6 0,y4w j6 0,y4x none,y4w j6 0,y4w j6 0,y4x none,y4w j6 0,y4w j6 0,y4x none,y4w j6 0,y4w j6 0,y4x none,y4w j6 0,y4w j6 0,y4x none,y4w j6 0,y4w j6 0,y4x none,y4w j6 0,y4w j6 0,y4x none,y4w j6 0,y4w j6 0] 112) w fun a b=>
 C.a9 b fun S c=>
 C.ae x0 c fun d f=>
 C.ab 0 d f fun g i=>
 C.ae x0 i fun j k=>
 C.ab 1 j k fun m o=>
 C.ae x0 o fun p q=>
 C.ab 2 p q fun r s=>
 C.ae x0 s fun t u=>
 C.ab 3 t u fun v x=>
 C.ae x0 x fun y z=>
 C.ab 4 y z fun aa ab=>
 C.ae x0 ab fun ac ad=>
 C.ab 5 ac ad fun ae af=>
 C.ae x0 af fun ag ah=>
 C.ab 6 ag ah fun ai aj=>
 C.ae x0 aj fun ak al=>
 C.ab 7 ak al fun am an=>
 C.ae x0 an fun ao ap=>
 C.ab 8 ao ap fun aq ar=>
 C.ae x0 ar fun au av=>
 C.ab 9 au av fun aw ax=>
 ∃ay,(∀w',S w'→(Instr.build 111 #[(0,g),(1,(y4w j6 2)),(2,(y4w j6 64))]).run y5c w' = .ok ay w')∧(∃az,(∀w',S w'→(Instr.build 111 #[(0,m),(1,(y4w j6 1)),(2,(y4w j6 8))]).run y5c w' = .ok az w')∧(∃ba,(∀w',S w'→(Instr.build 111 #[(0,r),(1,(y4w j6 1)),(2,(y4w j6 64))]).run y5c w' = .ok ba w')∧(∃bb,(∀w',S w'→(Instr.build 111 #[(0,v),(1,(y4w j6 1)),(2,(y4w j6 16))]).run y5c w' = .ok bb w')∧(∃bc,(∀w',S w'→(Instr.build 111 #[(0,aa),(1,(y4w j6 0)),(2,(y4w j6 1000))]).run y5c w' = .ok bc w')∧(∃bd,(∀w',S w'→(Instr.build 111 #[(0,ae),(1,(y4w j6 0)),(2,(y4w j6 65535))]).run y5c w' = .ok bd w')∧(∃be,(∀w',S w'→(Instr.build 111 #[(0,ai),(1,(y4w j6 0)),(2,(y4w j6 64))]).run y5c w' = .ok be w')∧(∃bf,(∀w',S w'→(Instr.build 111 #[(0,am),(1,(y4w j6 1)),(2,(y4w j6 16))]).run y5c w' = .ok bf w')∧(∃bg,(∀w',S w'→(Instr.build 111 #[(0,aq),(1,(y4w j6 1)),(2,(y4w j6 256))]).run y5c w' = .ok bg w')∧(∃bh,(∀w',S w'→(Instr.build 111 #[(0,aw),(1,(y4w j6 0)),(2,(y4w j6 64))]).run y5c w' = .ok bh w')∧(∃bi,(∀w',S w'→(Instr.build 112 #[(0,ay),(1,az),(2,ba),(3,bb),(4,bc),(5,bd),(6,be),(7,bf),(8,bg),(9,bh)]).run y5c w' = .ok bi w')∧((C.ak 30 a bi ax fun bj=>
 (S bj∧
 C.an 30 a bj fun r35 _=>
 K r35 bj))∧True))))))))))))):C.i y5c 65 #[x0] w K:=q9 (A:=F65.ann) (args:=[x0]) (qq h)

theorem F7.sh (h:(C.i y5c 31 #[] w fun a b=>
 C.a3 (.cells #[y4w j6 0,y4w j6 0,y4w j6 0,y4w j6 0,y4w j6 0,y4w j6 0,y4w j6 0,y4w j6 0,y4w j6 0,y4w j6 0] 23) b fun c d=>
 C.ak 10 c a d fun f=>
 C.an 10 c f fun g i=>
 C.ay y5c (Instr.build 40 #[(0,(y4w j6 1))]) i fun j k=>
 C.ay y5c (Instr.build 40 #[(0,(y4w j6 3)),(6,(y4w j6 2)),(5,(y4w j6 1))]) k fun m o=>
 C.ay y5c (Instr.build 40 #[(0,(y4w j6 17))]) o fun p q=>
 C.ay y5c (Instr.build 40 #[(0,(y4w j6 14))]) q fun r s=>
 C.ay y5c (Instr.build 40 #[(0,(y4w j6 14))]) s fun t u=>
 C.ay y5c (Instr.build 40 #[(0,(y4w j6 16)),(6,(y4w j6 64))]) u fun v x=>
 C.ay y5c (Instr.buildSlice 24 6 #[(0,j),(1,m),(2,p),(3,r),(4,t),(5,v)]) x fun y z=>
 C.i y5c 9 #[g,y] z fun aa ab=>
 C.a1 0 aa ab fun ac ad=>
 C.a1 1 aa ad fun ae af=>
 C.aj .eql ae (y4w j6 0) af fun ag ah=>
 C.q true ag (fun K=>K ac ah) ah fun ai aj=>
 C.q true ag (fun K=>C.bl ai aj K) aj fun ak al=>
 C.q true ag (fun K=>C.aj .eql ak (y4w j6 6) al K) al fun am an=>
 C.a2 (some ag) (some am) (some (.bool false)) an fun ao ap=>
 C.q true ao (fun K=>K ac ap) ap fun aq ar=>
 C.q true ao (fun K=>C.bk 5 aq (y4w j6 1) ar K) ar fun au av=>
 C.q true ao (fun K=>C.an 5 au av K) av fun aw ax=>
 C.q true ao (fun K=>C.ay y5c (Instr.build 38 #[(1,(y4w j6 2)),(2,(y4w j6 1))]) ax K) ax fun ay az=>
 C.q true ao (fun K=>C.bi y5c .eql 38 (.tmp 27) (.tmp 28) aw ay az K) az fun ba bb=>
 C.a2 (some ao) (some ba) (some (.bool false)) bb fun bc bd=>
 C.q true bc (fun K=>K ac bd) bd fun be bf=>
 C.q true bc (fun K=>C.bk 5 be (y4w j6 5) bf K) bf fun bg bh=>
 C.q true bc (fun K=>C.ab 0 bg bh K) bh fun bi bj=>
 C.q true bc (fun K=>C.ai bi bj K) bj fun bk bl=>
 C.q true bc (fun K=>C.aj .eql bk (y4w j6 0) bl K) bl fun bm bn=>
 C.a2 (some bc) (some bm) (some (.bool false)) bn fun bo bp=>
 C.q true bo (fun K=>K ac bp) bp fun bq br=>
 C.q true bo (fun K=>C.bk 5 bq (y4w j6 5) br K) br fun bs bt=>
 C.q true bo (fun K=>C.ab 3 bs bt K) bt fun bu bv=>
 C.q true bo (fun K=>C.ai bu bv K) bv fun bw bx=>
 C.q true bo (fun K=>C.aj .eql bw (y4w j6 2) bx K) bx fun bz ca=>
 C.a2 (some bo) (some bz) (some (.bool false)) ca fun cb cc=>
 K cb cc)):C.i y5c 7 #[] w K:=q9 (A:=A0) (args:=[]) (qq h)
namespace F8
def ann:Ann:=⟨[(3,[0])],[],[],[],none⟩
variable (K:VK) (y0:Value) (w:World)
def k3:Prop:=nk ann 9 [(0,y0)] w [1,1] Tryz.f8 K
attribute [irreducible] k3
end F8
theorem F8.k3.to (h:(K y0 w)):F8.k3 K y0 w:=qq h
theorem F8.sh (h:(C.bl x0 w fun a b=>
 C.aj .gtr a (y4w j6 70) b fun c d=>
 C.am c (C.ay y5c (Instr.sliceAt 24 x0 none (some (y4w j6 70)) none) d fun f g=>
 K f g) (F8.k3 K x0 d))):C.i y5c 8 #[x0] w K:=q9 (A:=F8.ann) (args:=[x0]) (qq h)
end
end Go.Proofs.YtcakfaakbpdklaaGreatDoorV
namespace Go.Proofs.YtcakfaakbpdklaaGreatDoorV
open Go Go.Proofs Go.RowKit
open Go.Proofs.Tryz renaming prog→y5c
open Go.IntKind renaming i64→j6
open Go.Value renaming int→y4w,pointer→y4x,slice→y4y,agg→y5b
def cfL (cf:Cf):List Int:=[cf.pages,cf.threads,cf.window,cf.quantum,cf.target,cf.cap,cf.tax,cf.chunk,cf.stack,cf.trigger]
def spL:List (Int × Int):=[(2,64),(1,8),(1,64),(1,16),(0,1000),(0,65535),(0,64),(1,16),(1,256),(0,64)]
structure Cf.Legal (cf:Cf):Prop where
 sp:∀i,i<10→((spL.getD i (0,0)).1≤(cfL cf).getD i 0∧(cfL cf).getD i 0≤(spL.getD i (0,0)).2)
 qu:1000*cf.quantum≤cf.window*(1000-cf.target)
def spV (b:Nat):Value:=y5b #[y4x (some ⟨b,0,none⟩),y4w j6 2,y4w j6 64,y4x (some ⟨b,1,none⟩),y4w j6 1,y4w j6 8,y4x (some ⟨b,2,none⟩),y4w j6 1,y4w j6 64,y4x (some ⟨b,3,none⟩),y4w j6 1,y4w j6 16,y4x (some ⟨b,4,none⟩),y4w j6 0,y4w j6 1000,y4x (some ⟨b,5,none⟩),y4w j6 0,y4w j6 65535,y4x (some ⟨b,6,none⟩),y4w j6 0,y4w j6 64,y4x (some ⟨b,7,none⟩),y4w j6 1,y4w j6 16,y4x (some ⟨b,8,none⟩),y4w j6 1,y4w j6 256,y4x (some ⟨b,9,none⟩),y4w j6 0,y4w j6 64]
section
variable {K:VK} {w:World}
theorem bSp (b o:Nat) (lo hi:Int):(Instr.build 111 #[(0,y4x (some ⟨b,o,none⟩)),(1,y4w j6 lo),(2,y4w j6 hi)]).run y5c w = .ok (y5b #[y4x (some ⟨b,o,none⟩),y4w j6 lo,y4w j6 hi]) w:=by kernel_rfl
theorem zbs {b:Nat} (hk:∀w',Fr [] w w'→K (spV b) w'):C.i y5c 65 #[y4x (some ⟨b,0,none⟩)] w K:=by
 refine F65.sh (C.av fun x w1 hn1=>C.a5 (fun _=>True) fun w2 hf2 _=>⟨trivial,?_⟩)
 have l1:=hn1.is
 try simp only[zv]
 refine⟨_,fun w' _=>bSp b 0 2 64,⟨_,fun w' _=>bSp b 1 1 8,⟨_,fun w' _=>bSp b 2 1 64,⟨_,fun w' _=>bSp b 3 1 16,⟨_,fun w' _=>bSp b 4 0 1000,⟨_,fun w' _=>bSp b 5 0 65535,⟨_,fun w' _=>bSp b 6 0 64,⟨_,fun w' _=>bSp b 7 1 16,⟨_,fun w' _=>bSp b 8 1 256,⟨_,fun w' _=>bSp b 9 0 64,⟨spV b,fun w' _=>by kernel_rfl,?_⟩⟩⟩⟩⟩⟩⟩⟩⟩⟩⟩
 refine⟨C.a0 (x:=spV b) (hf2.at_ hn1.at_ (by simp)) rfl (by simp[spV,Value.cells,Value.oneCell']) rfl fun w3 hu=>⟨trivial,C.ax hu.at_ rfl (hk w3 ((hn1.fr.trans hf2).then hu.fr (by simp;omega)))⟩,trivial⟩
theorem zge (b:Nat) {i:Nat} (hi:i<10):(Instr.index 112 (spV b) (y4w j6 (i:Int))).run y5c w = .ok (y5b #[y4x (some ⟨b,i,none⟩),y4w j6 (spL.getD i (0,0)).1,y4w j6 (spL.getD i (0,0)).2]) w:=by
 have:i=0∨i=1∨i=2∨i=3∨i=4∨i=5∨i=6∨i=7∨i=8∨i=9:=by omega
 rcases this with h | h | h | h | h | h | h | h | h | h <;> subst h
 ·show (Instr.index 112 (spV b) (y4w j6 0)).run y5c w = .ok (y5b #[y4x (some ⟨b,0,none⟩),y4w j6 2,y4w j6 64]) w;kernel_rfl
 ·show (Instr.index 112 (spV b) (y4w j6 1)).run y5c w = .ok (y5b #[y4x (some ⟨b,1,none⟩),y4w j6 1,y4w j6 8]) w;kernel_rfl
 ·show (Instr.index 112 (spV b) (y4w j6 2)).run y5c w = .ok (y5b #[y4x (some ⟨b,2,none⟩),y4w j6 1,y4w j6 64]) w;kernel_rfl
 ·show (Instr.index 112 (spV b) (y4w j6 3)).run y5c w = .ok (y5b #[y4x (some ⟨b,3,none⟩),y4w j6 1,y4w j6 16]) w;kernel_rfl
 ·show (Instr.index 112 (spV b) (y4w j6 4)).run y5c w = .ok (y5b #[y4x (some ⟨b,4,none⟩),y4w j6 0,y4w j6 1000]) w;kernel_rfl
 ·show (Instr.index 112 (spV b) (y4w j6 5)).run y5c w = .ok (y5b #[y4x (some ⟨b,5,none⟩),y4w j6 0,y4w j6 65535]) w;kernel_rfl
 ·show (Instr.index 112 (spV b) (y4w j6 6)).run y5c w = .ok (y5b #[y4x (some ⟨b,6,none⟩),y4w j6 0,y4w j6 64]) w;kernel_rfl
 ·show (Instr.index 112 (spV b) (y4w j6 7)).run y5c w = .ok (y5b #[y4x (some ⟨b,7,none⟩),y4w j6 1,y4w j6 16]) w;kernel_rfl
 ·show (Instr.index 112 (spV b) (y4w j6 8)).run y5c w = .ok (y5b #[y4x (some ⟨b,8,none⟩),y4w j6 1,y4w j6 256]) w;kernel_rfl
 ·show (Instr.index 112 (spV b) (y4w j6 9)).run y5c w = .ok (y5b #[y4x (some ⟨b,9,none⟩),y4w j6 0,y4w j6 64]) w;kernel_rfl
theorem zb8 (cf:Cf) {i:Nat} (hi:i<10):(cfV cf).toArray[i]?=some (y4w j6 ((cfL cf).getD i 0)):=by
 have:i=0∨i=1∨i=2∨i=3∨i=4∨i=5∨i=6∨i=7∨i=8∨i=9:=by omega
 rcases this with h | h | h | h | h | h | h | h | h | h <;> subst h <;> rfl
theorem qtq {cf:Cf} {b:Nat} (h0:cf.Legal→∀w',Fr [] w w'→K (y4w j6 0) w') (h1:¬cf.Legal→∀n w',n≠0→Fr [] w w'→K (y4w j6 n) w'):
  ∀(d i:Nat) (w':World),i+d=10→Fr [] w w'→w'.heap[b]?=some (.cells (cfV cf).toArray 23 (0,0))→(∀j,j<i→((spL.getD j (0,0)).1≤(cfL cf).getD j 0∧(cfL cf).getD j 0≤(spL.getD j (0,0)).2))→
   F36.l2 K (y4x (some ⟨b,0,none⟩)) (spV b) (y4w j6 (i:Int)) w':=by
 intro d
 induction d with
 | zero=>
  intro i w' hi hf hb hz
  have e:i=10:=by omega
  subst e
  refine F36.l2.to ?_
  simp only[zv,show ¬(((10:Nat):Int)<10) by omega]
  refine F36.k7.to ?_
  have q2:=hz 2 (by omega)
  have q3:=hz 3 (by omega)
  have q4:=hz 4 (by omega)
  have q2:1≤cf.window∧cf.window≤64:=q2
  have q3:1≤cf.quantum∧cf.quantum≤16:=q3
  have q4:0≤cf.target∧cf.target≤1000:=q4
  have hm:0≤cf.window*(1000-cf.target)∧cf.window*(1000-cf.target)≤64000:=by
   constructor
   ·exact y3y (by omega) (by omega)
   ·exact y4p (y3z q2.2 (show 1000-cf.target≤1000 by omega) (by omega) (by omega)) (by decide)
  try simp only[zv]
  refine C.ad (v:=y4w j6 cf.window) hb rfl ?_
  refine C.ad (v:=y4w j6 cf.target) hb rfl ?_
  try simp only[zv]
  rw[qab (n:=1000-cf.target) (by omega),qab (n:=cf.window*(1000-cf.target)) (by omega)]
  refine C.ad (v:=y4w j6 cf.quantum) hb rfl ?_
  try simp only[zv]
  rw[qab (n:=1000*cf.quantum) (by omega)]
  by_cases c:cf.window*(1000-cf.target)<1000*cf.quantum
  ·simp only[zv,c]
   exact h1 (fun L=>by have:=L.qu;omega) 11 w' (by decide) hf
  ·simp only[zv,c]
   exact F36.k9.to (h0 ⟨fun i hi=>hz i hi,by omega⟩ w' hf)
 | succ d ih=>
  intro i w' hi hf hb hz
  have hlt:i<10:=by omega
  refine F36.l2.to ?_
  simp only[zv,show (i:Int)<10 by omega]
  refine F36.k3.to (C.a4 (zge b hlt) ?_)
  generalize hlo:(spL.getD i (0,0)).1=lo
  generalize hhi:(spL.getD i (0,0)).2=hi'
  refine C.av fun x w1 hn1=>C.a0 (x:=y5b #[y4x (some ⟨b,i,none⟩),y4w j6 lo,y4w j6 hi']) hn1.at_ rfl (by simp[Value.cells,Value.oneCell']) rfl fun w2 hu2=>?_
  have l1:=hn1.is
  have f2:Fr [] w' w2:=hn1.fr.then hu2.fr (by simp;omega)
  have b2:=f2.at_ hb (by simp)
  have x2:=hu2.at_
  refine C.a5 (fun v=>v.heap[x]?=some (.cells #[y4x (some ⟨b,i,none⟩),y4w j6 lo,y4w j6 hi'] 111 (0,0))∧v.heap[b]?=some (.cells (cfV cf).toArray 23 (0,0))) fun w3 hf3 _=>⟨⟨hf3.at_ x2 (by simp),hf3.at_ b2 (by simp)⟩,?_⟩
  try simp only[zv]
  have gv:=zb8 cf hlt
  generalize hv:(cfL cf).getD i 0=v at gv
  refine C.ao (v:=y4x (some ⟨b,i,none⟩)) (fun w' hw=>⟨_,_,_,hw.1,rfl⟩) ?_
  try simp only[C.ag]
  refine C.ao (v:=y4w j6 v) (fun w' hw=>⟨_,_,_,hw.2,gv⟩) (C.ao (v:=y4w j6 lo) (fun w' hw=>⟨_,_,_,hw.1,rfl⟩) (C.ao (v:=y4w j6 hi') (fun w' hw=>⟨_,_,_,hw.1,rfl⟩) (C.ao (v:=y4x (some ⟨b,i,none⟩)) (fun w' hw=>⟨_,_,_,hw.1,rfl⟩) ?_)))
  try simp only[C.ag]
  refine C.ao (v:=y4w j6 v) (fun w' hw=>⟨_,_,_,hw.2,gv⟩) ⟨qdb ⟨⟨hf3.at_ x2 (by simp),hf3.at_ b2 (by simp)⟩,?_⟩,trivial⟩
  have f3:=(hf.trans f2).trans hf3
  have ok:(lo≤v∧v≤hi')→F36.k6 K (y4x (some ⟨b,0,none⟩)) (spV b) (y4w j6 (i:Int)) w3:=fun hok=>by
   refine F36.k6.to ?_
   try simp only[C.a6]
   rw[qab (n:=(i:Int)+1) (by omega)]
   refine ih (i+1) w3 (by omega) f3 (hf3.at_ b2 (by simp)) fun j hj=>?_
   by_cases e:j=i
   ·subst e;rw[hlo,hhi,hv];exact hok
   ·exact hz j (by omega)
  have lohi:lo≤hi':=by
   rw[←hlo, ←hhi]
   have:i=0∨i=1∨i=2∨i=3∨i=4∨i=5∨i=6∨i=7∨i=8∨i=9:=by omega
   rcases this with h | h | h | h | h | h | h | h | h | h <;> subst h <;> decide
  by_cases c:lo≤v∧v≤hi'
  ·rw[if_neg (by omega),if_neg (by omega)]
   simp only[zv,eq_self,ne_eq,not_true_eq_false]
   exact ok c
  ·have ne:(if v<lo then lo else if v>hi' then hi' else v)≠v:=by
    by_cases a:v<lo
    ·rw[if_pos a];omega
    ·have hv2:v>hi':=by omega
     rw[if_neg a,if_pos hv2];omega
   have vlo:((i:Int)+1)≠0:=by omega
   try simp only[C.bh]
   rw[decide_eq_true ne]
   try simp only[C.ah]
   rw[qab (n:=(i:Int)+1) (by omega)]
   exact h1 (fun L=>c (by have:=L.sp i hlt;rw[hlo,hhi,hv] at this;exact this)) _ w3 vlo f3
theorem qsi {cf:Cf} (h0:cf.Legal→∀w',Fr [] w w'→K (y4w j6 0) w') (h1:¬cf.Legal→∀n w',n≠0→Fr [] w w'→K (y4w j6 n) w'):C.i y5c 36 #[y5b (cfV cf).toArray] w K:=by
 refine F36.sh (C.av fun b w1 hn1=>zbs fun w2 hf2=>?_)
 exact qtq h0 h1 10 0 w2 (by omega) (hn1.fr.trans hf2) (hf2.at_ hn1.at_ (by simp)) (fun j hj=>by omega)
theorem qnp {cf:Cf} (h0:cf.Legal→∀w',Fr [] w w'→K (y4w j6 0) w') (h1:¬cf.Legal→∀w',Fr [] w w'→K (y4w j6 6) w'):C.i y5c 11 #[y5b (cfV cf).toArray] w K:=by
 refine F11.sh (C.av fun b w1 hn1=>C.ax hn1.at_ rfl (qsi (fun L w2 hf2=>?_) fun L n w2 hn hf2=>?_))
 ·simp only[zv,eq_self,ne_eq,not_true_eq_false]
  exact F11.k3.to (h0 L w2 (hn1.fr.trans hf2))
 ·simp only[zv,ne_eq,hn,not_false_eq_true]
  exact h1 L w2 (hn1.fr.trans hf2)
theorem zdq {cf:Cf} (L:cf.Legal) (hk:∀w',Fr [] w w'→K (y4w j6 cf.most) w'):C.i y5c 43 #[y5b (cfV cf).toArray] w K:=by
 refine F43.sh (C.av fun b w1 hn1=>C.ax hn1.at_ rfl (qsi (fun _ w2 hf2=>?_) fun L'=>absurd L L'))
 have b2:=hf2.at_ hn1.at_ (by simp)
 simp only[zv,eq_self,ne_eq,not_true_eq_false]
 refine F43.k3.to ?_
 have q2:1≤cf.window∧cf.window≤64:=L.sp 2 (by omega)
 have q4:0≤cf.target∧cf.target≤1000:=L.sp 4 (by omega)
 have hm:0≤cf.window*(1000-cf.target)∧cf.window*(1000-cf.target)≤64000:=by
  constructor
  ·exact y3y (by omega) (by omega)
  ·exact y4p (y3z q2.2 (show 1000-cf.target≤1000 by omega) (by omega) (by omega)) (by decide)
 try simp only[zv]
 refine C.ad (v:=y4w j6 cf.window) b2 rfl ?_
 refine C.ad (v:=y4w j6 cf.target) b2 rfl ?_
 try simp only[zv]
 rw[qab (n:=1000-cf.target) (by omega),qab (n:=cf.window*(1000-cf.target)) (by omega)]
 refine⟨_,qcl _ _ _ _ (by decide),?_⟩
 have ed:(cf.window*(1000-cf.target)).tdiv 1000=cf.most:=rfl
 have em:0≤cf.most∧cf.most≤64000:=by
  unfold Cf.most
  rw[y0i hm.1];omega
 rw[ed,qab (n:=cf.most) (by omega)]
 exact hk w2 (hn1.fr.trans hf2)
end
def Kad.up (Q:Kad) (N:Nat):Kad:={ Q with H:={ Q.H with N:=N } }
theorem qai.raise {w:World} {Q:Kad} {m:Mv} {cf:Cf} {c:Co} {N:Nat} (h:qai Q m cf w c) (hm:m.all=[]) (h1:Q.H.N≤N) (h2:N≤w.heap.size):qai (Q.up N) m cf w c:=by
 have e1:qaa m.lv=[]:=by unfold Mv.all at hm;exact (List.append_eq_nil_iff.1 hm).1
 have e2:=(List.append_eq_nil_iff.1 (List.append_eq_nil_iff.1 (show qaa m.lv ++ (qbp m.vs ++ qbp m.ts)=[] from hm)).2)
 obtain⟨cs,b1,b2⟩:=h.blk
 refine⟨⟨h.ok.dj,fun x hx=>by have:=h.ok.lo x hx;show x<N;omega⟩,⟨⟨h.hp.ok.nd,h.hp.ok.dj,fun x hx=>by have:=h.hp.ok.lo x hx;show x<N;omega⟩,h.hp.st,h.hp.gy,h.hp.tb,h.hp.sb,by rw[e1];simp,h2,h.hp.pg,h.hp.ck⟩,⟨cs,b1,b2.sz,b2.s0,b2.s1,b2.s12,b2.s13,b2.s14,b2.s15,b2.ts,b2.s24,b2.s25,b2.s26,b2.s27⟩,h.rg,h.fb,h.th,h.tl,h.t16,by rw[e2.1];simp,by rw[e2.2];simp⟩
section
variable {K:VK} {w:World}
theorem Cf.Legal.fine {cf:Cf} (L:cf.Legal):cf.Fine∧cf.Co:=by
 have q0:2≤cf.pages∧cf.pages≤64:=L.sp 0 (by omega)
 have q1:1≤cf.threads∧cf.threads≤8:=L.sp 1 (by omega)
 have q2:1≤cf.window∧cf.window≤64:=L.sp 2 (by omega)
 have q3:1≤cf.quantum∧cf.quantum≤16:=L.sp 3 (by omega)
 have q4:0≤cf.target∧cf.target≤1000:=L.sp 4 (by omega)
 have q5:0≤cf.cap∧cf.cap≤65535:=L.sp 5 (by omega)
 have q6:0≤cf.tax∧cf.tax≤64:=L.sp 6 (by omega)
 have q7:1≤cf.chunk∧cf.chunk≤16:=L.sp 7 (by omega)
 have q8:1≤cf.stack∧cf.stack≤256:=L.sp 8 (by omega)
 have hm:0≤cf.window*(1000-cf.target):=y3y (by omega) (by omega)
 have hm2:cf.window*(1000-cf.target)≤cf.window*1000:=Int.mul_le_mul_of_nonneg_left (by omega) (by omega)
 have em:0≤cf.most∧cf.most≤cf.window:=by
  unfold Cf.most
  rw[y0i hm];omega
 exact⟨⟨q1,q2,em,by omega,q5,q6⟩,⟨by omega,q1,q7,q8⟩⟩
theorem zei (l b:Nat):(Instr.build 94 #[(0,y4x (some ⟨l,0,none⟩)),(1,y4x (some ⟨b,0,none⟩))]).run y5c w = .ok (y5b #[y4x (some ⟨l,0,none⟩),y4x (some ⟨b,0,none⟩)]) w:=by kernel_rfl
theorem bMa (l b co:Nat) (cf:Cf):(Instr.build 96 #[(0,y5b #[y4x (some ⟨l,0,none⟩),y4x (some ⟨b,0,none⟩)]),(1,y5b (cfV cf).toArray),(2,y4x (some ⟨co,0,none⟩))]).run y5c w = .ok (y5b #[y4x (some ⟨l,0,none⟩),y4x (some ⟨b,0,none⟩),y4w j6 cf.pages,y4w j6 cf.threads,y4w j6 cf.window,y4w j6 cf.quantum,y4w j6 cf.target,y4w j6 cf.cap,y4w j6 cf.tax,y4w j6 cf.chunk,y4w j6 cf.stack,y4w j6 cf.trigger,y4x (some ⟨co,0,none⟩)]) w:=by kernel_rfl
theorem qr7 {cf:Cf} (hT:TzB w) (hz:0<w.heap.size) (h1:¬cf.Legal→∀w',Fr [] w w'→K (.tuple #[y4x none,y4w j6 6]) w')
  (h0:cf.Legal→∀(A:Mad) (g:Gw) w',Fr [] w w'→g.all cf.threads.toNat=[]→(∀x∈A.all cf.threads.toNat g,x=0∨w.heap.size≤x)→qaf A g cf 0 w' (Ma.new cf)→K (.tuple #[y4x (some ⟨A.ma,0,none⟩),y4w j6 0]) w'):
  C.i y5c 16 #[y5b (cfV cf).toArray] w K:=by
 refine F16.sh (C.av fun y w1 hn1=>C.ax hn1.at_ rfl (F41.sh (C.av fun y2 w2 hn2=>C.ax hn2.at_ rfl (qnp (fun L w3 hf3=>?_) fun L w3 hf3=>?_))))
 ·have hfine:=L.fine
  simp only[zv,eq_self,ne_eq,not_true_eq_false]
  have f3:=(hn1.fr.trans hn2.fr).trans hf3
  have s3:=f3.size
  have l1:=hn1.is
  refine zay (hf3.at_ hn2.at_ (by simp)) hfine.2 (hT.keep f3 (by simp)) (by omega) fun Q m w4 hf4 hm4 hQ4 h4=>?_
  have s4:=hf4.size
  have y4:=(hn2.fr.trans (hf3.trans hf4)).at_ hn1.at_ (by simp)
  simp only[zv,eq_self,ne_eq,not_true_eq_false]
  refine F16.k4.to (C.a5 (fun w'=>w'.heap[y]?=some (.cells (cfV cf).toArray 23 (0,0))) fun w5 hf5 _=>⟨hf5.at_ y4 (by simp),?_⟩)
  have s5:=hf5.size
  try simp only[zv]
  refine C.ao (v:=y4w j6 cf.threads) (fun w' hw=>⟨_,_,_,hw,rfl⟩) (C.ao (v:=y4w j6 cf.window) (fun w' hw=>⟨_,_,_,hw,rfl⟩) (C.bn (vs:=cfV cf) (fun w' hw=>⟨_,_,_,hw,by simp[cfV],rfl⟩) (C.ao (v:=y4w j6 cf.cap) (fun w' hw=>⟨_,_,_,hw,rfl⟩) (C.bn (vs:=cfV cf) (fun w' hw=>⟨_,_,_,hw,by simp[cfV],rfl⟩) ?_))))
  refine⟨zdq L fun w6 hf6=>⟨(hf5.trans hf6).at_ y4 (by simp),?_⟩,trivial⟩
  have s6:=hf6.size
  have hth:=hfine.1.th
  obtain⟨T,hTh⟩:=y1b (show 0≤cf.threads by omega)
  rw[hTh]
  refine⟨qx1 T (by omega) cf.window cf.most hfine.1.wi hfine.1.mo fun lg bb w7 hf7 hlg hbb hL7=>⟨((hf5.trans hf6).trans hf7).at_ y4 (by simp),?_⟩,trivial⟩
  have s7:=hf7.size
  have zlg:=qac hL7.obj
  obtain⟨bcs,hb7,hbc7⟩:=hL7.bk
  have zbb:=qac hb7
  refine⟨zb3 cf.cap fun bn w8 hn8=>?_,trivial⟩
  have l8:=hn8.is
  have s8:=hn8.fr.size
  have z8:=qac hn8.at_
  have f48:=((hf5.trans hf6).trans hf7).trans hn8.fr
  refine⟨f48.at_ y4 (by simp),⟨_,fun w' _=>zei lg bn,⟨_,fun w' _=>bMa lg bn Q.co cf,C.av fun ma w9 hn9=>⟨(f48.trans hn9.fr).at_ y4 (by simp),?_⟩,trivial⟩⟩⟩
  have l9:=hn9.is
  have s9:=hn9.fr.size
  have z9:=qac hn9.at_
  have f49:=f48.trans hn9.fr
  have hca:=hfine.1.ca
  have ec:qbl cf.cap 0 65535=cf.cap:=by unfold qbl;rw[if_neg (by omega),if_neg (by omega)]
  have h9:=(h4.keep0 f49).raise (N:=w9.heap.size) hm4 (by have:=h4.hp.le;omega) (y4q _)
  have eT:cf.threads.toNat=T:=by omega
  have sb0:qnj T (fun _=>Value.slice none 0 0)=[]:=by simp[qnj,qaa,Value.ownBlock]
  have lowN:∀x∈Q.fix ++ (Q.H.fix ++ Q.H.D.all),x<w4.heap.size:=fun x hx=>by have:=h4.low hx;have:=h4.hp.le;omega
  refine h0 L ⟨Q.up w9.heap.size,ma,lg,bb,bn⟩ ⟨m,fun _=>y4y none 0 0⟩ w9 (f3.trans (hf4.trans f49)) ?_ (fun x hx=>?_) ⟨⟨?_,fun x hx e=>?_,fun x hx=>?_⟩,hfine.1,h9,hn9.at_,?_,?_,?_,fun t=>by simp[Ma.new],?_,?_⟩
  ·rw[eT];simp only[Gw.all];rw[hm4,sb0];rfl
  ·rw[eT] at hx
   simp only[Mad.all,Mad.fix,Gw.all,y3q,y4b,y3i,or_false,hm4,sb0] at hx
   rcases hx with (e | e | e | e) | e
   ·exact .inr (by omega)
   ·exact .inr (by omega)
   ·exact .inr (by omega)
   ·exact .inr (by omega)
   ·rcases hQ4 x e with e' | e'
    ·exact .inl e'
    ·exact .inr (by omega)
  ·have:=hL7.gb
   simp only[Mad.fix,y3s,y4b,y3i,or_false,not_or,not_false_eq_true,List.nodup_nil,and_true]
   omega
  ·have:=lowN x e
   simp only[Mad.fix,y4b,y3i,or_false] at hx
   rcases hx with e | e | e | e <;> omega
  ·simp only[Mad.fix,y4b,y3i,or_false] at hx
   show x<w9.heap.size
   rcases hx with e | e | e | e <;> omega
  ·rw[eT];exact (hL7.keep0 hn8.fr).keep0 hn9.fr
  ·have:=hn9.fr.at_ hn8.at_ (by simp)
   rw[ec] at this
   exact this
  ·exact⟨⟨by omega,by simp[Ma.new],by simp[Ma.new];omega,by simp[Ma.new],by simp[Ma.new],by simp[Ma.new],by simp[Ma.new],by simp[Ma.new]⟩,by simp[Ma.new],by simp[Ma.new]⟩
  ·rw[eT];simp only;rw[sb0];simp
  ·simp[Ma.new,Co.new]
 ·simp only[zv,ne_eq,show ¬((6:Int)=0) by decide,not_false_eq_true]
  exact h1 L w3 ((hn1.fr.trans hn2.fr).trans hf3)
end
def Ma.flds (x:Ma) (a:Int):List V2:=(List.range (x.co.s.fields a).toNat).map fun i:Nat=>(x.co.s.get a (i:Int)).1
def Ma.sers (x:Ma) (l:List V2):List V2:=l.map fun v=>(v.1,(x.told v).2)
section
variable {K:VK} {w:World} {A:Mad} {g:Gw} {cf:Cf} {B:Int} {x:Ma}
theorem C.c9 {W0:World} {v:Value} {l:List V2} {n:V2} (hf:Fr [] W0 w) (hn:qaj W0 v) (hv:qad w v 60 2 (vaC l)) (hl:l.length≤1000000)
  (hk:∀v' w',Fr [] W0 w'→qaj W0 v'→qad w' v' 60 2 (vaC (l ++ [n]))→Fr (qaa v) w w'→(∀g∈qaa v',g∈qaa v∨w.heap.size≤g)→K v' w'):
  C.ay y5c (Instr.buildSlice 56 1 #[(0,V n.1 n.2)]) w fun x w1=>C.ay y5c (Builtin.append_ #[56,56] 56 #[v,x]) w1 K:=
 C.cp (x:=[y4w j6 n.1,y4w j6 n.2]) (e:=60) (sz:=2) (bytes:=16) (z:=V 0 0) Tryz.underlying56 (by kernel_rfl) rfl (by decide) (qyl n) rfl (by simp[Value.oneCell']) hf hn hv (by rw[qa9];omega) (by rw[qa9];omega) fun v' w' a b c d e=>hk v' w' a b (by rw[qta];exact c) d e
theorem quw {W:World} (h0:qaf A g cf B W x) {a:Int} {n:Nat} (hn:n≤127) (hk:∀v w',Fr [] W w'→qaj W v→qad w' v 60 2 (vaC ((List.range n).map fun i:Nat=>(x.co.s.get a (i:Int)).1))→K v w') {c:Int} (hc:c.toNat=n):
  ∀(d i:Nat) (w:World) (v:Value),i+d=n→Fr [] W w→qaj W v→qad w v 60 2 (vaC ((List.range i).map fun i:Nat=>(x.co.s.get a (i:Int)).1))→
   F50.l3 K (y4x (some ⟨A.ma,0,none⟩)) (y4w j6 a) v (y4w j6 c) (y4w j6 (i:Int)) w:=by
 intro d
 induction d with
 | zero=>
  intro i w v hi hf hn' hv
  have e:i=n:=by omega
  subst e
  refine F50.l3.to ?_
  simp only[zv,show ¬((i:Int)<c) by omega]
  exact F50.k8.to (hk v w hf hn' hv)
 | succ d ih=>
  intro i w v hi hf hn' hv
  have h:=h0.keep0 hf
  refine F50.l3.to ?_
  simp only[zv,show (i:Int)<c by omega]
  refine F50.k4.to ?_
  try simp only[zv]
  refine C.ad (v:=y4x (some ⟨A.Q.co,0,none⟩)) h.blk rfl (qr6 h.co fun w1 hf1=>?_)
  try simp only[zv]
  generalize hgv:(x.co.s.get a (i:Int)).1=gv
  refine C.av fun y w2 hn2=>C.a0 (x:=V gv.1 gv.2) hn2.at_ rfl qal rfl fun w3 hu3=>C.ax hu3.at_ rfl ?_
  have l2:=hn2.is
  have s1:=hf1.size
  have f3:Fr [] w w3:=(hf1.trans hn2.fr).then hu3.fr (by simp;omega)
  refine C.c9 (n:=gv) (hf.trans f3) hn' (hv.keep f3 (by simp)) (by simp;omega) fun v' w4 hf4 hn4 ho4 _ _=>?_
  refine F50.k7.to ?_
  try simp only[C.a6]
  rw[qab (n:=(i:Int)+1) (by omega)]
  refine ih (i+1) w4 v' (by omega) hf4 hn4 ?_
  rw[y3u,y3v,List.map_singleton,hgv]
  exact ho4
theorem qhc {a:Int} (h:qaf A g cf B w x) (hk:∀v w',Fr [] w w'→qaj w v→qad w' v 60 2 (vaC (x.flds a))→K v w'):C.i y5c 50 #[y4x (some ⟨A.ma,0,none⟩),y4w j6 a] w K:=by
 have hr:=qgg (s:=x.co.s) a
 refine F50.sh ?_
 try simp only[zv]
 refine C.ad (v:=y4x (some ⟨A.Q.co,0,none⟩)) h.blk rfl (qnq h.co ?_)
 exact quw (W:=w) h (n:=(x.co.s.fields a).toNat) (by omega) hk rfl (x.co.s.fields a).toNat 0 w _ (by omega) (Fr.refl _ _) (qaj.nil _) (qad.nil _ _ _)
theorem zc6 (l:List V2) (j:Nat) (v:V2):vaC (l.set j v)=(vaC l).set j [y4w j6 v.1,y4w j6 v.2]:=by simp[vaC]
theorem qvl {W:World} (h0:qaf A g cf B W x) {u:Value} {l:List V2} (hl:l.length≤1000) (hNu:qaj W u) (hk:∀w',Fr [] W w'→qad w' u 60 2 (vaC (x.sers l))→K u w'):
  ∀(d i:Nat) (w:World),i+d=l.length→Fr [] W w→qad w u 60 2 (vaC (x.sers (l.take i) ++ l.drop i))→
   F46.l3 K (y4x (some ⟨A.ma,0,none⟩)) u u (y4w j6 (l.length:Int)) (y4w j6 (i:Int)) w:=by
 intro d
 induction d with
 | zero=>
  intro i w hi hf hv
  have e:i=l.length:=by omega
  subst e
  refine F46.l3.to ?_
  simp only[zv,show ¬((l.length:Int)<(l.length:Int)) by omega]
  rw[y2z,y3j,y3m] at hv
  exact F46.k8.to (hk w hf hv)
 | succ d ih=>
  intro i w hi hf hv
  have hlt:i<l.length:=by omega
  have h:=h0.keep0 hf
  have hsl:(x.sers (l.take i)).length=i:=by simp[Ma.sers];omega
  have hll:(x.sers (l.take i) ++ l.drop i).length=l.length:=by rw[y2g,hsl,y3c];omega
  have hget:(x.sers (l.take i) ++ l.drop i)[i]'(by omega)=l[i]:=by
   rw[y0u (by omega)]
   simp[hsl]
  refine F46.l3.to ?_
  simp only[zv,show (i:Int)<(l.length:Int) by omega]
  refine F46.k4.to (C.cl hv.rd (by omega:i<(x.sers (l.take i) ++ l.drop i).length) fun gg o cs e fz hg hcs ho=>C.br hg (by omega) hcs ?_)
  rw[hget]
  generalize hgv:l[i]=v
  refine C.av fun y w1 hn1=>C.a0 (x:=V v.1 v.2) hn1.at_ rfl qal rfl fun w2 hu2=>C.ax hu2.at_ rfl ?_
  have l1:=hn1.is
  have f2:Fr [] w w2:=hn1.fr.then hu2.fr (by simp;omega)
  refine ql6 (v:=v) (h.keep0 f2) fun w3 hf3=>?_
  have s2:=f2.size
  have s3:=hf3.size
  refine C.av fun z w4 hn4=>C.a0 (x:=anV ⟨0,(x.told v).1,(x.told v).2,0,0⟩) hn4.at_ rfl qc3 rfl fun w5 hu5=>?_
  have l4:=hn4.is
  have f5:Fr [] w w5:=((f2.trans hf3).trans hn4.fr).then hu5.fr (by simp;omega)
  have v5:=hv.keep f5 (by simp)
  try simp only[zv]
  refine C.ad (v:=y4w j6 (x.told v).2) hu5.at_ rfl ?_
  refine v5.spot (by rw[qa9];omega) fun g2 o2 cs2 hg2 hb2 ho2 hc2 hset=>?_
  have q0:=hc2 0 (by omega)
  have e0:((vaC (x.sers (l.take i) ++ l.drop i))[i]'(by rw[qa9];omega))=[y4w j6 v.1,y4w j6 v.2]:=by
   simp only[vaC,y3h]
   rw[hget,hgv]
  rw[e0] at q0
  try simp only[C.af]
  refine C.bb hg2 rfl rfl (by omega) fun w6 hu6=>?_
  have hown:=hset [y4w j6 v.1,y4w j6 (x.told v).2] w6 rfl (by simp[Value.oneCell']) (by rw[qj2 (by simpa using q0) ho2];exact hu6.at_)
  refine F46.k7.to ?_
  try simp only[C.a6]
  rw[qab (n:=(i:Int)+1) (by omega)]
  refine ih (i+1) w6 (by omega) ((hf.trans f5).then hu6.fr fun q hq => .inr ?_) ?_
  ·simp only[y2d] at hq
   subst hq
   exact hNu.blk _ (by rw[hb2];simp)
  ·have e1:x.sers (l.take (i+1)) ++ l.drop (i+1)=(x.sers (l.take i) ++ l.drop i).set i (v.1,(x.told v).2):=by
    rw[List.set_append_right _ _ (by omega),hsl,Nat.sub_self,y0o hlt,List.set_cons_zero,y2o,y0v hlt,hgv]
    simp[Ma.sers]
   rw[e1,zc6]
   exact hown
theorem qdk {u:Value} {l:List V2} (h:qaf A g cf B w x) (hl:l.length≤1000) (hu:qad w u 60 2 (vaC l)) (hk:∀v w',Fr [] w w'→qaj w v→qad w' v 60 2 (vaC (x.sers l))→K v w'):C.i y5c 46 #[y4x (some ⟨A.ma,0,none⟩),u] w K:=by
 refine F46.sh (qo5 hu.rd (by omega) fun v w1 hf1 ho1 hn1=>C.bg ho1.rd ?_)
 rw[qa9]
 exact qvl (W:=w) h hl hn1 (fun w' hf ho=>hk v w' hf hn1 ho) l.length 0 w1 (by omega) hf1 (by simpa[Ma.sers] using ho1)
end
end Go.Proofs.YtcakfaakbpdklaaGreatDoorV
