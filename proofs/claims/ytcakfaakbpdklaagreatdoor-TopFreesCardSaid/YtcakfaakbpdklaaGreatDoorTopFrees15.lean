/- Part 15 of what the law needs: own lemmas, in the order in which they build. -/
import Derived.Test.YtcakfaakbpdklaaGreatDoorTopFrees14
set_option linter.unusedSimpArgs false
set_option linter.unusedVariables false
set_option maxRecDepth 10000
namespace Go.Proofs.YtcakfaakbpdklaaGreatDoorV
open Go Go.Proofs Go.RowKit
open Go.Proofs.Tryz renaming prog→y5c
open Go.IntKind renaming i64→j6
open Go.Value renaming int→y4w,pointer→y4x
def anV (a:Ans):Value := .agg #[y4w j6 a.code,y4w j6 a.kd,y4w j6 a.n,y4w j6 a.done,y4w j6 a.credit]
def stV (x:Stp):Value := .agg #[y4w j6 x.kd,y4w j6 x.t,y4w j6 x.i,y4w j6 x.f,y4w j6 x.j,y4w j6 x.cost,y4w j6 x.n]
theorem qc3 {a:Ans}:∀v∈(anV a).cells.toList,v.oneCell'=true:=by
 intro v hv
 simp only[anV,Value.cells,y4b,y3i,or_false] at hv
 rcases hv with rfl | rfl | rfl | rfl | rfl <;> rfl
section
variable {K:VK} {w w':World} {A:Mad} {g:Gw} {cf:Cf} {B:Int} {x:Ma}
theorem zep (e:Int):(Instr.build 38 #[(0,y4w j6 e)]).run y5c w = .ok (anV (Ans.err e)) w:=by kernel_rfl
theorem qvz (k n:Int):(Instr.build 38 #[(1,y4w j6 k),(2,y4w j6 n)]).run y5c w = .ok (anV ⟨0,k,n,0,0⟩) w:=by kernel_rfl
theorem qkd:(Instr.build 38 #[]).run y5c w = .ok (anV Ans.ok) w:=by kernel_rfl
theorem ql8 {b:Nat} {cs:Array Value} {a:Ans} (hb:w.heap[b]?=some (.cells cs 38 (0,0))) (hs:cs.size=5) (hk:∀w',Fr [b] w w'→K (anV a) w'):
  C.ak 5 (y4x (some ⟨b,0,none⟩)) (anV a) w fun w2=>C.an 5 (y4x (some ⟨b,0,none⟩)) w2 fun r _=>K r w2:=
 C.a0 hb rfl qc3 hs fun w3 hu=>C.ax hu.at_ rfl (hk w3 hu.fr)
theorem quu {e:Int} (hk:∀w',Fr [] w w'→K (anV (Ans.err e)) w'):C.i y5c 54 #[y4w j6 e] w K:=by
 refine F54.sh (C.av fun b w1 hn=>C.a4 (zep e) (ql8 (a:=Ans.err e) hn.at_ rfl fun w2 hf2=>hk w2 (hn.fr.then hf2 ?_)))
 have:=hn.is
 simp;omega
theorem qhd {n lo hi:Int} (hk:K (.bool (decide (n<lo∨hi<n))) w):C.i y5c 150 #[y4w j6 n,y4w j6 lo,y4w j6 hi] w K:=by
 refine F150.sh ?_
 by_cases z1:n<lo
 ·rw[decide_eq_true (.inl z1)] at hk
  simp only[zv,z1]
  exact hk
 ·by_cases z2:n>hi
  ·rw[decide_eq_true (.inr z2)] at hk
   simp only[zv,z1,z2]
   exact hk
  ·rw[decide_eq_false (by omega)] at hk
   simp only[zv,z1,z2]
   exact hk
theorem zc4 (a:Int):qdx a=if chk 2 a=0 then (2,a) else (0,0):=by
 unfold qdx chk
 by_cases h:0≤a∧a<2048
 ·simp[h]
 ·simp[h]
theorem qkt {a:Int} (hk:∀w',Fr [] w w'→K (V (qdx a).1 (qdx a).2) w'):C.i y5c 153 #[y4w j6 a] w K:=by
 rw[zc4] at hk
 refine F153.sh (C.av fun b w1 hn1=>C.a4 (qmb 2 a) (F224.sh (C.av fun y w2 hn2=>C.av fun z w3 hn3=>?_)))
 have l1:=hn1.is
 have l2:=hn2.is
 have l3:=hn3.is
 have s1:=hn1.fr.size
 have s2:=hn2.fr.size
 have lb:=qac hn1.at_
 have ly:=qac hn2.at_
 refine C.ax (hn3.fr.at_ hn2.at_ (by simp)) rfl (qfd 2 a fun w4 hf4=>?_)
 have f4:=(hn1.fr.trans (hn2.fr.trans hn3.fr)).trans hf4
 have b4:=(hn2.fr.trans (hn3.fr.trans hf4)).at_ hn1.at_ (by simp)
 have y4:=(hn3.fr.trans hf4).at_ hn2.at_ (by simp)
 have z4:=hf4.at_ hn3.at_ (by simp)
 have fin:∀(v:V2) w5,w5.heap[b]?=some (.cells #[y4w j6 0,y4w j6 0] 60 (0,0))→(∀w',Fr [b] w5 w'→K (V v.1 v.2) w')→C.ak 2 (y4x (some ⟨b,0,none⟩)) (V v.1 v.2) w5 fun w6=>C.an 2 (y4x (some ⟨b,0,none⟩)) w6 fun r _=>K r w6:=fun v w5 hb hk=>
  C.a0 hb rfl qal rfl fun w6 hu=>C.ax hu.at_ rfl (hk w6 hu.fr)
 by_cases c:chk 2 a=0
 ·simp only[zv,eq_self,c,ne_eq,not_true_eq_false]
  simp only[if_pos c] at hk
  refine F224.k3.to (C.ax y4 rfl (C.a0 (x:=V 2 a) z4 rfl qal rfl fun w5 hu5=>C.ax hu5.at_ rfl ?_))
  refine fin (2,a) w5 (hu5.fr.at_ b4 (by simp;omega)) fun w6 hf6=>hk w6 ?_
  exact (f4.then hu5.fr (by simp;omega)).then hf6 (by simp;omega)
 ·simp only[zv,c,ne_eq,not_false_eq_true]
  simp only[if_neg c] at hk
  refine C.a4 qdn (C.a0 (x:=V 0 0) z4 rfl qal rfl fun w5 hu5=>C.ax hu5.at_ rfl ?_)
  refine fin (0,0) w5 (hu5.fr.at_ b4 (by simp;omega)) fun w6 hf6=>hk w6 ?_
  exact (f4.then hu5.fr (by simp;omega)).then hf6 (by simp;omega)
theorem zbi {c:Co} {Q:Kad} {m:Mv} (h:qai Q m cf w c) (hk:∀w',Fr [] w w'→K (y4w j6 (qa1 c.s.c.ks)) w'):C.i y5c 221 #[y4x (some ⟨Q.co,0,none⟩)] w K:=by
 obtain⟨cs,b1,b2⟩:=h.blk
 refine F221.sh (qei h ?_)
 try simp only[zv]
 refine F221.k3.to ?_
 try simp only[zv]
 refine C.ad (v:=y4x (some ⟨Q.H.D.st,0,none⟩)) b1 b2.s0 (F273.sh (qge h.hp.st ?_))
 try simp only[zv]
 refine F273.k3.to ?_
 try simp only[zv]
 exact C.ad (v:=y4x (some ⟨Q.H.D.A.cel,0,none⟩)) h.hp.st.blk rfl (qry h.hp.st.cel hk)
theorem ql2 (h:qaf A g cf B w x) (hk:K (.bool true) w):C.i y5c 45 #[y4x (some ⟨A.ma,0,none⟩)] w K:=by
 refine F45.sh ⟨_,qa0 _ _ _ Tryz.underlying49,?_⟩
 try simp only[zv]
 refine C.ad (v:=y4x (some ⟨A.Q.co,0,none⟩)) h.blk rfl ⟨_,qa0 _ _ _ Tryz.underlying86,?_⟩
 exact hk
theorem ql6 {v:V2} (h:qaf A g cf B w x) (hk:∀w',Fr [] w w'→K (anV ⟨0,(x.told v).1,(x.told v).2,0,0⟩) w'):C.i y5c 81 #[y4x (some ⟨A.ma,0,none⟩),V v.1 v.2] w K:=by
 refine F81.sh (C.av fun y w1 hn1=>C.av fun z w2 hn2=>?_)
 have l1:=hn1.is
 have l2:=hn2.is
 have s1:=hn1.fr.size
 have ly:=qac hn1.at_
 have y2:=hn2.fr.at_ hn1.at_ (by simp)
 have f2:=hn1.fr.trans hn2.fr
 unfold Ma.told at hk
 simp only at hk
 have fin:∀(n:Int) w3,w3.heap[y]?=some (.cells #[y4w j6 v.1,y4w j6 n] 60 (0,0))→(∃cs:Array Value,w3.heap[z]?=some (.cells cs 38 (0,0))∧cs.size=5)→(∀w',Fr [z] w3 w'→K (anV ⟨0,v.1,n,0,0⟩) w')→F81.k3 K (y4x (some ⟨y,0,none⟩)) (y4x (some ⟨z,0,none⟩)) w3:=fun n w3 hy hz hk=>by
  obtain⟨cs,hz,hs⟩:=hz
  refine F81.k3.to ?_
  try simp only[zv]
  refine C.ad (v:=y4w j6 v.1) hy rfl ?_
  refine C.ad (v:=y4w j6 n) hy rfl (C.a4 (qvz v.1 n) (ql8 (a:=⟨0,v.1,n,0,0⟩) hz hs hk))
 try simp only[zv]
 refine C.ad (v:=y4w j6 v.1) y2 rfl ?_
 by_cases c:v.1=2
 ·simp only[zv,eq_self,c]
  rw[if_pos c] at hk
  have h2:=h.keep0 f2
  refine C.a5 (fun w'=>w'.heap[A.ma]?=some (maB A cf)) fun w3 hf3 _=>⟨hf3.at_ h2.blk (by simp),?_⟩
  have h3:=h2.keep0 hf3
  have y3:=hf3.at_ y2 (by simp)
  have la:=qac h.blk
  refine C.ao (v:=y4x (some ⟨A.Q.co,0,none⟩)) (fun w' hw=>⟨_,_,_,hw,rfl⟩) ⟨C.ad (v:=y4w j6 v.2) y3 rfl ⟨h3.blk,⟨qfz h3.co ⟨h3.blk,?_⟩,trivial⟩⟩,trivial⟩
  refine⟨C.bb y3 rfl rfl (by simp[V,Value.cells]) fun w4 hu4=>⟨hu4.fr.at_ h3.blk (by simp;omega),?_⟩,trivial⟩
  refine fin (x.co.s.serial v.2) w4 (by simpa[V,Value.cells] using hu4.at_) ⟨_,hu4.fr.at_ (hf3.at_ hn2.at_ (by simp)) (by simp;omega),rfl⟩ fun w5 hf5=>?_
  exact hk w5 (((f2.trans hf3).then hu4.fr (by simp;omega)).then hf5 (by simp;omega))
 ·simp only[zv,c]
  rw[if_neg c] at hk
  exact fin v.2 w2 y2 ⟨_,hn2.at_,rfl⟩ fun w5 hf5=>hk w5 (f2.then hf5 (by simp;omega))
theorem qog (h:qaf A g cf B w x) (t:Int):(x.co.roots t).length≤16:=by
 unfold Co.roots
 split
 ·by_cases hj:t.toNat<x.co.th.length
  ·have:=h.co.t16 _ (y3g hj)
   simpa[List.getD,hj] using this
  ·simp[List.getD,hj]
 ·simp
theorem ql5 {t i:Int} (h:qaf A g cf B w x) (hi:0≤i) (h1:∀v,x.root t i=some v→∀w',Fr [] w w'→K (.tuple #[V v.1 v.2,.bool true]) w') (h2:x.root t i=none→∀w',Fr [] w w'→K (.tuple #[V 0 0,.bool false]) w'):
  C.i y5c 158 #[y4x (some ⟨A.ma,0,none⟩),y4w j6 t,y4w j6 i] w K:=by
 refine F158.sh (C.av fun y w1 hn1=>?_)
 have l1:=hn1.is
 have h1':=h.keep0 hn1.fr
 try simp only[zv]
 refine C.ad (v:=y4x (some ⟨A.Q.co,0,none⟩)) h1'.blk rfl (qgr h1'.co fun v w2 hf2 hv hn2=>C.bg hv.rd ?_)
 rw[qa9]
 unfold Ma.root at h1 h2
 have y2:=hf2.at_ hn1.at_ (by simp)
 have f2:=hn1.fr.trans hf2
 obtain⟨j,rfl⟩:=y1b hi
 simp only[y2t] at h1 h2
 by_cases c:(j:Int)≥((x.co.roots t).length:Int)
 ·simp only[zv,c]
  refine C.a4 qdn (C.a0 (x:=V 0 0) y2 rfl qal rfl fun w3 hu=>C.ax hu.at_ rfl (h2 (by rw[y1l];omega) w3 (f2.then hu.fr (by simp;omega))))
 ·simp only[zv,c]
  have hj:j<(x.co.roots t).length:=by omega
  refine F158.k4.to (C.cl hv.rd hj fun gg o cs e fz hg hcs ho=>C.br hg (by omega) hcs (C.a0 (x:=V (x.co.roots t)[j].1 (x.co.roots t)[j].2) y2 rfl qal rfl fun w3 hu=>C.ax hu.at_ rfl ?_))
  exact h1 _ (y0v hj) w3 (f2.then hu.fr (by simp;omega))
theorem qpc {s:Stp} (h:qaf A g cf B w x) (hi:0≤s.i) (hk:∀w',Fr [] w w'→K (.tuple #[y4w j6 (x.object s).1,y4w j6 (x.object s).2]) w'):
  C.i y5c 157 #[y4x (some ⟨A.ma,0,none⟩),stV s] w K:=by
 refine F157.sh (C.av fun y w1 hn1=>?_)
 have l1:=hn1.is
 have h1':=h.keep0 hn1.fr
 unfold Ma.object at hk
 try simp only[zv]
 refine C.ad (v:=y4w j6 s.t) hn1.at_ rfl ?_
 refine C.ad (v:=y4w j6 s.i) hn1.at_ rfl (ql5 h1' hi (fun v hv w2 hf2=>?_) fun hv w2 hf2=>?_)
 ·rw[hv] at hk
  simp only at hk
  try simp only[zv]
  refine C.av fun z w3 hn3=>C.a0 (x:=V v.1 v.2) hn3.at_ rfl qal rfl fun w4 hu4=>?_
  have l3:=hn3.is
  have s2:=hf2.size
  have s1:=hn1.fr.size
  have f4:Fr [] w w4:=((hn1.fr.trans hf2).trans hn3.fr).then hu4.fr (by simp;omega)
  try simp only[zv]
  refine C.ad (v:=y4w j6 v.1) hu4.at_ rfl ?_
  by_cases c:v.1=2
  ·rw[if_neg (by simp[c])] at hk
   simp only[zv,eq_self,c,ne_eq,not_true_eq_false]
   refine F157.k6.to ?_
   try simp only[zv]
   exact C.ad (v:=y4w j6 v.2) hu4.at_ rfl (hk w4 f4)
  ·rw[if_pos c] at hk
   simp only[zv,c,ne_eq,not_false_eq_true]
   exact hk w4 f4
 ·rw[hv] at hk
  simp only at hk
  try simp only[zv]
  refine C.av fun z w3 hn3=>C.a0 (x:=V 0 0) hn3.at_ rfl qal rfl fun w4 hu4=>?_
  have l3:=hn3.is
  have s2:=hf2.size
  have s1:=hn1.fr.size
  exact hk w4 (((hn1.fr.trans hf2).trans hn3.fr).then hu4.fr (by simp;omega))
def prV (A:Mad):Value := .agg #[y4x (some ⟨A.lg,0,none⟩),y4x (some ⟨A.bn,0,none⟩)]
theorem qsy {t:Nat} {n:Int} {b:Bool} (hw:cf.window≤64):(qe9 cf.window.toNat (x.lg t ++ List.replicate (min n cf.window).toNat b)).length≤64:=by
 rw[qn8];omega
theorem zak {t:Nat} {n:Int} (h:qaf A g cf B w x) (ht:t<cf.threads.toNat) (h0:0≤n) (h64:n≤64) (hk:∀g' w',MTo A cf.threads.toNat g w g' w'→qaf A g' cf B w' (x.ownT cf t n)→K (.tuple #[]) w'):
  C.i y5c 58 #[prV A,y4w j6 (t:Int),y4w j6 n] w K:=by
 have hw:=h.fine.wi
 refine F58.sh (C.av fun y w1 hn1=>?_)
 have h1:=h.keep0 hn1.fr
 try simp only[zv]
 refine C.ad (v:=y4x (some ⟨A.lg,0,none⟩)) hn1.at_ rfl (qub h1.led ht h0 h64 (by omega) hw.2 (h.l64 t) fun s w2 hx hL=>?_)
 have h2:=h1.setL ht hx hL (qsy hw.2)
 refine hk _ w2 ((MTo.w hn1.fr).trans (MTo.l ht hx)) ?_
 unfold Ma.ownT
 rw[y2t]
 exact h2
theorem qo4 {t:Nat} {n:Int} (h:qaf A g cf B w x) (ht:t<cf.threads.toNat) (hk:∀g' w',MTo A cf.threads.toNat g w g' w'→qaf A g' cf B w' (x.charge cf t n)→K (.tuple #[]) w'):
  C.i y5c 165 #[prV A,y4w j6 (t:Int),y4w j6 n] w K:=by
 have hw:=h.fine.wi
 refine F165.sh (C.av fun y w1 hn1=>?_)
 have h1:=h.keep0 hn1.fr
 unfold Ma.charge Ma.admt at hk
 rw[y2t] at hk
 try simp only[zv]
 refine C.ad (v:=y4x (some ⟨A.lg,0,none⟩)) hn1.at_ rfl (qwo h1.led ht (by omega) hw.2 h.fine.mo.2 (h.l64 t) (fun hno w2 hf2=>?_) fun hye s w2 hx hL=>?_)
 ·rw[hno] at hk
  exact hk g w2 (MTo.w (hn1.fr.trans hf2)) (h1.keep0 hf2)
 ·rw[hye] at hk
  exact hk _ w2 ((MTo.w hn1.fr).trans (MTo.l ht hx)) (h1.setL ht hx hL (qsy hw.2))
end
structure Loc (A:Mad) (T:Nat) (g:Gw) (b:Nat) (w:World):Prop where
 no:b∉A.all T g
 lt:b<w.heap.size
theorem Mad.sub (A:Mad) (T:Nat) (g:Gw):∀y∈A.S T g,y∈A.all T g:=fun y hy=>by
 simp only[Mad.S,y3q] at hy
 simp only[Mad.all,Mad.low,y3q]
 rcases hy with d | d | d | d | d
 ·exact .inl d
 ·exact .inr (.inl (.inl d))
 ·exact .inr (.inl (.inr (.inl d)))
 ·exact .inr (.inl (.inr (.inr (List.mem_of_mem_tail d))))
 ·exact .inr (.inr d)
theorem Loc.at_ {A:Mad} {T:Nat} {g g':Gw} {b:Nat} {w w':World} {o:Obj} (h:Loc A T g b w) (t:MTo A T g w g' w') (hb:w.heap[b]?=some o):w'.heap[b]?=some o:=t.fr.at_ hb fun e=>h.no (A.sub T g b e)
theorem Loc.step {A:Mad} {T:Nat} {g g':Gw} {b:Nat} {w w':World} (h:Loc A T g b w) (t:MTo A T g w g' w'):Loc A T g' b w':=
 ⟨fun e=>by
  simp only[Mad.all,y3q] at e
  rcases e with d | d | d
  ·exact h.no (by simp[Mad.all,d])
  ·exact h.no (by simp[Mad.all,d])
  ·rcases t.gr b d with c | c
   ·exact h.no (by simp[Mad.all,c])
   ·have:=h.lt;omega,y2c h.lt t.fr.size⟩
theorem Loc.fr {A:Mad} {T:Nat} {g:Gw} {b:Nat} {S:List Nat} {w w':World} (h:Loc A T g b w) (hf:Fr S w w'):Loc A T g b w':=⟨h.no,y2c h.lt hf.size⟩
theorem MTo.then {A:Mad} {T:Nat} {g g':Gw} {S:List Nat} {w w' w'':World} (t:MTo A T g w g' w') (hf:Fr S w' w'') (hS:∀y∈S,w.heap.size≤y):MTo A T g w g' w'':=⟨t.fr.then hf fun y hy => .inr (hS y hy),t.gr⟩
section
variable {K:VK} {w w':World} {A:Mad} {g:Gw} {cf:Cf} {B:Int} {x:Ma}
theorem qaf.ltA (h:qaf A g cf B w x):∀y∈A.all cf.threads.toNat g,y<w.heap.size:=fun y hy=>by
 have lo:=h.co.hp.le
 simp only[Mad.all,Mad.low,Gw.all,Mv.all,y3q] at hy
 rcases hy with d | (d | d | d) | (d | d | d) | d
 ·have:=h.ok.lo y d;omega
 ·have:=h.co.low (x:=y) (by simp[d]);omega
 ·have:=h.co.low (x:=y) (by simp[d]);omega
 ·have:=h.co.low (x:=y) (by simp[d]);omega
 ·exact h.co.hp.gy.stk.own.lt (qam.1 d)
 ·exact h.co.fb.fam.lt y d
 ·exact h.co.th.lt y d
 ·obtain⟨t,ht,hy⟩:=qdu.1 d
  exact (h.led.own t ht).lt (qam.1 hy)
theorem qaf.loc (h:qaf A g cf B w x) {b:Nat} (hb:w.heap.size≤b) (hl:b<w'.heap.size):Loc A cf.threads.toNat g b w':=⟨fun e=>by have:=h.ltA b e;omega,hl⟩
theorem qaf.keepL {b:Nat} (h:qaf A g cf B w x) (hf:Fr [b] w w') (hl:Loc A cf.threads.toNat g b w):qaf A g cf B w' x:=h.keep hf fun y hy e=>by simp only[y2d] at e;subst e;exact hl.no hy
theorem qcs {w0:World} {g0:Gw} {b:Nat} {cs:Array Value} {a:Ans} (t:MTo A cf.threads.toNat g0 w0 g w) (h:qaf A g cf B w x) (hl:Loc A cf.threads.toNat g b w) (h0:w0.heap.size≤b) (hb:w.heap[b]?=some (.cells cs 38 (0,0))) (hs:cs.size=5)
  (hk:∀w',MTo A cf.threads.toNat g0 w0 g w'→qaf A g cf B w' x→K (anV a) w'):
  C.ak 5 (y4x (some ⟨b,0,none⟩)) (anV a) w fun w2=>C.an 5 (y4x (some ⟨b,0,none⟩)) w2 fun r _=>K r w2:=
 ql8 (a:=a) hb hs fun w' hf=>hk w' (t.then hf (by simpa using h0)) (h.keepL hf hl)
theorem qdd {w0:World} {g0:Gw} {b:Nat} {cs:Array Value} {e:Int} (t:MTo A cf.threads.toNat g0 w0 g w) (h:qaf A g cf B w x) (hl:Loc A cf.threads.toNat g b w) (h0:w0.heap.size≤b) (hb:w.heap[b]?=some (.cells cs 38 (0,0))) (hs:cs.size=5)
  (hk:∀w',MTo A cf.threads.toNat g0 w0 g w'→qaf A g cf B w' x→K (anV (Ans.err e)) w'):
  C.i y5c 54 #[y4w j6 e] w fun x1 w1=>C.ak 5 (y4x (some ⟨b,0,none⟩)) x1 w1 fun w2=>C.an 5 (y4x (some ⟨b,0,none⟩)) w2 fun r _=>K r w2:=
 quu fun w1 hf1=>qcs (t.trans (MTo.w hf1)) (h.keep0 hf1) (hl.fr hf1) h0 (hf1.at_ hb (by simp)) hs hk
theorem zbw {s:Stp} (h:qaf A g cf B w x) (hi:0≤s.i) (hk:∀w',Fr [] w w'→K (.tuple #[V (x.value s).1.1 (x.value s).1.2,y4w j6 (x.value s).2]) w'):
  C.i y5c 155 #[y4x (some ⟨A.ma,0,none⟩),stV s] w K:=by
 refine F155.sh (C.av fun y w1 hn1=>C.av fun r w2 hn2=>C.a4 qdn (C.av fun z w3 hn3=>C.a0 (x:=V 0 0) hn3.at_ rfl qal rfl fun w4 hu4=>?_))
 have l1:=hn1.is
 have l2:=hn2.is
 have l3:=hn3.is
 have s1:=hn1.fr.size
 have s2:=hn2.fr.size
 have ly:=qac hn1.at_
 have lr:=qac hn2.at_
 have f3:=(hn1.fr.trans hn2.fr).trans hn3.fr
 have f4:Fr [] w w4:=f3.then hu4.fr (by simp;omega)
 have h4:=h.keep0 f4
 have y4:=hu4.fr.at_ ((hn2.fr.trans hn3.fr).at_ hn1.at_ (by simp)) (by simp;omega)
 have r4:=hu4.fr.at_ (hn3.fr.at_ hn2.at_ (by simp)) (by simp;omega)
 have z4:=hu4.at_
 unfold Ma.value at hk
 have yes:∀(v:V2) w5,Fr [] w w5→w5.heap[r]?=some (.cells #[y4w j6 0,y4w j6 0] 60 (0,0))→w5.heap[z]?=some (.cells (V v.1 v.2).cells 60 (0,0))→(∀w',Fr [] w w'→K (.tuple #[V v.1 v.2,y4w j6 0]) w')→F155.k15 K (y4x (some ⟨r,0,none⟩)) (y4x (some ⟨z,0,none⟩)) (.bool true) w5:=fun v w5 f5 hr hz hk=>by
  refine F155.k15.to ?_
  simp only[zv]
  exact F155.k17.to (C.ax hz rfl (C.a0 (x:=V v.1 v.2) hr rfl qal rfl fun w6 hu=>C.ax hu.at_ rfl (hk w6 (f5.then hu.fr (by simp;omega)))))
 have no:∀w5,Fr [] w w5→w5.heap[r]?=some (.cells #[y4w j6 0,y4w j6 0] 60 (0,0))→(∀w',Fr [] w w'→K (.tuple #[V 0 0,y4w j6 4]) w')→F155.k15 K (y4x (some ⟨r,0,none⟩)) (y4x (some ⟨z,0,none⟩)) (.bool false) w5:=fun w5 f5 hr hk=>by
  refine F155.k15.to ?_
  simp only[zv]
  exact C.a4 qdn (C.a0 (x:=V 0 0) hr rfl qal rfl fun w6 hu=>C.ax hu.at_ rfl (hk w6 (f5.then hu.fr (by simp;omega))))
 have lw4:=hu4.fr.size
 have lw3:=qac hn3.at_
 have szw:w.heap.size≤w4.heap.size:=f4.size
 try simp only[zv]
 refine C.ad (v:=y4w j6 s.kd) y4 rfl ?_
 by_cases k4:s.kd=4
 ·simp only[if_pos k4] at hk
  simp only[zv,eq_self,k4]
  refine C.ad (v:=y4w j6 s.n) y4 rfl (C.a4 (qmb 1 s.n) (C.a0 (x:=V 1 s.n) z4 rfl qal rfl fun w5 hu5=>C.ax hu5.at_ rfl (qfd 1 s.n fun w6 hf6=>?_)))
  have f6:Fr [] w w6:=(f4.then hu5.fr (by simp;omega)).trans hf6
  have r6:=hf6.at_ (hu5.fr.at_ r4 (by simp;omega)) (by simp)
  have z6:=hf6.at_ hu5.at_ (by simp)
  by_cases c:chk 1 s.n=0
  ·simp only[if_pos c] at hk
   simp only[zv,eq_self,c]
   exact yes (1,s.n) w6 f6 r6 z6 hk
  ·simp only[if_neg c] at hk
   simp only[zv,c]
   exact no w6 f6 r6 hk
 simp only[if_neg k4] at hk
 simp only[zv,k4]
 by_cases k6:s.kd=6
 ·simp only[if_pos k6] at hk
  simp only[zv,eq_self,k6]
  refine C.ad (v:=y4x (some ⟨A.Q.co,0,none⟩)) h4.blk rfl (qnr h4.co (qkt fun w5 hf5=>?_))
  refine C.a0 (x:=V (qdx x.co.global).1 (qdx x.co.global).2) (hf5.at_ z4 (by simp)) rfl qal rfl fun w6 hu6=>?_
  exact yes (qdx x.co.global) w6 ((f4.trans hf5).then hu6.fr (by simp;omega)) (hu6.fr.at_ (hf5.at_ r4 (by simp)) (by simp;omega)) hu6.at_ hk
 simp only[if_neg k6] at hk
 simp only[zv,k6]
 by_cases k7:s.kd=7
 ·simp only[if_pos k7] at hk
  simp only[zv,eq_self,k7]
  refine C.ad (v:=y4w j6 s.t) y4 rfl ?_
  refine C.ad (v:=y4w j6 s.i) y4 rfl (ql5 h4 hi (fun v hv w5 hf5=>?_) fun hv w5 hf5=>?_)
  ·rw[hv] at hk
   simp only at hk
   try simp only[zv]
   refine C.a0 (x:=V v.1 v.2) (hf5.at_ z4 (by simp)) rfl qal rfl fun w6 hu6=>?_
   exact yes v w6 ((f4.trans hf5).then hu6.fr (by simp;omega)) (hu6.fr.at_ (hf5.at_ r4 (by simp)) (by simp;omega)) hu6.at_ hk
  ·rw[hv] at hk
   simp only at hk
   try simp only[zv]
   refine C.a0 (x:=V 0 0) (hf5.at_ z4 (by simp)) rfl qal rfl fun w6 hu6=>?_
   exact no w6 ((f4.trans hf5).then hu6.fr (by simp;omega)) (hu6.fr.at_ (hf5.at_ r4 (by simp)) (by simp;omega)) hk
 simp only[if_neg k7] at hk
 simp only[zv,k7]
 by_cases k9:s.kd=9
 ·simp only[if_pos k9] at hk
  simp only[zv,eq_self,k9]
  refine C.ax y4 rfl (qpc (s:=s) h4 hi fun w5 hf5=>?_)
  have h5:=h4.keep0 hf5
  have r5:=hf5.at_ r4 (by simp)
  have z5:=hf5.at_ z4 (by simp)
  have y5:=hf5.at_ y4 (by simp)
  have f5:=f4.trans hf5
  try simp only[zv]
  by_cases c:(x.object s).2=0
  ·rw[if_neg (by simp[c])] at hk
   simp only[zv,eq_self,c,ne_eq,not_true_eq_false]
   have la:=qac h.blk
   refine F155.k14.to (C.a5 (fun w'=>w'.heap[A.ma]?=some (maB A cf)∧w'.heap[y]?=some (.cells (stV s).cells 40 (0,0))) fun w6 hf6 _=>⟨⟨hf6.at_ h5.blk (by simp),hf6.at_ y5 (by simp)⟩,?_⟩)
   have h6:=h5.keep0 hf6
   try simp only[zv]
   refine C.ao (v:=y4x (some ⟨A.Q.co,0,none⟩)) (fun w' hw=>⟨_,_,_,hw.1,rfl⟩) (C.ao (v:=y4w j6 s.f) (fun w' hw=>⟨_,_,_,hw.2,rfl⟩) ⟨qr6 h6.co fun w7 hf7=>⟨⟨hf7.at_ h6.blk (by simp),hf7.at_ (hf6.at_ y5 (by simp)) (by simp)⟩,?_⟩,trivial⟩)
   have f7:=(f5.trans hf6).trans hf7
   have z7:=(hf6.trans hf7).at_ z5 (by simp)
   have r7:=(hf6.trans hf7).at_ r5 (by simp)
   try simp only[zv]
   refine⟨C.a0 (x:=V (x.co.s.get (x.object s).1 s.f).1.1 (x.co.s.get (x.object s).1 s.f).1.2) z7 rfl qal rfl fun w8 hu8=>⟨⟨hu8.fr.at_ (hf7.at_ h6.blk (by simp)) (by simp;omega),hu8.fr.at_ (hf7.at_ (hf6.at_ y5 (by simp)) (by simp)) (by simp;omega)⟩,?_⟩,trivial⟩
   have f8:Fr [] w w8:=f7.then hu8.fr (by simp;omega)
   have r8:=hu8.fr.at_ r7 (by simp;omega)
   cases e:(x.co.s.get (x.object s).1 s.f).2 with
   | true=>
    rw[e] at hk
    simp only[if_true] at hk
    exact yes _ w8 f8 r8 hu8.at_ hk
   | false=>
    rw[e] at hk
    simp only[y2b,if_false] at hk
    exact no w8 f8 r8 hk
  ·rw[if_pos c] at hk
   simp only[zv,c,ne_eq,not_false_eq_true]
   exact C.a4 qdn (C.a0 (x:=V 0 0) r5 rfl qal rfl fun w6 hu=>C.ax hu.at_ rfl (hk w6 (f5.then hu.fr (by simp;omega))))
 ·simp only[if_neg k9] at hk
  simp only[zv,k9]
  exact yes (0,0) w4 f4 r4 z4 hk
theorem qw4 (c:Co) (t:Int) (v:V2):(c.push t v).1.r=c.r:=by unfold Co.push;split <;> rfl
theorem zbj {s:Stp} (h:qaf A g cf B w x) (hi:0≤s.i) (hk:∀g' w',MTo A cf.threads.toNat g w g' w'→qaf A g' cf B w' (x.pushS s).1→K (anV (x.pushS s).2) w'):
  C.i y5c 101 #[y4x (some ⟨A.ma,0,none⟩),stV s] w K:=by
 refine F101.sh (C.av fun y w1 hn1=>C.av fun r w2 hn2=>?_)
 have l1:=hn1.is
 have l2:=hn2.is
 have s1:=hn1.fr.size
 have ly:=qac hn1.at_
 have f2:=hn1.fr.trans hn2.fr
 have h2:=h.keep0 f2
 have y2:=hn2.fr.at_ hn1.at_ (by simp)
 have la:=qac h.blk
 unfold Ma.pushS at hk
 refine C.ax y2 rfl (zbw (s:=s) h2 hi fun w3 hf3=>?_)
 have f3:=f2.trans hf3
 have y3:=hf3.at_ y2 (by simp)
 have r3:=hf3.at_ hn2.at_ (by simp)
 have s3:=hf3.size
 have lr:=qac hn2.at_
 generalize x.value s=p at *
 obtain⟨v,e⟩:=p
 simp only at hk ⊢
 try simp only[zv]
 refine C.av fun z w4 hn4=>C.a0 (x:=V v.1 v.2) hn4.at_ rfl qal rfl fun w5 hu5=>?_
 have l4:=hn4.is
 have f5:Fr [] w w5:=(f3.trans hn4.fr).then hu5.fr (by simp;omega)
 have h5:=h.keep0 f5
 have y5:=hu5.fr.at_ (hn4.fr.at_ y3 (by simp)) (by simp;omega)
 have r5:=hu5.fr.at_ (hn4.fr.at_ r3 (by simp)) (by simp;omega)
 have z5:=hu5.at_
 by_cases c:e=0
 ·rw[if_neg (by simp[c])] at hk
  simp only[zv,eq_self,c,ne_eq,not_true_eq_false]
  refine F101.k4.to (C.a5 (fun w'=>w'.heap[A.ma]?=some (maB A cf)∧w'.heap[y]?=some (.cells (stV s).cells 40 (0,0))∧w'.heap[z]?=some (.cells #[y4w j6 v.1,y4w j6 v.2] 60 (0,0))) fun w6 hf6 _=>⟨⟨hf6.at_ h5.blk (by simp),hf6.at_ y5 (by simp),hf6.at_ z5 (by simp)⟩,?_⟩)
  have h6:=h5.keep0 hf6
  have f6:=f5.trans hf6
  have s6:=f6.size
  try simp only[zv]
  refine C.ao (v:=y4x (some ⟨A.Q.co,0,none⟩)) (fun w' hw=>⟨_,_,_,hw.1,rfl⟩) (C.ao (v:=y4w j6 s.t) (fun w' hw=>⟨_,_,_,hw.2.1,rfl⟩) (C.bn (vs:=[y4w j6 v.1,y4w j6 v.2]) (fun w' hw=>⟨_,_,_,hw.2.2,by simp,rfl⟩) ⟨qvb (v:=v) h6.co fun m' w7 ht7 h7=>?_,trivial⟩))
  have h7':=h6.setC ht7 h7 (by rw[qw4])
  have mt7:MTo A cf.threads.toNat g w6 { g with m:=m' } w7:=MTo.c ht7
  have z6:=hf6.at_ z5 (by simp)
  have y6:=hf6.at_ y5 (by simp)
  have r6:=hf6.at_ r5 (by simp)
  have lz:Loc A cf.threads.toNat g z w6:=h.loc (by omega) (qac z6)
  have lyy:Loc A cf.threads.toNat g y w6:=h.loc (by omega) (qac y6)
  have lrr:Loc A cf.threads.toNat g r w6:=h.loc (by omega) (qac r6)
  have z7:=lz.at_ mt7 z6
  have y7:=lyy.at_ mt7 y6
  have r7:=lrr.at_ mt7 r6
  have t7:MTo A cf.threads.toNat g w { g with m:=m' } w7:=(MTo.w f6).trans mt7
  refine⟨⟨h7'.blk,y7,z7⟩,?_⟩
  cases ep:(x.co.push s.t v).2 with
  | false=>
   have e0:x.co.push s.t v=(x.co,false):=by
    unfold Co.push at ep ⊢
    split at ep
    ·simp at ep
    ·rename_i hh;rw[if_neg hh]
   rw[e0] at hk h7'
   simp only at hk
   simp only[zv]
   exact qdd (e:=3) t7 h7' (lrr.step mt7) (by omega) r7 rfl fun w' ht' h'=>hk _ w' ht' h'
  | true=>
   have e0:x.co.push s.t v=((x.co.push s.t v).1,true):=by rw[←ep]
   rw[e0] at hk
   simp only at hk
   simp only[zv]
   refine F101.k6.to (C.ax z7 rfl (ql6 (v:=v) h7' fun w8 hf8=>?_))
   exact qcs (t7.trans (MTo.w hf8)) (h7'.keep0 hf8) ((lrr.step mt7).fr hf8) (by omega) (hf8.at_ r7 (by simp)) rfl fun w' ht' h'=>hk _ w' ht' h'
 ·rw[if_pos c] at hk
  simp only[zv,c,ne_eq,not_false_eq_true]
  refine quu fun w6 hf6=>ql8 (a:=Ans.err e) (hf6.at_ r5 (by simp)) rfl fun w7 hf7=>?_
  have f7:Fr [] w w7:=(f5.trans hf6).then hf7 (by simp;omega)
  exact hk g w7 (MTo.w f7) (h.keep0 f7)
end
section
variable {K:VK} {w w':World} {A:Mad} {g:Gw} {cf:Cf} {B:Int} {x:Ma}
theorem zda (c:Co) (t a i:Int) (v:V2):(c.write t a i v).1.r=c.r:=by unfold Co.write;split <;> rfl
theorem qyb {s:Stp} (h:qaf A g cf B w x) (hi:0≤s.i) (hj:0≤s.j) (hk:∀g' w',MTo A cf.threads.toNat g w g' w'→qaf A g' cf B w' (x.writeS s).1→K (anV (x.writeS s).2) w'):
  C.i y5c 103 #[y4x (some ⟨A.ma,0,none⟩),stV s] w K:=by
 refine F103.sh (C.av fun y w1 hn1=>C.av fun r w2 hn2=>?_)
 have l1:=hn1.is
 have l2:=hn2.is
 have s1:=hn1.fr.size
 have ly:=qac hn1.at_
 have f2:=hn1.fr.trans hn2.fr
 have h2:=h.keep0 f2
 have y2:=hn2.fr.at_ hn1.at_ (by simp)
 unfold Ma.writeS at hk
 refine C.ax y2 rfl (qpc (s:=s) h2 hi fun w3 hf3=>?_)
 have f3:=f2.trans hf3
 have h3:=h.keep0 f3
 have y3:=hf3.at_ y2 (by simp)
 have r3:=hf3.at_ hn2.at_ (by simp)
 have lr:=qac hn2.at_
 have s3:=hf3.size
 generalize x.object s=p at *
 obtain⟨a,e⟩:=p
 simp only at hk ⊢
 try simp only[zv]
 by_cases c:e=0
 ·rw[if_neg (by simp[c])] at hk
  simp only[zv,eq_self,c,ne_eq,not_true_eq_false]
  refine F103.k4.to ?_
  try simp only[zv]
  refine C.ad (v:=y4w j6 s.t) y3 rfl ?_
  refine C.ad (v:=y4w j6 s.j) y3 rfl (ql5 h3 hj (fun v hv w4 hf4=>?_) fun hv w4 hf4=>?_)
  ·rw[hv] at hk
   simp only at hk
   try simp only[zv]
   refine C.av fun z w5 hn5=>C.a0 (x:=V v.1 v.2) hn5.at_ rfl qal rfl fun w6 hu6=>?_
   have l5:=hn5.is
   have s4:=hf4.size
   have f6:Fr [] w w6:=((f3.trans hf4).trans hn5.fr).then hu6.fr (by simp;omega)
   have h6:=h.keep0 f6
   have y6:=hu6.fr.at_ ((hf4.trans hn5.fr).at_ y3 (by simp)) (by simp;omega)
   have r6:=hu6.fr.at_ ((hf4.trans hn5.fr).at_ r3 (by simp)) (by simp;omega)
   have z6:=hu6.at_
   refine C.a5 (fun w'=>w'.heap[A.ma]?=some (maB A cf)∧w'.heap[y]?=some (.cells (stV s).cells 40 (0,0))∧w'.heap[z]?=some (.cells #[y4w j6 v.1,y4w j6 v.2] 60 (0,0))) fun w7 hf7 _=>⟨⟨hf7.at_ h6.blk (by simp),hf7.at_ y6 (by simp),hf7.at_ z6 (by simp)⟩,?_⟩
   have h7:=h6.keep0 hf7
   have f7:=f6.trans hf7
   have y7:=hf7.at_ y6 (by simp)
   have r7:=hf7.at_ r6 (by simp)
   have z7:=hf7.at_ z6 (by simp)
   refine C.ao (v:=y4x (some ⟨A.Q.co,0,none⟩)) (fun w' hw=>⟨_,_,_,hw.1,rfl⟩) (C.ao (v:=y4w j6 s.t) (fun w' hw=>⟨_,_,_,hw.2.1,rfl⟩) (C.ao (v:=y4w j6 s.f) (fun w' hw=>⟨_,_,_,hw.2.1,rfl⟩) (C.bn (vs:=[y4w j6 v.1,y4w j6 v.2]) (fun w' hw=>⟨_,_,_,hw.2.2,by simp,rfl⟩) ⟨zbz (v:=v) h7.co fun m' w8 ht8 h8=>?_,trivial⟩)))
   have h8':=h7.setC ht8 h8 (by rw[zda])
   have mt8:MTo A cf.threads.toNat g w7 { g with m:=m' } w8:=MTo.c ht8
   have lrr:Loc A cf.threads.toNat g r w7:=h.loc (by omega) (qac r7)
   have lyy:Loc A cf.threads.toNat g y w7:=h.loc (by omega) (qac y7)
   have lzz:Loc A cf.threads.toNat g z w7:=h.loc (by omega) (qac z7)
   have r8:=lrr.at_ mt8 r7
   have t8:MTo A cf.threads.toNat g w { g with m:=m' } w8:=(MTo.w f7).trans mt8
   refine⟨⟨h8'.blk,lyy.at_ mt8 y7,lzz.at_ mt8 z7⟩,?_⟩
   cases ew:(x.co.write s.t a s.f v).2 with
   | false=>
    simp only[ew,y2b,if_false] at hk
    simp only[zv]
    exact qdd (e:=4) t8 h8' (lrr.step mt8) (by omega) r8 rfl fun w' ht' h'=>hk _ w' ht' h'
   | true=>
    simp only[ew,if_true] at hk
    simp only[zv]
    refine F103.k7.to (C.a4 qkd (qcs t8 h8' (lrr.step mt8) (by omega) r8 rfl fun w' ht' h'=>hk _ w' ht' h'))
  ·rw[hv] at hk
   simp only at hk
   try simp only[zv]
   refine C.av fun z w5 hn5=>C.a0 (x:=V 0 0) hn5.at_ rfl qal rfl fun w6 hu6=>?_
   have l5:=hn5.is
   have s4:=hf4.size
   have f6:Fr [] w w6:=((f3.trans hf4).trans hn5.fr).then hu6.fr (by simp;omega)
   have r6:=hu6.fr.at_ ((hf4.trans hn5.fr).at_ r3 (by simp)) (by simp;omega)
   refine C.a5 (fun _=>True) fun w7 hf7 _=>⟨trivial,?_⟩
   have f7:=f6.trans hf7
   have r7:=hf7.at_ r6 (by simp)
   refine⟨⟨trivial,?_⟩,trivial⟩
   exact qdd (e:=4) (MTo.w f7) (h.keep0 f7) (h.loc (by omega) (qac r7)) (by omega) r7 rfl fun w' ht' h'=>hk _ w' ht' h'
 ·rw[if_pos c] at hk
  simp only[zv,c,ne_eq,not_false_eq_true]
  exact qdd (e:=e) (MTo.w f3) h3 (h.loc (by omega) (qac r3)) (by omega) r3 rfl fun w' ht' h'=>hk _ w' ht' h'
theorem qsa {t i:Int} (h:qaf A g cf B w x) (hi:0≤i) (hk:∀w',Fr [] w w'→K (.tuple #[V ((x.root t i).getD (0,0)).1 ((x.root t i).getD (0,0)).2,.bool (x.root t i).isSome]) w'):
  C.i y5c 158 #[y4x (some ⟨A.ma,0,none⟩),y4w j6 t,y4w j6 i] w K:=
 ql5 h hi (fun v hv w' hf=>by have:=hk w' hf;rw[hv] at this;exact this) fun hv w' hf=>by have:=hk w' hf;rw[hv] at this;exact this
theorem zft {s:Stp} (h:qaf A g cf B w x) (hkd:s.kd=11∨s.kd=12) (hi:0≤s.i) (hj:0≤s.j) (hk:∀w',MTo A cf.threads.toNat g w g w'→qaf A g cf B w' x→K (anV (x.ask s)) w'):
  C.i y5c 104 #[y4x (some ⟨A.ma,0,none⟩),stV s] w K:=by
 refine F104.sh (C.av fun y w1 hn1=>C.av fun r w2 hn2=>?_)
 have l1:=hn1.is
 have l2:=hn2.is
 have s1:=hn1.fr.size
 have ly:=qac hn1.at_
 have lr:=qac hn2.at_
 have f2:=hn1.fr.trans hn2.fr
 have h2:=h.keep0 f2
 have y2:=hn2.fr.at_ hn1.at_ (by simp)
 unfold Ma.ask at hk
 try simp only[zv]
 refine C.ad (v:=y4w j6 s.t) y2 rfl ?_
 refine C.ad (v:=y4w j6 s.i) y2 rfl (qsa h2 hi fun w3 hf3=>?_)
 generalize hra:x.root s.t s.i=ra at *
 have s3:=hf3.size
 try simp only[zv]
 refine C.av fun z w4 hn4=>C.a0 (x:=V (ra.getD (0,0)).1 (ra.getD (0,0)).2) hn4.at_ rfl qal rfl fun w5 hu5=>?_
 have l4:=hn4.is
 have f25:Fr [] w2 w5:=(hf3.trans hn4.fr).then hu5.fr (by simp;omega)
 have f5:=f2.trans f25
 have h5:=h.keep0 f5
 have y5:=f25.at_ y2 (by simp)
 have z5:=hu5.at_
 have lz:=qac z5
 try simp only[zv]
 refine C.ad (v:=y4w j6 s.t) y5 rfl ?_
 refine C.ad (v:=y4w j6 s.j) y5 rfl (qsa h5 hj fun w6 hf6=>?_)
 generalize hrb:x.root s.t s.j=rb at *
 have s6:=hf6.size
 try simp only[zv]
 refine C.av fun q w7 hn7=>C.a0 (x:=V (rb.getD (0,0)).1 (rb.getD (0,0)).2) hn7.at_ rfl qal rfl fun w8 hu8=>?_
 have l7:=hn7.is
 have f58:Fr [] w5 w8:=(hf6.trans hn7.fr).then hu8.fr (by simp;omega)
 have f8:=f5.trans f58
 have h8:=h.keep0 f8
 have y8:=f58.at_ y5 (by simp)
 have z8:=f58.at_ z5 (by simp)
 have r8:=(f25.trans f58).at_ hn2.at_ (by simp)
 have q8:=hu8.at_
 have lrr:Loc A cf.threads.toNat g r w8:=h.loc (by omega) (qac r8)
 have err:∀(e:Int),(∀w',MTo A cf.threads.toNat g w g w'→qaf A g cf B w' x→K (anV (Ans.err e)) w')→C.i y5c 54 #[y4w j6 e] w8 fun x1 w1=>C.ak 5 (y4x (some ⟨r,0,none⟩)) x1 w1 fun w2=>C.an 5 (y4x (some ⟨r,0,none⟩)) w2 fun r _=>K r w2:=fun e hk=>
  qdd (e:=e) (MTo.w f8) h8 lrr (by omega) r8 rfl hk
 have out:∀(n:Int) w9,Fr [] w8 w9→(∀w',MTo A cf.threads.toNat g w g w'→qaf A g cf B w' x→K (anV ⟨0,1,n,0,0⟩) w')→F104.k13 K (y4x (some ⟨r,0,none⟩)) (y4w j6 n) w9:=fun n w9 hf9 hk=>
  F104.k13.to (C.a4 (qvz 1 n) (qcs (a:=⟨0,1,n,0,0⟩) (MTo.w (f8.trans hf9)) (h8.keep0 hf9) (lrr.fr hf9) (by omega) (hf9.at_ r8 (by simp)) rfl hk))
 cases ra with
 | none=>
  simp only at hk
  simp only[Option.isSome_none,C.ah,y3w]
  exact err 4 hk
 | some v=>
  simp only[Option.isSome_some,y3f,C.ac,y4d] at *
  refine C.ad (v:=y4w j6 s.kd) y8 rfl ?_
  rcases hkd with k11 | k12
  ·simp only[zv,eq_self,k11]
   have n12:¬(11:Int)=12:=by decide
   cases rb with
   | none=>
    rw[if_pos ⟨k11,rfl⟩] at hk
    simp only[Option.isSome_none,C.ah,y3w]
    exact err 4 hk
   | some u=>
    rw[if_neg (fun e=>by simp at e),if_neg (fun e=>n12 (k11 ▸ e.1)),if_neg (fun e=>n12 (k11 ▸ e))] at hk
    simp only[Option.isSome_some,y3f,C.ac,y4d] at *
    refine C.ad (v:=y4w j6 s.kd) y8 rfl ?_
    simp only[zv,k11,n12]
    refine C.ad (v:=y4w j6 s.kd) y8 rfl ?_
    simp only[zv,k11,n12]
    refine C.ax z8 rfl (C.ax q8 rfl ⟨_,veq _ _ v.1 v.2 u.1 u.2,?_⟩)
    have e:(v=u)↔(v.1=u.1∧v.2=u.2):=y4n
    by_cases c:v=u
    ·rw[if_pos c] at hk
     rw[decide_eq_true (e.1 c)]
     simp only[C.ah]
     exact out 1 w8 (Fr.refl _ _) hk
    ·rw[if_neg c] at hk
     rw[decide_eq_false (fun d=>c (e.2 d))]
     simp only[C.ac]
     exact out 0 w8 (Fr.refl _ _) hk
  ·have n11:¬(12:Int)=11:=by decide
   simp only[zv,k12,n11]
   rw[if_neg (fun e=>n11 (k12 ▸ e.1))] at hk
   refine C.ad (v:=y4w j6 s.kd) y8 rfl ?_
   simp only[zv,eq_self,k12]
   refine C.ad (v:=y4w j6 v.1) z8 rfl ?_
   by_cases c:v.1=2
   ·rw[if_neg (fun e=>e.2 c),if_pos k12] at hk
    simp only[zv,eq_self,c,ne_eq,not_true_eq_false]
    refine C.ad (v:=y4w j6 s.kd) y8 rfl ?_
    simp only[zv,eq_self,k12]
    refine C.a5 (fun w'=>w'.heap[A.ma]?=some (maB A cf)∧w'.heap[z]?=some (.cells (V v.1 v.2).cells 60 (0,0))) fun w9 hf9 _=>⟨⟨hf9.at_ h8.blk (by simp),hf9.at_ z8 (by simp)⟩,?_⟩
    have h9:=h8.keep0 hf9
    refine C.ao (v:=y4x (some ⟨A.Q.co,0,none⟩)) (fun w' hw=>⟨_,_,_,hw.1,rfl⟩) (C.ao (v:=y4w j6 v.2) (fun w' hw=>⟨_,_,_,hw.2,rfl⟩) ⟨qnq h9.co ⟨⟨h9.blk,hf9.at_ z8 (by simp)⟩,?_⟩,trivial⟩)
    exact out _ w9 hf9 hk
   ·rw[if_pos ⟨k12,c⟩] at hk
    simp only[zv,c,ne_eq,not_false_eq_true]
    exact err 12 hk
theorem zaa (cf:Cf) (c:Co):(c.unit cf).1.r.l.length=c.r.l.length:=by
 have adv:∀d (c:Co),(Co.advance cf d c).r.l.length=c.r.l.length:=by
  intro d
  induction d with
  | zero=>intro c;rfl
  | succ d ih=>
   intro c
   rw[Co.advance]
   split
   ·split
    ·rw[ih];rfl
    ·split
     ·rw[ih]
     ·split
      ·rw[ih]
      ·split
       ·rw[ih]
       ·rfl
   ·rfl
 have tU:(c.tUnit cf).1.r=c.r:=by
  unfold Co.tUnit
  split
  ·rfl
  ·split
   ·unfold Co.entry;simp only;split <;> rfl
   ·split <;> rfl
 have sw:∀(l:List Int) (c:Co),(c.sweepAll l).r=c.r:=by
  intro l
  induction l with
  | nil=>intro c;rfl
  | cons a l ih=>intro c;rw[Co.sweepAll,ih];unfold Co.sweepOne;split <;> rfl
 have wU:(c.wUnit cf).1.r=c.r:=by
  unfold Co.wUnit
  split
  ·rfl
  ·exact sw _ c
 unfold Co.unit
 simp only
 by_cases p3:c.phase=3
 ·simp only[if_pos p3]
  cases e:c.tUnit cf with
  | mk d b=>
   rw[e] at tU
   simp only at tU
   cases b
   ·simp only[y2b,if_false]
    unfold Co.adv
    rw[adv]
    show (d.raise 4).r.l.length=_
    unfold Co.raise Rg.raise
    simp only
    rw[tU]
   ·simp only[if_true];rw[tU]
 ·simp only[if_neg p3]
  by_cases p5:c.phase=5
  ·simp only[if_pos p5]
   cases e:c.wUnit cf with
   | mk d b=>
    rw[e] at wU
    simp only at wU
    by_cases z:cf.pages≤d.at_
    ·simp only[if_pos z];cases b <;> simp[wU]
    ·simp only[if_neg z];cases b <;> simp[wU]
  ·simp only[if_neg p5,y2b,if_false]
theorem qm6 (cf:Cf):∀d (c:Co),(Co.advance cf d c).r.l.length=c.r.l.length:=by
 intro d
 induction d with
 | zero=>intro c;rfl
 | succ d ih=>
  intro c
  rw[Co.advance]
  split
  ·split
   ·rw[ih];rfl
   ·split
    ·rw[ih]
    ·split
     ·rw[ih]
     ·split
      ·rw[ih]
      ·rfl
  ·rfl
theorem qlw (cf:Cf):∀d (c:Co),(c.workN cf d).2≤d:=by
 intro d
 induction d with
 | zero=>intro c;simp[Co.workN]
 | succ d ih=>
  intro c
  rw[Co.workN]
  split
  ·simp
  ·rename_i c' _;have:=ih c';simp only;omega
theorem qvo {n:Nat} (hn:n≤1000) {w0:World} {g0:Gw} {x0:Ma} {ce:Co} {k:Nat} (hk:∀g' w',MTo A cf.threads.toNat g0 w0 g' w'→qaf A g' cf B w' { x0 with co:=ce }→K (y4w j6 (k:Int)) w'):
  ∀(d i:Nat) (c:Co) (g:Gw) (w:World),i+d=n→MTo A cf.threads.toNat g0 w0 g w→qaf A g cf B w { x0 with co:=c }→(c.workN cf d).1=ce→i+(c.workN cf d).2=k→
   F234.l2 K (y4x (some ⟨A.ma,0,none⟩)) (y4w j6 (n:Int)) (y4w j6 (n:Int)) (y4w j6 (i:Int)) w:=by
 intro d
 induction d with
 | zero=>
  intro i c g w hi ht h e1 e2
  have e:i=n:=by omega
  subst e
  refine F234.l2.to ?_
  simp only[zv,show ¬((i:Int)<(i:Int)) by omega]
  simp only[Co.workN] at e1 e2
  subst e1
  rw[y4j] at e2
  subst e2
  exact F234.k7.to (hk g w ht h)
 | succ d ih=>
  intro i c g w hi ht h e1 e2
  refine F234.l2.to ?_
  simp only[zv,show (i:Int)<(n:Int) by omega]
  refine F234.k3.to ?_
  try simp only[zv]
  refine C.ad (v:=y4x (some ⟨A.Q.co,0,none⟩)) h.blk rfl (zee h.co fun m' w1 ht1 h1=>?_)
  have h1':=h.setC ht1 h1 (zaa cf c)
  have t1:=ht.trans (MTo.c ht1)
  rw[Co.workN] at e1 e2
  cases e:c.unit cf with
  | mk c' b=>
   rw[e] at e1 e2 h1'
   cases b with
   | false=>
    simp only at e1 e2 h1'
    subst e1
    rw[y4j] at e2
    subst e2
    simp only[zv]
    exact hk _ w1 t1 h1'
   | true=>
    simp only at e1 e2 h1'
    simp only[zv]
    refine F234.k6.to ?_
    try simp only[C.a6]
    rw[qab (n:=(i:Int)+1) (by omega)]
    exact ih (i+1) c' _ w1 (by omega) t1 h1' e1 (by omega)
theorem qvn {n:Nat} (h:qaf A g cf B w x) (hn:n≤1000) (hk:∀g' w',MTo A cf.threads.toNat g w g' w'→qaf A g' cf B w' { x with co:=(x.co.workN cf n).1 }→K (y4w j6 ((x.co.workN cf n).2:Int)) w'):
  C.i y5c 234 #[y4x (some ⟨A.ma,0,none⟩),y4w j6 (n:Int)] w K:=
 F234.sh (qvo (x0:=x) hn hk n 0 x.co g w (by omega) (MTo.refl _ _ _ _) h rfl (by omega))
theorem qaf.mono {B':Int} (h:qaf A g cf B w x) (hB:B≤B'):qaf A g cf B' w x:=
 ⟨h.ok,h.fine,h.co,h.blk,h.led,h.bnk,⟨h.bin.toqxt,by have:=h.bin.iB;omega,by have:=h.bin.lB;omega⟩,h.l64,h.hs,h.rl⟩
theorem qaf.prS (h:w.heap[A.ma]?=some (maB A cf)):∃cs e fz,w.heap[A.ma]?=some (.cells cs e fz)∧0+2≤cs.size∧(cs.toList.drop 0).take 2=[y4x (some ⟨A.lg,0,none⟩),y4x (some ⟨A.bn,0,none⟩)]:=⟨_,_,_,h,by simp,rfl⟩
theorem zeo (d:Int):(Instr.build 38 #[(3,y4w j6 d)]).run y5c w = .ok (anV ⟨0,0,0,d,0⟩) w:=by kernel_rfl
theorem zb6 (d e:Int):(Instr.build 38 #[(3,y4w j6 d),(4,y4w j6 e)]).run y5c w = .ok (anV ⟨0,0,0,d,e⟩) w:=by kernel_rfl
theorem qzv {n:Int} (hB:B≤1000000000000) (hb:qo2 B x.bi x.bo x.bl cf.cap) (h0:0≤n) (hn:n≤64):
  qo2 (B+64) (x.bi+min n (cf.cap-(x.bi-x.bo))) x.bo (x.bl+(n-min n (cf.cap-(x.bi-x.bo)))) cf.cap:=by
 obtain⟨⟨a1,a2,a3,a4,a5,a6,a7,a8⟩,a9,a10⟩:=hb
 exact⟨⟨by omega,by omega,by omega,by omega,by omega,by omega,by omega,by omega⟩,by omega,by omega⟩
theorem qru {n:Nat} (h:qaf A g cf B w x) (hB:B≤1000000000000) (hn:n≤64) (hk:∀g' w',MTo A cf.threads.toNat g w g' w'→qaf A g' cf (B+64) w' (x.ahead cf n).1→K (anV (x.ahead cf n).2) w'):
  C.i y5c 163 #[y4x (some ⟨A.ma,0,none⟩),y4w j6 (n:Int)] w K:=by
 refine F163.sh (C.av fun r w1 hn1=>?_)
 have l1:=hn1.is
 have h1:=h.keep0 hn1.fr
 have lr1:Loc A cf.threads.toNat g r w1:=h.loc (by omega) (qac hn1.at_)
 unfold Ma.ahead at hk
 simp only[y2t] at hk
 have hle:=qlw cf n x.co
 refine qvn h1 (by omega) fun g2 w2 ht2 h2=>?_
 generalize hce:(x.co.workN cf n).1=ce at *
 generalize hkk:(x.co.workN cf n).2=k at *
 have r2:=lr1.at_ ht2 hn1.at_
 have lr2:=lr1.step ht2
 try simp only[zv]
 refine C.ad (v:=y4x (some ⟨A.bn,0,none⟩)) h2.blk rfl (zb5 (k:Int) h2.bnk h2.bin.toqxt fun w3 hf3 hb3=>?_)
 have ec:qbl (k:Int) 0 2147483648=(k:Int):=by unfold qbl;rw[if_neg (by omega),if_neg (by omega)]
 rw[ec] at hb3
 have fit:=qzv (x:={ x with co:=ce }) hB h2.bin (n:=(k:Int)) (by omega) (by omega)
 have h3:=h2.setB hf3 hb3 fit
 have t3:MTo A cf.threads.toNat g w g2 w3:=((MTo.w hn1.fr).trans ht2).trans (MTo.b hf3)
 have r3:=lr2.at_ (MTo.b (T:=cf.threads.toNat) (g:=g2) hf3) r2
 refine C.a4 (zeo (k:Int)) (qcs (a:=⟨0,0,0,(k:Int),0⟩) t3 h3 (lr2.fr hf3) (by omega) r3 rfl fun w' ht' h'=>hk _ w' ht' h')
end
section
variable {K:VK} {w w':World} {A:Mad} {g:Gw} {cf:Cf} {B:Int} {x:Ma}
structure qdc (w:World) (y r:Nat) (s:Stp):Prop where
 y:w.heap[y]?=some (.cells (stV s).cells 40 (0,0))
 r:∃cs:Array Value,w.heap[r]?=some (.cells cs 38 (0,0))∧cs.size=5
theorem qdc.to {y r:Nat} {s:Stp} {g':Gw} (h:qdc w y r s) (t:MTo A cf.threads.toNat g w g' w') (hy:Loc A cf.threads.toNat g y w) (hr:Loc A cf.threads.toNat g r w):qdc w' y r s:=by
 obtain⟨cs,h1,h2⟩:=h.r
 exact⟨hy.at_ t h.y,cs,hr.at_ t h1,h2⟩
theorem qdc.fr {y r:Nat} {s:Stp} (h:qdc w y r s) (hf:Fr [] w w'):qdc w' y r s:=by
 obtain⟨cs,h1,h2⟩:=h.r
 exact⟨hf.at_ h.y (by simp),cs,hf.at_ h1 (by simp),h2⟩
theorem zf3 {s:Stp} {t:Nat} (h:qaf A g cf B w x) (hB:B≤1000000000000) (et:s.t=(t:Int)) (ht:t<cf.threads.toNat) (hc:1≤s.cost∧s.cost≤64)
  (hk:∀g' w',MTo A cf.threads.toNat g w g' w'→qaf A g' cf B w' (x.tax cf s).1→K (anV (x.tax cf s).2) w'):
  C.i y5c 222 #[y4x (some ⟨A.ma,0,none⟩),stV s] w K:=by
 have hta:=h.fine.ta
 have hwi:=h.fine.wi
 refine F222.sh (C.av fun y w1 hn1=>C.av fun r w2 hn2=>?_)
 have l1:=hn1.is
 have l2:=hn2.is
 have s1:=hn1.fr.size
 have ly:=qac hn1.at_
 have lr:=qac hn2.at_
 have f2:=hn1.fr.trans hn2.fr
 have h2:=h.keep0 f2
 have e2:qdc w2 y r s:=⟨hn2.fr.at_ hn1.at_ (by simp),_,hn2.at_,rfl⟩
 have yl2:Loc A cf.threads.toNat g y w2:=h.loc (by omega) (qac e2.y)
 have rl2:Loc A cf.threads.toNat g r w2:=h.loc (by omega) lr
 unfold Ma.tax at hk
 try simp only[zv]
 refine C.ad (v:=y4x (some ⟨A.Q.co,0,none⟩)) h2.blk rfl (qh9 h2.co ?_)
 have quiet:(x.co.phase≠3∧x.co.phase≠5)→C.ay y5c (Instr.build 38 #[]) w2 fun x20 w11=>C.ak 5 (y4x (some ⟨r,0,none⟩)) x20 w11 fun w12=>C.an 5 (y4x (some ⟨r,0,none⟩)) w12 fun r13 _=>K r13 w12:=fun hp=>by
  rw[if_pos hp] at hk
  exact C.a4 qkd (qcs (a:=Ans.ok) (MTo.w f2) h2 rl2 (by omega) hn2.at_ rfl fun w' ht' h'=>hk g w' ht' h')
 have qne:¬(x.co.phase≠3∧x.co.phase≠5)→F222.k4 K (y4x (some ⟨A.ma,0,none⟩)) (y4x (some ⟨y,0,none⟩)) (y4x (some ⟨r,0,none⟩)) w2:=fun hp=>by
  rw[if_neg hp] at hk
  simp only at hk
  refine F222.k4.to (C.a5 (fun w'=>w'.heap[A.ma]?=some (maB A cf)) fun w3 hf3 _=>⟨hf3.at_ h2.blk (by simp),?_⟩)
  have h3:=h2.keep0 hf3
  try simp only[zv]
  refine C.ao (v:=y4x (some ⟨A.bn,0,none⟩)) (fun w' hw=>⟨_,_,_,hw,rfl⟩) (C.ao (v:=y4w j6 cf.tax) (fun w' hw=>⟨_,_,_,hw,rfl⟩) ⟨qhq h3.bnk fun w4 hf4 he4=>⟨hf4.at_ h3.blk (by simp),?_⟩,trivial⟩)
  have h4:=h3.keep0 hf4
  have f4:=(f2.trans hf3).trans hf4
  have bo:=h.bin.toqxt
  have q1:=bo.b0
  have q2:=bo.b1
  have q3:=bo.m1
  rw[qab (n:=x.bi-x.bo) (by omega)]
  refine⟨_,fun w' _=>qf8 _ _ _ _ _ _,?_⟩
  generalize hcr:min (x.bi-x.bo) cf.tax=cr at *
  have c0:0≤cr∧cr≤cf.tax∧cr≤x.bi-x.bo:=by omega
  refine C.ad (v:=y4w j6 cf.tax) h4.blk rfl ?_
  try simp only[C.bo]
  rw[qab (n:=cf.tax-cr) (by omega)]
  have e4:qdc w4 y r s:=(e2.fr hf3).fr hf4
  have yl4:=(yl2.fr hf3).fr hf4
  have rl4:=(rl2.fr hf3).fr hf4
  refine C.a5 (fun w'=>w'.heap[A.ma]?=some (maB A cf)∧qdc w' y r s) fun w5 hf5 _=>⟨⟨hf5.at_ h4.blk (by simp),e4.fr hf5⟩,?_⟩
  have h5:=h4.keep0 hf5
  have f5:=f4.trans hf5
  refine C.ao (v:=y4x (some ⟨A.lg,0,none⟩)) (fun w' hw=>⟨_,_,_,hw.1,rfl⟩) (C.ao (v:=y4w j6 s.t) (fun w' hw=>⟨_,_,_,hw.2.y,rfl⟩) (C.ao (v:=y4w j6 s.cost) (fun w' hw=>⟨_,_,_,hw.2.y,rfl⟩) ?_))
  obtain⟨rest,hrest⟩:=y1b (show 0≤cf.tax-cr by omega)
  have hm:0≤(cf.tax-cr)*s.cost∧(cf.tax-cr)*s.cost≤4096:=by
   constructor
   ·exact y3y (by omega) (by omega)
   ·exact y4p (y3z (show cf.tax-cr≤64 by omega) hc.2 (by omega) (by omega)) (by decide)
  try simp only[C.bp]
  rw[qab (n:=(cf.tax-cr)*s.cost) (by omega),et]
  rw[et] at hk
  refine⟨qil h5.led ht (by omega) hwi.2 h.fine.mo.2 (h.l64 t) fun w6 hf6=>?_,trivial⟩
  have h6:=h5.keep0 hf6
  have f6:=f5.trans hf6
  have e6:qdc w6 y r s:=(e4.fr hf5).fr hf6
  have yl6:=(yl4.fr hf5).fr hf6
  have rl6:=(rl4.fr hf5).fr hf6
  refine⟨⟨h6.blk,e6⟩,?_⟩
  have ea:x.admt cf (t:Int) ((cf.tax-cr)*s.cost)=qdy cf.window cf.most ((cf.tax-cr)*s.cost) (x.lg t):=by unfold Ma.admt;rw[y2t]
  obtain⟨cs6,r6,rs6⟩:=e6.r
  cases z:qdy cf.window cf.most ((cf.tax-cr)*s.cost) (x.lg t) with
  | false=>
   rw[if_pos (by rw[ea,z];simp)] at hk
   simp only[zv]
   exact qdd (e:=21) (MTo.w f6) h6 rl6 (by omega) r6 rs6 fun w' ht' h'=>hk g w' ht' h'
  | true=>
   rw[if_neg (by rw[ea,z];simp)] at hk
   simp only[zv]
   refine F222.k8.to ?_
   try simp only[zv]
   refine C.ad (v:=y4x (some ⟨A.bn,0,none⟩)) h6.blk rfl (qvu cr h6.bnk bo fun w7 hf7 hb7=>?_)
   have ec:qbl cr 0 (x.bi-x.bo)=cr:=by unfold qbl;rw[if_neg (by omega),if_neg (by omega)]
   rw[ec] at hb7
   have hb7':qo2 B x.bi (x.bo+cr) x.bl cf.cap:=⟨⟨q3,by omega,by omega,bo.i0,by have:=bo.o0;omega,bo.l0,bo.i1,bo.l1⟩,h.bin.iB,h.bin.lB⟩
   have h7:=h6.setB hf7 hb7 hb7'
   have t7:MTo A cf.threads.toNat g w6 g w7:=MTo.b hf7
   have e7:=e6.to t7 yl6 rl6
   have yl7:=yl6.step t7
   have rl7:=rl6.step t7
   rw[hrest]
   rw[hrest] at hk
   simp only[y2t] at hk
   refine qvn h7 (by omega) fun g8 w8 ht8 h8=>?_
   have e8:=e7.to ht8 yl7 rl7
   have yl8:=yl7.step ht8
   have rl8:=rl7.step ht8
   have hle:=qlw cf rest x.co
   simp only at h8
   generalize hce:(x.co.workN cf rest).1=ce at *
   generalize hkk:(x.co.workN cf rest).2=k at *
   refine C.a5 (fun w'=>w'.heap[A.ma]?=some (maB A cf)∧w'.heap[y]?=some (.cells (stV s).cells 40 (0,0))) fun w9 hf9 _=>⟨⟨hf9.at_ h8.blk (by simp),hf9.at_ e8.y (by simp)⟩,?_⟩
   have h9:=h8.keep0 hf9
   refine C.bn (vs:=[y4x (some ⟨A.lg,0,none⟩),y4x (some ⟨A.bn,0,none⟩)]) (fun w' hw=>qaf.prS hw.1) (C.ao (v:=y4w j6 s.t) (fun w' hw=>⟨_,_,_,hw.2,rfl⟩) (C.ao (v:=y4w j6 s.cost) (fun w' hw=>⟨_,_,_,hw.2,rfl⟩) ?_))
   have hm2:0≤(k:Int)*s.cost∧(k:Int)*s.cost≤4096:=by
    constructor
    ·exact y3y (by omega) (by omega)
    ·exact y4p (y3z (show (k:Int)≤64 by omega) hc.2 (by omega) (by omega)) (by decide)
   try simp only[C.bp]
   rw[qab (n:=(k:Int)*s.cost) (by omega),et]
   refine⟨qo4 h9 ht fun g10 w10 ht10 h10=>?_,trivial⟩
   have yl9:=yl8.fr hf9
   have rl9:=rl8.fr hf9
   have e10:=(e8.fr hf9).to ht10 yl9 rl9
   obtain⟨cs10,r10,rs10⟩:=e10.r
   refine⟨⟨h10.blk,e10.y⟩,C.a4 (zb6 (k:Int) cr) ?_⟩
   have tt:MTo A cf.threads.toNat g w g10 w10:=((((MTo.w f6).trans t7).trans ht8).trans (MTo.w hf9)).trans ht10
   exact qcs (a:=⟨0,0,0,(k:Int),cr⟩) tt h10 (rl9.step ht10) (by omega) r10 rs10 fun w' ht' h'=>hk _ w' ht' h'
 by_cases p3:x.co.phase=3
 ·simp only[zv,eq_self,p3,ne_eq,not_true_eq_false]
  exact qne (fun e=>e.1 p3)
 ·simp only[zv,p3,ne_eq,not_false_eq_true]
  by_cases p5:x.co.phase=5
  ·simp only[zv,eq_self,p5,not_true_eq_false]
   exact qne (fun e=>e.2 p5)
  ·simp only[zv,p5,not_false_eq_true]
   exact quiet ⟨p3,p5⟩
end
section
variable {K:VK} {w w':World} {A:Mad} {g:Gw} {cf:Cf} {B:Int} {x:Ma}
theorem ql9 (cf:Cf) (c:Co):(c.beginC cf).1.r.l.length=c.r.l.length:=by
 unfold Co.beginC
 split
 ·show (Co.advance cf 4 _).r.l.length=_
  rw[qm6];rfl
 ·rfl
theorem qsm (cf:Cf) (c:Co) (a:Int):(c.color cf a).r=c.r:=by
 unfold Co.color
 split
 ·rfl
 ·split <;> rfl
theorem zfh (cf:Cf) (c:Co) (t n:Int):(c.slow cf t n).1.r=c.r:=by
 unfold Co.slow
 split
 ·simp only
  split
  ·rw[qsm]
  ·rfl
 ·rfl
theorem zev (cf:Cf) (c:Co) (t n:Int):(c.fast cf t n).1.r=c.r:=by
 unfold Co.fast
 split
 ·split
  ·rfl
  ·rw[qsm]
 ·rfl
theorem qkc {a:Ans}:(anV a).cells.size=5:=rfl
theorem zd8 {s:Stp} {t:Nat} (h:qaf A g cf B w x) (hB:B≤1000000000000) (et:s.t=(t:Int)) (ht:t<cf.threads.toNat) (hc:1≤s.cost∧s.cost≤64)
  (hk:∀g' w',MTo A cf.threads.toNat g w g' w'→qaf A g' cf B w' (x.slow cf s).1→K (.tuple #[y4w j6 (x.slow cf s).2.1,anV (x.slow cf s).2.2]) w'):
  C.i y5c 152 #[y4x (some ⟨A.ma,0,none⟩),stV s] w K:=by
 refine F152.sh (C.av fun y w1 hn1=>C.av fun r w2 hn2=>?_)
 have l1:=hn1.is
 have l2:=hn2.is
 have s1:=hn1.fr.size
 have lr:=qac hn2.at_
 have f2:=hn1.fr.trans hn2.fr
 have h2:=h.keep0 f2
 have e2:qdc w2 y r s:=⟨hn2.fr.at_ hn1.at_ (by simp),_,hn2.at_,rfl⟩
 have yl2:Loc A cf.threads.toNat g y w2:=h.loc (by omega) (qac e2.y)
 have rl2:Loc A cf.threads.toNat g r w2:=h.loc (by omega) lr
 unfold Ma.slow at hk
 simp only at hk
 have rest:∀g3 w3 (x3:Ma),MTo A cf.threads.toNat g w g3 w3→qaf A g3 cf B w3 x3→qdc w3 y r s→Loc A cf.threads.toNat g3 y w3→Loc A cf.threads.toNat g3 r w3→
   (∀g' w',MTo A cf.threads.toNat g w g' w'→qaf A g' cf B w' (if (x3.tax cf s).2.code≠0 then ((x3.tax cf s).1,(0:Int),(x3.tax cf s).2) else ({ (x3.tax cf s).1 with co:=((x3.tax cf s).1.co.slow cf s.t s.n).1 },((x3.tax cf s).1.co.slow cf s.t s.n).2.1,{ (x3.tax cf s).2 with code:=((x3.tax cf s).1.co.slow cf s.t s.n).2.2 })).1→
    K (.tuple #[y4w j6 (if (x3.tax cf s).2.code≠0 then ((x3.tax cf s).1,(0:Int),(x3.tax cf s).2) else ({ (x3.tax cf s).1 with co:=((x3.tax cf s).1.co.slow cf s.t s.n).1 },((x3.tax cf s).1.co.slow cf s.t s.n).2.1,{ (x3.tax cf s).2 with code:=((x3.tax cf s).1.co.slow cf s.t s.n).2.2 })).2.1,anV (if (x3.tax cf s).2.code≠0 then ((x3.tax cf s).1,(0:Int),(x3.tax cf s).2) else ({ (x3.tax cf s).1 with co:=((x3.tax cf s).1.co.slow cf s.t s.n).1 },((x3.tax cf s).1.co.slow cf s.t s.n).2.1,{ (x3.tax cf s).2 with code:=((x3.tax cf s).1.co.slow cf s.t s.n).2.2 })).2.2]) w')→
   F152.k3 K (y4x (some ⟨A.ma,0,none⟩)) (y4x (some ⟨y,0,none⟩)) (y4x (some ⟨r,0,none⟩)) w3:=fun g3 w3 x3 t3 h3 e3 yl3 rl3 hk=>by
  refine F152.k3.to (C.ax e3.y rfl (zf3 (s:=s) (t:=t) h3 hB et ht hc fun g4 w4 t4 h4=>?_))
  have e4:=e3.to t4 yl3 rl3
  have yl4:=yl3.step t4
  have rl4:=rl3.step t4
  have tt4:=t3.trans t4
  generalize x3.tax cf s=p at *
  obtain⟨x4,a4⟩:=p
  simp only at hk h4 ⊢
  refine C.av fun z w5 hn5=>C.a0 (x:=anV a4) hn5.at_ rfl qc3 rfl fun w6 hu6=>?_
  have l5:=hn5.is
  have sz4:=tt4.fr.size
  have f46:Fr [] w4 w6:=hn5.fr.then hu6.fr (by simp;omega)
  have h6:=h4.keep0 f46
  have e6:=e4.fr f46
  have yl6:=yl4.fr f46
  have rl6:=rl4.fr f46
  have z6:=hu6.at_
  have zl6:Loc A cf.threads.toNat g4 z w6:=h4.loc (by omega) (qac z6)
  obtain⟨cr6,r6,rs6⟩:=e6.r
  have hzr:z≠r:=by have:=rl4.lt;omega
  have hzy:z≠y:=by have:=yl4.lt;omega
  have tt6:=tt4.trans (MTo.w f46)
  try simp only[zv]
  refine C.ad (v:=y4w j6 a4.code) z6 rfl ?_
  have out:∀(n:Int) (a:Ans) g8 (x8:Ma) w8,MTo A cf.threads.toNat g w g8 w8→qaf A g8 cf B w8 x8→(∃cs:Array Value,w8.heap[r]?=some (.cells cs 38 (0,0))∧cs.size=5)→w8.heap[z]?=some (.cells (anV a).cells 38 (0,0))→Loc A cf.threads.toNat g8 r w8→
    (∀w',MTo A cf.threads.toNat g w g8 w'→qaf A g8 cf B w' x8→K (.tuple #[y4w j6 n,anV a]) w')→
    C.a9 w8 fun S w9=>C.bm S 5 (y4x (some ⟨z,0,none⟩)) w9 fun x9 w10=>(C.ak 5 (y4x (some ⟨r,0,none⟩)) x9 w10 fun w11=>(S w11∧C.an 5 (y4x (some ⟨r,0,none⟩)) w11 fun r11 _=>K (.tuple #[y4w j6 n,r11]) w11))∧True:=fun n a g8 x8 w8 t8 h8 hr8 hz8 rl8 hk=>by
   obtain⟨cs,hr8,hs8⟩:=hr8
   refine C.a5 (fun w'=>w'.heap[z]?=some (.cells (anV a).cells 38 (0,0))) fun w9 hf9 _=>⟨hf9.at_ hz8 (by simp),?_⟩
   refine C.bn (vs:=(anV a).cells.toList) (fun w' hw=>⟨_,_,_,hw,by simp[qkc],rfl⟩) ⟨C.a0 (x:=anV a) (hf9.at_ hr8 (by simp)) rfl qc3 hs8 fun w10 hu=>⟨hu.fr.at_ (hf9.at_ hz8 (by simp)) (by simpa using hzr),C.ax hu.at_ rfl (hk w10 ((t8.trans (MTo.w hf9)).then hu.fr (by simp;omega)) ((h8.keep0 hf9).keepL hu.fr (rl8.fr hf9)))⟩,trivial⟩
  by_cases c0:a4.code=0
  ·rw[if_neg (by simp[c0])] at hk
   simp only[zv,eq_self,c0,ne_eq,not_true_eq_false]
   refine F152.k6.to (C.a5 (fun w'=>w'.heap[A.ma]?=some (maB A cf)∧w'.heap[y]?=some (.cells (stV s).cells 40 (0,0))) fun w7 hf7 _=>⟨⟨hf7.at_ h6.blk (by simp),hf7.at_ e6.y (by simp)⟩,?_⟩)
   have h7:=h6.keep0 hf7
   try simp only[zv]
   refine C.ao (v:=y4x (some ⟨A.Q.co,0,none⟩)) (fun w' hw=>⟨_,_,_,hw.1,rfl⟩) (C.ao (v:=y4w j6 s.t) (fun w' hw=>⟨_,_,_,hw.2,rfl⟩) (C.ao (v:=y4w j6 s.n) (fun w' hw=>⟨_,_,_,hw.2,rfl⟩) ⟨zd7 h7.co fun m' w8 ht8 h8=>?_,trivial⟩))
   have h8':=h7.setC ht8 h8 (by rw[zfh])
   have mt8:MTo A cf.threads.toNat g4 w7 { g4 with m:=m' } w8:=MTo.c ht8
   have e8:=(e6.fr hf7).to mt8 (yl6.fr hf7) (rl6.fr hf7)
   have z8:=(zl6.fr hf7).at_ mt8 (hf7.at_ z6 (by simp))
   have zl8:=(zl6.fr hf7).step mt8
   have rl8:=(rl6.fr hf7).step mt8
   refine⟨⟨h8'.blk,e8.y⟩,?_⟩
   generalize x4.co.slow cf s.t s.n=q at *
   try simp only[zv]
   refine C.bb z8 rfl rfl (by simp[qkc]) fun w9 hu9=>?_
   have h9:=h8'.keepL hu9.fr zl8
   obtain⟨cr8,r8,rs8⟩:=e8.r
   have z9:w9.heap[z]?=some (.cells (anV { a4 with code:=q.2.2 }).cells 38 (0,0)):=hu9.at_
   have tt9:MTo A cf.threads.toNat g w { g4 with m:=m' } w9:=((tt6.trans (MTo.w hf7)).trans mt8).then hu9.fr (by simp;omega)
   exact out q.2.1 { a4 with code:=q.2.2 } _ _ w9 tt9 h9 ⟨cr8,hu9.fr.at_ r8 (by simpa using Ne.symm hzr),rs8⟩ z9 (rl8.fr hu9.fr) fun w' ht' h'=>hk _ w' ht' h'
  ·rw[if_pos c0] at hk
   simp only[zv,c0,ne_eq,not_false_eq_true]
   exact out 0 a4 g4 x4 w6 tt6 h6 ⟨cr6,r6,rs6⟩ z6 rl6 fun w' ht' h'=>hk _ w' ht' h'
 refine C.a5 (fun w'=>w'.heap[A.ma]?=some (maB A cf)) fun w3 hf3 _=>⟨hf3.at_ h2.blk (by simp),?_⟩
 have h3:=h2.keep0 hf3
 have t3:MTo A cf.threads.toNat g w g w3:=MTo.w (f2.trans hf3)
 try simp only[zv]
 refine C.ao (v:=y4x (some ⟨A.Q.co,0,none⟩)) (fun w' hw=>⟨_,_,_,hw,rfl⟩) ⟨qh9 h3.co ⟨h3.blk,?_⟩,trivial⟩
 by_cases p0:x.co.phase=0
 ·simp only[zv,eq_self,p0]
  refine C.ao (v:=y4x (some ⟨A.Q.co,0,none⟩)) (fun w' hw=>⟨_,_,_,hw,rfl⟩) (C.ao (v:=y4w j6 cf.trigger) (fun w' hw=>⟨_,_,_,hw,rfl⟩) ⟨zbi h3.co fun w4 hf4=>⟨hf4.at_ h3.blk (by simp),?_⟩,trivial⟩)
  have h4:=h3.keep0 hf4
  by_cases z:qa1 x.co.s.c.ks<cf.trigger
  ·simp only[zv,z]
   rw[if_pos (show x.co.phase=0∧qa1 x.co.s.c.ks<cf.trigger from⟨p0,z⟩)] at hk
   refine C.ad (v:=y4x (some ⟨A.Q.co,0,none⟩)) h4.blk rfl (qrw h4.co fun m' w5 ht5 h5=>?_)
   have h5':=h4.setC ht5 h5 (ql9 _ _)
   have mt5:MTo A cf.threads.toNat g w4 { g with m:=m' } w5:=MTo.c ht5
   exact rest _ w5 _ ((t3.trans (MTo.w hf4)).trans mt5) h5' (((e2.fr hf3).fr hf4).to mt5 ((yl2.fr hf3).fr hf4) ((rl2.fr hf3).fr hf4)) (((yl2.fr hf3).fr hf4).step mt5) (((rl2.fr hf3).fr hf4).step mt5) hk
  ·simp only[zv,z]
   rw[if_neg (show ¬(x.co.phase=0∧qa1 x.co.s.c.ks<cf.trigger) from fun e=>z e.2)] at hk
   exact rest g w4 x (t3.trans (MTo.w hf4)) h4 ((e2.fr hf3).fr hf4) ((yl2.fr hf3).fr hf4) ((rl2.fr hf3).fr hf4) hk
 ·simp only[zv,p0]
  rw[if_neg (show ¬(x.co.phase=0∧qa1 x.co.s.c.ks<cf.trigger) from fun e=>p0 e.1)] at hk
  exact⟨⟨h3.blk,rest g w3 x t3 h3 (e2.fr hf3) (yl2.fr hf3) (rl2.fr hf3) hk⟩,trivial⟩
end
section
variable {K:VK} {w w':World} {A:Mad} {g:Gw} {cf:Cf} {B:Int} {x:Ma}
theorem zai {w0:World} {g0:Gw} {s:Stp} {y r z:Nat} {a:Int} {b:Ans} (t0:MTo A cf.threads.toNat g0 w0 g w) (h:qaf A g cf B w x) (he:qdc w y r s) (hz:w.heap[z]?=some (.cells (anV b).cells 38 (0,0)))
  (yl:Loc A cf.threads.toNat g y w) (rl:Loc A cf.threads.toNat g r w) (zl:Loc A cf.threads.toNat g z w) (hzr:z≠r) (hzy:z≠y) (r0:w0.heap.size≤r) (z0:w0.heap.size≤z)
  (hk:∀g' w',MTo A cf.threads.toNat g0 w0 g' w'→qaf A g' cf B w' (x.got s a b).1→K (anV (x.got s a b).2) w'):
  F100.k12 K (y4x (some ⟨A.ma,0,none⟩)) (y4x (some ⟨y,0,none⟩)) (y4x (some ⟨r,0,none⟩)) (y4w j6 a) (y4x (some ⟨z,0,none⟩)) w:=by
 unfold Ma.got at hk
 simp only at hk
 have sz0:=t0.fr.size
 refine F100.k12.to (qkt fun w1 hf1=>?_)
 have h1:=h.keep0 hf1
 generalize qdx a=v at *
 refine C.av fun u w2 hn2=>C.a0 (x:=V v.1 v.2) hn2.at_ rfl qal rfl fun w3 hu3=>?_
 have l2:=hn2.is
 have s1:=hf1.size
 have f3:Fr [] w w3:=(hf1.trans hn2.fr).then hu3.fr (by simp;omega)
 have h3:=h.keep0 f3
 have e3:=he.fr f3
 have z3:=f3.at_ hz (by simp)
 have u3:=hu3.at_
 have ul3:Loc A cf.threads.toNat g u w3:=h.loc (by omega) (qac u3)
 have yl3:=yl.fr f3
 have rl3:=rl.fr f3
 have zl3:=zl.fr f3
 refine C.a5 (fun w'=>w'.heap[A.ma]?=some (maB A cf)∧w'.heap[y]?=some (.cells (stV s).cells 40 (0,0))∧w'.heap[u]?=some (.cells #[y4w j6 v.1,y4w j6 v.2] 60 (0,0))) fun w4 hf4 _=>⟨⟨hf4.at_ h3.blk (by simp),hf4.at_ e3.y (by simp),hf4.at_ u3 (by simp)⟩,?_⟩
 have h4:=h3.keep0 hf4
 try simp only[zv]
 refine C.ao (v:=y4x (some ⟨A.Q.co,0,none⟩)) (fun w' hw=>⟨_,_,_,hw.1,rfl⟩) (C.ao (v:=y4w j6 s.t) (fun w' hw=>⟨_,_,_,hw.2.1,rfl⟩) (C.bn (vs:=[y4w j6 v.1,y4w j6 v.2]) (fun w' hw=>⟨_,_,_,hw.2.2,by simp,rfl⟩) ⟨qvb (v:=v) h4.co fun m' w5 ht5 h5=>?_,trivial⟩))
 have h5':=h4.setC ht5 h5 (by rw[qw4])
 have mt5:MTo A cf.threads.toNat g w4 { g with m:=m' } w5:=MTo.c ht5
 have e5:=(e3.fr hf4).to mt5 (yl3.fr hf4) (rl3.fr hf4)
 have u5:=(ul3.fr hf4).at_ mt5 (hf4.at_ u3 (by simp))
 have z5:=(zl3.fr hf4).at_ mt5 (hf4.at_ z3 (by simp))
 have rl5:=(rl3.fr hf4).step mt5
 have zl5:=(zl3.fr hf4).step mt5
 have t5:MTo A cf.threads.toNat g0 w0 { g with m:=m' } w5:=(t0.trans (MTo.w (f3.trans hf4))).trans mt5
 refine⟨⟨h5'.blk,e5.y,u5⟩,C.ax u5 rfl (ql6 (v:=v) h5' fun w6 hf6=>?_)⟩
 generalize hx5:({ x with co:=(x.co.push s.t v).1 }:Ma)=x5 at *
 generalize x5.told v=q at *
 refine C.av fun p w7 hn7=>C.a0 (x:=anV ⟨0,q.1,q.2,0,0⟩) hn7.at_ rfl qc3 rfl fun w8 hu8=>?_
 have l7:=hn7.is
 have s6:=hf6.size
 have f58:Fr [] w5 w8:=(hf6.trans hn7.fr).then hu8.fr (by simp;omega)
 have h8:=h5'.keep0 f58
 have p8:=hu8.at_
 have z8:=f58.at_ z5 (by simp)
 have hpz:p≠z:=by have:=zl5.lt;omega
 have rl8:=rl5.fr f58
 have zl8:=zl5.fr f58
 obtain⟨cr,r5,rs5⟩:=e5.r
 have r8:=f58.at_ r5 (by simp)
 have t8:=t5.trans (MTo.w f58)
 refine C.a5 (fun w'=>w'.heap[p]?=some (.cells (anV ⟨0,q.1,q.2,0,0⟩).cells 38 (0,0))) fun w9 hf9 _=>⟨hf9.at_ p8 (by simp),?_⟩
 have h9:=h8.keep0 hf9
 have z9:=hf9.at_ z8 (by simp)
 try simp only[zv]
 refine C.ao (v:=y4w j6 q.1) (fun w' hw=>⟨_,_,_,hw,rfl⟩) ?_
 refine C.ao (v:=y4w j6 q.2) (fun w' hw=>⟨_,_,_,hw,rfl⟩) ?_
 refine⟨C.bb z9 rfl rfl (by simp[qkc]) fun w10 hu10=>⟨hu10.fr.at_ (hf9.at_ p8 (by simp)) (by simpa using hpz),?_⟩,trivial⟩
 have z10:w10.heap[z]?=some (.cells (anV { b with kd:=q.1 }).cells 38 (0,0)):=hu10.at_
 have h10:=h9.keepL hu10.fr (zl8.fr hf9)
 refine⟨C.bb z10 rfl rfl (by simp[qkc]) fun w11 hu11=>⟨hu11.fr.at_ (hu10.fr.at_ (hf9.at_ p8 (by simp)) (by simpa using hpz)) (by simpa using hpz),?_⟩,trivial⟩
 have z11:w11.heap[z]?=some (.cells (anV { b with kd:=q.1,n:=q.2 }).cells 38 (0,0)):=hu11.at_
 have h11:=h10.keepL hu11.fr ((zl8.fr hf9).fr hu10.fr)
 have r11:=hu11.fr.at_ (hu10.fr.at_ (hf9.at_ r8 (by simp)) (by simpa using Ne.symm hzr)) (by simpa using Ne.symm hzr)
 have t11:MTo A cf.threads.toNat g0 w0 { g with m:=m' } w11:=((t8.trans (MTo.w hf9)).then hu10.fr (by simpa using z0)).then hu11.fr (by simpa using z0)
 exact C.ax z11 rfl (qcs (a:={ b with kd:=q.1,n:=q.2 }) t11 h11 (((rl8.fr hf9).fr hu10.fr).fr hu11.fr) r0 r11 rs5 fun w' ht' h'=>hk _ w' ht' h')
theorem zau {s:Stp} {t:Nat} (h:qaf A g cf B w x) (hB:B≤1000000000000) (et:s.t=(t:Int)) (ht:t<cf.threads.toNat)
  (hk:∀g' w',MTo A cf.threads.toNat g w g' w'→qaf A g' cf B w' (x.alloc cf s).1→K (anV (x.alloc cf s).2) w'):
  C.i y5c 100 #[y4x (some ⟨A.ma,0,none⟩),stV s] w K:=by
 have hq:=h.fine.qu
 refine F100.sh (C.av fun y w1 hn1=>C.av fun r w2 hn2=>?_)
 have l1:=hn1.is
 have l2:=hn2.is
 have s1:=hn1.fr.size
 have lr:=qac hn2.at_
 have f2:=hn1.fr.trans hn2.fr
 have h2:=h.keep0 f2
 have e2:qdc w2 y r s:=⟨hn2.fr.at_ hn1.at_ (by simp),_,hn2.at_,rfl⟩
 have yl2:Loc A cf.threads.toNat g y w2:=h.loc (by omega) (qac e2.y)
 have rl2:Loc A cf.threads.toNat g r w2:=h.loc (by omega) lr
 unfold Ma.alloc at hk
 have err:∀(e:Int) w3,Fr [] w2 w3→(∀w',MTo A cf.threads.toNat g w g w'→qaf A g cf B w' x→K (anV (Ans.err e)) w')→C.i y5c 54 #[y4w j6 e] w3 fun x1 w1=>C.ak 5 (y4x (some ⟨r,0,none⟩)) x1 w1 fun w2=>C.an 5 (y4x (some ⟨r,0,none⟩)) w2 fun r _=>K r w2:=fun e w3 hf3 hk=>
  qdd (e:=e) (MTo.w (f2.trans hf3)) (h2.keep0 hf3) (rl2.fr hf3) (by omega) (hf3.at_ hn2.at_ (by simp)) rfl hk
 try simp only[zv]
 refine C.ad (v:=y4w j6 s.n) e2.y rfl (qhd ?_)
 by_cases o1:s.n<0∨127<s.n
 ·rw[if_pos (show s.n<0∨127<s.n∨s.cost<1∨cf.quantum<s.cost by omega)] at hk
  rw[decide_eq_true o1]
  try simp only[C.ah]
  exact err 4 w2 (Fr.refl _ _) fun w' ht' h'=>hk g w' ht' h'
 rw[decide_eq_false o1]
 try simp only[C.ac]
 refine C.a5 (fun w'=>w'.heap[A.ma]?=some (maB A cf)∧w'.heap[y]?=some (.cells (stV s).cells 40 (0,0))) fun w3 hf3 _=>⟨⟨hf3.at_ h2.blk (by simp),hf3.at_ e2.y (by simp)⟩,?_⟩
 have h3:=h2.keep0 hf3
 refine C.ao (v:=y4w j6 s.cost) (fun w' hw=>⟨_,_,_,hw.2,rfl⟩) (C.ao (v:=y4w j6 cf.quantum) (fun w' hw=>⟨_,_,_,hw.1,rfl⟩) ⟨qhd ⟨⟨h3.blk,hf3.at_ e2.y (by simp)⟩,?_⟩,trivial⟩)
 by_cases o2:s.cost<1∨cf.quantum<s.cost
 ·rw[if_pos (show s.n<0∨127<s.n∨s.cost<1∨cf.quantum<s.cost by omega)] at hk
  rw[decide_eq_true o2]
  try simp only[C.ah]
  exact err 4 w3 hf3 fun w' ht' h'=>hk g w' ht' h'
 rw[if_neg (show ¬(s.n<0∨127<s.n∨s.cost<1∨cf.quantum<s.cost) by omega)] at hk
 rw[decide_eq_false o2]
 try simp only[C.ac]
 refine C.a5 (fun w'=>w'.heap[A.ma]?=some (maB A cf)∧w'.heap[y]?=some (.cells (stV s).cells 40 (0,0))) fun w4 hf4 _=>⟨⟨hf4.at_ h3.blk (by simp),hf4.at_ (hf3.at_ e2.y (by simp)) (by simp)⟩,?_⟩
 have h4:=h3.keep0 hf4
 have f24:=hf3.trans hf4
 refine C.ao (v:=y4x (some ⟨A.Q.co,0,none⟩)) (fun w' hw=>⟨_,_,_,hw.1,rfl⟩) (C.ao (v:=y4w j6 s.t) (fun w' hw=>⟨_,_,_,hw.2,rfl⟩) ⟨qgr h4.co fun rv w5 hf5 hr5 hn5=>⟨⟨hf5.at_ h4.blk (by simp),hf5.at_ (f24.at_ e2.y (by simp)) (by simp)⟩,C.bg hr5.rd ?_⟩,trivial⟩)
 rw[qa9]
 have f25:=f24.trans hf5
 have h5:=h2.keep0 f25
 by_cases o3:(x.co.roots s.t).length=16
 ·rw[if_pos o3] at hk
  simp only[zv,eq_self,show ((x.co.roots s.t).length:Int)=16 by omega]
  exact err 3 w5 f25 fun w' ht' h'=>hk g w' ht' h'
 rw[if_neg o3] at hk
 simp only[zv,show ¬((x.co.roots s.t).length:Int)=16 by omega]
 have e5:=e2.fr f25
 have yl5:=yl2.fr f25
 have rl5:=rl2.fr f25
 refine F100.k6.to (C.a5 (fun w'=>w'.heap[A.ma]?=some (maB A cf)∧w'.heap[y]?=some (.cells (stV s).cells 40 (0,0))) fun w6 hf6 _=>⟨⟨hf6.at_ h5.blk (by simp),hf6.at_ e5.y (by simp)⟩,?_⟩)
 have h6:=h5.keep0 hf6
 have f6:=(f2.trans f25).trans hf6
 try simp only[zv]
 refine C.ao (v:=y4x (some ⟨A.Q.co,0,none⟩)) (fun w' hw=>⟨_,_,_,hw.1,rfl⟩) (C.ao (v:=y4w j6 s.t) (fun w' hw=>⟨_,_,_,hw.2,rfl⟩) (C.ao (v:=y4w j6 s.n) (fun w' hw=>⟨_,_,_,hw.2,rfl⟩) ⟨zdl h6.co fun m' w7 ht7 h7=>?_,trivial⟩))
 have h7':=h6.setC ht7 h7 (by rw[zev])
 have mt7:MTo A cf.threads.toNat g w6 { g with m:=m' } w7:=MTo.c ht7
 have e7:=(e5.fr hf6).to mt7 (yl5.fr hf6) (rl5.fr hf6)
 have yl7:=(yl5.fr hf6).step mt7
 have rl7:=(rl5.fr hf6).step mt7
 have t7:MTo A cf.threads.toNat g w { g with m:=m' } w7:=(MTo.w f6).trans mt7
 have sz7:=t7.fr.size
 refine⟨⟨h7'.blk,e7.y⟩,?_⟩
 cases ef:(x.co.fast cf s.t s.n).2 with
 | some a=>
  have e0:x.co.fast cf s.t s.n=((x.co.fast cf s.t s.n).1,some a):=by rw[←ef]
  rw[e0] at hk
  simp only at hk
  try simp only[zv]
  refine C.av fun z w8 hn8=>?_
  have l8:=hn8.is
  have h8:=h7'.keep0 hn8.fr
  have e8:=e7.fr hn8.fr
  have z8:w8.heap[z]?=some (.cells (anV Ans.ok).cells 38 (0,0)):=hn8.at_
  refine F100.k10.to ?_
  try simp only[zv]
  refine C.ad (v:=y4w j6 0) z8 rfl ?_
  simp only[zv,eq_self,ne_eq,not_true_eq_false]
  exact zai (t7.trans (MTo.w hn8.fr)) h8 e8 z8 (yl7.fr hn8.fr) (rl7.fr hn8.fr) (h7'.loc (by omega) (qac z8)) (by have:=rl7.lt;omega) (by have:=yl7.lt;omega) (by omega) (by omega) hk
 | none=>
  have e0:x.co.fast cf s.t s.n=(x.co,none):=by
   unfold Co.fast at ef ⊢
   split at ef
   ·rename_i hl
    rw[if_pos hl]
    split at ef
    ·rename_i e1;rfl
    ·simp at ef
   ·rename_i hl;rw[if_neg hl]
  rw[e0] at hk h7'
  simp only at hk h7'
  try simp only[zv]
  refine C.av fun z w8 hn8=>?_
  have l8:=hn8.is
  have h8:=h7'.keep0 hn8.fr
  have e8:=e7.fr hn8.fr
  have zl8:Loc A cf.threads.toNat { g with m:=m' } z w8:=h7'.loc (by omega) (qac hn8.at_)
  refine C.ax e8.y rfl (zd8 (s:=s) (t:=t) h8 hB et ht (by omega) fun g9 w9 t9 h9=>?_)
  have e9:=e8.to t9 (yl7.fr hn8.fr) (rl7.fr hn8.fr)
  have z9:=zl8.at_ t9 hn8.at_
  have zl9:=zl8.step t9
  have yl9:=(yl7.fr hn8.fr).step t9
  have rl9:=(rl7.fr hn8.fr).step t9
  have tt9:=(t7.trans (MTo.w hn8.fr)).trans t9
  have eta:({ x with co:=x.co }:Ma)=x:=rfl
  rw[eta] at h9 ⊢
  generalize x.slow cf s=p at *
  obtain⟨x9,a9,b9⟩:=p
  simp only at hk h9 ⊢
  try simp only[zv]
  refine C.a0 (x:=anV b9) z9 rfl qc3 rfl fun w10 hu10=>?_
  have h10:=h9.keepL hu10.fr zl9
  have z10:=hu10.at_
  have hzr:z≠r:=by have:=rl7.lt;omega
  have hzy:z≠y:=by have:=yl7.lt;omega
  obtain⟨cr,r9,rs9⟩:=e9.r
  have r10:=hu10.fr.at_ r9 (by simpa using Ne.symm hzr)
  have e10:qdc w10 y r s:=⟨hu10.fr.at_ e9.y (by simpa using Ne.symm hzy),cr,r10,rs9⟩
  have t10:=tt9.then hu10.fr (by simp;omega)
  refine F100.k10.to ?_
  try simp only[zv]
  refine C.ad (v:=y4w j6 b9.code) z10 rfl ?_
  by_cases c:b9.code=0
  ·rw[if_neg (by simp[c])] at hk
   simp only[zv,eq_self,c,ne_eq,not_true_eq_false]
   exact zai t10 h10 e10 z10 (yl9.fr hu10.fr) (rl9.fr hu10.fr) (zl9.fr hu10.fr) hzr hzy (by omega) (by omega) hk
  ·rw[if_pos c] at hk
   simp only[zv,c,ne_eq,not_false_eq_true]
   exact C.ax z10 rfl (qcs (a:=b9) t10 h10 (rl9.fr hu10.fr) (by omega) r10 rs9 fun w' ht' h'=>hk _ w' ht' h')
end
section
variable {K:VK} {w w':World} {A:Mad} {g:Gw} {cf:Cf} {B:Int} {x:Ma}
theorem qtr (x:Ma) (cf:Cf) (n:Nat):(x.ahead cf n).2=⟨0,0,0,((x.co.workN cf n).2:Int),0⟩:=by unfold Ma.ahead;simp
theorem qya {s:Stp} (h:qaf A g cf B w x) (hB:B≤1000000000000) (hth:s.kd=16∨s.kd=17∨∃t:Nat,s.t=(t:Int)∧t<cf.threads.toNat)
  (hk:∀g' w',MTo A cf.threads.toNat g w g' w'→qaf A g' cf (B+64) w' (x.spend cf s).1→K (anV (x.spend cf s).2) w'):
  C.i y5c 106 #[y4x (some ⟨A.ma,0,none⟩),stV s] w K:=by
 have hq:=h.fine.qu
 have hwi:=h.fine.wi
 have up:∀ {g':Gw} {w':World} {x':Ma},qaf A g' cf B w' x'→qaf A g' cf (B+64) w' x':=fun h=>h.mono (by omega)
 refine F106.sh (C.av fun y w1 hn1=>C.av fun r w2 hn2=>?_)
 have l1:=hn1.is
 have l2:=hn2.is
 have s1:=hn1.fr.size
 have lr:=qac hn2.at_
 have f2:=hn1.fr.trans hn2.fr
 have h2:=h.keep0 f2
 have e2:qdc w2 y r s:=⟨hn2.fr.at_ hn1.at_ (by simp),_,hn2.at_,rfl⟩
 have yl2:Loc A cf.threads.toNat g y w2:=h.loc (by omega) (qac e2.y)
 have rl2:Loc A cf.threads.toNat g r w2:=h.loc (by omega) lr
 unfold Ma.spend at hk
 have err:∀(e:Int) w3,Fr [] w2 w3→(∀g' w',MTo A cf.threads.toNat g w g' w'→qaf A g' cf (B+64) w' x→K (anV (Ans.err e)) w')→C.i y5c 54 #[y4w j6 e] w3 fun x1 w1=>C.ak 5 (y4x (some ⟨r,0,none⟩)) x1 w1 fun w2=>C.an 5 (y4x (some ⟨r,0,none⟩)) w2 fun r _=>K r w2:=fun e w3 hf3 hk=>
  qdd (e:=e) (MTo.w (f2.trans hf3)) (h2.keep0 hf3) (rl2.fr hf3) (by omega) (hf3.at_ hn2.at_ (by simp)) rfl fun w' ht' h'=>hk g w' ht' (up h')
 have okEnd:∀g3 w3 (x3:Ma),MTo A cf.threads.toNat g w g3 w3→qaf A g3 cf (B+64) w3 x3→qdc w3 y r s→Loc A cf.threads.toNat g3 r w3→(∀g' w',MTo A cf.threads.toNat g w g' w'→qaf A g' cf (B+64) w' x3→K (anV Ans.ok) w')→F106.k17 K (y4x (some ⟨r,0,none⟩)) w3:=fun g3 w3 x3 t3 h3 e3 rl3 hk=>by
  obtain⟨cr,r3,rs3⟩:=e3.r
  exact F106.k17.to (C.a4 qkd (qcs (a:=Ans.ok) t3 h3 rl3 (by omega) r3 rs3 fun w' ht' h'=>hk _ w' ht' h'))
 try simp only[zv]
 refine C.ad (v:=y4w j6 s.kd) e2.y rfl ?_
 by_cases k17:s.kd=17
 ·rw[if_pos k17] at hk
  simp only[zv,eq_self,k17]
  refine C.ad (v:=y4x (some ⟨A.Q.co,0,none⟩)) h2.blk rfl (qrw h2.co fun m' w3 ht3 h3=>?_)
  have h3':=h2.setC ht3 h3 (ql9 _ _)
  have mt3:MTo A cf.threads.toNat g w2 { g with m:=m' } w3:=MTo.c ht3
  have e3:=e2.to mt3 yl2 rl2
  have rl3:=rl2.step mt3
  have t3:=(MTo.w f2).trans mt3
  cases eb:(x.co.beginC cf).2 with
  | true=>
   rw[if_pos eb] at hk
   try simp only[zv]
   exact okEnd _ w3 _ t3 (up h3') e3 rl3 fun g' w' ht' h'=>hk g' w' ht' h'
  | false=>
   rw[if_neg (by simp[eb])] at hk
   have e0:(x.co.beginC cf).1=x.co:=by
    unfold Co.beginC at eb ⊢
    split at eb
    ·simp at eb
    ·rename_i hh;rw[if_neg hh]
   rw[e0] at h3'
   try simp only[zv]
   obtain⟨cr,r3,rs3⟩:=e3.r
   exact qdd (e:=9) t3 h3' rl3 (by omega) r3 rs3 fun w' ht' h'=>hk _ w' ht' (up h')
 rw[if_neg k17] at hk
 simp only[zv,k17]
 refine C.ad (v:=y4w j6 s.n) e2.y rfl (qhd ?_)
 by_cases o1:s.n<1∨64<s.n
 ·rw[if_pos o1] at hk
  rw[decide_eq_true o1]
  try simp only[C.ah]
  exact err 4 w2 (Fr.refl _ _) hk
 rw[if_neg o1] at hk
 rw[decide_eq_false o1]
 try simp only[C.ac]
 obtain⟨n,hn⟩:=y1b (show 0≤s.n by omega)
 refine C.ad (v:=y4w j6 s.kd) e2.y rfl ?_
 by_cases k13:s.kd=13
 ·rw[if_pos k13] at hk
  simp only[zv,eq_self,k13]
  obtain⟨t,et,ht⟩:∃t:Nat,s.t=(t:Int)∧t<cf.threads.toNat:=by
   rcases hth with e | e | e
   ·rw[k13] at e;exact absurd e (by decide)
   ·exact absurd e k17
   ·exact e
  refine C.a5 (fun w'=>w'.heap[A.ma]?=some (maB A cf)∧w'.heap[y]?=some (.cells (stV s).cells 40 (0,0))) fun w3 hf3 _=>⟨⟨hf3.at_ h2.blk (by simp),hf3.at_ e2.y (by simp)⟩,?_⟩
  have h3:=h2.keep0 hf3
  refine C.bn (vs:=[y4x (some ⟨A.lg,0,none⟩),y4x (some ⟨A.bn,0,none⟩)]) (fun w' hw=>qaf.prS hw.1) (C.ao (v:=y4w j6 s.t) (fun w' hw=>⟨_,_,_,hw.2,rfl⟩) (C.ao (v:=y4w j6 s.n) (fun w' hw=>⟨_,_,_,hw.2,rfl⟩) ?_))
  rw[et] at hk ⊢
  refine⟨zak h3 ht (by omega) (by omega) fun g4 w4 t4 h4=>?_,trivial⟩
  have e4:=(e2.fr hf3).to t4 (yl2.fr hf3) (rl2.fr hf3)
  exact⟨⟨h4.blk,e4.y⟩,okEnd g4 w4 _ ((MTo.w (f2.trans hf3)).trans t4) (up h4) e4 ((rl2.fr hf3).step t4) hk⟩
 rw[if_neg k13] at hk
 simp only[zv,k13]
 refine C.ad (v:=y4w j6 s.kd) e2.y rfl ?_
 by_cases k16:s.kd=16
 ·rw[if_pos k16] at hk
  simp only[zv,eq_self,k16]
  refine C.ad (v:=y4w j6 s.n) e2.y rfl ?_
  rw[hn] at hk ⊢
  refine qru h2 hB (by omega) fun g4 w4 t4 h4=>?_
  have e4:=e2.to t4 yl2 rl2
  obtain⟨cr,r4,rs4⟩:=e4.r
  exact qcs ((MTo.w f2).trans t4) h4 (rl2.step t4) (by omega) r4 rs4 fun w' ht' h'=>hk _ w' ht' h'
 rw[if_neg k16] at hk
 simp only[zv,k16]
 obtain⟨t,et,ht⟩:∃t:Nat,s.t=(t:Int)∧t<cf.threads.toNat:=by
  rcases hth with e | e | e
  ·exact absurd e k16
  ·exact absurd e k17
  ·exact e
 refine C.a5 (fun w'=>w'.heap[A.ma]?=some (maB A cf)∧w'.heap[y]?=some (.cells (stV s).cells 40 (0,0))) fun w3 hf3 _=>⟨⟨hf3.at_ h2.blk (by simp),hf3.at_ e2.y (by simp)⟩,?_⟩
 have h3:=h2.keep0 hf3
 refine C.ao (v:=y4w j6 s.cost) (fun w' hw=>⟨_,_,_,hw.2,rfl⟩) (C.ao (v:=y4w j6 cf.quantum) (fun w' hw=>⟨_,_,_,hw.1,rfl⟩) ⟨qhd ⟨⟨h3.blk,hf3.at_ e2.y (by simp)⟩,?_⟩,trivial⟩)
 by_cases o2:s.cost<1∨cf.quantum<s.cost
 ·rw[if_pos o2] at hk
  rw[decide_eq_true o2]
  try simp only[C.ah]
  exact err 4 w3 hf3 hk
 rw[if_neg o2] at hk
 rw[decide_eq_false o2]
 try simp only[C.ac]
 refine C.a5 (fun w'=>w'.heap[A.ma]?=some (maB A cf)∧qdc w' y r s) fun w4 hf4 _=>⟨⟨hf4.at_ h3.blk (by simp),(e2.fr hf3).fr hf4⟩,?_⟩
 have h4:=h3.keep0 hf4
 have f24:=hf3.trans hf4
 have hm:0≤s.n*s.cost∧s.n*s.cost≤4096:=by
  constructor
  ·exact y3y (by omega) (by omega)
  ·exact y4p (y3z (show s.n≤64 by omega) (show s.cost≤64 by omega) (by omega) (by omega)) (by decide)
 refine C.ao (v:=y4x (some ⟨A.lg,0,none⟩)) (fun w' hw=>⟨_,_,_,hw.1,rfl⟩) (C.ao (v:=y4w j6 s.t) (fun w' hw=>⟨_,_,_,hw.2.y,rfl⟩) (C.ao (v:=y4w j6 s.n) (fun w' hw=>⟨_,_,_,hw.2.y,rfl⟩) (C.ao (v:=y4w j6 s.cost) (fun w' hw=>⟨_,_,_,hw.2.y,rfl⟩) ?_)))
 try simp only[C.bp]
 rw[qab (n:=s.n*s.cost) (by omega),et]
 rw[et] at hk
 refine⟨qil h4.led ht (by omega) hwi.2 h.fine.mo.2 (h.l64 t) fun w5 hf5=>?_,trivial⟩
 have h5:=h4.keep0 hf5
 have f25:=f24.trans hf5
 have e5:=e2.fr f25
 have ea:x.admt cf (t:Int) (s.n*s.cost)=qdy cf.window cf.most (s.n*s.cost) (x.lg t):=by unfold Ma.admt;rw[y2t]
 refine⟨⟨h5.blk,e5⟩,?_⟩
 cases z:qdy cf.window cf.most (s.n*s.cost) (x.lg t) with
 | false=>
  rw[if_pos (by rw[ea,z];simp)] at hk
  try simp only[zv]
  exact err 21 w5 f25 hk
 | true=>
  rw[if_neg (by rw[ea,z];simp)] at hk
  simp only at hk
  try simp only[zv]
  refine C.ad (v:=y4w j6 s.n) e5.y rfl ?_
  rw[hn] at hk ⊢
  have hdone:=qtr x cf n
  have hle:=qlw cf n x.co
  refine qru h5 hB (by omega) fun g6 w6 t6 h6=>?_
  have e6:=e5.to t6 (yl2.fr f25) (rl2.fr f25)
  have yl6:=(yl2.fr f25).step t6
  have rl6:=(rl2.fr f25).step t6
  generalize hkk:(x.co.workN cf n).2=k at *
  generalize x.ahead cf (n:Int)=p at *
  obtain⟨x6,a6⟩:=p
  simp only at hdone hk h6 ⊢
  subst hdone
  simp only at hk
  have tt6:=(MTo.w (f2.trans f25)).trans t6
  have sz6:=tt6.fr.size
  refine C.av fun z w7 hn7=>C.a0 (x:=anV ⟨0,0,0,(k:Int),0⟩) hn7.at_ rfl qc3 rfl fun w8 hu8=>?_
  have l7:=hn7.is
  have f68:Fr [] w6 w8:=hn7.fr.then hu8.fr (by simp;omega)
  have h8:=h6.keep0 f68
  have e8:=e6.fr f68
  have z8:=hu8.at_
  have zl8:Loc A cf.threads.toNat g6 z w8:=h6.loc (by omega) (qac z8)
  refine C.a5 (fun w'=>w'.heap[A.ma]?=some (maB A cf)∧w'.heap[y]?=some (.cells (stV s).cells 40 (0,0))∧w'.heap[z]?=some (.cells (anV ⟨0,0,0,(k:Int),0⟩).cells 38 (0,0))) fun w9 hf9 _=>⟨⟨hf9.at_ h8.blk (by simp),hf9.at_ e8.y (by simp),hf9.at_ z8 (by simp)⟩,?_⟩
  have h9:=h8.keep0 hf9
  have hm2:0≤(k:Int)*s.cost∧(k:Int)*s.cost≤4096:=by
   constructor
   ·exact y3y (by omega) (by omega)
   ·exact y4p (y3z (show (k:Int)≤64 by omega) (show s.cost≤64 by omega) (by omega) (by omega)) (by decide)
  try simp only[zv]
  refine C.bn (vs:=[y4x (some ⟨A.lg,0,none⟩),y4x (some ⟨A.bn,0,none⟩)]) (fun w' hw=>qaf.prS hw.1) (C.ao (v:=y4w j6 s.t) (fun w' hw=>⟨_,_,_,hw.2.1,rfl⟩) (C.ao (v:=y4w j6 (k:Int)) (fun w' hw=>⟨_,_,_,hw.2.2,rfl⟩) (C.ao (v:=y4w j6 s.cost) (fun w' hw=>⟨_,_,_,hw.2.1,rfl⟩) ?_)))
  try simp only[C.bp]
  rw[qab (n:=(k:Int)*s.cost) (by omega),et]
  refine⟨qo4 h9 ht fun g10 w10 t10 h10=>?_,trivial⟩
  have e10:=(e8.fr hf9).to t10 ((yl6.fr f68).fr hf9) ((rl6.fr f68).fr hf9)
  have z10:=(zl8.fr hf9).at_ t10 (hf9.at_ z8 (by simp))
  obtain⟨cr,r10,rs10⟩:=e10.r
  refine⟨⟨h10.blk,e10.y,z10⟩,C.ax z10 rfl (qcs (a:=⟨0,0,0,(k:Int),0⟩) ((tt6.trans (MTo.w (f68.trans hf9))).trans t10) h10 (((rl6.fr f68).fr hf9).step t10) (by omega) r10 rs10 fun w' ht' h'=>hk _ w' ht' h')⟩
theorem zf4 {s:Stp} (h:qaf A g cf B w x) (hk:∀w',Fr [] w w'→K (y4w j6 (x.who cf s)) w'):C.i y5c 56 #[y4x (some ⟨A.ma,0,none⟩),stV s] w K:=by
 refine F56.sh (C.av fun y w1 hn1=>?_)
 have h1:=h.keep0 hn1.fr
 have y1:=hn1.at_
 unfold Ma.who at hk
 try simp only[zv]
 refine C.ad (v:=y4w j6 s.kd) y1 rfl ?_
 by_cases k16:16≤s.kd
 ·rw[if_pos k16] at hk
  simp only[zv,show s.kd≥16 from k16]
  exact hk w1 hn1.fr
 rw[if_neg k16] at hk
 simp only[zv,show ¬s.kd≥16 from k16]
 have S0:∀w',Fr [] w1 w'→w'.heap[A.ma]?=some (maB A cf)∧w'.heap[y]?=some (.cells (stV s).cells 40 (0,0)):=fun w' hf=>⟨hf.at_ h1.blk (by simp),hf.at_ y1 (by simp)⟩
 refine C.a5 (fun w'=>w'.heap[A.ma]?=some (maB A cf)∧w'.heap[y]?=some (.cells (stV s).cells 40 (0,0))) fun w2 hf2 _=>⟨S0 w2 hf2,?_⟩
 refine C.ao (v:=y4w j6 s.t) (fun w' hw=>⟨_,_,_,hw.2,rfl⟩) (C.ao (v:=y4w j6 cf.threads) (fun w' hw=>⟨_,_,_,hw.1,rfl⟩) ?_)
 by_cases o:cf.threads≤s.t
 ·rw[if_pos o] at hk
  simp only[zv,show s.t≥cf.threads from o]
  exact hk w2 (hn1.fr.trans hf2)
 rw[if_neg o] at hk
 simp only[zv,show ¬s.t≥cf.threads from o]
 refine C.a5 (fun w'=>w'.heap[A.ma]?=some (maB A cf)∧w'.heap[y]?=some (.cells (stV s).cells 40 (0,0))) fun w3 hf3 _=>⟨S0 w3 (hf2.trans hf3),?_⟩
 have f3:=hf2.trans hf3
 have h3:=h1.keep0 f3
 have S3:=S0 w3 f3
 refine C.ao (v:=y4w j6 s.kd) (fun w' hw=>⟨_,_,_,hw.2,rfl⟩) ?_
 have second:¬(s.kd=1∧x.co.r.live s.t=true)→C.a9 w3 fun S w25=>C.ab 0 (y4x (some ⟨y,0,none⟩)) w25 fun x32 w26=>C.aq S x32 w26 fun x33 w27=>C.aj .neq x33 (y4w j6 1) w27 fun x34 w28=>C.q true x34 (fun K=>K (y4x (some ⟨A.ma,0,none⟩)) w28) w28 fun x36 w29=>C.q true x34 (fun K=>C.ae x36 w29 K) w29 fun x37 w30=>C.q true x34 (fun K=>C.ab 12 x37 w30 K) w30 fun x38 w31=>C.q true x34 (fun K=>C.ab 1 (y4x (some ⟨y,0,none⟩)) w31 K) w31 fun x40 w32=>C.q true x34 (fun K=>C.aq S x38 w32 K) w32 fun x39 w33=>C.q true x34 (fun K=>C.aq S x40 w33 K) w33 fun x41 w34=>
   (C.q true x34 (fun K=>C.i y5c 53 #[x39,x41] w34 K) w34 fun x42 w35=>(S w35∧C.q true x34 (fun K=>C.bf x42 w35 K) w35 fun x43 w36=>C.a2 (some x34) (some x43) (some (.bool false)) w36 fun x44 w37=>C.am x44 (K (y4w j6 14) w37) (F56.k9 K w37)))∧True:=fun hno=>by
  rw[if_neg hno] at hk
  refine C.a5 (fun w'=>w'.heap[A.ma]?=some (maB A cf)∧w'.heap[y]?=some (.cells (stV s).cells 40 (0,0))) fun w4 hf4 _=>⟨S0 w4 (f3.trans hf4),?_⟩
  have f4:=f3.trans hf4
  have h4:=h1.keep0 f4
  try simp only[zv]
  refine C.ao (v:=y4w j6 s.kd) (fun w' hw=>⟨_,_,_,hw.2,rfl⟩) ?_
  by_cases k1:s.kd=1
  ·rw[if_neg (fun e=>e.1 k1)] at hk
   simp only[zv,eq_self,k1,ne_eq,not_true_eq_false]
   exact⟨⟨S0 w4 f4,F56.k9.to (hk w4 (hn1.fr.trans f4))⟩,trivial⟩
  ·simp only[zv,k1,ne_eq,not_false_eq_true]
   refine C.ao (v:=y4x (some ⟨A.Q.co,0,none⟩)) (fun w' hw=>⟨_,_,_,hw.1,rfl⟩) (C.ao (v:=y4w j6 s.t) (fun w' hw=>⟨_,_,_,hw.2,rfl⟩) ⟨qej h4.co ⟨S0 w4 f4,?_⟩,trivial⟩)
   cases el:x.co.r.live s.t with
   | true=>
    rw[if_neg (fun e=>e.2 el)] at hk
    try simp only[zv]
    exact F56.k9.to (hk w4 (hn1.fr.trans f4))
   | false=>
    rw[if_pos ⟨k1,by simp[el]⟩] at hk
    try simp only[zv]
    exact hk w4 (hn1.fr.trans f4)
 by_cases k1:s.kd=1
 ·simp only[zv,eq_self,k1]
  refine C.ao (v:=y4x (some ⟨A.Q.co,0,none⟩)) (fun w' hw=>⟨_,_,_,hw.1,rfl⟩) (C.ao (v:=y4w j6 s.t) (fun w' hw=>⟨_,_,_,hw.2,rfl⟩) ⟨qej h3.co ⟨S3,?_⟩,trivial⟩)
  cases el:x.co.r.live s.t with
  | true=>
   rw[if_pos ⟨k1,el⟩] at hk
   try simp only[C.ah]
   exact hk w3 (hn1.fr.trans f3)
  | false=>
   try simp only[C.ac]
   have:=second (fun e=>by simp[el] at e)
   try simp only[zv] at this
   exact this
 ·simp only[zv,k1]
  have:=second (fun e=>k1 e.1)
  try simp only[zv] at this
  exact⟨⟨S3,this⟩,trivial⟩
end
def mks:List Int:=[0,1,1,49,33,1,1,3,1,7,15,11,3,33,1,49,32,0]
def qfg (s:Stp):Value := .agg #[y4w j6 s.t,y4w j6 s.i,y4w j6 s.f,y4w j6 s.j,y4w j6 s.cost]
section
variable {K:VK} {w:World}
theorem zew (s:Stp) {i:Nat} (hi:i<5):(Instr.index 158 (qfg s) (y4w j6 (i:Int))).run y5c w = .ok (y4w j6 (s.small.getD i 0)) w:=by
 have:i=0∨i=1∨i=2∨i=3∨i=4:=by omega
 rcases this with h | h | h | h | h <;> subst h
 ·show (Instr.index 158 (qfg s) (y4w j6 0)).run y5c w = .ok (y4w j6 s.t) w;kernel_rfl
 ·show (Instr.index 158 (qfg s) (y4w j6 1)).run y5c w = .ok (y4w j6 s.i) w;kernel_rfl
 ·show (Instr.index 158 (qfg s) (y4w j6 2)).run y5c w = .ok (y4w j6 s.f) w;kernel_rfl
 ·show (Instr.index 158 (qfg s) (y4w j6 3)).run y5c w = .ok (y4w j6 s.j) w;kernel_rfl
 ·show (Instr.index 158 (qfg s) (y4w j6 4)).run y5c w = .ok (y4w j6 s.cost) w;kernel_rfl
theorem qlh {k:Int} (h1:1≤k) (h2:k≤17):k=1∨k=2∨k=3∨k=4∨k=5∨k=6∨k=7∨k=8∨k=9∨k=10∨k=11∨k=12∨k=13∨k=14∨k=15∨k=16∨k=17:=by omega
theorem zgd {k:Int} (h1:1≤k) (h2:k≤17):(Instr.index 213 (.agg #[y4w j6 0,y4w j6 1,y4w j6 1,y4w j6 49,y4w j6 33,y4w j6 1,y4w j6 1,y4w j6 3,y4w j6 1,y4w j6 7,y4w j6 15,y4w j6 11,y4w j6 3,y4w j6 33,y4w j6 1,y4w j6 49,y4w j6 32,y4w j6 0]) (y4w j6 k)).run y5c w = .ok (y4w j6 (mks.getD k.toNat 0)) w:=by
 rcases qlh h1 h2 with h | h | h | h | h | h | h | h | h | h | h | h | h | h | h | h | h <;> subst h <;> kernel_rfl
theorem quv {k:Int} (h1:1≤k) (h2:k≤17) (h:K (y4w j6 (mks.getD k.toNat 0)) w):C.i y5c 96 #[y4w j6 k] w K:=by
 refine F96.sh (C.a4 (w':=w) (v := .agg #[y4w j6 0,y4w j6 1,y4w j6 1,y4w j6 49,y4w j6 33,y4w j6 1,y4w j6 1,y4w j6 3,y4w j6 1,y4w j6 7,y4w j6 15,y4w j6 11,y4w j6 3,y4w j6 33,y4w j6 1,y4w j6 49,y4w j6 32,y4w j6 0]) (by kernel_rfl) (C.a4 (zgd h1 h2) h))
theorem zgr {k:Int} (h1:1≤k) (h2:k≤17) {i:Nat} (hi:i<5) (x y x' y':Operand):∃a b:Int,(∀w,(do eqGuard .shr 3 x y (y4w j6 (mks.getD k.toNat 0)) (y4w j6 (i:Int));binOp .shr 3 (y4w j6 (mks.getD k.toNat 0)) (y4w j6 (i:Int)):Sem Value).run y5c w = .ok (y4w j6 a) w)∧
  (∀w,(do eqGuard .and 3 x' y' (y4w j6 a) (y4w j6 1);binOp .and 3 (y4w j6 a) (y4w j6 1):Sem Value).run y5c w = .ok (y4w j6 b) w)∧(b=0↔(qa8 k).getD i false=false):=by
 have sh:∀(m:Int) (j:Nat),j<5→∀w,(do eqGuard .shr 3 x y (y4w j6 m) (y4w j6 (j:Int));binOp .shr 3 (y4w j6 m) (y4w j6 (j:Int)):Sem Value).run y5c w = .ok (y4w j6 (m / 2 ^ j)) w:=fun m j hj w=>by
  simp only[y4g,qat,y2m]
  show (Op.shift .shr j6 m j6 j).run y5c w=_
  have a1:¬((j:Int)<0):=by omega
  have a2:min (j:Int).toNat 64=j:=by omega
  simp[]
 refine⟨_,_,sh _ i hi,fun w=>qpl _ _ _,?_⟩
 rcases qlh h1 h2 with h | h | h | h | h | h | h | h | h | h | h | h | h | h | h | h | h <;> subst h <;> (match i,hi with
  | 0,_=>decide
  | 1,_=>decide
  | 2,_=>decide
  | 3,_=>decide
  | 4,_=>decide)
theorem qsf {s:Stp} (h:∀w',Fr [] w w'→K (qfg s) w'):C.i y5c 97 #[stV s] w K:=by
 refine F97.sh (C.av fun y w1 hn1=>C.av fun r w2 hn2=>?_)
 have l1:=hn1.is
 have l2:=hn2.is
 have s1:=hn1.fr.size
 have y2:=hn2.fr.at_ hn1.at_ (by simp)
 try simp only[zv]
 refine C.ad (v:=y4w j6 s.t) y2 rfl ?_
 refine C.ad (v:=y4w j6 s.i) y2 rfl ?_
 refine C.ad (v:=y4w j6 s.f) y2 rfl ?_
 refine C.ad (v:=y4w j6 s.j) y2 rfl ?_
 refine C.ad (v:=y4w j6 s.cost) y2 rfl (C.a4 (w':=w2) (v:=qfg s) (by kernel_rfl) ?_)
 refine C.a0 (x:=qfg s) hn2.at_ rfl (by simp[qfg,Value.cells,Value.oneCell']) rfl fun w3 hu=>C.ax hu.at_ rfl (h w3 ((hn1.fr.trans hn2.fr).then hu.fr (by simp;omega)))
theorem qj3 (s:Stp):s.small.length=5:=rfl
theorem qx6 {s:Stp} {y:Nat} {m:Value} (h1:s.small.any (fun n=>decide (n<0) || decide (255<n))=true→K (y4w j6 4) w) (h2:s.small.any (fun n=>decide (n<0) || decide (255<n))=false→F55.k10 K (y4x (some ⟨y,0,none⟩)) m w):
  ∀(d i:Nat),i+d=5→(s.small.take i).any (fun n=>decide (n<0) || decide (255<n))=false→F55.l5 K (y4x (some ⟨y,0,none⟩)) m (qfg s) (y4w j6 (i:Int)) w:=by
 intro d
 induction d with
 | zero=>
  intro i hi hz
  have e:i=5:=by omega
  subst e
  refine F55.l5.to ?_
  simp only[zv,show ¬(((5:Nat):Int)<5) by omega]
  exact h2 (by simpa[y1f (show s.small.length≤5 from y4q _)] using hz)
 | succ d ih=>
  intro i hi hz
  have hlt:i<s.small.length:=by rw[qj3];omega
  have e1:s.small.take (i+1)=s.small.take i ++ [s.small[i]]:=by rw[y2o,y0v hlt];rfl
  have eg:s.small.getD i 0=s.small[i]:=by simp[List.getD,hlt]
  refine F55.l5.to ?_
  simp only[zv,show (i:Int)<5 by omega]
  refine F55.k6.to (C.a4 (zew s (by omega)) ?_)
  rw[eg]
  have bad:(s.small[i]<0∨255<s.small[i])→K (y4w j6 4) w:=fun hb=>h1 (List.any_eq_true.2 ⟨_,y3g hlt,by simpa using hb⟩)
  by_cases c1:s.small[i]<0
  ·simp only[zv,c1]
   exact bad (.inl c1)
  ·by_cases c2:s.small[i]>255
   ·simp only[zv,c1,c2]
    exact bad (.inr c2)
   ·simp only[zv,c1,c2]
    refine F55.k9.to ?_
    try simp only[C.a6]
    rw[qab (n:=(i:Int)+1) (by omega)]
    refine ih (i+1) (by omega) ?_
    rw[e1,List.any_append,hz]
    simp;omega
theorem qxz {s:Stp} {y:Nat} (hk1:1≤s.kd) (hk2:s.kd≤17) (h1:(s.small.zip (qa8 s.kd)).any (fun y=>decide (y.1≠0) && !y.2)=true→K (y4w j6 16) w) (h2:(s.small.zip (qa8 s.kd)).any (fun y=>decide (y.1≠0) && !y.2)=false→F55.k16 K (y4x (some ⟨y,0,none⟩)) (y4w j6 (mks.getD s.kd.toNat 0)) w):
  ∀(d i:Nat),i+d=5→((s.small.zip (qa8 s.kd)).take i).any (fun y=>decide (y.1≠0) && !y.2)=false→F55.l11 K (y4x (some ⟨y,0,none⟩)) (y4w j6 (mks.getD s.kd.toNat 0)) (qfg s) (y4w j6 (i:Int)) w:=by
 have kl:(qa8 s.kd).length=6:=by
  unfold qa8
  repeat' split
  all_goals rfl
 have zl:(s.small.zip (qa8 s.kd)).length=5:=by rw[List.length_zip,qj3,kl];rfl
 intro d
 induction d with
 | zero=>
  intro i hi hz
  have e:i=5:=by omega
  subst e
  refine F55.l11.to ?_
  simp only[zv,show ¬(((5:Nat):Int)<5) by omega]
  exact h2 (by rw[y1f (by omega)] at hz;exact hz)
 | succ d ih=>
  intro i hi hz
  have hlt:i<s.small.length:=by rw[qj3];omega
  have hlk:i<(qa8 s.kd).length:=by omega
  have hlz:i<(s.small.zip (qa8 s.kd)).length:=by omega
  have ez:(s.small.zip (qa8 s.kd))[i]=(s.small[i],(qa8 s.kd)[i]):=by simp
  have e1:(s.small.zip (qa8 s.kd)).take (i+1)=(s.small.zip (qa8 s.kd)).take i ++ [(s.small[i],(qa8 s.kd)[i])]:=by rw[y2o,y0v hlz,ez];rfl
  have eg:s.small.getD i 0=s.small[i]:=by simp[List.getD,hlt]
  have ek:(qa8 s.kd).getD i false=(qa8 s.kd)[i]:=by simp[List.getD,hlk]
  refine F55.l11.to ?_
  simp only[zv,show (i:Int)<5 by omega]
  refine F55.k12.to (C.a4 (zew s (by omega)) ?_)
  rw[eg]
  have next:(decide (s.small[i]≠0) && !(qa8 s.kd)[i])=false→F55.k15 K (y4x (some ⟨y,0,none⟩)) (y4w j6 (mks.getD s.kd.toNat 0)) (qfg s) (y4w j6 (i:Int)) w:=fun hb=>by
   refine F55.k15.to ?_
   try simp only[C.a6]
   rw[qab (n:=(i:Int)+1) (by omega)]
   refine ih (i+1) (by omega) ?_
   rw[e1,List.any_append,hz]
   simpa using hb
  by_cases c1:s.small[i]=0
  ·simp only[zv,eq_self,c1,ne_eq,not_true_eq_false]
   exact next (by simp[c1])
  ·simp only[zv,c1,ne_eq,not_false_eq_true]
   obtain⟨a,b,q1,q2,q3⟩:=zgr hk1 hk2 (i:=i) (by omega) (.tmp 40) (.tmp 41) (.tmp 42) (.const (y4w j6 1))
   refine⟨_,q1 w,?_⟩
   refine⟨_,q2 w,?_⟩
   try simp only[C.az]
   rw[ek] at q3
   by_cases c2:b=0
   ·simp only[zv,eq_self,c2]
    exact h1 (List.any_eq_true.2 ⟨_,y3g hlz,by rw[ez];simp[c1,q3.1 c2]⟩)
   ·simp only[zv,c2]
    refine next ?_
    cases hh:(qa8 s.kd)[i] with
    | true=>simp
    | false=>exact absurd (q3.2 hh) c2
theorem zf8 {k:Int} (h1:1≤k) (h2:k≤17) (x y:Operand):∃b:Int,(∀w,(do eqGuard .and 3 x y (y4w j6 (mks.getD k.toNat 0)) (y4w j6 32);binOp .and 3 (y4w j6 (mks.getD k.toNat 0)) (y4w j6 32):Sem Value).run y5c w = .ok (y4w j6 b) w)∧(b=0↔(qa8 k).getD 5 false=false):=by
 have go:∀(m b:Int),(Op.intBits .and j6 m 32:Sem Value)=pure (y4w j6 b)→∀w,(do eqGuard .and 3 x y (y4w j6 m) (y4w j6 32);binOp .and 3 (y4w j6 m) (y4w j6 32):Sem Value).run y5c w = .ok (y4w j6 b) w:=fun m b hb w=>by
  simp only[y4g,qat,y2m]
  show (Op.intBits .and j6 m 32).run y5c w=_
  rw[hb];rfl
 rcases qlh h1 h2 with h | h | h | h | h | h | h | h | h | h | h | h | h | h | h | h | h <;> subst h <;> first | exact⟨32,go _ _ (by rfl),by decide⟩ | exact⟨0,go _ _ (by rfl),by decide⟩
theorem zax {s:Stp} (hk:∀w',Fr [] w w'→K (y4w j6 s.check) w'):C.i y5c 55 #[stV s] w K:=by
 refine F55.sh (C.av fun y w1 hn1=>?_)
 have l1:=hn1.is
 have y1:=hn1.at_
 unfold Stp.check at hk
 try simp only[zv]
 refine C.ad (v:=y4w j6 s.kd) y1 rfl ?_
 by_cases c1:s.kd<1
 ·simp only[zv,c1]
  rw[if_pos (.inl c1)] at hk
  exact hk w1 hn1.fr
 simp only[zv,c1]
 refine C.ad (v:=y4w j6 s.kd) y1 rfl ?_
 by_cases c2:s.kd>17
 ·simp only[zv,c2]
  rw[if_pos (.inr c2)] at hk
  exact hk w1 hn1.fr
 simp only[zv,c2]
 rw[if_neg (show ¬(s.kd<1∨17<s.kd) by omega)] at hk
 have k1:1≤s.kd:=by omega
 have k2:s.kd≤17:=by omega
 refine F55.k3.to ?_
 try simp only[zv]
 refine C.ad (v:=y4w j6 s.kd) y1 rfl (quv k1 k2 (C.ax y1 rfl (qsf (s:=s) fun w2 hf2=>?_)))
 have f2:=hn1.fr.trans hf2
 have y2:=hf2.at_ y1 (by simp)
 refine qx6 (s:=s) (fun hb=>?_) (fun hb=>?_) 5 0 (by omega) (by simp)
 ·rw[if_pos hb] at hk
  exact hk w2 f2
 rw[if_neg (by rw[hb];simp)] at hk
 refine F55.k10.to (C.ax y2 rfl (qsf (s:=s) fun w3 hf3=>?_))
 have f3:=f2.trans hf3
 have y3:=hf3.at_ y2 (by simp)
 refine qxz (s:=s) k1 k2 (fun hc=>?_) (fun hc=>?_) 5 0 (by omega) (by simp)
 ·rw[if_pos hc] at hk
  exact hk w3 f3
 rw[if_neg (by rw[hc];simp)] at hk
 refine F55.k16.to ?_
 try simp only[zv]
 refine C.ad (v:=y4w j6 s.n) y3 rfl ?_
 by_cases c3:s.n=0
 ·rw[if_neg (fun e=>e.1 c3)] at hk
  simp only[zv,eq_self,c3,ne_eq,not_true_eq_false]
  exact F55.k18.to (hk w3 f3)
 ·simp only[zv,c3,ne_eq,not_false_eq_true]
  obtain⟨b,q1,q2⟩:=zf8 k1 k2 (.tmp 51) (.const (y4w j6 32))
  refine⟨_,q1 w3,?_⟩
  try simp only[C.az]
  by_cases c4:b=0
  ·rw[if_pos ⟨c3,q2.1 c4⟩] at hk
   simp only[zv,eq_self,c4]
   exact hk w3 f3
  ·rw[if_neg (fun e=>c4 (q2.2 e.2))] at hk
   simp only[zv,c4]
   exact F55.k18.to (hk w3 f3)
end
end Go.Proofs.YtcakfaakbpdklaaGreatDoorV
