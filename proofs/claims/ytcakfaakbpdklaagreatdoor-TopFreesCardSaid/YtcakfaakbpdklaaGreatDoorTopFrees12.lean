/- Part 12 of what the law needs: own lemmas, in the order in which they build. -/
import Derived.Test.YtcakfaakbpdklaaGreatDoorProg
import Derived.Test.YtcakfaakbpdklaaGreatDoorTopFrees11
set_option linter.unusedSimpArgs false
set_option linter.unusedVariables false
set_option maxRecDepth 100000
namespace Go.Proofs.YtcakfaakbpdklaaGreatDoorV
open Go Go.Proofs Go.RowKit
open Go.Proofs.Tryz renaming prog→y5c
structure Kad where
 H:Had
 co:Nat
 re:Nat
 bu:Nat
 rv:Value
 bv:Value
structure Mv where
 lv:Value
 vs:List Value
 ts:List Value
def Mv.all (m:Mv):List Nat:=qaa m.lv ++ (qbp m.vs ++ qbp m.ts)
def Kad.fix (C:Kad):List Nat:=C.co :: C.re :: C.bu :: (qaa C.rv ++ qaa C.bv)
structure Kad.Ok (C:Kad):Prop where
 dj:∀x∈C.fix,x∉C.H.fix ++ C.H.D.all
 lo:∀x∈C.fix,x<C.H.N
def Kad.S (C:Kad) (m:Mv):List Nat:=C.fix ++ (C.H.fix ++ (C.H.D.all.tail ++ m.all))
def Kad.all (C:Kad) (m:Mv):List Nat:=C.fix ++ (C.H.fix ++ (C.H.D.all ++ m.all))
structure CTo (C:Kad) (m:Mv) (w:World) (m':Mv) (w':World):Prop where
 fr:Fr (C.S m) w w'
 gr:∀x∈m'.all,x∈m.all∨w.heap.size≤x
theorem CTo.refl (C:Kad) (m:Mv) (w:World):CTo C m w m w:=⟨Fr.refl _ _,fun x hx => .inl hx⟩
theorem CTo.w {C:Kad} {m:Mv} {a b:World} (h:Fr [] a b):CTo C m a m b:=⟨h.w,fun x hx => .inl hx⟩
theorem CTo.trans {C:Kad} {m m' m'':Mv} {w w' w'':World} (h:CTo C m w m' w') (k:CTo C m' w' m'' w''):CTo C m w m'' w'':=
 ⟨h.fr.then k.fr fun x hx=>by
  simp only[Kad.S,y3q] at hx ⊢
  rcases hx with c | c | c | c
  ·exact .inl (.inl c)
  ·exact .inl (.inr (.inl c))
  ·exact .inl (.inr (.inr (.inl c)))
  ·rcases h.gr x c with d | d
   ·exact .inl (.inr (.inr (.inr d)))
   ·exact .inr d,fun x hx=>by
  rcases k.gr x hx with c | c
  ·exact h.gr x c
  ·have:=h.fr.size;exact .inr (by omega)⟩
theorem Sad.subT (D:Sad):∀x∈D.S,x∈D.all.tail:=fun x hx=>by
 simp only[Sad.S,Sad.all,List.tail_cons,y4b] at hx ⊢
 rcases hx with h | h | h
 ·simp[h]
 ·simp[h]
 ·exact .inr (.inr (.inr (D.A.sub x h)))
theorem CTo.h {C:Kad} {m:Mv} {lv':Value} {w w':World} (h:HTo C.H m.lv w lv' w'):CTo C m w { m with lv:=lv' } w':=
 ⟨h.fr.mono fun x hx=>by
  simp only[Had.S,Gad.S,y4b,y3q] at hx
  simp only[Kad.S,Mv.all,y3q]
  rcases hx with d | d | (d | d | d) | d
  ·exact .inr (.inl (by simp[Had.fix,d]))
  ·exact .inr (.inl (by simp[Had.fix,d]))
  ·exact .inr (.inl (by simp[Had.fix,d]))
  ·exact .inr (.inl (by simp[Had.fix,d]))
  ·exact .inr (.inr (.inr (.inl d)))
  ·exact .inr (.inr (.inl (C.H.D.subT x d))),fun x hx=>by
  simp only[Mv.all,y3q] at hx ⊢
  rcases hx with c | c
  ·rcases h.gr x c with d | d
   ·exact .inl (.inl d)
   ·exact .inr d
  ·exact .inl (.inr c)⟩
theorem CTo.f {C:Kad} {m:Mv} {vs':List Value} {w w':World} (h:FTo C.bv m.vs w vs' w'):CTo C m w { m with vs:=vs' } w':=
 ⟨h.fr.mono fun x hx=>by
  rw[y3q] at hx
  simp only[Kad.S,Kad.fix,Mv.all,y3q,y4b]
  rcases hx with d | d
  ·exact .inl (.inr (.inr (.inr (.inr d))))
  ·exact .inr (.inr (.inr (.inr (.inl d)))),fun x hx=>by
  simp only[Mv.all,y3q] at hx ⊢
  rcases hx with c | c | c
  ·exact .inl (.inl c)
  ·rcases h.gr x c with d | d
   ·exact .inl (.inr (.inl d))
   ·exact .inr d
  ·exact .inl (.inr (.inr c))⟩
theorem CTo.r {C:Kad} {m:Mv} {w w':World} (h:Fr (C.re :: qaa C.rv) w w'):CTo C m w m w':=
 ⟨h.mono fun x hx=>by
  simp only[y4b] at hx
  simp only[Kad.S,Kad.fix,y3q,y4b]
  rcases hx with d | d
  ·exact .inl (.inr (.inl d))
  ·exact .inl (.inr (.inr (.inr (.inl d)))),fun x hx => .inl hx⟩
theorem CTo.c {C:Kad} {m:Mv} {w w':World} (h:Fr [C.co] w w'):CTo C m w m w':=
 ⟨h.mono fun x hx=>by simp only[y2d] at hx;simp[Kad.S,Kad.fix,hx],fun x hx => .inl hx⟩
theorem CTo.t {C:Kad} {m:Mv} {j:Nat} {tv':Value} {w w':World} (hj:j<m.ts.length) (h:Fr (C.co :: qaa m.ts[j]) w w') (hg:∀x∈qaa tv',x∈qaa m.ts[j]∨w.heap.size≤x):CTo C m w { m with ts:=m.ts.set j tv' } w':=
 ⟨h.mono fun x hx=>by
  simp only[y4b] at hx
  simp only[Kad.S,Kad.fix,Mv.all,y3q,y4b]
  rcases hx with d | d
  ·exact .inl (.inl d)
  ·exact .inr (.inr (.inr (.inr (.inr (qcf hj d))))),fun x hx=>by
  simp only[Mv.all,y3q] at hx ⊢
  rcases hx with c | c | c
  ·exact .inl (.inl c)
  ·exact .inl (.inr (.inl c))
  ·rcases qdg c with d | d
   ·exact .inl (.inr (.inr d))
   ·rcases hg x d with e | e
    ·exact .inl (.inr (.inr (qcf hj e)))
    ·exact .inr e⟩
structure CoC (C:Kad) (m:Mv) (c:Co) (cs:Array Value):Prop where
 sz:cs.size=28
 s0:cs[0]?=some (.pointer (some ⟨C.H.D.st,0,none⟩))
 s1:cs[1]?=some (.pointer (some ⟨C.H.G.gr,0,none⟩))
 s12:cs[12]?=some (.pointer (some ⟨C.re,0,none⟩))
 s13:cs[13]?=some (.pointer (some ⟨C.bu,0,none⟩))
 s14:cs[14]?=some (.pointer (some ⟨C.H.tr,0,none⟩))
 s15:cs[15]?=some (.pointer (some ⟨C.H.sw,0,none⟩))
 ts:∀j,j<8→cs[16+j]?=m.ts[j]?
 s24:cs[24]?=some (.int .i64 c.global)
 s25:cs[25]?=some (.int .i64 c.phase)
 s26:cs[26]?=some (.int .i64 c.cycles)
 s27:cs[27]?=some (.int .i64 c.units)
structure qai (C:Kad) (m:Mv) (cf:Cf) (w:World) (c:Co):Prop where
 ok:C.Ok
 hp:qas C.H m.lv cf w c
 blk:∃cs:Array Value,w.heap[C.co]?=some (.cells cs 132 (0,0))∧CoC C m c cs
 rg:qbw C.re C.rv w c.r
 fb:qbv C.bu C.bv m.vs w c.b
 th:Fam w 60 2 m.ts (c.th.map vaC)
 tl:c.th.length=8
 t16:∀l∈c.th,l.length≤16
 hv:∀x∈qbp m.vs,C.H.N≤x
 ht:∀x∈qbp m.ts,C.H.N≤x
section
variable {w w':World} {C:Kad} {m:Mv} {cf:Cf} {c:Co}
theorem Fam.nb {e:TypeId} {sz:Nat} {vs:List Value} {xs:List (List (List Value))} {g:Nat} {cs:Array Value} {e':TypeId} {fz:Nat × Nat} (h:Fam w e sz vs xs) (hg:w.heap[g]?=some (.cells cs e' fz)) (he:e≠e'):g∉qbp vs:=fun hx=>by
 obtain⟨v,hv,hx⟩:=qec.1 hx
 obtain⟨i,hi,rfl⟩:=y1y hv
 exact (h.row i hi (by have:=h.len;omega)).nb hg he hx
theorem Fam.ne {e e':TypeId} {sz sz':Nat} {vs:List Value} {xs:List (List (List Value))} {v:Value} {ys:List (List Value)} (h:Fam w e sz vs xs) (ho:qad w v e' sz' ys) (he:e≠e'):∀x∈qbp vs,x∉qaa v:=fun x hx hv'=>by
 obtain⟨v,hv,hx⟩:=qec.1 hx
 obtain⟨i,hi,rfl⟩:=y1y hv
 exact (h.row i hi (by have:=h.len;omega)).ne ho he x hx hv'
theorem Fam.nf {e e':TypeId} {sz sz':Nat} {vs us:List Value} {xs ys:List (List (List Value))} (h:Fam w e sz vs xs) (h':Fam w e' sz' us ys) (he:e≠e'):∀x∈qbp vs,x∉qbp us:=fun x hx hu=>by
 obtain⟨v,hv,hu⟩:=qec.1 hu
 obtain⟨i,hi,rfl⟩:=y1y hv
 exact h.ne (h'.row i hi (by have:=h'.len;omega)) he x hx hu
theorem qai.low (h:qai C m cf w c) {x:Nat} (hx:x∈C.fix ++ (C.H.fix ++ C.H.D.all)):x<C.H.N:=by
 rw[y3q] at hx
 rcases hx with d | d
 ·exact h.ok.lo x d
 ·exact h.hp.ok.lo x d
theorem qai.farH (h:qai C m cf w c) {x:Nat} (hx:x∈C.fix∨x∈qbp m.vs∨x∈qbp m.ts):x∉C.H.S m.lv:=fun e=>by
 have e':=C.H.subS m.lv x e
 simp only[Had.all,y3q] at e'
 rcases hx with d | d | d
 ·have hlo:=h.ok.lo x d
  rcases e' with f | f | f
  ·exact h.ok.dj x d (by simp[f])
  ·exact h.ok.dj x d (by simp[f])
  ·have:=h.hp.hi x f;omega
 ·have hhi:=h.hv x d
  rcases e' with f | f | f
  ·have:=h.low (x:=x) (by simp[f]);omega
  ·have:=h.low (x:=x) (by simp[f]);omega
  ·exact h.fb.fam.ne h.hp.gy.stk.own (by decide) x d f
 ·have hhi:=h.ht x d
  rcases e' with f | f | f
  ·have:=h.low (x:=x) (by simp[f]);omega
  ·have:=h.low (x:=x) (by simp[f]);omega
  ·exact h.th.ne h.hp.gy.stk.own (by decide) x d f
theorem qai.keep {S:List Nat} (h:qai C m cf w c) (hf:Fr S w w') (ha:∀x∈C.all m,x∉S):qai C m cf w' c:=by
 obtain⟨cs,b1,b2⟩:=h.blk
 refine⟨h.ok,h.hp.keep hf (fun x hx=>ha x ?_),⟨cs,hf.at_ b1 (ha _ (by simp[Kad.all,Kad.fix])),b2⟩,h.rg.keep hf (ha _ (by simp[Kad.all,Kad.fix])) (fun x hx=>ha x (by simp[Kad.all,Kad.fix,hx])),h.fb.keep hf (ha _ (by simp[Kad.all,Kad.fix])) (fun x hx=>ha x (by simp[Kad.all,Kad.fix,hx])) (fun x hx=>ha x (by simp[Kad.all,Mv.all,hx])),h.th.keep hf (fun x hx=>ha x (by simp[Kad.all,Mv.all,hx])),h.tl,h.t16,h.hv,h.ht⟩
 simp only[Had.all,y3q] at hx
 rcases hx with d | d | d <;> simp[Kad.all,Mv.all,d]
theorem qai.keep0 (h:qai C m cf w c) (hf:Fr [] w w'):qai C m cf w' c:=h.keep hf (by simp)
theorem qai.setH {lv':Value} {c':Co} (h:qai C m cf w c) (hf:HTo C.H m.lv w lv' w') (hh:qas C.H lv' cf w' c') (er:c'.r=c.r) (eb:c'.b=c.b) (et:c'.th=c.th) (eg:c'.global=c.global) (ep:c'.phase=c.phase) (ey:c'.cycles=c.cycles) (eu:c'.units=c.units):
  qai C { m with lv:=lv' } cf w' c':=by
 obtain⟨cs,b1,b2⟩:=h.blk
 have fx:∀x∈C.fix,x∉C.H.S m.lv:=fun x hx=>h.farH (.inl hx)
 refine⟨h.ok,hh,⟨cs,hf.fr.at_ b1 (fx _ (by simp[Kad.fix])),b2.sz,b2.s0,b2.s1,b2.s12,b2.s13,b2.s14,b2.s15,b2.ts,by rw[eg];exact b2.s24,by rw[ep];exact b2.s25,by rw[ey];exact b2.s26,by rw[eu];exact b2.s27⟩,?_,?_,?_,by rw[et];exact h.tl,by rw[et];exact h.t16,h.hv,h.ht⟩
 ·rw[er];exact h.rg.keep hf.fr (fx _ (by simp[Kad.fix])) (fun x hx=>fx x (by simp[Kad.fix,hx]))
 ·rw[eb];exact h.fb.keep hf.fr (fx _ (by simp[Kad.fix])) (fun x hx=>fx x (by simp[Kad.fix,hx])) (fun x hx=>h.farH (.inr (.inl hx)))
 ·rw[et];exact h.th.keep hf.fr (fun x hx=>h.farH (.inr (.inr hx)))
theorem qai.len (h:qai C m cf w c):m.ts.length=8:=by have:=h.th.len;rw[y3t,h.tl] at this;exact this
theorem qai.ro (h:qai C m cf w c) {j:Nat} (hj:j<8):∃cs:Array Value,CoC C m c cs∧qcd w C.co (16+j) 132 cs (m.ts[j]'(by rw[h.len];exact hj)) (c.th[j]'(by rw[h.tl];exact hj)):=by
 obtain⟨cs,b1,b2⟩:=h.blk
 have hl:=h.len
 refine⟨cs,b2,b1,?_,?_,by decide,h.t16 _ (y3g _)⟩
 ·rw[b2.ts j hj,y0v (by omega)]
 ·have:=h.th.row j (by omega) (by rw[y3t,h.tl];exact hj)
  simpa using this
theorem qas.other {lv:Value} {H:Had} {c':Co} (h:qas H lv cf w c) (es:c'.s=c.s) (eg:c'.g=c.g) (et:c'.tp=c.tp) (ea:c'.at_=c.at_) (ef:c'.freed=c.freed):qas H lv cf w c':=
 ⟨h.ok,by rw[es];exact h.st,by rw[eg];exact h.gy,by rw[et];exact h.tb,by rw[ea,ef];exact h.sb,h.hi,h.le,h.pg,h.ck⟩
theorem qai.farA (h:qai C m cf w c) {x:Nat} (hx:x∈C.fix∨x∈qbp m.vs∨x∈qbp m.ts):∀y∈C.H.all m.lv,y≠x:=fun y hy e=>by
 subst e
 simp only[Had.all,y3q] at hy
 rcases hx with d | d | d
 ·have hlo:=h.ok.lo y d
  rcases hy with f | f | f
  ·exact h.ok.dj y d (by simp[f])
  ·exact h.ok.dj y d (by simp[f])
  ·have:=h.hp.hi y f;omega
 ·have hhi:=h.hv y d
  rcases hy with f | f | f
  ·have:=h.low (x:=y) (by simp[f]);omega
  ·have:=h.low (x:=y) (by simp[f]);omega
  ·exact h.fb.fam.ne h.hp.gy.stk.own (by decide) y d f
 ·have hhi:=h.ht y d
  rcases hy with f | f | f
  ·have:=h.low (x:=y) (by simp[f]);omega
  ·have:=h.low (x:=y) (by simp[f]);omega
  ·exact h.th.ne h.hp.gy.stk.own (by decide) y d f
theorem qai.setC {cs:Array Value} {c':Co} (h:qai C m cf w c) (hf:Fr [C.co] w w') (hb:w'.heap[C.co]?=some (.cells cs 132 (0,0))) (hc:CoC C m c' cs) (es:c'.s=c.s) (eg:c'.g=c.g) (etp:c'.tp=c.tp) (ea:c'.at_=c.at_) (ef:c'.freed=c.freed) (er:c'.r=c.r) (eb:c'.b=c.b) (et:c'.th=c.th):
  qai C m cf w' c':=by
 obtain⟨cs0,b1,b2⟩:=h.blk
 have n1:∀y∈C.H.all m.lv,y∉[C.co]:=fun y hy e=>h.farA (x:=C.co) (.inl (by simp[Kad.fix])) y hy (by simpa using e)
 refine⟨h.ok,(h.hp.keep hf n1).other es eg etp ea ef,⟨cs,hb,hc⟩,?_,?_,?_,by rw[et];exact h.tl,by rw[et];exact h.t16,h.hv,h.ht⟩
 ·rw[er]
  exact h.rg.keep hf (by simp only[y2d];exact qbc h.rg.blk b1 (by simp)) (fun x hx e=>by simp only[y2d] at e;subst e;exact h.rg.own.nb b1 (by decide) hx)
 ·rw[eb]
  exact h.fb.keep hf (by simp only[y2d];exact qbc h.fb.blk b1 (by simp)) (fun x hx e=>by simp only[y2d] at e;subst e;exact h.fb.own.nb b1 (by decide) hx) (fun x hx e=>by simp only[y2d] at e;subst e;exact h.fb.fam.nb b1 (by decide) hx)
 ·rw[et]
  exact h.th.keep hf (fun x hx e=>by simp only[y2d] at e;subst e;exact h.th.nb b1 (by decide) hx)
theorem qai.setR {r:Rg} (h:qai C m cf w c) (hf:Fr (C.re :: qaa C.rv) w w') (hr:qbw C.re C.rv w' r):qai C m cf w' { c with r:=r }:=by
 obtain⟨cs,b1,b2⟩:=h.blk
 have no:∀ {b:Nat} {cs:Array Value} {e:TypeId},w.heap[b]?=some (.cells cs e (0,0))→e≠183→e≠212→b∉C.re :: qaa C.rv:=fun hb h1 h2 hx=>by
  simp only[y4b] at hx
  rcases hx with c | c
  ·exact qbc hb h.rg.blk (by simp[h1]) c
  ·exact h.rg.own.nb hb (Ne.symm h2) c
 have n1:∀y∈C.H.all m.lv,y∉C.re :: qaa C.rv:=fun y hy e=>by
  refine h.farA (x:=y) (.inl ?_) y hy rfl
  simp only[y4b] at e
  rcases e with e | e <;> simp[Kad.fix,e]
 have n2:∀ {v:Value} {e:TypeId} {sz:Nat} {xs:List (List Value)},qad w v e sz xs→e≠183→e≠212→∀x∈qaa v,x∉C.re :: qaa C.rv:=fun ho h1 h2 x hx e=>by
  simp only[y4b] at e
  rcases e with e | e
  ·subst e;exact ho.nb h.rg.blk h1 hx
  ·exact ho.ne h.rg.own h2 x hx e
 refine⟨h.ok,(h.hp.keep hf n1).other rfl rfl rfl rfl rfl,⟨cs,hf.at_ b1 (no b1 (by decide) (by decide)),b2.sz,b2.s0,b2.s1,b2.s12,b2.s13,b2.s14,b2.s15,b2.ts,b2.s24,b2.s25,b2.s26,b2.s27⟩,hr,h.fb.keep hf (no h.fb.blk (by decide) (by decide)) (n2 h.fb.own (by decide) (by decide)) (fun x hx e=>?_),h.th.keep hf (fun x hx e=>?_),h.tl,h.t16,h.hv,h.ht⟩
 ·simp only[y4b] at e
  rcases e with e | e
  ·subst e;exact h.fb.fam.nb h.rg.blk (by decide) hx
  ·exact h.fb.fam.ne h.rg.own (by decide) x hx e
 ·simp only[y4b] at e
  rcases e with e | e
  ·subst e;exact h.th.nb h.rg.blk (by decide) hx
  ·exact h.th.ne h.rg.own (by decide) x hx e
theorem qai.setB {vs':List Value} {b:List (List Int)} (h:qai C m cf w c) (hf:FTo C.bv m.vs w vs' w') (hr:qbv C.bu C.bv vs' w' b):qai C { m with vs:=vs' } cf w' { c with b:=b }:=by
 obtain⟨cs,b1,b2⟩:=h.blk
 have no:∀ {b:Nat} {cs:Array Value} {e:TypeId},w.heap[b]?=some (.cells cs e (0,0))→e≠54→e≠3→b∉qaa C.bv ++ qbp m.vs:=fun hb h1 h2 hx=>by
  rw[y3q] at hx
  rcases hx with c | c
  ·exact h.fb.own.nb hb (Ne.symm h1) c
  ·exact h.fb.fam.nb hb (Ne.symm h2) c
 have n1:∀y∈C.H.all m.lv,y∉qaa C.bv ++ qbp m.vs:=fun y hy e=>by
  rw[y3q] at e
  rcases e with e | e
  ·exact h.farA (x:=y) (.inl (by simp[Kad.fix,e])) y hy rfl
  ·exact h.farA (x:=y) (.inr (.inl e)) y hy rfl
 refine⟨h.ok,(h.hp.keep hf.fr n1).other rfl rfl rfl rfl rfl,⟨cs,hf.fr.at_ b1 (no b1 (by decide) (by decide)),b2.sz,b2.s0,b2.s1,b2.s12,b2.s13,b2.s14,b2.s15,b2.ts,b2.s24,b2.s25,b2.s26,b2.s27⟩,h.rg.keep hf.fr (no h.rg.blk (by decide) (by decide)) (fun x hx e=>?_),hr,h.th.keep hf.fr (fun x hx e=>?_),h.tl,h.t16,fun x hx=>?_,h.ht⟩
 ·rw[y3q] at e
  rcases e with e | e
  ·exact h.rg.own.ne h.fb.own (by decide) x hx e
  ·exact h.fb.fam.ne h.rg.own (by decide) x e hx
 ·rw[y3q] at e
  rcases e with e | e
  ·exact h.th.ne h.fb.own (by decide) x hx e
  ·exact h.th.nf h.fb.fam (by decide) x hx e
 ·rcases hf.gr x hx with d | d
  ·exact h.hv x d
  ·have:=h.hp.le;omega
theorem qai.setT {j:Nat} {cs:Array Value} {tv':Value} {l:List V2} (h:qai C m cf w c) (hj:j<8) (hf:Fr (C.co :: qaa (m.ts[j]'(by rw[h.len];exact hj))) w w') (hc:CoC C m c cs) (hr:qcd w' C.co (16+j) 132 (cs.setIfInBounds (16+j) tv') tv' l)
  (hg:∀x∈qaa tv',x∈qaa (m.ts[j]'(by rw[h.len];exact hj))∨w.heap.size≤x):qai C { m with ts:=m.ts.set j tv' } cf w' { c with th:=c.th.set j l }:=by
 obtain⟨cs0,b1,b2⟩:=h.blk
 have hl:=h.len
 have hown:=h.th.row j (by omega) (by rw[y3t,h.tl];exact hj)
 have no:∀ {b:Nat} {cs:Array Value} {e:TypeId},w.heap[b]?=some (.cells cs e (0,0))→e≠132→e≠60→b∉C.co :: qaa (m.ts[j]'(by omega)):=fun hb h1 h2 hx=>by
  simp only[y4b] at hx
  rcases hx with c | c
  ·exact qbc hb b1 (by simp[h1]) c
  ·exact hown.nb hb (Ne.symm h2) c
 have n2:∀ {v:Value} {e:TypeId} {sz:Nat} {xs:List (List Value)},qad w v e sz xs→e≠132→e≠60→∀x∈qaa v,x∉C.co :: qaa (m.ts[j]'(by omega)):=fun ho h1 h2 x hx e=>by
  simp only[y4b] at e
  rcases e with e | e
  ·subst e;exact ho.nb b1 h1 hx
  ·exact ho.ne hown h2 x hx e
 have n1:∀y∈C.H.all m.lv,y∉C.co :: qaa (m.ts[j]'(by omega)):=fun y hy e=>by
  simp only[y4b] at e
  rcases e with e | e
  ·exact h.farA (x:=C.co) (.inl (by simp[Kad.fix])) y hy e
  ·exact h.farA (x:=y) (.inr (.inr (qcf (by omega) e))) y hy rfl
 have e1:(c.th.map vaC).set j (vaC l)=(c.th.set j l).map vaC:=by simp
 refine⟨h.ok,(h.hp.keep hf n1).other rfl rfl rfl rfl rfl,⟨_,hr.blk,?_⟩,h.rg.keep hf (no h.rg.blk (by decide) (by decide)) (n2 h.rg.own (by decide) (by decide)),h.fb.keep hf (no h.fb.blk (by decide) (by decide)) (n2 h.fb.own (by decide) (by decide)) (fun x hx e=>?_),?_,by simp[h.tl],fun x hx=>?_,h.hv,fun x hx=>?_⟩
 ·have far:∀i,i<16∨24≤i→(cs.setIfInBounds (16+j) tv')[i]?=cs[i]?:=fun i hi=>by
   rw[y0e,if_neg (by omega)]
  refine⟨by simp[hc.sz],by rw[far 0 (by omega)];exact hc.s0,by rw[far 1 (by omega)];exact hc.s1,by rw[far 12 (by omega)];exact hc.s12,by rw[far 13 (by omega)];exact hc.s13,by rw[far 14 (by omega)];exact hc.s14,by rw[far 15 (by omega)];exact hc.s15,fun i hi=>?_,by rw[far 24 (by omega)];exact hc.s24,by rw[far 25 (by omega)];exact hc.s25,by rw[far 26 (by omega)];exact hc.s26,by rw[far 27 (by omega)];exact hc.s27⟩
  rw[y0e]
  by_cases e:16+j=16+i
  ·have:j=i:=by omega
   subst this
   rw[if_pos rfl,if_pos (by rw[hc.sz];omega)]
   simp[show j<m.ts.length by omega]
  ·rw[if_neg e,hc.ts i hi,List.getElem?_set_ne (by omega)]
 ·simp only[y4b] at e
  rcases e with e | e
  ·subst e;exact h.fb.fam.nb b1 (by decide) hx
  ·exact h.fb.fam.ne hown (by decide) x hx e
 ·rw[←e1]
  refine h.th.set (S:=C.co :: qaa (m.ts[j]'(by omega))) (by omega) hf (fun i hi hij y hy e=>?_) hr.own hg
  simp only[y4b] at e
  rcases e with e | e
  ·subst e;exact h.th.nb b1 (by decide) (qcf hi hy)
  ·exact h.th.dj i j hi (by omega) hij y hy e
 ·rcases y0r hx with d | d
  ·exact h.t16 x d
  ·rw[d];exact hr.le
 ·rcases qdg hx with d | d
  ·exact h.ht x d
  ·rcases hg x d with e | e
   ·exact h.ht x (qcf (by omega) e)
   ·have:=h.hp.le;omega
end
section
variable {K:VK} {w w':World} {Q:Kad} {m:Mv} {cf:Cf} {c:Co}
theorem qei (h:qai Q m cf w c) (hk:K (.bool true) w):C.i y5c 88 #[.pointer (some ⟨Q.co,0,none⟩)] w K:=by
 obtain⟨cs,b1,b2⟩:=h.blk
 refine F88.sh ⟨_,qa0 _ _ _ Tryz.underlying86,?_⟩
 try simp only[zv]
 refine C.ad (v := .pointer (some ⟨Q.H.D.st,0,none⟩)) b1 b2.s0 ⟨_,qa0 _ _ _ Tryz.underlying118,?_⟩
 exact hk
theorem qej {t:Int} (h:qai Q m cf w c) (hk:K (.bool (c.r.live t)) w):C.i y5c 53 #[.pointer (some ⟨Q.co,0,none⟩),.int .i64 t] w K:=by
 obtain⟨cs,b1,b2⟩:=h.blk
 refine F53.sh (qei h ?_)
 try simp only[zv]
 refine C.ad (v := .pointer (some ⟨Q.re,0,none⟩)) b1 b2.s12 (ql0 h.rg ?_)
 exact hk
theorem qfz {a:Int} (h:qai Q m cf w c) (hk:K (.int .i64 (c.s.serial a)) w):C.i y5c 49 #[.pointer (some ⟨Q.co,0,none⟩),.int .i64 a] w K:=by
 obtain⟨cs,b1,b2⟩:=h.blk
 refine F49.sh (qei h ?_)
 try simp only[zv]
 refine F49.k3.to ?_
 try simp only[zv]
 exact C.ad (v := .pointer (some ⟨Q.H.D.st,0,none⟩)) b1 b2.s0 (qvj h.hp.st hk)
theorem qnq {a:Int} (h:qai Q m cf w c) (hk:K (.int .i64 (c.s.fields a)) w):C.i y5c 90 #[.pointer (some ⟨Q.co,0,none⟩),.int .i64 a] w K:=by
 obtain⟨cs,b1,b2⟩:=h.blk
 refine F90.sh (qei h ?_)
 try simp only[zv]
 refine F90.k3.to ?_
 try simp only[zv]
 exact C.ad (v := .pointer (some ⟨Q.H.D.st,0,none⟩)) b1 b2.s0 (qf1 h.hp.st hk)
theorem qtj (h:qai Q m cf w c) (hk:∀v w',Fr [] w w'→qaj w v→qad w' v 3 1 (qag c.s.objects)→K v w'):C.i y5c 51 #[.pointer (some ⟨Q.co,0,none⟩)] w K:=by
 obtain⟨cs,b1,b2⟩:=h.blk
 refine F51.sh (qei h ?_)
 try simp only[zv]
 refine F51.k3.to ?_
 try simp only[zv]
 exact C.ad (v := .pointer (some ⟨Q.H.D.st,0,none⟩)) b1 b2.s0 (qnu h.hp.st hk)
theorem qr6 {a i:Int} (h:qai Q m cf w c) (hk:∀w',Fr [] w w'→K (.tuple #[V (c.s.get a i).1.1 (c.s.get a i).1.2,.bool (c.s.get a i).2]) w'):
  C.i y5c 91 #[.pointer (some ⟨Q.co,0,none⟩),.int .i64 a,.int .i64 i] w K:=by
 refine F91.sh (C.av fun x w1 hn=>?_)
 have h1:=h.keep0 hn.fr
 have l1:=hn.is
 obtain⟨cs,b1,b2⟩:=h1.blk
 refine qei h1 ?_
 try simp only[zv]
 refine F91.k3.to ?_
 try simp only[zv]
 refine C.ad (v := .pointer (some ⟨Q.H.D.st,0,none⟩)) b1 b2.s0 (qti h1.hp.st fun w2 hf2=>?_)
 try simp only[zv]
 exact C.a0 (x:=V (c.s.get a i).1.1 (c.s.get a i).1.2) (hf2.at_ hn.at_ (by simp)) rfl qal rfl fun w3 hu=>C.ax hu.at_ rfl (hk w3 ((hn.fr.trans hf2).then hu.fr (by simp;omega)))
theorem qh9 (h:qai Q m cf w c) (hk:K (.int .i64 c.phase) w):C.i y5c 59 #[.pointer (some ⟨Q.co,0,none⟩)] w K:=by
 obtain⟨cs,b1,b2⟩:=h.blk
 refine F59.sh (qei h ?_)
 try simp only[zv]
 refine F59.k3.to ?_
 try simp only[zv]
 exact C.ad b1 b2.s25 hk
theorem qu1 (h:qai Q m cf w c) (hk:K (.int .i64 c.cycles) w):C.i y5c 60 #[.pointer (some ⟨Q.co,0,none⟩)] w K:=by
 obtain⟨cs,b1,b2⟩:=h.blk
 refine F60.sh (qei h ?_)
 try simp only[zv]
 refine F60.k3.to ?_
 try simp only[zv]
 exact C.ad b1 b2.s26 hk
theorem qnr (h:qai Q m cf w c) (hk:K (.int .i64 c.global) w):C.i y5c 83 #[.pointer (some ⟨Q.co,0,none⟩)] w K:=by
 obtain⟨cs,b1,b2⟩:=h.blk
 refine F83.sh (qei h ?_)
 try simp only[zv]
 refine F83.k3.to ?_
 try simp only[zv]
 exact C.ad b1 b2.s24 hk
theorem qh1 (h:qai Q m cf w c) {t:Int} (hl:c.r.live t=true):∃j:Nat,t=(j:Int)∧j<8:=by
 obtain⟨j,e,hj,_⟩:=qkk hl
 have:=h.rg.le
 exact⟨j,e,by omega⟩
theorem qgr {t:Int} (h:qai Q m cf w c) (hk:∀v w',Fr [] w w'→qad w' v 60 2 (vaC (c.roots t))→qaj w v→K v w'):C.i y5c 47 #[.pointer (some ⟨Q.co,0,none⟩),.int .i64 t] w K:=by
 refine F47.sh (qej h ?_)
 unfold Co.roots at hk
 cases z:c.r.live t with
 | false=>
  rw[z] at hk
  simp only[zv]
  exact hk _ w (Fr.refl _ _) (qad.nil _ _ _) (qaj.nil _)
 | true=>
  rw[z] at hk
  obtain⟨j,rfl,hj⟩:=qh1 h z
  obtain⟨cs,b2,hr⟩:=h.ro hj
  simp only[zv]
  refine F47.k3.to ?_
  try simp only[zv]
  refine C.bq (by omega) (by omega) ?_
  rw[y2t,y4t]
  have e:c.th.getD j []=c.th[j]'(by rw[h.tl];exact hj):=by simp[List.getD,h.tl,hj]
  refine qvd hr fun v w1 hf1 ho hn=>hk v w1 hf1 ?_ hn
  simp only[if_true,y2t,e]
  exact ho
theorem qnt (h:qai Q m cf w c) (hk:K (.bool c.marking) w):C.i y5c 144 #[.pointer (some ⟨Q.co,0,none⟩)] w K:=by
 obtain⟨cs,b1,b2⟩:=h.blk
 refine F144.sh ?_
 unfold Co.marking at hk
 try simp only[zv]
 refine C.ad b1 b2.s25 ?_
 by_cases z:c.phase≥2
 ·simp only[zv,z]
  refine C.ad b1 b2.s25 ?_
  rw[decide_eq_true (show 2≤c.phase from z)] at hk
  by_cases y:c.phase≤4
  ·simp only[zv,y] at hk ⊢;exact hk
  ·simp only[zv,y] at hk ⊢;exact hk
 ·simp only[zv,z]
  rw[decide_eq_false (show ¬ 2≤c.phase from z)] at hk
  exact hk
theorem qup {W:World} {m0:Mv} {x:Nat} {v:Value} {l:List Int} (hl:l.length≤2048) {gf:Gy} (hN:∀g∈qaa v,Q.H.N≤g) (hx:Q.H.N≤x) {e:TypeId} (he:e≠310)
  (hk:∀lv' w',CTo Q m0 W { m with lv:=lv' } w'→qai Q { m with lv:=lv' } cf w' { c with g:=gf }→K (.tuple #[]) w'):
  ∀(d i:Nat) (g:Gy) (lv:Value) (w:World),i+d=l.length→CTo Q m0 W { m with lv:=lv } w→qai Q { m with lv:=lv } cf w { c with g:=g }→qad w v 3 1 (qag l)→w.heap[x]?=some (.cells #[.pointer (some ⟨Q.H.D.st,0,none⟩),.pointer (some ⟨Q.H.G.gr,0,none⟩)] e (0,0))→g.shadeAll cf.stack (l.drop i)=gf→
   F145.l2 K (.pointer (some ⟨x,0,none⟩)) v (.int .i64 (l.length:Int)) (.int .i64 (i:Int)) w:=by
 intro d
 induction d with
 | zero=>
  intro i g lv w hi ht h hv hb hg
  have e:i=l.length:=by omega
  subst e
  refine F145.l2.to ?_
  simp only[zv,show ¬((l.length:Int)<(l.length:Int)) by omega]
  rw[y3j] at hg
  simp only[Gy.shadeAll] at hg
  subst hg
  exact hk lv w ht h
 | succ d ih=>
  intro i g lv w hi ht h hv hb hg
  have hlt:i<l.length:=by omega
  refine F145.l2.to ?_
  simp only[zv,show (i:Int)<(l.length:Int) by omega]
  rw[y0o hlt,Gy.shadeAll] at hg
  refine F145.k3.to (C.bx hv.rd hlt fun gg o cs e' fz hgg hc=>C.ad hgg hc ?_)
  try simp only[zv]
  refine C.ad (v := .pointer (some ⟨Q.H.G.gr,0,none⟩)) hb rfl (qm3 h.hp.gy fun b lv' w1 hf1 h1=>?_)
  have h1':=h.hp.setG hf1 h1
  have hto:HTo Q.H lv w lv' w1:=HTo.g hf1
  have h2:=h.setH (c':={ c with g:=g.shade cf.stack l[i] }) hto h1' rfl rfl rfl rfl rfl rfl rfl
  refine F145.k5.to ?_
  try simp only[C.a6]
  rw[qab (n:=(i:Int)+1) (by omega)]
  refine ih (i+1) _ lv' w1 (by omega) (ht.trans (CTo.h hto)) h2 (hv.keep' hto.fr (h.hp.far hv (by decide) hN)) (hto.fr.at_ hb fun e1=>?_) hg
  have e2:=Q.H.subS lv x e1
  simp only[Had.all,y3q] at e2
  rcases e2 with f | f | f
  ·have:=h.hp.ok.lo x (by simp[f]);omega
  ·have:=h.hp.ok.lo x (by simp[f]);omega
  ·exact h.hp.gy.stk.own.nb hb (Ne.symm he) f
theorem qot {v:Value} {l:List Int} (h:qai Q m cf w c) (hl:l.length≤2048) (hv:qad w v 3 1 (qag l)) (hN:∀g∈qaa v,Q.H.N≤g)
  (hk:∀lv' w',CTo Q m w { m with lv:=lv' } w'→qai Q { m with lv:=lv' } cf w' { c with g:=c.g.shadeAll cf.stack l }→K (.tuple #[]) w'):
  C.i y5c 145 #[.agg #[.pointer (some ⟨Q.H.D.st,0,none⟩),.pointer (some ⟨Q.H.G.gr,0,none⟩)],v] w K:=by
 refine F145.sh (C.av fun x w1 hn=>C.bg (hv.keep hn.fr (by simp)).rd ?_)
 rw[qak]
 have l1:=hn.is
 have:=h.hp.le
 exact qup (Q:=Q) (m:=m) (c:=c) (W:=w) (m0:=m) hl hN (by omega) (by decide) hk l.length 0 c.g m.lv w1 (by omega) (CTo.w hn.fr) (h.keep0 hn.fr) (hv.keep hn.fr (by simp)) hn.at_ rfl
theorem qk9 {p:Int} (h:qai Q m cf w c) (hk:∀w',CTo Q m w m w'→qai Q m cf w' (c.raise p)→K (.tuple #[]) w'):C.i y5c 215 #[.pointer (some ⟨Q.co,0,none⟩),.int .i64 p] w K:=by
 obtain⟨cs,b1,b2⟩:=h.blk
 refine F215.sh ?_
 try simp only[zv]
 refine C.bb b1 rfl rfl (by rw[b2.sz];omega) fun w1 hu=>?_
 have far:∀i,i≠25→(cs.setIfInBounds 25 (.int .i64 p))[i]?=cs[i]?:=fun i hi=>by rw[y0e,if_neg (by omega)]
 have hc1:CoC Q m { c with phase:=p } (cs.setIfInBounds 25 (.int .i64 p)):=⟨by simp[b2.sz],by rw[far 0 (by omega)];exact b2.s0,by rw[far 1 (by omega)];exact b2.s1,by rw[far 12 (by omega)];exact b2.s12,by rw[far 13 (by omega)];exact b2.s13,by rw[far 14 (by omega)];exact b2.s14,by rw[far 15 (by omega)];exact b2.s15,fun j hj=>by rw[far (16+j) (by omega)];exact b2.ts j hj,by rw[far 24 (by omega)];exact b2.s24,by rw[y0e,if_pos rfl,if_pos (by rw[b2.sz];omega)],by rw[far 26 (by omega)];exact b2.s26,by rw[far 27 (by omega)];exact b2.s27⟩
 have h1:=h.setC (c':={ c with phase:=p }) hu.fr hu.at_ hc1 rfl rfl rfl rfl rfl rfl rfl rfl
 refine C.ad hu.at_ hc1.s12 (zbm h1.rg fun v w2 hf2 h2=>?_)
 exact hk w2 ((CTo.c hu.fr).trans (CTo.r hf2)) (h1.setR hf2 h2)
theorem qai.setN {F:World→Prop} {i:Nat} {n:Int} {c':Co} (h:qai Q m cf w c) (hi:24≤i) (hi':i<28) (hg:c'.global=if i=24 then n else c.global) (hp:c'.phase=if i=25 then n else c.phase) (hy:c'.cycles=if i=26 then n else c.cycles) (hu:c'.units=if i=27 then n else c.units)
  (es:c'.s=c.s) (eg:c'.g=c.g) (etp:c'.tp=c.tp) (ea:c'.at_=c.at_) (ef:c'.freed=c.freed) (er:c'.r=c.r) (eb:c'.b=c.b) (et:c'.th=c.th)
  (hk:∀w',CTo Q m w m w'→qai Q m cf w' c'→F w'):C.ak 1 (.pointer (some ⟨Q.co,i,none⟩)) (.int .i64 n) w F:=by
 obtain⟨cs,b1,b2⟩:=h.blk
 refine C.bb b1 rfl rfl (by rw[b2.sz];omega) fun w1 hu1=>hk w1 (CTo.c hu1.fr) ?_
 have get:∀k,(cs.setIfInBounds i (.int .i64 n))[k]?=if i=k then some (.int .i64 n) else cs[k]?:=fun k=>by
  rw[y0e]
  split
  ·rename_i e;subst e;rw[if_pos (by rw[b2.sz];omega)]
  ·rfl
 have far:∀k,k<24→(cs.setIfInBounds i (.int .i64 n))[k]?=cs[k]?:=fun k hk=>by rw[get,if_neg (by omega)]
 refine h.setC (c':=c') hu1.fr hu1.at_ ⟨by simp[b2.sz],by rw[far 0 (by omega)];exact b2.s0,by rw[far 1 (by omega)];exact b2.s1,by rw[far 12 (by omega)];exact b2.s12,by rw[far 13 (by omega)];exact b2.s13,by rw[far 14 (by omega)];exact b2.s14,by rw[far 15 (by omega)];exact b2.s15,fun j hj=>by rw[far (16+j) (by omega)];exact b2.ts j hj,?_,?_,?_,?_⟩ es eg etp ea ef er eb et
 ·rw[get,hg];split;rfl;exact b2.s24
 ·rw[get,hp];split;rfl;exact b2.s25
 ·rw[get,hy];split;rfl;exact b2.s26
 ·rw[get,hu];split;rfl;exact b2.s27
theorem qzf {Kk:VK} (h:qai Q m cf w c) (hk:Kk (.agg #[.pointer (some ⟨Q.H.D.st,0,none⟩),.pointer (some ⟨Q.H.G.gr,0,none⟩)]) w):C.an 2 (.pointer (some ⟨Q.co,0,none⟩)) w Kk:=by
 obtain⟨cs,b1,b2⟩:=h.blk
 refine C.br (vs:=[.pointer (some ⟨Q.H.D.st,0,none⟩),.pointer (some ⟨Q.H.G.gr,0,none⟩)]) b1 (by rw[b2.sz];omega) ?_ hk
 apply y2r
 intro q
 rw[y2f,y2h]
 match q with
 | 0=>simpa using b2.s0
 | 1=>simpa using b2.s1
 | q+2=>rw[if_neg (by omega)];rfl
end
def KB (Q:Kad) (p n:Int) (w:World):Prop:=∃cs:Array Value,w.heap[Q.co]?=some (.cells cs 132 (0,0))∧cs.size=28∧cs[0]?=some (.pointer (some ⟨Q.H.D.st,0,none⟩))∧cs[1]?=some (.pointer (some ⟨Q.H.G.gr,0,none⟩))∧cs[12]?=some (.pointer (some ⟨Q.re,0,none⟩))∧cs[13]?=some (.pointer (some ⟨Q.bu,0,none⟩))∧cs[15]?=some (.pointer (some ⟨Q.H.sw,0,none⟩))∧cs[25]?=some (.int .i64 p)∧cs[24]?=some (.int .i64 n)
section
variable {K:VK} {w w':World} {Q:Kad} {m:Mv} {cf:Cf} {c:Co}
theorem qai.kb (h:qai Q m cf w c):KB Q c.phase c.global w:=by
 obtain⟨cs,b1,b2⟩:=h.blk
 exact⟨cs,b1,b2.sz,b2.s0,b2.s1,b2.s12,b2.s13,b2.s15,b2.s25,b2.s24⟩
theorem qf7 {Kk:VK} {S:World→Prop} (hS:∀w',S w'→∃p n,KB Q p n w') (hk:Kk (.agg #[.pointer (some ⟨Q.H.D.st,0,none⟩),.pointer (some ⟨Q.H.G.gr,0,none⟩)]) w):C.bm S 2 (.pointer (some ⟨Q.co,0,none⟩)) w Kk:=by
 refine C.bn (vs:=[.pointer (some ⟨Q.H.D.st,0,none⟩),.pointer (some ⟨Q.H.G.gr,0,none⟩)]) (fun w' hw=>?_) hk
 obtain⟨p,n,cs,b1,hs,s0,s1,_⟩:=hS w' hw
 refine⟨cs,_,_,b1,by rw[hs];omega,?_⟩
 apply y2r
 intro q
 rw[y2f,y2h]
 match q with
 | 0=>simpa using s0
 | 1=>simpa using s1
 | q+2=>rw[if_neg (by omega)];rfl
theorem qai.setSt {s:St} (h:qai Q m cf w c) (hf:Fr Q.H.D.S w w') (hs:qau Q.H.D cf.pages.toNat (cf.threads+1) w' s):CTo Q m w m w'∧qai Q m cf w' { c with s:=s }:=by
 have h1:=h.setH (c':={ c with s:=s }) (HTo.d hf) (h.hp.setS hf hs) rfl rfl rfl rfl rfl rfl rfl
 exact⟨CTo.h (HTo.d hf),h1⟩
theorem qai.setGy {lv':Value} {g:Gy} (h:qai Q m cf w c) (hf:GTo Q.H.G m.lv w lv' w') (hg:qbb Q.H.G lv' cf.stack w' g):CTo Q m w { m with lv:=lv' } w'∧qai Q { m with lv:=lv' } cf w' { c with g:=g }:=
 ⟨CTo.h (HTo.g hf),h.setH (c':={ c with g:=g }) (HTo.g hf) (h.hp.setG hf hg) rfl rfl rfl rfl rfl rfl rfl⟩
theorem qgf (a:Int):(c.color cf a).phase=c.phase∧(c.color cf a).global=c.global:=by
 unfold Co.color
 split
 ·exact⟨rfl,rfl⟩
 ·split <;> exact⟨rfl,rfl⟩
theorem qr2 {a:Int} (h:qai Q m cf w c) (hk:∀lv' w',CTo Q m w { m with lv:=lv' } w'→qai Q { m with lv:=lv' } cf w' (c.color cf a)→K (.tuple #[]) w'):
  C.i y5c 219 #[.agg #[.pointer (some ⟨Q.H.D.st,0,none⟩),.pointer (some ⟨Q.H.G.gr,0,none⟩)],.int .i64 a,.int .i64 c.phase,.int .i64 c.at_] w K:=by
 refine F219.sh (C.av fun x w1 hn=>?_)
 have h1:=h.keep0 hn.fr
 have x1:=hn.at_
 unfold Co.color at hk
 have blk:(∀lv' w',CTo Q m w { m with lv:=lv' } w'→qai Q { m with lv:=lv' } cf w' { c with g:=c.g.black a }→K (.tuple #[]) w')→C.ai (.pointer (some ⟨x,1,none⟩)) w1 fun x29 w8=>C.i y5c 260 #[x29,.int .i64 a] w8 fun x31 w9=>K (.tuple #[]) w9:=fun hk=>
  C.ad (v := .pointer (some ⟨Q.H.G.gr,0,none⟩)) x1 rfl (qo7 h1.hp.gy fun w2 hf2 h2=>by
   have h3:=h1.setGy (GTo.m hf2) h2
   exact hk m.lv w2 ((CTo.w hn.fr).trans h3.1) h3.2)
 by_cases p2:c.phase=2
 ·simp only[zv,eq_self,p2]
  rw[if_pos p2] at hk
  refine C.ad (v := .pointer (some ⟨Q.H.G.gr,0,none⟩)) x1 rfl (qm3 h1.hp.gy fun b lv' w2 hf2 h2=>?_)
  have h3:=h1.setGy hf2 h2
  exact hk lv' w2 ((CTo.w hn.fr).trans h3.1) h3.2
 rw[if_neg p2] at hk
 simp only[zv,p2]
 by_cases p3:c.phase=3
 ·simp only[zv,eq_self,p3]
  rw[if_pos (.inl p3)] at hk
  exact blk hk
 simp only[zv,p3]
 by_cases p4:c.phase=4
 ·simp only[zv,eq_self,p4]
  rw[if_pos (.inr (.inl p4))] at hk
  exact blk hk
 simp only[zv,p4]
 have stay:¬(c.phase=3∨c.phase=4∨c.phase=5∧c.at_≤qap a)→K (.tuple #[]) w1:=fun hn'=>by
  rw[if_neg hn'] at hk
  exact hk m.lv w1 (CTo.w hn.fr) h1
 by_cases p5:c.phase=5
 ·simp only[zv,eq_self,p5]
  refine qfe ?_
  by_cases z:c.at_≤qap a
  ·simp only[zv,show qap a≥c.at_ from z]
   rw[if_pos (.inr (.inr ⟨p5,z⟩))] at hk
   exact blk hk
  ·simp only[zv,show ¬(qap a≥c.at_) from z]
   exact stay (fun e=>by rcases e with e | e | e;exact p3 e;exact p4 e;exact z e.2)
 ·simp only[zv,p5]
  exact stay (fun e=>by rcases e with e | e | e;exact p3 e;exact p4 e;exact p5 e.1)
def rnk (p:Int):Nat:=if p=1 then 3 else if p=2∨p=4 then 2 else 1
theorem zgs (a:Int):(Instr.buildSlice 54 1 #[(0,.int .i64 a)]).run y5c w = .ok (.slice (some ⟨w.heap.size,0,none⟩) 1 1) (w.alloc (.cells #[.int .i64 a] 3)):=by kernel_rfl
theorem qxo {W:World} {m0:Mv} {ce:Co} (hk:∀m' w',CTo Q m0 W m' w'→qai Q m' cf w' ce→K (.tuple #[]) w'):
  ∀(d:Nat) (c:Co) (m:Mv) (w:World),rnk c.phase≤d→CTo Q m0 W m w→qai Q m cf w c→Co.advance cf d c=ce→
   F149.l0 K (.pointer (some ⟨Q.co,0,none⟩)) w:=by
 intro d
 induction d with
 | zero=>intro c m w hr;unfold rnk at hr;split at hr <;> (try split at hr) <;> omega
 | succ d ih=>
  intro c m w hr ht h he
  obtain⟨cs,b1,b2⟩:=h.blk
  refine F149.l0.to ?_
  try simp only[zv]
  refine C.ad (v := .pointer (some ⟨Q.re,0,none⟩)) b1 b2.s12 (qxp h.rg fun w1 hf1=>?_)
  have h1:=h.keep0 hf1
  have ht1:=ht.trans (CTo.w hf1)
  obtain⟨cs1,d1,d2⟩:=h1.blk
  rw[Co.advance] at he
  cases za:c.r.agreed with
  | false=>
   rw[za] at he
   simp only[y2b,if_false] at he
   subst he
   simp only[C.ac]
   exact hk m w1 ht1 h1
  | true=>
   rw[za] at he
   simp only[if_true] at he
   simp only[C.ah]
   refine F149.k1.to ?_
   try simp only[zv]
   refine C.ad d1 d2.s25 ?_
   by_cases p1:c.phase=1
   ·simp only[zv,eq_self,p1]
    rw[if_pos p1] at he
    refine C.ad (v := .pointer (some ⟨Q.bu,0,none⟩)) d1 d2.s13 (qxs h1.fb fun n vs' w2 hf2 h2=>?_)
    have h2':=h1.setB hf2 h2
    have ht2:=ht1.trans (CTo.f hf2)
    refine C.a5 (fun w'=>KB Q c.phase c.global w') fun w3 hf3 _=>⟨(h2'.keep0 hf3).kb,?_⟩
    have h3:=h2'.keep0 hf3
    have ht3:=ht2.trans (CTo.w hf3)
    refine qf7 (fun w' hw=>⟨_,_,hw⟩) ?_
    refine C.ao (v := .int .i64 c.global) (S:=fun w'=>KB Q c.phase c.global w') (fun w' hw=>?_) ⟨C.a4 (zgs c.global) ?_,trivial⟩
    ·obtain⟨cs',q1,q2⟩:=hw
     exact⟨cs',_,_,q1,q2.2.2.2.2.2.2.2⟩
    have hw:=New.mk' w3 (.cells #[.int .i64 c.global] 3)
    have h4:=h3.keep0 hw.fr
    have ht4:=ht3.trans (CTo.w hw.fr)
    have hle:=h3.hp.le
    have ov:qad (w3.alloc (.cells #[.int .i64 c.global] 3)) (.slice (some ⟨w3.heap.size,0,none⟩) 1 1) 3 1 (qag [c.global]):=qad.of_block hw.at_ rfl (by simp) (by simp) rfl (by simp[qag,Value.oneCell']) (by simp[qag])
    refine⟨h4.kb,qot h4 (l:=[c.global]) (by simp) ov (fun g hg=>by simp[qaa,Value.ownBlock] at hg;omega) fun lv' w5 ht5 h5=>⟨h5.kb,?_⟩,trivial⟩
    refine qk9 h5 fun w6 ht6 h6=>ih _ _ w6 ?_ ((ht4.trans ht5).trans ht6) h6 he
    rw[p1] at hr
    show rnk 2≤d
    unfold rnk at hr ⊢
    simp at hr ⊢
    omega
   simp only[zv,p1]
   rw[if_neg p1] at he
   refine C.ad d1 d2.s25 ?_
   by_cases p2:c.phase=2
   ·simp only[zv,eq_self,p2]
    rw[if_pos p2] at he
    refine h1.setN (i:=25) (n:=3) (c':={ c with phase:=3 }) (by omega) (by omega) rfl rfl rfl rfl rfl rfl rfl rfl rfl rfl rfl rfl fun w2 ht2 h2=>ih _ _ w2 ?_ (ht1.trans ht2) h2 he
    rw[p2] at hr
    show rnk 3≤d
    unfold rnk at hr ⊢
    simp at hr ⊢
    omega
   simp only[zv,p2]
   rw[if_neg p2] at he
   refine C.ad d1 d2.s25 ?_
   by_cases p4:c.phase=4
   ·have rk:∀p:Int,p=3∨p=5→rnk p≤d:=fun p hp=>by
     rw[p4] at hr
     unfold rnk at hr ⊢
     rcases hp with rfl | rfl <;> simp at hr ⊢ <;> omega
    have back:∀w2 ,qai Q m cf w2 c→CTo Q m0 W m w2→¬(c.phase=4∧qea c.b∧c.tIdle)→C.ai (.pointer (some ⟨Q.co,25,none⟩)) w2 fun x71 w51=>C.aj .eql x71 (.int .i64 4) w51 fun x72 w52=>C.am x72 (C.ak 1 (.pointer (some ⟨Q.co,25,none⟩)) (.int .i64 3) w52 fun w55=>F149.l0 K (.pointer (some ⟨Q.co,0,none⟩)) w55) (K (.tuple #[]) w52):=fun w2 h2 ht2 hno=>by
     obtain⟨cs2,e1,e2⟩:=h2.blk
     rw[if_neg hno,if_pos p4] at he
     refine C.ad e1 e2.s25 ?_
     simp only[zv,eq_self,p4]
     exact h2.setN (i:=25) (n:=3) (c':={ c with phase:=3 }) (by omega) (by omega) rfl rfl rfl rfl rfl rfl rfl rfl rfl rfl rfl rfl fun w3 ht3 h3=>ih _ _ w3 (rk 3 (.inl rfl)) (ht2.trans ht3) h3 he
    simp only[zv,eq_self,p4]
    refine C.ad (v := .pointer (some ⟨Q.bu,0,none⟩)) d1 d2.s13 (za0 h1.fb ?_)
    cases ze:qea c.b with
    | false=>
     simp only[zv]
     exact back w1 h1 ht1 (fun e=>by rw[ze] at e;simp at e)
    | true=>
     simp only[zv]
     refine C.ad (v := .pointer (some ⟨Q.H.tr,0,none⟩)) d1 d2.s14 (qu0 h1.hp fun w2 hf2=>?_)
     have h2:=h1.keep0 hf2
     have ht2:=ht1.trans (CTo.w hf2)
     cases zi:c.tIdle with
     | false=>
      simp only[C.ac]
      exact back w2 h2 ht2 (fun e=>by rw[zi] at e;simp at e)
     | true=>
      simp only[C.ah]
      rw[if_pos ⟨p4,ze,zi⟩] at he
      refine h2.setN (i:=25) (n:=5) (c':={ c with phase:=5 }) (by omega) (by omega) rfl rfl rfl rfl rfl rfl rfl rfl rfl rfl rfl rfl fun w3 ht3 h3=>?_
      obtain⟨cs3,e1,e2⟩:=h3.blk
      refine C.ad (v := .pointer (some ⟨Q.H.sw,0,none⟩)) e1 e2.s15 (zbt h3.hp fun w4 ht4 h4=>?_)
      have h5:=h3.setH (c':={ c with phase:=5,at_:=0,freed:=0 }) ht4 h4 rfl rfl rfl rfl rfl rfl rfl
      exact ih _ _ w4 (rk 5 (.inr rfl)) ((ht2.trans ht3).trans (CTo.h ht4)) h5 he
   ·simp only[zv,p4]
    rw[if_neg (fun e=>p4 e.1),if_neg p4] at he
    subst he
    refine C.ad d1 d2.s25 ?_
    simp only[zv,p4]
    exact hk m w1 ht1 h1
theorem qos (h:qai Q m cf w c) (hk:∀m' w',CTo Q m w m' w'→qai Q m' cf w' (c.adv cf)→K (.tuple #[]) w'):C.i y5c 149 #[.pointer (some ⟨Q.co,0,none⟩)] w K:=
 F149.sh (qxo (W:=w) (m0:=m) hk 4 c m w (by unfold rnk;split <;> (try split) <;> omega) (CTo.refl _ _ _) h rfl)
theorem qrw (h:qai Q m cf w c) (hk:∀m' w',CTo Q m w m' w'→qai Q m' cf w' (c.beginC cf).1→K (.bool (c.beginC cf).2) w'):C.i y5c 162 #[.pointer (some ⟨Q.co,0,none⟩)] w K:=by
 obtain⟨cs,b1,b2⟩:=h.blk
 refine F162.sh (qei h ?_)
 unfold Co.beginC at hk
 try simp only[zv]
 refine C.ad b1 b2.s25 ?_
 by_cases z:c.phase=0
 ·rw[if_pos z] at hk
  simp only[zv,eq_self,z,ne_eq,not_true_eq_false]
  refine F162.k3.to ?_
  try simp only[zv]
  refine h.setN (i:=27) (n:=0) (c':={ c with units:=0 }) (by omega) (by omega) rfl rfl rfl rfl rfl rfl rfl rfl rfl rfl rfl rfl fun w1 ht1 h1=>?_
  refine qk9 h1 fun w2 ht2 h2=>qos h2 fun m' w3 ht3 h3=>?_
  exact hk m' w3 ((ht1.trans ht2).trans ht3) h3
 ·rw[if_neg z] at hk
  simp only[zv,z,ne_eq,not_false_eq_true]
  exact hk m w (CTo.refl _ _ _) h
theorem qxr {t:Int} (h:qai Q m cf w c) (hk:∀w',CTo Q m w m w'→qai Q m cf w' (c.attach t)→K (.bool (c.r.attach t).2) w'):C.i y5c 98 #[.pointer (some ⟨Q.co,0,none⟩),.int .i64 t] w K:=by
 obtain⟨cs,b1,b2⟩:=h.blk
 refine F98.sh (qei h ?_)
 try simp only[zv]
 refine C.ad (v := .pointer (some ⟨Q.re,0,none⟩)) b1 b2.s12 (qve h.rg fun w1 hf1 h1=>?_)
 have:=hk w1 (CTo.r hf1) (h.setR hf1 h1)
 exact this
end
section
variable {K:VK} {w w':World} {Q:Kad} {m:Mv} {cf:Cf} {c:Co}
theorem qsq (h:qai Q m cf w c) (t:Int):(fOf c.b t).length≤2048:=by
 unfold fOf
 split
 ·by_cases hj:t.toNat<c.b.length
  ·have:=h.fb.few (y3g hj)
   simpa[List.getD,hj] using this
  ·simp[List.getD,hj]
 ·simp
theorem qxw {t:Int} (h:qai Q m cf w c) (hk:∀m' w',CTo Q m w m' w'→qai Q m' cf w' (c.detach cf t)→K (.bool (c.r.live t)) w'):C.i y5c 99 #[.pointer (some ⟨Q.co,0,none⟩),.int .i64 t] w K:=by
 obtain⟨cs,b1,b2⟩:=h.blk
 refine F99.sh (qej h ?_)
 unfold Co.detach at hk
 cases z:c.r.live t with
 | false=>
  rw[z] at hk
  simp only[y2b,if_false] at hk
  simp only[zv]
  exact hk m w (CTo.refl _ _ _) h
 | true=>
  rw[z] at hk
  simp only[if_true] at hk
  obtain⟨j,rfl,hj⟩:=qh1 h z
  simp only[zv]
  refine F99.k3.to ?_
  try simp only[zv]
  refine C.ad (v := .pointer (some ⟨Q.bu,0,none⟩)) b1 b2.s13 (qm4 h.fb fun v vs' w1 hf1 h1 hv1 hb1=>?_)
  have h1':=h.setB hf1 h1
  have ht1:CTo Q m w { m with vs:=vs' } w1:=CTo.f hf1
  have hN:∀g∈qaa v,Q.H.N≤g:=fun g hg=>h.hv g (hb1 g hg)
  refine qnt h1' ?_
  have em:({ c with b:=qb3 c.b (j:Int) }:Co).marking=c.marking:=rfl
  rw[em]
  have fin:∀g2 m2 w2,CTo Q m w m2 w2→qai Q m2 cf w2 { c with b:=qb3 c.b (j:Int),g:=g2 }→
    (∀m' w',CTo Q m w m' w'→qai Q m' cf w' (({ c with b:=qb3 c.b (j:Int),g:=g2,th:=c.th.set (j:Int).toNat [],s:=c.s.quit (j:Int),r:=c.r.detach (j:Int) }:Co).adv cf)→K (.bool true) w')→
    F99.k6 K (.pointer (some ⟨Q.co,0,none⟩)) (.int .i64 (j:Int)) w2:=fun g2 m2 w2 ht2 h2 hk=>by
   refine F99.k6.to ?_
   try simp only[zv]
   refine C.bq (by omega) (by omega) ?_
   rw[y2t,y4t]
   obtain⟨cs2,e2,hr⟩:=h2.ro hj
   refine qx5 hr fun w3 hf3 h3=>?_
   have hts:j<m2.ts.length:=by rw[h2.len];exact hj
   have hf3':Fr (Q.co :: qaa m2.ts[j]) w2 w3:=hf3.mono fun x hx=>by simp only[y2d] at hx;simp[hx]
   have h3':=h2.setT (tv' := .slice none 0 0) (l:=[]) hj hf3' e2 h3 (by simp[qaa,Value.ownBlock])
   have ht3:=ht2.trans (CTo.t (tv' := .slice none 0 0) hts hf3' (by simp[qaa,Value.ownBlock]))
   obtain⟨cs3,d1,d2⟩:=h3'.blk
   refine C.ad (v := .pointer (some ⟨Q.H.D.st,0,none⟩)) d1 d2.s0 (zdx h3'.hp.st fun n w4 hf4 h4=>?_)
   obtain⟨ht4,h4'⟩:=h3'.setSt hf4 h4
   obtain⟨cs4,f1,f2⟩:=h4'.blk
   refine C.ad (v := .pointer (some ⟨Q.re,0,none⟩)) f1 f2.s12 (qvf h4'.rg fun b w5 hf5 h5=>?_)
   have h5':=h4'.setR hf5 h5
   refine qos h5' fun m6 w6 ht6 h6=>?_
   refine hk m6 w6 (((ht3.trans ht4).trans (CTo.r hf5)).trans ht6) ?_
   rw[y2t]
   exact h6
  cases zm:c.marking with
  | true=>
   rw[zm] at hk
   simp only[C.ah]
   refine qzf h1' (qot h1' (qsq h j) hv1 hN fun lv' w2 ht2 h2=>?_)
   exact fin _ _ w2 (ht1.trans ht2) h2 hk
  | false=>
   rw[zm] at hk
   simp only[C.ac]
   exact fin c.g _ w1 ht1 h1' hk
theorem zdu {t:Int} (h:qai Q m cf w c) (hk:∀b m' w',CTo Q m w m' w'→qai Q m' cf w' (c.poll cf t)→K (.bool b) w'):C.i y5c 105 #[.pointer (some ⟨Q.co,0,none⟩),.int .i64 t] w K:=by
 obtain⟨cs,b1,b2⟩:=h.blk
 refine F105.sh (qei h ?_)
 unfold Co.poll at hk
 try simp only[zv]
 refine C.ad (v := .pointer (some ⟨Q.re,0,none⟩)) b1 b2.s12 (qus h.rg fun w1 hf1 h1=>?_)
 have h1':=h.setR hf1 h1
 have ht1:CTo Q m w m w1:=CTo.r hf1
 cases z:(c.r.confirm t).2 with
 | false=>
  rw[z] at hk
  have e:(c.r.confirm t).1=c.r:=by
   unfold Rg.confirm at z ⊢
   split at z
   ·simp at z
   ·rename_i hh;rw[if_neg hh]
  rw[e] at h1'
  simp only[y2b,if_false] at hk
  simp only[zv]
  exact hk _ m w1 ht1 h1'
 | true=>
  rw[z] at hk
  simp only[if_true] at hk
  have hlive:c.r.live t=true:=by
   unfold Rg.confirm at z
   split at z
   ·rename_i hh;exact hh.1
   ·simp at z
  obtain⟨j,rfl,hj⟩:=qh1 h hlive
  obtain⟨cs1,d1,d2⟩:=h1'.blk
  simp only[zv]
  refine F105.k3.to ?_
  try simp only[zv]
  refine C.ad d1 d2.s25 ?_
  have fin:∀c2 m2 w2,CTo Q m w m2 w2→qai Q m2 cf w2 c2→(∀m' w',CTo Q m w m' w'→qai Q m' cf w' (c2.adv cf)→K (.bool true) w')→F105.k8 K (.pointer (some ⟨Q.co,0,none⟩)) w2:=fun c2 m2 w2 ht2 h2 hk=>
   F105.k8.to (qos h2 fun m' w3 ht3 h3=>hk m' w3 (ht2.trans ht3) h3)
  by_cases p2:c.phase=2
  ·simp only[zv,eq_self,p2]
   rw[if_pos p2] at hk
   refine C.a5 (fun w'=>KB Q c.phase c.global w') fun w2 hf2 _=>⟨(h1'.keep0 hf2).kb,?_⟩
   have h2:=h1'.keep0 hf2
   have ht2:=ht1.trans (CTo.w hf2)
   refine C.bq (by omega) (by omega) ?_
   rw[y2t,y4t]
   obtain⟨cs2,e2,hr⟩:=h2.ro hj
   refine qf7 (fun w' hw=>⟨_,_,hw⟩) ⟨zd2 hr fun v w3 hf3 hn3 hv3=>?_,trivial⟩
   have h3:=h2.keep0 hf3
   have hle:=h2.hp.le
   have hl16:(c.th[j]'(by rw[h.tl];exact hj)).length≤16:=h.t16 _ (y3g _)
   have hrl:=qms _ (c.th[j]'(by rw[h.tl];exact hj)) rfl
   refine⟨h3.kb,qot h3 (y4i hrl (by omega)) hv3 (fun g hg=>by have:=hn3.blk g hg;omega) fun lv' w4 ht4 h4=>⟨h4.kb,?_⟩,trivial⟩
   have eg:c.th.getD (j:Int).toNat []=c.th[j]'(by rw[h.tl];exact hj):=by simp[List.getD,h.tl,hj]
   rw[eg] at hk
   exact fin _ _ w4 ((ht2.trans (CTo.w hf3)).trans ht4) h4 (fun m' w'=>hk true m' w')
  simp only[zv,p2]
  rw[if_neg p2] at hk
  by_cases p4:c.phase=4
  ·simp only[zv,eq_self,p4]
   rw[if_pos p4] at hk
   refine C.a5 (fun w'=>KB Q c.phase c.global w') fun w2 hf2 _=>⟨(h1'.keep0 hf2).kb,?_⟩
   have h2:=h1'.keep0 hf2
   have ht2:=ht1.trans (CTo.w hf2)
   refine qf7 (fun w' hw=>⟨_,_,hw⟩) (C.ao (v := .pointer (some ⟨Q.bu,0,none⟩)) (fun w' hw=>?_) ⟨qm4 h2.fb fun v vs' w3 hf3 h3 hv3 hb3=>?_,trivial⟩)
   ·obtain⟨cs',q1,q2⟩:=hw
    exact⟨cs',_,_,q1,q2.2.2.2.2.1⟩
   have h3':=h2.setB hf3 h3
   have ht3:=ht2.trans (CTo.f hf3)
   refine⟨h3'.kb,qot h3' (qsq h j) hv3 (fun g hg=>h2.hv g (hb3 g hg)) fun lv' w4 ht4 h4=>⟨h4.kb,?_⟩,trivial⟩
   exact fin _ _ w4 (ht3.trans ht4) h4 (fun m' w'=>hk true m' w')
  ·simp only[zv,p4]
   rw[if_neg p4] at hk
   exact fin _ m w1 ht1 h1' (fun m' w'=>hk true m' w')
theorem zee (h:qai Q m cf w c) (hk:∀m' w',CTo Q m w m' w'→qai Q m' cf w' (c.unit cf).1→K (.bool (c.unit cf).2) w'):C.i y5c 280 #[.pointer (some ⟨Q.co,0,none⟩)] w K:=by
 obtain⟨cs,b1,b2⟩:=h.blk
 refine F280.sh (qh9 h ?_)
 unfold Co.unit at hk
 simp only at hk
 have fin:∀(r:Co × Bool) m2 w2,CTo Q m w m2 w2→qai Q m2 cf w2 r.1→(∀m' w',CTo Q m w m' w'→qai Q m' cf w' (if r.2 then { r.1 with units:=w64 (r.1.units+1) } else r.1)→K (.bool r.2) w')→
   F280.k13 K (.pointer (some ⟨Q.co,0,none⟩)) (.bool r.2) w2:=fun r m2 w2 ht2 h2 hk=>by
  refine F280.k13.to ?_
  cases z:r.2 with
  | false=>
   rw[z] at hk
   simp only[zv]
   exact F280.k15.to (hk m2 w2 ht2 h2)
  | true=>
   rw[z] at hk
   simp only[if_true] at hk
   obtain⟨cs2,d1,d2⟩:=h2.blk
   simp only[zv]
   refine C.ad d1 d2.s27 ?_
   try simp only[C.a6]
   refine h2.setN (i:=27) (n:=w64 (r.1.units+1)) (c':={ r.1 with units:=w64 (r.1.units+1) }) (by omega) (by omega) rfl rfl rfl rfl rfl rfl rfl rfl rfl rfl rfl rfl fun w3 ht3 h3=>?_
   exact F280.k15.to (hk m2 w3 (ht2.trans ht3) h3)
 by_cases p3:c.phase=3
 ·simp only[zv,eq_self,p3]
  rw[if_pos p3] at hk
  refine C.ad (v := .pointer (some ⟨Q.H.tr,0,none⟩)) b1 b2.s14 (zbu h.hp fun lv' w1 ht1 h1=>?_)
  have hsame:(c.tUnit cf).1.r=c.r∧(c.tUnit cf).1.b=c.b∧(c.tUnit cf).1.th=c.th∧(c.tUnit cf).1.global=c.global∧(c.tUnit cf).1.phase=c.phase∧(c.tUnit cf).1.cycles=c.cycles∧(c.tUnit cf).1.units=c.units:=by
   unfold Co.tUnit
   split
   ·simp
   ·split
    ·unfold Co.entry;simp only;split <;> simp
    ·split <;> simp[Co.look]
  obtain⟨q1,q2,q3,q4,q5,q6,q7⟩:=hsame
  have h1':=h.setH ht1 h1 q1 q2 q3 q4 q5 q6 q7
  have ht1':CTo Q m w { m with lv:=lv' } w1:=CTo.h ht1
  cases e:(c.tUnit cf).2 with
  | true=>
   have e0:c.tUnit cf=((c.tUnit cf).1,true):=by rw[←e]
   rw[e0] at hk
   simp only[zv]
   exact fin ((c.tUnit cf).1,true) _ w1 ht1' h1' hk
  | false=>
   have e0:c.tUnit cf=((c.tUnit cf).1,false):=by rw[←e]
   rw[e0] at hk
   simp only[zv]
   refine qk9 h1' fun w2 ht2 h2=>qos h2 fun m3 w3 ht3 h3=>?_
   exact fin ((((c.tUnit cf).1.raise 4).adv cf),false) m3 w3 ((ht1'.trans ht2).trans ht3) h3 hk
 simp only[zv,p3]
 rw[if_neg p3] at hk
 by_cases p5:c.phase=5
 ·simp only[zv,eq_self,p5]
  rw[if_pos p5] at hk
  refine C.ad (v := .pointer (some ⟨Q.H.sw,0,none⟩)) b1 b2.s15 (zbx h.hp fun lv' w1 ht1 h1=>?_)
  have swa:∀(l:List Int) (c:Co),(c.sweepAll l).r=c.r∧(c.sweepAll l).b=c.b∧(c.sweepAll l).th=c.th∧(c.sweepAll l).global=c.global∧(c.sweepAll l).phase=c.phase∧(c.sweepAll l).cycles=c.cycles∧(c.sweepAll l).units=c.units:=by
   intro l
   induction l with
   | nil=>intro c;simp[Co.sweepAll]
   | cons a l ih=>
    intro c
    rw[Co.sweepAll]
    have:=ih (c.sweepOne a)
    have e:(c.sweepOne a).r=c.r∧(c.sweepOne a).b=c.b∧(c.sweepOne a).th=c.th∧(c.sweepOne a).global=c.global∧(c.sweepOne a).phase=c.phase∧(c.sweepOne a).cycles=c.cycles∧(c.sweepOne a).units=c.units:=by
     unfold Co.sweepOne;split <;> simp
    obtain⟨a1,a2,a3,a4,a5,a6,a7⟩:=e
    rw[a1,a2,a3,a4,a5,a6,a7] at this
    exact this
  have hsame:(c.wUnit cf).1.r=c.r∧(c.wUnit cf).1.b=c.b∧(c.wUnit cf).1.th=c.th∧(c.wUnit cf).1.global=c.global∧(c.wUnit cf).1.phase=c.phase∧(c.wUnit cf).1.cycles=c.cycles∧(c.wUnit cf).1.units=c.units:=by
   unfold Co.wUnit
   split
   ·simp
   ·exact swa _ c
  obtain⟨q1,q2,q3,q4,q5,q6,q7⟩:=hsame
  have h1':=h.setH ht1 h1 q1 q2 q3 q4 q5 q6 q7
  have ht1':CTo Q m w { m with lv:=lv' } w1:=CTo.h ht1
  obtain⟨cs1,d1,d2⟩:=h1'.blk
  generalize hd:(c.wUnit cf).1=d at *
  generalize hb:(c.wUnit cf).2=did at *
  try simp only at hk
  refine C.ad (v := .pointer (some ⟨Q.H.sw,0,none⟩)) d1 d2.s15 (qut h1'.hp fun w2 hf2=>?_)
  have h2:=h1'.keep0 hf2
  have ht2:=ht1'.trans (CTo.w hf2)
  by_cases z:cf.pages≤d.at_
  ·simp only[zv,z]
   rw[if_pos z] at hk
   refine h2.setN (i:=25) (n:=0) (c':={ d with phase:=0 }) (by omega) (by omega) rfl rfl rfl rfl rfl rfl rfl rfl rfl rfl rfl rfl fun w3 ht3 h3=>?_
   obtain⟨cs3,f1,f2⟩:=h3.blk
   refine C.ad f1 f2.s26 ?_
   try simp only[C.a6]
   refine h3.setN (i:=26) (n:=w64 (d.cycles+1)) (c':={ d with phase:=0,cycles:=w64 (d.cycles+1) }) (by omega) (by omega) rfl rfl rfl rfl rfl rfl rfl rfl rfl rfl rfl rfl fun w4 ht4 h4=>?_
   exact fin ({ d with phase:=0,cycles:=w64 (d.cycles+1) },did) _ w4 ((ht2.trans ht3).trans ht4) h4 hk
  ·simp only[zv,z]
   rw[if_neg z] at hk
   exact fin (d,did) _ w2 ht2 h2 hk
 ·simp only[zv,p5]
  rw[if_neg p5] at hk
  exact fin (c,false) m w (CTo.refl _ _ _) h hk
end
section
variable {K:VK} {w w':World} {Q:Kad} {m:Mv} {cf:Cf} {c:Co}
theorem zaj {v:V2} (h:qai Q m cf w c) (hk:∀w',Fr [] w w'→K (.bool (c.may v)) w'):C.i y5c 225 #[.pointer (some ⟨Q.co,0,none⟩),V v.1 v.2] w K:=by
 refine F225.sh (C.av fun x w1 hn=>C.a5 (fun w'=>KB Q c.phase c.global w'∧w'.heap[x]?=some (.cells #[.int .i64 v.1,.int .i64 v.2] 60 (0,0))) fun w2 hf2 _=>?_)
 have f2:=hn.fr.trans hf2
 have h2:=h.keep0 f2
 have x2:=hf2.at_ hn.at_ (by simp)
 refine⟨⟨h2.kb,x2⟩,?_⟩
 unfold Co.may at hk
 refine C.bn (vs:=[.int .i64 v.1,.int .i64 v.2]) (fun w' hw=>⟨_,_,_,hw.2,by simp,rfl⟩) ⟨qfd v.1 v.2 fun w3 hf3=>?_,trivial⟩
 have h3:=h2.keep0 hf3
 have x3:=hf3.at_ x2 (by simp)
 have f3:=f2.trans hf3
 refine⟨⟨h3.kb,x3⟩,?_⟩
 by_cases z1:chk v.1 v.2=0
 ·have e1:vOk v=true:=by simpa[vOk] using z1
  rw[e1] at hk
  simp only[zv,eq_self,z1]
  refine C.ao (v := .int .i64 v.1) (fun w' hw=>⟨_,_,_,hw.2,rfl⟩) ?_
  by_cases z2:v.1=2
  ·rw[decide_eq_true z2] at hk
   simp only[zv,eq_self,z2,ne_eq,not_true_eq_false]
   refine C.ao (v := .pointer (some ⟨Q.H.D.st,0,none⟩)) (fun w' hw=>?_) (C.ao (v := .int .i64 v.2) (fun w' hw=>⟨_,_,_,hw.2,rfl⟩) ⟨qf1 h3.hp.st ⟨⟨h3.kb,by have:=x3;simp only[V,Value.cells,z2] at this;exact this⟩,?_⟩,trivial⟩)
   ·obtain⟨⟨cs',q1,q2⟩,_⟩:=hw
    exact⟨cs',_,_,q1,q2.2.1⟩
   by_cases z3:c.s.fields v.2≥0
   ·have:=hk w3 f3
    simp only[zv,z3]
    simpa[show 0≤c.s.fields v.2 from z3] using this
   ·have:=hk w3 f3
    simp only[zv,z3]
    simpa[show ¬ 0≤c.s.fields v.2 from z3] using this
  ·rw[decide_eq_false z2] at hk
   simp only[zv,z2,ne_eq,not_false_eq_true]
   exact⟨⟨⟨h3.kb,x3⟩,by simpa using hk w3 f3⟩,trivial⟩
 ·have e1:vOk v=false:=by simpa[vOk] using z1
  rw[e1] at hk
  simp only[zv,z1]
  exact⟨⟨⟨h3.kb,x3⟩,by simpa using hk w3 f3⟩,trivial⟩
theorem qvb {t:Int} {v:V2} (h:qai Q m cf w c) (hk:∀m' w',CTo Q m w m' w'→qai Q m' cf w' (c.push t v).1→K (.bool (c.push t v).2) w'):C.i y5c 154 #[.pointer (some ⟨Q.co,0,none⟩),.int .i64 t,V v.1 v.2] w K:=by
 refine F154.sh (C.av fun x w1 hn=>C.a5 (fun w'=>w'.heap[x]?=some (.cells #[.int .i64 v.1,.int .i64 v.2] 60 (0,0))) fun w2 hf2 _=>?_)
 have l1:=hn.is
 have f2:=hn.fr.trans hf2
 have h2:=h.keep0 f2
 have x2:=hf2.at_ hn.at_ (by simp)
 unfold Co.push at hk
 refine⟨x2,qej h2 ⟨x2,?_⟩,trivial⟩
 cases z:c.r.live t with
 | false=>
  rw[z] at hk
  simp only[y2b,false_and,if_false] at hk
  simp only[zv]
  exact⟨⟨x2,⟨⟨x2,hk m w2 (CTo.w f2) h2⟩,trivial⟩⟩,trivial⟩
 | true=>
  rw[z] at hk
  obtain⟨j,rfl,hj⟩:=qh1 h z
  have e:c.th.getD (j:Int).toNat []=c.th[j]'(by rw[h.tl];exact hj):=by simp[List.getD,h.tl,hj]
  rw[e] at hk
  simp only[zv]
  refine C.bn (vs:=[.int .i64 v.1,.int .i64 v.2]) (fun w' hw=>⟨_,_,_,hw,by simp,rfl⟩) ⟨zaj (v:=v) h2 fun w3 hf3=>?_,trivial⟩
  have h3:=h2.keep0 hf3
  have x3:=hf3.at_ x2 (by simp)
  have f3:=f2.trans hf3
  refine⟨x3,?_⟩
  cases y:c.may v with
  | false=>
   rw[y] at hk
   simp only[y2b,false_and,and_false,if_false] at hk
   simp only[zv]
   exact⟨⟨x3,hk m w3 (CTo.w f3) h3⟩,trivial⟩
  | true=>
   rw[y] at hk
   have hvok:vOk v=true:=by unfold Co.may at y;simp only[y2y] at y;exact y.1
   simp only[zv]
   refine C.bq (by omega) (by omega) ?_
   rw[y2t,y4t]
   obtain⟨cs3,e3,hr⟩:=h3.ro hj
   have hts:j<m.ts.length:=by rw[h.len];exact hj
   have nx:x∉Q.co :: qaa m.ts[j]:=fun ee=>by
    simp only[y4b] at ee
    rcases ee with ee | ee
    ·obtain⟨cs0,b1,_⟩:=h.blk
     have:=qac b1;omega
    ·have:=h.th.lt x (qcf hts ee);omega
   refine C.bn (vs:=[.int .i64 v.1,.int .i64 v.2]) (fun w' hw=>⟨_,_,_,hw,by simp,rfl⟩) ⟨zbl (v:=v) hr (fun hc tv' w4 hf4 h4 hg4=>?_) (fun hc w4 hf4=>?_),trivial⟩
   ·rw[if_pos ⟨rfl,rfl,hc.2⟩] at hk
    refine⟨hf4.at_ x3 nx,?_⟩
    have:=hk _ w4 ((CTo.w f3).trans (CTo.t hts hf4 hg4)) (by rw[y2t];exact h3.setT hj hf4 e3 h4 hg4)
    exact this
   ·rw[if_neg (fun ee=>hc ⟨hvok,ee.2.2⟩)] at hk
    refine⟨hf4.at_ x3 (by simp),?_⟩
    exact hk m w4 (CTo.w (f3.trans hf4)) (h3.keep0 hf4)
theorem zal {t:Int} (h:qai Q m cf w c) (hk:∀m' w',CTo Q m w m' w'→qai Q m' cf w' (c.pop t).1→K (match (c.pop t).2 with | some v => .tuple #[V v.1 v.2,.bool true] | none => .tuple #[V 0 0,.bool false]) w'):
  C.i y5c 102 #[.pointer (some ⟨Q.co,0,none⟩),.int .i64 t] w K:=by
 refine F102.sh (C.av fun x w1 hn=>qej (h.keep0 hn.fr) ?_)
 have l1:=hn.is
 have h1:=h.keep0 hn.fr
 unfold Co.pop at hk
 cases z:c.r.live t with
 | false=>
  rw[z] at hk
  simp only[y2b,if_false] at hk
  simp only[zv]
  refine C.a4 qdn (C.a0 hn.at_ rfl qal rfl fun w3 hu=>C.ax hu.at_ rfl ?_)
  have f3:Fr [] w w3:=hn.fr.then hu.fr (by simp;omega)
  exact hk m w3 (CTo.w f3) (h.keep0 f3)
 | true=>
  rw[z] at hk
  simp only[if_true] at hk
  obtain⟨j,rfl,hj⟩:=qh1 h z
  have e:c.th.getD (j:Int).toNat []=c.th[j]'(by rw[h.tl];exact hj):=by simp[List.getD,h.tl,hj]
  rw[e] at hk
  simp only[zv]
  refine F102.k3.to ?_
  try simp only[zv]
  refine C.bq (by omega) (by omega) ?_
  rw[y2t,y4t]
  obtain⟨cs3,e3,hr⟩:=h1.ro hj
  have hts:j<m.ts.length:=by rw[h.len];exact hj
  have hco:Q.co<w.heap.size:=by obtain⟨cs0,b1,_⟩:=h.blk;exact qac b1
  refine zdz hr (fun v hv tv' w2 hf2 h2 hb2=>?_) (fun hnil w2 hf2=>?_)
  ·rw[hv] at hk
   simp only at hk
   try simp only[zv]
   have hg2:∀y∈qaa tv',y∈qaa m.ts[j]∨w1.heap.size≤y:=fun y hy => .inl (hb2 ▸ hy)
   have hf2':Fr (Q.co :: qaa m.ts[j]) w1 w2:=hf2.mono fun y hy=>by simp only[y2d] at hy;simp[hy]
   have h2':=h1.setT hj hf2' e3 h2 hg2
   have ht2:CTo Q m w _ w2:=(CTo.w hn.fr).trans (CTo.t hts hf2' hg2)
   refine C.a0 (x:=V v.1 v.2) (hf2.at_ hn.at_ (by simp;omega)) rfl qal rfl fun w3 hu=>C.ax hu.at_ rfl ?_
   refine hk { m with ts:=m.ts.set j tv' } w3 ⟨ht2.fr.then hu.fr (by simp;omega),ht2.gr⟩ ?_
   rw[y2t]
   refine h2'.keep hu.fr fun y hy ey=>?_
   simp only[y2d] at ey
   subst ey
   simp only[Kad.all,Mv.all,y3q] at hy
   have lo:=h.hp.le
   rcases hy with d | d | d | d | d | d
   ·have:=h.low (x:=y) (by simp[d]);omega
   ·have:=h.low (x:=y) (by simp[d]);omega
   ·have:=h.low (x:=y) (by simp[d]);omega
   ·have:=h.hp.gy.stk.own.lt (qam.1 d);omega
   ·have:=h.fb.fam.lt y d;omega
   ·rcases qdg d with q | q
    ·have:=h.th.lt y q;omega
    ·rw[hb2] at q
     have:=h.th.lt y (qcf hts q);omega
  ·rw[hnil] at hk
   simp only[List.getLast?_nil] at hk
   try simp only[zv]
   refine C.a0 (x:=V 0 0) (hf2.at_ hn.at_ (by simp)) rfl qal rfl fun w3 hu=>C.ax hu.at_ rfl ?_
   have f3:Fr [] w w3:=(hn.fr.trans hf2).then hu.fr (by simp;omega)
   exact hk m w3 (CTo.w f3) (h.keep0 f3)
theorem zdl {t n:Int} (h:qai Q m cf w c) (hk:∀m' w',CTo Q m w m' w'→qai Q m' cf w' (c.fast cf t n).1→K (match (c.fast cf t n).2 with | some a => .tuple #[.int .i64 a,.bool true] | none => .tuple #[.int .i64 0,.bool false]) w'):
  C.i y5c 151 #[.pointer (some ⟨Q.co,0,none⟩),.int .i64 t,.int .i64 n] w K:=by
 obtain⟨cs,b1,b2⟩:=h.blk
 refine F151.sh (qej h ?_)
 unfold Co.fast at hk
 cases z:c.r.live t with
 | false=>
  rw[z] at hk
  simp only[y2b,if_false] at hk
  simp only[zv]
  exact hk m w (CTo.refl _ _ _) h
 | true=>
  rw[z] at hk
  simp only[if_true] at hk
  simp only[zv]
  refine F151.k3.to ?_
  try simp only[zv]
  refine C.ad (v := .pointer (some ⟨Q.H.D.st,0,none⟩)) b1 b2.s0 (qo6 h.hp.st fun w1 hf1 h1=>?_)
  obtain⟨ht1,h1'⟩:=h.setSt hf1 h1
  cases e:(c.s.fast t n).2 with
  | none=>
   have e0:c.s.fast t n=(c.s,none):=by
    unfold St.fast at e ⊢
    split at e
    ·rename_i y;rw[if_pos y]
    ·rename_i y
     rw[if_neg y]
     split at e
     ·rfl
     ·simp at e
   rw[e0] at hk h1'
   simp only[zv]
   exact F151.k6.to (hk m w1 ht1 h1')
  | some a=>
   have e0:c.s.fast t n=((c.s.fast t n).1,some a):=by rw[←e]
   rw[e0] at hk
   simp only at hk
   simp only[zv]
   refine C.a5 (fun w'=>KB Q c.phase c.global w') fun w2 hf2 _=>⟨(h1'.keep0 hf2).kb,?_⟩
   have h2:=h1'.keep0 hf2
   refine qf7 (fun w' hw=>⟨_,_,hw⟩) (C.ao (v := .int .i64 c.phase) (fun w' hw=>?_) (C.ao (v := .pointer (some ⟨Q.H.sw,0,none⟩)) (fun w' hw=>?_) ⟨zdc h2.hp ⟨h2.kb,qr2 (c:={ c with s:=(c.s.fast t n).1 }) h2 fun lv' w3 ht3 h3=>⟨?_,?_⟩,trivial⟩,trivial⟩))
   ·obtain⟨cs',q1,q2⟩:=hw;exact⟨cs',_,_,q1,q2.2.2.2.2.2.2.1⟩
   ·obtain⟨cs',q1,q2⟩:=hw;exact⟨cs',_,_,q1,q2.2.2.2.2.2.1⟩
   ·have:=h3.kb
    rw[(qgf a).1,(qgf a).2] at this
    exact this
   ·exact F151.k6.to (hk _ w3 ((ht1.trans (CTo.w hf2)).trans ht3) h3)
theorem zd7 {t n:Int} (h:qai Q m cf w c) (hk:∀m' w',CTo Q m w m' w'→qai Q m' cf w' (c.slow cf t n).1→K (.tuple #[.int .i64 (c.slow cf t n).2.1,.int .i64 (c.slow cf t n).2.2]) w'):
  C.i y5c 223 #[.pointer (some ⟨Q.co,0,none⟩),.int .i64 t,.int .i64 n] w K:=by
 obtain⟨cs,b1,b2⟩:=h.blk
 refine F223.sh (qei h ?_)
 try simp only[zv]
 refine qej h ?_
 unfold Co.slow at hk
 cases z:c.r.live t with
 | false=>
  rw[z] at hk
  simp only[y2b,if_false] at hk
  simp only[zv]
  exact hk m w (CTo.refl _ _ _) h
 | true=>
  rw[z] at hk
  simp only[if_true] at hk
  simp only[zv]
  refine F223.k5.to ?_
  try simp only[zv]
  refine C.ad (v := .pointer (some ⟨Q.H.D.st,0,none⟩)) b1 b2.s0 (qse h.hp.st fun w1 hf1 h1=>?_)
  obtain⟨ht1,h1'⟩:=h.setSt hf1 h1
  generalize c.s.slow cf.pages.toNat (cf.threads+1) t n=r at *
  try simp only[zv]
  by_cases y:r.2.2=0
  ·simp only[y,if_true] at hk
   simp only[zv,eq_self,y]
   refine C.a5 (fun w'=>KB Q c.phase c.global w') fun w2 hf2 _=>⟨(h1'.keep0 hf2).kb,?_⟩
   have h2:=h1'.keep0 hf2
   refine qf7 (fun w' hw=>⟨_,_,hw⟩) (C.ao (v := .int .i64 c.phase) (fun w' hw=>?_) (C.ao (v := .pointer (some ⟨Q.H.sw,0,none⟩)) (fun w' hw=>?_) ⟨zdc h2.hp ⟨h2.kb,qr2 (c:={ c with s:=r.1 }) h2 fun lv' w3 ht3 h3=>⟨?_,?_⟩,trivial⟩,trivial⟩))
   ·obtain⟨cs',q1,q2⟩:=hw;exact⟨cs',_,_,q1,q2.2.2.2.2.2.2.1⟩
   ·obtain⟨cs',q1,q2⟩:=hw;exact⟨cs',_,_,q1,q2.2.2.2.2.2.1⟩
   ·have:=h3.kb
    rw[(qgf r.2.1).1,(qgf r.2.1).2] at this
    exact this
   ·exact F223.k8.to (hk _ w3 ((ht1.trans (CTo.w hf2)).trans ht3) h3)
  ·simp only[if_neg y] at hk
   simp only[zv,y]
   exact F223.k8.to (hk m w1 ht1 h1')
theorem qur {t:Int} (h:qai Q m cf w c) (hk:∀w',Fr [] w w'→K (.bool (c.barrier t)) w'):C.i y5c 231 #[.pointer (some ⟨Q.co,0,none⟩),.int .i64 t] w K:=by
 refine F231.sh (C.a5 (fun w'=>KB Q c.phase c.global w') fun w1 hf1 _=>⟨(h.keep0 hf1).kb,?_⟩)
 have h1:=h.keep0 hf1
 have hk:=hk w1 hf1
 refine⟨qnt h1 ⟨h1.kb,?_⟩,trivial⟩
 unfold Co.barrier at hk
 cases z:c.marking with
 | true=>
  rw[z] at hk
  simp only[zv]
  exact⟨⟨h1.kb,⟨⟨h1.kb,by simpa using hk⟩,trivial⟩⟩,trivial⟩
 | false=>
  rw[z] at hk
  simp only[zv]
  refine C.ao (v := .int .i64 c.phase) (fun w' hw=>?_) ?_
  ·obtain⟨cs',q1,q2⟩:=hw;exact⟨cs',_,_,q1,q2.2.2.2.2.2.2.1⟩
  have gre:∀w',KB Q c.phase c.global w'→∃cs e fz,w'.heap[Q.co]?=some (.cells cs e fz)∧cs[0+12]?=some (.pointer (some ⟨Q.re,0,none⟩)):=fun w' hw=>by
   obtain⟨cs',q1,q2⟩:=hw;exact⟨cs',_,_,q1,q2.2.2.2.1⟩
  by_cases y:c.phase=1
  ·rw[decide_eq_true y] at hk
   simp only[zv,eq_self,y]
   refine C.ao (v := .pointer (some ⟨Q.re,0,none⟩)) (fun w' hw=>by have:=gre w' (y ▸ hw);simpa using this) (C.ao (v := .pointer (some ⟨Q.re,0,none⟩)) (fun w' hw=>by have:=gre w' (y ▸ hw);simpa using this) ⟨zfz h1.rg ⟨y ▸ h1.kb,⟨za2 h1.rg ⟨y ▸ h1.kb,?_⟩,trivial⟩⟩,trivial⟩)
   by_cases x:c.r.ofT t=c.r.ep
   ·simp only[zv,eq_self,x] at hk ⊢;simpa using hk
   ·simp only[zv,x] at hk ⊢;simpa[x] using hk
  ·rw[decide_eq_false y] at hk
   simp only[zv,y]
   exact⟨⟨h1.kb,⟨⟨h1.kb,by simpa using hk⟩,trivial⟩⟩,trivial⟩
theorem zbz {t a i:Int} {v:V2} (h:qai Q m cf w c) (hk:∀m' w',CTo Q m w m' w'→qai Q m' cf w' (c.write t a i v).1→K (.bool (c.write t a i v).2) w'):
  C.i y5c 159 #[.pointer (some ⟨Q.co,0,none⟩),.int .i64 t,.int .i64 a,.int .i64 i,V v.1 v.2] w K:=by
 refine F159.sh (C.av fun x w1 hn=>qej (h.keep0 hn.fr) ?_)
 have l1:=hn.is
 have h1:=h.keep0 hn.fr
 have x1:=hn.at_
 unfold Co.write at hk
 cases z:c.r.live t with
 | false=>
  rw[z] at hk
  simp only[y2b,false_and,if_false] at hk
  simp only[zv]
  exact hk m w1 (CTo.w hn.fr) h1
 | true=>
 rw[z] at hk
 simp only[zv]
 refine C.ax x1 rfl (zaj (v:=v) h1 fun w2 hf2=>?_)
 have h2:=h1.keep0 hf2
 have x2:=hf2.at_ x1 (by simp)
 have f2:=hn.fr.trans hf2
 cases y:c.may v with
 | false=>
  rw[y] at hk
  simp only[y2b,false_and,and_false,if_false] at hk
  simp only[zv]
  exact hk m w2 (CTo.w f2) h2
 | true=>
 rw[y] at hk
 simp only[zv]
 obtain⟨cs2,d1,d2⟩:=h2.blk
 refine F159.k3.to ?_
 try simp only[zv]
 refine C.ad (v := .pointer (some ⟨Q.H.D.st,0,none⟩)) d1 d2.s0 (qti h2.hp.st fun w3 hf3=>?_)
 try simp only[zv]
 refine C.av fun u w4 hn4=>C.a0 (x:=V (c.s.get a i).1.1 (c.s.get a i).1.2) hn4.at_ rfl qal rfl fun w5 hu5=>?_
 have l4:=hn4.is
 have s3:=hf3.size
 have f25:Fr [] w2 w5:=(hf3.trans hn4.fr).then hu5.fr (by simp;omega)
 have h5:=h2.keep0 f25
 have x5:=f25.at_ x2 (by simp)
 have u5:=hu5.at_
 have f5:=f2.trans f25
 cases hg:(c.s.get a i).2 with
 | false=>
  rw[hg] at hk
  simp only[y2b,and_false,if_false] at hk
  simp only[zv]
  exact hk m w5 (CTo.w f5) h5
 | true=>
 rw[hg] at hk
 simp only[and_self,if_true] at hk
 simp only[zv]
 refine F159.k6.to ?_
 try simp only[zv]
 refine C.ad (v := .int .i64 (c.s.get a i).1.2) u5 rfl ?_
 refine C.ad (v := .int .i64 (c.s.get a i).1.1) u5 rfl ?_
 have fin:∀b' m6 w6,CTo Q m w m6 w6→qai Q m6 cf w6 { c with b:=b' }→w6.heap[x]?=some (.cells #[.int .i64 v.1,.int .i64 v.2] 60 (0,0))→
   (∀m' w',CTo Q m w m' w'→qai Q m' cf w' { c with b:=b',s:=(c.s.set a i v).1 }→K (.bool (c.s.set a i v).2) w')→
   F159.k9 K (.pointer (some ⟨Q.co,0,none⟩)) (.int .i64 a) (.int .i64 i) (.pointer (some ⟨x,0,none⟩)) w6:=fun b' m6 w6 ht6 h6 x6 hk=>by
  refine F159.k9.to (C.a5 (fun w'=>KB Q c.phase c.global w'∧w'.heap[x]?=some (.cells #[.int .i64 v.1,.int .i64 v.2] 60 (0,0))) fun w7 hf7 _=>⟨⟨(h6.keep0 hf7).kb,hf7.at_ x6 (by simp)⟩,?_⟩)
  have h7:=h6.keep0 hf7
  have x7:=hf7.at_ x6 (by simp)
  try simp only[zv]
  refine C.ao (v := .pointer (some ⟨Q.H.D.st,0,none⟩)) (fun w' hw=>?_) (C.bn (vs:=[.int .i64 v.1,.int .i64 v.2]) (fun w' hw=>⟨_,_,_,hw.2,by simp,rfl⟩) ⟨zd6 (v:=v) h7.hp.st fun w8 hf8 h8=>?_,trivial⟩)
  ·obtain⟨⟨cs',q1,q2⟩,_⟩:=hw
   exact⟨cs',_,_,q1,q2.2.1⟩
  obtain⟨ht8,h8'⟩:=h7.setSt hf8 h8
  refine⟨⟨h8'.kb,hf8.at_ x7 (fun e=>?_)⟩,hk m6 w8 ((ht6.trans (CTo.w hf7)).trans ht8) h8'⟩
  have:=h.hp.st.ltS x e
  omega
 by_cases q1:(c.s.get a i).1.1=2
 ·simp only[zv,eq_self,q1]
  obtain⟨cs5,e1,e2⟩:=h5.blk
  refine C.ad (v := .pointer (some ⟨Q.H.G.gr,0,none⟩)) e1 e2.s1 (zah h5.hp.gy ?_)
  cases q2:c.g.is (c.s.get a i).1.2 with
  | true=>
   simp only[zv]
   rw[if_neg (fun ee=>by simp[q2] at ee)] at hk
   exact fin c.b m w5 (CTo.w f5) h5 x5 hk
  | false=>
   simp only[zv]
   refine qur h5 fun w6 hf6=>?_
   have h6:=h5.keep0 hf6
   have x6:=hf6.at_ x5 (by simp)
   cases q3:c.barrier t with
   | false=>
    simp only[C.ac]
    rw[if_neg (fun ee=>by simp[q3] at ee)] at hk
    exact fin c.b m w6 (CTo.w (f5.trans hf6)) h6 x6 hk
   | true=>
    simp only[C.ah]
    rw[if_pos ⟨q1,by simp[q2],q3⟩] at hk
    obtain⟨cs6,g1,g2⟩:=h6.blk
    refine C.ad (v := .pointer (some ⟨Q.bu,0,none⟩)) g1 g2.s13 (zde h6.fb fun cc vs' w7 hf7 h7=>?_)
    have h7':=h6.setB hf7 h7
    have x7:=hf7.fr.at_ x6 (fun ee=>by
     rw[y3q] at ee
     rcases ee with ee | ee
     ·have:=h.fb.own.lt (qam.1 ee);omega
     ·have:=h.fb.fam.lt x ee;omega)
    exact fin _ _ w7 ((CTo.w (f5.trans hf6)).trans (CTo.f hf7)) h7' x7 hk
 ·simp only[zv,q1]
  rw[if_neg (fun ee=>q1 ee.1)] at hk
  exact fin c.b m w5 (CTo.w f5) h5 x5 hk
end
def bk (i o l:Int) (made:Bool) (m:Int):Obj := .cells #[.int .i64 i,.int .i64 o,.int .i64 l,.bool made,.int .i64 m] 145 (0,0)
def qbl (n lo hi:Int):Int:=if n<lo then lo else if n>hi then hi else n
theorem qps (n lo hi:Int) (h:lo≤hi):lo≤qbl n lo hi∧qbl n lo hi≤hi:=by unfold qbl;omega
section
variable {K:VK} {w:World}
theorem qez (n lo hi:Int) (h:K (.int .i64 (qbl n lo hi)) w):C.i y5c 66 #[.int .i64 n,.int .i64 lo,.int .i64 hi] w K:=by
 refine F66.sh ?_
 simp only[zv,C.cn,decide_eq_true_eq,decide_eq_false_iff_not]
 unfold qbl at h
 refine⟨fun h1=>by rwa [if_pos h1] at h,fun h1=>?_⟩
 rw[if_neg h1] at h
 refine⟨fun h2=>by rwa [if_pos h2] at h,fun h2=>?_⟩
 rw[if_neg h2] at h
 exact F66.k5.to h
theorem qpn {g:Nat} {i o l m:Int} {made:Bool} (hg:w.heap[g]?=some (bk i o l made m)) (h:K (.bool made) w):C.i y5c 281 #[.pointer (some ⟨g,0,none⟩)] w K:=by
 refine F281.sh ?_
 refine⟨_,qa0 _ _ _ Tryz.underlying91,?_⟩
 simp only[zv]
 refine C.ad (v := .bool made) hg rfl ?_
 simpa only[C.ah,C.ac,C.aw,C.ar,C.ap,C.af,C.ag,C.a6,C.bo,C.bp,C.az,C.bh,C.au,C.b9,C.bj,C.ba,C.ce,C.bt,C.a7,C.a8,C.b0,C.b2,C.b3,C.al,C.be,C.bc,C.b5,y4d,y3w,y4k,eq_self,decide_true,decide_false] using h
theorem qt2 {g:Nat} {i o l m:Int} {made:Bool} (hg:w.heap[g]?=some (bk i o l made m)) (h:∀w',Fr [] w w'→w'.heap=w.heap→K (.int .i64 (IntKind.i64.wrap (i-o))) w'):
  C.i y5c 302 #[.pointer (some ⟨g,0,none⟩)] w K:=by
 refine F302.sh (C.a5 (fun w'=>w'.heap[g]?=some (bk i o l made m)) fun w1 hf he=>⟨by rw[he];exact hg,?_⟩)
 simp only[zv]
 refine C.ao (v := .int .i64 i) (fun w' hw=>⟨_,_,_,hw,rfl⟩) (C.ao (v := .int .i64 o) (fun w' hw=>⟨_,_,_,hw,rfl⟩) ?_)
 simp only[C.bo]
 exact h w1 hf he
theorem zb4 {g:Nat} {i o l m:Int} (hg:w.heap[g]?=some (bk i o l true m)) (h:K (.pointer (some ⟨g,0,none⟩)) w):C.i y5c 301 #[.pointer (some ⟨g,0,none⟩)] w K:=by
 refine F301.sh (qpn hg ?_)
 simp only[zv]
 refine F301.k3.to ?_
 simp only[zv]
 exact h
theorem qhq {g:Nat} {i o l m:Int} (hg:w.heap[g]?=some (bk i o l true m)) (h:∀w',Fr [] w w'→w'.heap=w.heap→K (.int .i64 (IntKind.i64.wrap (i-o))) w'):
  C.i y5c 274 #[.pointer (some ⟨g,0,none⟩)] w K:=F274.sh (zb4 hg (qt2 hg h))
structure qxt (i o l m:Int):Prop where
 m1:m≤65535
 b0:0≤i-o
 b1:i-o≤m
 i0:0≤i
 o0:0≤o
 l0:0≤l
 i1:i≤1152921504606846976
 l1:l≤1152921504606846976
theorem zb5 {g:Nat} {i o l m:Int} (n:Int) (hg:w.heap[g]?=some (bk i o l true m)) (hk:qxt i o l m)
  (h:∀w',Fr [g] w w'→w'.heap[g]?=some (bk (i+min (qbl n 0 2147483648) (m-(i-o))) o (l+(qbl n 0 2147483648-min (qbl n 0 2147483648) (m-(i-o)))) true m)→K (.int .i64 (min (qbl n 0 2147483648) (m-(i-o)))) w'):
  C.i y5c 235 #[.pointer (some ⟨g,0,none⟩),.int .i64 n] w K:=by
 obtain⟨h1,h2,h3,h4,h5,h6,h7,h8⟩:=hk
 refine F235.sh (qpn hg ?_)
 simp only[zv]
 refine F235.k3.to (qez _ _ _ ?_)
 have hc:=qps n 0 2147483648 (by omega)
 generalize qbl n 0 2147483648=c at *
 refine C.a5 (fun w'=>w'.heap[g]?=some (bk i o l true m)) fun w1 hf1 he1=>⟨by rw[he1];exact hg,?_⟩
 have hg1:w1.heap[g]?=some (bk i o l true m):=by rw[he1];exact hg
 simp only[zv]
 refine C.ao (v := .int .i64 m) (fun w' hw=>⟨_,_,_,hw,rfl⟩) ⟨qhq hg1 fun w2 hf2 he2=>?_,trivial⟩
 have hg2:w2.heap[g]?=some (bk i o l true m):=by rw[he2];exact hg1
 refine⟨hg2,?_⟩
 rw[qab (n:=i-o) (by omega)]
 simp only[C.bo]
 rw[qab (n:=m-(i-o)) (by omega)]
 generalize hq:min c (m-(i-o))=q at *
 refine⟨_,fun w' _=>qf8 _ _ _ _ _ _,?_⟩
 rw[hq]
 refine C.ad (v := .int .i64 i) hg2 rfl ?_
 simp only[zv]
 rw[qab (n:=i+q) (by omega)]
 refine C.bb hg2 rfl rfl (by simp) fun w3 hu3=>?_
 refine C.ad (v := .int .i64 l) hu3.at_ rfl ?_
 simp only[C.a6]
 rw[qab (n:=c-q) (by omega),qab (n:=l+(c-q)) (by omega)]
 refine C.bb hu3.at_ rfl rfl (by simp) fun w4 hu4=>?_
 refine h w4 ?_ hu4.at_
 exact (hf1.w.trans hf2.w).trans (hu3.fr.trans hu4.fr)
theorem qvu {g:Nat} {i o l m:Int} (n:Int) (hg:w.heap[g]?=some (bk i o l true m)) (hk:qxt i o l m)
  (h:∀w',Fr [g] w w'→w'.heap[g]?=some (bk i (o+qbl n 0 (i-o)) l true m)→K (.int .i64 (qbl n 0 (i-o))) w'):
  C.i y5c 275 #[.pointer (some ⟨g,0,none⟩),.int .i64 n] w K:=by
 obtain⟨h1,h2,h3,h4,h5,h6,h7,h8⟩:=hk
 refine F275.sh (qpn hg ?_)
 simp only[zv]
 refine F275.k3.to (qhq hg fun w1 hf1 he1=>?_)
 rw[qab (n:=i-o) (by omega)]
 refine qez _ _ _ ?_
 have hc:=qps n 0 (i-o) (by omega)
 generalize qbl n 0 (i-o)=c at *
 have hg1:w1.heap[g]?=some (bk i o l true m):=by rw[he1];exact hg
 simp only[zv]
 refine C.ad (v := .int .i64 o) hg1 rfl ?_
 simp only[C.a6]
 rw[qab (n:=o+c) (by omega)]
 refine C.bb hg1 rfl rfl (by simp) fun w2 hu2=>?_
 exact h w2 (hf1.w.trans hu2.fr) hu2.at_
theorem zb2 (b:Bool) (m:Int):(Instr.build 145 #[(1,.bool b),(2,.int .i64 m)]).run y5c w = .ok (.agg #[.int .i64 0,.int .i64 0,.int .i64 0,.bool b,.int .i64 m]) w:=by kernel_rfl
theorem zb3 (n:Int) (h:∀g w',New w g (bk 0 0 0 true (qbl n 0 65535)) w'→K (.pointer (some ⟨g,0,none⟩)) w'):C.i y5c 44 #[.int .i64 n] w K:=by
 refine F44.sh (qez _ _ _ ⟨_,_,zb2 _ _,?_⟩)
 exact C.av h
structure qo2 (B i o l m:Int):Prop extends qxt i o l m where
 iB:i≤B
 lB:l≤B
end
end Go.Proofs.YtcakfaakbpdklaaGreatDoorV
namespace Go.Proofs.YtcakfaakbpdklaaGreatDoorV
open Go Go.Proofs
open Go.Proofs.Tryz renaming prog→y5c
noncomputable section
variable {K:VK} {w:World} {x0 x1 y0 y1 y6 y7 y8:Value}
namespace F238
def ann:Ann:=⟨[(3,[0,1]),(6,[0,6]),(9,[7,8]),(10,[7])],[(8,[7,8])],[],[(9,(.take 0 (.take 1 (.take 2 (.take 4 (.take 5 (.take 3 (.take 6 (.go 7 (.take 8 (.take 9 .fin)) .fin)))))))))],none⟩
variable (K:VK) (y0 y1 y6 y7 y8:Value) (w:World)
def k3:Prop:=nk ann 48 [(0,y0),(1,y1)] w [1,1] Tryz.f238 K
def k6:Prop:=nk ann 48 [(0,y0),(6,y6)] w [1,1,1,1] Tryz.f238 K
def k10:Prop:=nk ann 48 [(7,y7)] w [1,1,1,1,1,1,1] Tryz.f238 K
def l8:Prop:=nl ann 48 [(7,y7),(8,y8)] w [1,1,1,1,1,1,0,0] Tryz.f238 K
def k9:Prop:=nk ann 48 [(7,y7),(8,y8)] w [1,1,1,1,1,1,0,0,0,1] Tryz.f238 K
attribute [irreducible] k3 k6 k10 l8 k9
end F238
theorem F238.k3.to (h:(C.bl y0 w fun a b=>
 C.cb .u64 a b fun c d=>
 C.cb .u64 y1 d fun f g=>
 C.i y5c 282 #[c,f] g fun i j=>
 C.a1 0 i j fun k m=>
 C.a1 1 i m fun o p=>
 C.aj .gtr k (.int .u64 0) p fun q r=>
 C.q false q (fun K=>K o r) r fun s t=>
 C.q false q (fun K=>C.aj .gtr s (.int .u64 9223372036854775807) t K) t fun u v=>
 C.a2 (some q) (some (.bool true)) (some u) v fun x y=>
 C.am x (C.ay y5c (Instr.makeInterface 9 (.string { data := #[116,104,101,32,114,101,115,117,108,116,32,111,102,32,40,108,101,110,40,120,41,32,42,32,99,111,117,110,116,41,32,111,118,101,114,102,108,111,119,115] })) y fun z aa=>
 False) (F238.k6 K y0 o y))):F238.k3 K y0 y1 w:=qq h
theorem F238.k6.to (h:(C.cb .i64 y6 w fun a b=>
 C.ay y5c (Instr.makeSlice 84 a a) b fun c d=>
 C.ay y5c (Builtin.copy_ #[84,84] 3 #[c,y0]) d fun f g=>
 F238.l8 K c f g)):F238.k6 K y0 y6 w:=qq h
theorem F238.k10.to (h:(K y7 w)):F238.k10 K y7 w:=qq h
theorem F238.l8.to (h:(C.bl y7 w fun a b=>
 C.aj .lss y8 a b fun c d=>
 C.am c (F238.k9 K y7 y8 d) (F238.k10 K y7 d))):F238.l8 K y7 y8 w:=by unfold F238.l8 nl;exact qah (qq h)
theorem F238.k9.to (h:(C.a9 w fun S a=>
 ∃b,(∀w',S w'→(Instr.sliceAt 84 y7 (some y8) none none).run y5c w' = .ok b w')∧(∃c,(∀w',S w'→(Instr.sliceAt 84 y7 none (some y8) none).run y5c w' = .ok c w')∧((C.ay y5c (Builtin.copy_ #[84,84] 3 #[b,c]) a fun d f=>
 (S f∧
 C.aj .add y8 d f fun g i=>
 F238.l8 K y7 g i))∧True)))):F238.k9 K y7 y8 w:=qq h
theorem F238.sh (h:(C.aj .lss x1 (.int .i64 0) w fun a b=>
 C.am a (C.ay y5c (Instr.makeInterface 9 (.string { data := #[99,97,110,110,111,116,32,98,101,32,110,101,103,97,116,105,118,101] })) b fun c d=>
 False) (F238.k3 K x0 x1 b))):C.i y5c 238 #[x0,x1] w K:=q9 (A:=F238.ann) (args:=[x0,x1]) (qq h)
namespace F282
def ann:Ann:=⟨[(3,[0,1])],[],[],[],none⟩
variable (K:VK) (y0 y1:Value) (w:World)
def k3:Prop:=nk ann 30 [(0,y0),(1,y1)] w [1,1] Tryz.f282 K
attribute [irreducible] k3
end F282
theorem F282.k3.to (h:(C.i y5c 307 #[y0,y1] w fun a b=>
 C.a1 0 a b fun c d=>
 C.a1 1 a d fun f g=>
 K (.tuple #[c,f]) g)):F282.k3 K y0 y1 w:=qq h
theorem F282.sh (h:(C.am (.bool false) (C.cb .u32 x0 w fun a b=>
 C.cb .u32 x1 b fun c d=>
 C.i y5c 306 #[a,c] d fun f g=>
 C.a1 0 f g fun i j=>
 C.a1 1 f j fun k m=>
 C.cb .u64 i m fun o p=>
 C.cb .u64 k p fun q r=>
 K (.tuple #[o,q]) r) (F282.k3 K x0 x1 w))):C.i y5c 282 #[x0,x1] w K:=q9 (A:=F282.ann) (args:=[x0,x1]) (qq h)

theorem F307.sh (h:(C.bi y5c .and 210 (.tmp 14) (.const (.int .u64 4294967295)) x0 (.int .u64 4294967295) w fun a b=>
 C.bi y5c .shr 210 (.tmp 16) (.const (.int .u64 32)) x0 (.int .u64 32) b fun c d=>
 C.bi y5c .and 210 (.tmp 18) (.const (.int .u64 4294967295)) x1 (.int .u64 4294967295) d fun f g=>
 C.bi y5c .shr 210 (.tmp 20) (.const (.int .u64 32)) x1 (.int .u64 32) g fun i j=>
 C.aj .mul a f j fun k m=>
 C.aj .mul c f m fun o p=>
 C.bi y5c .shr 210 (.tmp 28) (.const (.int .u64 32)) k (.int .u64 32) p fun q r=>
 C.aj .add o q r fun s t=>
 C.bi y5c .and 210 (.tmp 31) (.const (.int .u64 4294967295)) s (.int .u64 4294967295) t fun u v=>
 C.bi y5c .shr 210 (.tmp 33) (.const (.int .u64 32)) s (.int .u64 32) v fun x y=>
 C.aj .mul a i y fun z aa=>
 C.aj .add u z aa fun ab ac=>
 C.aj .mul c i ac fun ad ae=>
 C.aj .add ad x ae fun af ag=>
 C.bi y5c .shr 210 (.tmp 45) (.const (.int .u64 32)) ab (.int .u64 32) ag fun ah ai=>
 C.aj .add af ah ai fun aj ak=>
 C.aj .mul x0 x1 ak fun al am=>
 K (.tuple #[aj,al]) am)):C.i y5c 307 #[x0,x1] w K:=q9 (A:=A0) (args:=[x0,x1]) (qq h)
end
end Go.Proofs.YtcakfaakbpdklaaGreatDoorV
namespace Go.Proofs.YtcakfaakbpdklaaGreatDoorV
open Go Go.Proofs Go.RowKit
open Go.Proofs.Tryz renaming prog→y5c
section
variable {K:VK} {w:World}
theorem zbc (n:Int) (h0:0≤n) (h1:n<4294967296) (h:K (.tuple #[.int .u64 0,.int .u64 n]) w):C.i y5c 282 #[.int .u64 1,.int .u64 n] w K:=by
 refine F282.sh ?_
 simp only[zv]
 refine F282.k3.to (F307.sh ⟨_,qjb _ _ 1 (by omega) (by omega),_,qga _ _ 1,_,qjb _ _ n h0 (by omega),_,qga _ _ n,?_⟩)
 have e1:n % 4294967296=n:=by omega
 have e2:n / 4294967296=0:=by omega
 simp only[zv,e1,e2,show (1:Int) % 4294967296=1 by decide,show (1:Int) / 4294967296=0 by decide,Int.one_mul,Int.zero_mul,Int.mul_zero]
 rw[qbz (n:=n) (by omega),qbz (n:=0) (by omega)]
 refine⟨_,qga _ _ n,?_⟩
 simp only[C.a6,e2,Int.add_zero]
 rw[qbz (n:=0) (by omega)]
 refine⟨_,qjb _ _ 0 (by omega) (by omega),_,qga _ _ 0,?_⟩
 simp only[C.a6,show (0:Int) % 4294967296=0 by decide,show (0:Int) / 4294967296=0 by decide,Int.add_zero]
 rw[qbz (n:=0) (by omega)]
 refine⟨_,qga _ _ 0,?_⟩
 simp only[C.a6,show (0:Int) / 4294967296=0 by decide,Int.add_zero]
 rw[qbz (n:=0) (by omega)]
 exact h
theorem qyt {g k m n:Nat} {cs:Array Value} {x:Value} (hg:w.heap[g]?=some (.cells cs 4 (0,0))) (hcs:cs.size=n) (hk:0<k) (hkn:k<n) (hx:x.oneCell'=true) (ht:cs.toList.take k=List.replicate k x) (hm:m=min k (n-k))
  {F:VK} (h:∀w' cs',Upd w g (.cells cs' 4 (0,0)) w'→cs'.size=n→cs'.toList.take (k+m)=List.replicate (k+m) x→F (.int .i64 (m:Int)) w'):
  C.ay y5c (Builtin.copy_ #[84,84] 3 #[.slice (some ⟨g,k,none⟩) (n-k) (n-k),.slice (some ⟨g,0,none⟩) k n]) w F:=by
 have hr:=run_copy_row (P:=y5c) w 84 84 3 4 g k (n-k) (n-k) ⟨g,0,none⟩ k n cs 4 (List.replicate m x) Tryz.underlying84 (by kernel_rfl) hg (by rw[y1m,hm])
  (fun j v hj=>by
   rw[y1a] at hj
   split at hj
   ·rename_i hjm
    rw[add_mk,qcr hg, ←y1p,y4k, ←hj]
    have:=congrArg (fun l:List Value=>l[j]?) ht
    simp only[y2f,y1a] at this
    rw[if_pos (by omega),if_pos (by omega)] at this
    exact this
   ·cases hj) (by rw[y1m];omega) (fun v hv=>by rw[y0w hv];exact hx)
 refine C.a4 hr ?_
 rw[y1m]
 refine h _ _ (qi1 hg) ?_ ?_
 ·simp;omega
 ·rw[ht]
  rw[List.take_append_of_le_length (by simp),List.replicate_append_replicate,y1f (by simp)]
theorem qzx {W0:World} {g n:Nat} {x:Value} (hx:x.oneCell'=true) (hn:n≤1000000) (hg0:W0.heap.size≤g):
  ∀(d k:Nat) (w:World) (cs:Array Value),n≤k+d→0<k→k≤n→Fr [] W0 w→w.heap[g]?=some (.cells cs 4 (0,0))→cs.size=n→cs.toList.take k=List.replicate k x→
   (∀w',Fr [] W0 w'→qad w' (.slice (some ⟨g,0,none⟩) n n) 4 1 (List.replicate n [x])→K (.slice (some ⟨g,0,none⟩) n n) w')→F238.l8 K (.slice (some ⟨g,0,none⟩) n n) (.int .i64 (k:Int)) w:=by
 intro d
 induction d with
 | zero=>
  intro k w cs hd h0 hk hf hg hcs ht h
  have hkn:k=n:=by omega
  subst hkn
  refine F238.l8.to ?_
  simp only[zv,show ¬((k:Int)<(k:Int)) by omega]
  refine F238.k10.to (h w hf ?_)
  refine qad.of_block hg (by simp) (y4q _) (by omega) (by omega) (fun y hy=>?_) ?_
  ·rw[y0w hy]
   exact⟨rfl,by simpa using hx⟩
  ·rw[y4t,ht]
   have:∀m:Nat,List.replicate m x=(List.replicate m [x]).flatten:=fun m=>by
    induction m with
    | zero=>rfl
    | succ m ih=>rw[y2a,y2a,y2s, ←ih];rfl
   exact this k
 | succ d ih=>
  intro k w cs hd h0 hk hf hg hcs ht h
  rcases Nat.lt_or_ge k n with hlt | hge
  ·refine F238.l8.to ?_
   simp only[zv,show ((k:Int)<(n:Int)) by omega]
   refine F238.k9.to (C.a5 (fun _=>True) fun w1 hf1 he1=>⟨trivial,?_⟩)
   have hg1:=hf1.at_ hg (by simp)
   have r1:∀w':World,(Instr.sliceAt 84 (.slice (some ⟨g,0,none⟩) n n) (some (.int .i64 (k:Int))) none none).run y5c w' = .ok (.slice (some ⟨g,k,none⟩) (n-k) (n-k)) w':=fun w'=>by
    have:=qew (P:=y5c) (w:=w') (t:=84) (e:=4) (sz:=1) (some ⟨g,0,none⟩) n n .i64 (k:Int) Tryz.underlying84 (by kernel_rfl) (by omega) (by omega)
    rw[y2t,if_neg (by omega)] at this
    simpa[add_mk] using this
   have r2:∀w':World,(Instr.sliceAt 84 (.slice (some ⟨g,0,none⟩) n n) none (some (.int .i64 (k:Int))) none).run y5c w' = .ok (.slice (some ⟨g,0,none⟩) k n) w':=fun w'=>by
    have:=qfx (P:=y5c) (w:=w') (t:=84) (e:=4) (sz:=1) (some ⟨g,0,none⟩) n n .i64 (k:Int) Tryz.underlying84 (by kernel_rfl) (by omega) (by omega)
    rwa [y2t] at this
   refine⟨_,fun w' _=>r1 w',_,fun w' _=>r2 w',qyt hg1 hcs h0 hlt hx ht rfl fun w2 cs2 hu hcs2 ht2=>⟨trivial,?_⟩,trivial⟩
   simp only[C.a6]
   rw[qab (by omega),show (k:Int)+((min k (n-k):Nat):Int)=((k+min k (n-k):Nat):Int) by omega]
   refine ih _ w2 cs2 (by omega) (by omega) (by omega) ((hf.trans hf1).then hu.fr fun y hy=>?_) hu.at_ hcs2 ht2 h
   simp only[y2d] at hy
   exact .inr (by omega)
  ·exact ih k w cs (by omega) h0 hk hf hg hcs ht h
theorem qja {v x:Value} {n:Nat} (hv:RdS w v 1 [[x]]) (hx:x.oneCell'=true) (hn:n≤1000000) (h:∀v' w',Fr [] w w'→qad w' v' 4 1 (List.replicate n [x])→qaj w v'→K v' w'):C.i y5c 238 #[v,.int .i64 (n:Int)] w K:=by
 refine F238.sh ?_
 simp only[zv,show ¬((n:Int)<0) by omega]
 refine F238.k3.to (C.bg hv ?_)
 simp only[C.ce,List.length_singleton]
 rw[qbz (n:=(n:Int)) (by omega),qbz (n:=((1:Nat):Int)) (by omega)]
 refine zbc (n:Int) (by omega) (by omega) ?_
 simp only[zv,show ¬((0:Int)>0) by omega,show ¬((n:Int)>9223372036854775807) by omega]
 refine F238.k6.to ?_
 simp only[C.ce]
 rw[qab (by omega)]
 refine C.b6 (e:=4) (sz:=1) (bytes:=1) (z := .bool false) n Tryz.underlying84 (by kernel_rfl) rfl (by decide) (by intro u hu;simp[Value.cells] at hu;subst hu;rfl) (by omega) (by omega) fun g w1 hn1 ho1=>?_
 have hg0:w.heap.size≤g:=by have:=hn1.is;omega
 have fin:∀w',Fr [] w w'→qad w' (.slice (some ⟨g,0,none⟩) n n) 4 1 (List.replicate n [x])→K (.slice (some ⟨g,0,none⟩) n n) w':=fun w' hf ho=>h _ w' hf ho fun g' hg'=>by
  simp only[Value.ownBlock,y2k] at hg'
  omega
 obtain⟨A,c,rfl,hc,hm,hcell⟩:=hv.keep hn1.fr
 obtain⟨g',o,cs',e',fz',rfl,hg',hcc⟩:=hcell (by simp)
 have hx0:=(hcc 0 [x] rfl).2 0 (by omega)
 simp only[Nat.zero_mul,y4j,y0z] at hx0
 rcases Nat.eq_zero_or_pos n with rfl | hpos
 ·refine C.a4 (run_copy_none (P:=y5c) w1 84 84 3 4 _ _ 0 0 _ c Tryz.underlying84 (by kernel_rfl) (by simp)) ?_
  refine F238.l8.to ?_
  have e:¬((0:Int)<((0:Nat):Int)):=by omega
  simp only[goInt,C.ac,C.au,C.bt,decide_false,e]
  exact F238.k10.to (fin w1 hn1.fr ho1)
 ·have hr:=run_copy_row (P:=y5c) w1 84 84 3 4 g 0 n n ⟨g',o,none⟩ [[x]].length c _ 4 [x] Tryz.underlying84 (by kernel_rfl) hn1.at_ (show 1=min 1 n by omega)
   (fun j y hj=>by
    rcases j with _ | j
    ·simp only[y0z,y2k] at hj
     subst hj
     rw[add_mk,qcr hg',y4j]
     exact hx0
    ·simp at hj) (by simp[size_madeCells];omega) (by intro y hy;simp at hy;subst hy;exact hx)
  refine C.a4 hr ?_
  have hu:=qi1 (cs':=((madeCells (.bool false:Value).cells (n*1)).toList.take 0 ++ [x] ++ (madeCells (.bool false:Value).cells (n*1)).toList.drop (0+[x].length)).toArray) hn1.at_
  refine qzx (W0:=w) (x:=x) hx hn hg0 n 1 _ _ (by omega) (by omega) (by omega) (hn1.fr.then hu.fr fun y hy=>?_) hu.at_ ?_ ?_ fin
  ·simp only[y2d] at hy
   exact .inr (by omega)
  ·simp[size_madeCells];omega
  ·simp
end
end Go.Proofs.YtcakfaakbpdklaaGreatDoorV
