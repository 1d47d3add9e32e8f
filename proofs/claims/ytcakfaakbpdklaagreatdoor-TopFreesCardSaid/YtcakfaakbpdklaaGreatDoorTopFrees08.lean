/- Part 8 of what the law needs: own lemmas, in the order in which they build. -/
import Derived.Maps.RangeRun
import Derived.Shelf.SortM.Plain
import Derived.Sort.OwnSortedInts
import Derived.Shelf.SortM.SortNone
import Derived.Test.YtcakfaakbpdklaaGreatDoorProg
import Derived.Test.YtcakfaakbpdklaaGreatDoorTopFrees07
set_option linter.unusedSimpArgs false
set_option linter.unusedVariables false
set_option maxRecDepth 100000
namespace Go.Proofs.YtcakfaakbpdklaaGreatDoorV
open Go Go.Proofs Go.RowKit
open Go.Proofs.Tryz renaming prog→y5c
section
variable {K:VK} {w:World} {A:Cad} {c:Ce}
theorem qt4 (m:List Int) (p k:Int):0≤(qb8 m p k).2.2∧(qb8 m p k).2.2≤16:=by
 have:=qct k
 unfold qb8
 split
 ·simp only;omega
 ·simp only;omega
theorem qt3 (m:List Int) (p k:Int):(qb8 m p k).1.length=m.length:=by
 unfold qb8
 split
 ·simp only;rw[qmg,qbs]
 ·rfl
theorem qwl {m:List Int} {p k:Int} {l:Int × Int} (hl:0≤l.2∧l.2≤16):(0≤(qch m p k l).2.2∧(qch m p k l).2.2≤16)∧(0<qae k→0≤(qch m p k l).1∧(qch m p k l).1<qae k):=by
 unfold qch
 split
 ·rename_i h
  split
  ·exact⟨by simp only;omega,fun _=>h.2.2⟩
  ·exact⟨by simp only;omega,fun hc=>by simp only;omega⟩
 ·exact⟨by simp only;omega,fun hc=>by simp only;omega⟩
theorem qwj {m:List Int} {p k i:Int} {l:Int × Int}:(0≤(qdr m p k l i).2.2∧(qdr m p k l i).2.2≤16)∧(qdr m p k l i).1.length=m.length:=by
 have:=qct k
 unfold qdr
 split
 ·rename_i h
  exact⟨by simp only;omega,qc0 _ _ _⟩
 ·exact⟨by simp only;omega,rfl⟩
theorem qn5 (hle:c.ks.length≤64) (p:Int):(qhl c.ks p).length=c.ks.length:=by
 unfold qhl
 split
 ·rfl
 ·rename_i h
  rcases qjm hle p with e | ⟨e1,e2⟩
  ·exact absurd e h
  ·exact qbx (by omega)
theorem Fr.kv {w w':World} (h:Fr (qaa A.kv) w w'):Fr A.S w w':=h.mono fun x hx=>by simp[Cad.S,hx]
theorem Fr.mv {w w':World} (h:Fr (qaa A.mv) w w'):Fr A.S w w':=h.mono fun x hx=>by simp[Cad.S,hx]
theorem Fr.cel {w w':World} (h:Fr [A.cel] w w'):Fr A.S w w':=h.mono fun x hx=>by simp only[y2d] at hx;simp[Cad.S,hx]
theorem Fr.tk {w w':World} (h:Fr [A.tk] w w'):Fr A.S w w':=h.mono fun x hx=>by simp only[y2d] at hx;simp[Cad.S,hx]
theorem zaw {k:Int} (h:qar A w c) (hk:∀w',Fr A.S w w'→qar A w' (c.carve k).1→K (match (c.carve k).2 with | some p => .tuple #[.int .i64 (p:Int),.bool true] | none => .tuple #[.int .i64 0,.bool false]) w'):
  C.i y5c 188 #[.pointer (some ⟨A.cel,0,none⟩),.int .i64 k] w K:=by
 obtain⟨cs,c1,c2,c3,c4,c5,c6⟩:=h.blk
 refine F188.sh (qha h ?_)
 simp only[zv]
 refine F188.k3.to ?_
 simp only[zv]
 unfold Ce.carve at hk
 refine C.ad (v := .pointer (some ⟨A.tab,0,none⟩)) c1 c3 (zbg h.pg (fun hn=>?_) fun p w1 hp hpl hf1 hp1=>?_)
 ·rw[hn] at hk
  simp only[zv]
  exact F188.k6.to (hk w (Fr.refl _ _) h)
 ·rw[hp] at hk
  have hle:=h.pg.le
  have h1:=h.setKs hf1 hp1 (by simp)
  obtain⟨ds,d1,d2,d3,d4,d5,d6⟩:=h1.blk
  simp only[zv]
  refine C.a5 (fun _=>True) fun w2 hf2 _=>⟨trivial,?_⟩
  have h2:=h1.keep0 hf2
  simp only[]
  refine⟨C.ad (v := .pointer (some ⟨A.mem,0,none⟩)) (hf2.at_ d1 (by simp)) d4 ⟨trivial,?_⟩,trivial⟩
  refine⟨zav h2.mm (p:=(p:Int)) (by omega) fun w3 ok hf3 h3m=>⟨trivial,?_⟩,trivial⟩
  have h3:=h2.setMem hf3 h3m (qt3 _ _ _)
  simp only[zv]
  refine C.bq (by omega) (by omega) ?_
  rw[y2t]
  refine⟨h3.setCh (l:=(qb8 c.m p k).2) (by omega) (qt4 _ _ _) fun w4 hf4 h4=>⟨trivial,F188.k6.to ?_⟩,trivial⟩
  exact hk w4 ((hf1.kv.trans hf2.w).trans (hf3.mv.trans hf4.cel)) h4
theorem qro {p:Int} (h:c.small p=true):0<qae (kAt c.ks p):=by
 unfold Ce.small at h
 rcases qcw (kAt c.ks p) with⟨_,e,f⟩ | ⟨_,e,f⟩ | ⟨_,e,f⟩ | ⟨_,e,f⟩ | ⟨_,e,f⟩ <;> rw[f] <;> simp[e] at h ⊢
theorem zeb {p:Int} (h:qar A w c) (hk:∀w',Fr A.S w w'→qar A w' (c.take p).1→K (match (c.take p).2 with | some a => .tuple #[.int .i64 a,.bool true] | none => .tuple #[.int .i64 0,.bool false]) w'):
  C.i y5c 183 #[.pointer (some ⟨A.cel,0,none⟩),.int .i64 p] w K:=by
 refine F183.sh (qo8 h fun w1 hf1=>?_)
 have h1:=h.keep0 hf1
 unfold Ce.take at hk
 by_cases z:c.left p=0
 ·rw[if_pos z] at hk
  simp only[zv,eq_self,z]
  exact hk w1 hf1.w h1
 rw[if_neg z] at hk
 have hs:c.small p=true:=by
  cases e:c.small p with
  | true=>rfl
  | false=>exact absurd (by unfold Ce.left;rw[e];rfl) z
 obtain⟨p0,p1,p2⟩:=qoh h hs
 have hcc:=qro hs
 have hsz:=qjg (kAt c.ks p)
 obtain⟨p,rfl⟩:=y1b p0
 simp only[zv,z]
 refine F183.k3.to (qgn h1 fun w2 hf2=>?_)
 have h2:=h1.keep0 hf2
 have f2:=hf1.trans hf2
 refine C.a5 (fun w'=>Fr [] w2 w') fun w3 hf3 _=>⟨hf3,?_⟩
 obtain⟨cs,c1,c2,c3,c4,c5,c6⟩:=h2.blk
 simp only[zv]
 refine C.bq (by omega) (by omega) ?_
 rw[y2t]
 refine C.ao (v := .pointer (some ⟨A.mem,0,none⟩)) (fun w' hw=>⟨cs,_,_,hw.at_ c1 (by simp),c4⟩) ?_
 have hch:(cs.toList.drop (2+p*2)).take 2=[.int .i64 (c.ch.getD p (0,0)).1,.int .i64 (c.ch.getD p (0,0)).2]:=by
  have q1:=(c6 p (by omega)).1
  have q2:=(c6 p (by omega)).2
  apply y2r
  intro i
  rw[y2f,y2h]
  match i with
  | 0=>simpa using q1
  | 1=>simpa using q2
  | i+2=>rw[if_neg (by omega)];rfl
 refine C.bn (vs:=[.int .i64 (c.ch.getD p (0,0)).1,.int .i64 (c.ch.getD p (0,0)).2]) (fun w' hw=>⟨cs,_,_,hw.at_ c1 (by simp),by omega,hch⟩) ?_
 have hcr:=h.cr p
 have hmm:∀w',Fr [] w2 w'→qax w' A.mem A.mv c.m:=fun w' hf=>(h2.keep0 hf).mm
 have eT:∀(x:Nat),c.chain ((p:Nat):Int)=c.ch.getD p (0,0):=fun _=>by simp[Ce.chain]
 simp only[eT 0] at hk
 generalize hl:c.ch.getD p (0,0)=l at *
 obtain⟨tr1,tr2⟩:=qwl (m:=c.m) (p:=(p:Int)) (k:=kAt c.ks (p:Int)) (l:=l) hcr
 have tr2:=tr2 hcc
 have fin:∀w4 x8,Fr [] w2 w4→w2.heap.size≤x8→w4.heap[x8]?=some (.cells (chV (qch c.m p (kAt c.ks p) l).2).cells 241 (0,0))→
   F183.k5 K (.pointer (some ⟨A.cel,0,none⟩)) (.int .i64 (p:Int)) (.int .i64 (kAt c.ks p)) (.int .i64 (qch c.m p (kAt c.ks p) l).1) (.pointer (some ⟨x8,0,none⟩)) w4:=fun w4 x8 hf4 hx8 e8=>by
  have h4:=h2.keep0 hf4
  refine F183.k5.to (qtg (by omega) tr2 ?_)
  simp only[zv]
  have n8:x8≠A.cel:=by have:=qac c1;omega
  refine C.a5 (fun w'=>w'.heap[x8]?=some (.cells (chV (qch c.m p (kAt c.ks p) l).2).cells 241 (0,0))) fun w5 hf5 _=>⟨hf5.at_ e8 (by simp),?_⟩
  have h5:=h4.keep0 hf5
  simp only[]
  refine C.bn (vs:=[.int .i64 (qch c.m p (kAt c.ks p) l).2.1,.int .i64 (qch c.m p (kAt c.ks p) l).2.2]) (fun w' hw=>⟨_,_,_,hw,by simp[chV,Value.cells],rfl⟩) ?_
  refine C.bq (by omega) (by omega) ?_
  rw[y2t]
  refine⟨h5.setCh (l:=(qch c.m p (kAt c.ks p) l).2) (by omega) tr1 fun w6 hf6 h6=>⟨hf6.at_ (hf5.at_ e8 (by simp)) (by simpa using n8),?_⟩,trivial⟩
  obtain⟨ds,d1,d2,d3,d4,d5,d6⟩:=h6.blk
  refine C.ad (v := .pointer (some ⟨A.tk,0,none⟩)) d1 d5 (qtc h6.tk fun w7 hf7 h7b=>?_)
  have h7:=h6.setTk hf7 h7b
  obtain⟨es,e1,e2,e3,e4,e5,e6⟩:=h7.blk
  refine C.a5 (fun w'=>w'.heap[A.cel]?=some (.cells es 244 (0,0))) fun w8 hf8 _=>⟨hf8.at_ e1 (by simp),?_⟩
  have h8:=h7.keep0 hf8
  simp only[]
  refine C.ao (v := .pointer (some ⟨A.mem,0,none⟩)) (fun w' hw=>⟨_,_,_,hw,e4⟩) ⟨qcn ⟨hf8.at_ e1 (by simp),?_⟩,trivial⟩
  have e18:=hf8.at_ e1 (by simp)
  refine⟨qly h8.mm (by omega) fun w9 hf9 h9m=>⟨hf9.at_ e18 (h8.mm.own.nb e18 (by decide)),?_⟩,trivial⟩
  have h9:=h8.setMem hf9 h9m (qbs _ _ _ _)
  refine hk w9 ?_ h9
  exact ((((f2.trans hf4).trans hf5).w.trans hf6.cel).trans (hf7.tk.trans hf8.w)).trans hf9.mv
 refine⟨qr1 (l:=l) (hmm w3 hf3) (by omega) (by omega) fun w4 ok hf4=>⟨hf3.trans hf4,?_⟩,⟨?_,trivial⟩⟩
 ·simp only[zv]
  refine⟨C.av fun x8 w5 hn5=>⟨(hf3.trans hf4).trans hn5.fr,C.a0 (x:=chV (qch c.m p (kAt c.ks p) l).2) hn5.at_ rfl qcv rfl fun w6 hu6=>⟨?_,?_⟩,trivial⟩,trivial⟩
  ·have:=((hf3.trans hf4).trans hn5.fr).size
   have:=hn5.is
   have:=(hf3.trans hf4).size
   exact ((hf3.trans hf4).trans hn5.fr).then hu6.fr fun z hz => .inr (by simp only[y2d] at hz;omega)
  ·have:=hn5.is
   have:=(hf3.trans hf4).size
   exact fin w6 x8 (((hf3.trans hf4).trans hn5.fr).then hu6.fr fun z hz => .inr (by simp only[y2d] at hz;omega)) (by omega) hu6.at_
 ·refine C.av fun x8 w4 hn4=>⟨hf3.trans hn4.fr,qr1 (l:=l) (hmm w4 (hf3.trans hn4.fr)) (by omega) (by omega) fun w5 ok hf5=>⟨(hf3.trans hn4.fr).trans hf5,?_⟩,trivial⟩
  simp only[zv]
  have i4:=hn4.is
  have s3:=hf3.size
  refine⟨C.a0 (x:=chV (qch c.m p (kAt c.ks p) l).2) (hf5.at_ hn4.at_ (by simp)) rfl qcv rfl fun w6 hu6=>⟨?_,?_⟩,trivial⟩
  ·exact ((hf3.trans hn4.fr).trans hf5).then hu6.fr fun z hz => .inr (by simp only[y2d] at hz;omega)
  ·exact fin w6 x8 (((hf3.trans hn4.fr).trans hf5).then hu6.fr fun z hz => .inr (by simp only[y2d] at hz;omega)) (by omega) hu6.at_
theorem za9 {n:Int} (h:qar A w c) (hn:n≤64) (hk:∀w',Fr A.S w w'→qar A w' (c.large n).1→K (match (c.large n).2 with | some a => .tuple #[.int .i64 a,.bool true] | none => .tuple #[.int .i64 0,.bool false]) w'):
  C.i y5c 119 #[.pointer (some ⟨A.cel,0,none⟩),.int .i64 n] w K:=by
 obtain⟨cs,c1,c2,c3,c4,c5,c6⟩:=h.blk
 have hle:=h.pg.le
 refine F119.sh (qha h ?_)
 simp only[zv]
 refine F119.k3.to ?_
 simp only[zv]
 unfold Ce.large at hk
 refine C.ad (v := .pointer (some ⟨A.tab,0,none⟩)) c1 c3 (zd9 h.pg hn (fun hs w1 hf1=>?_) fun p w1 hs hn1 hl hf1 hp1=>?_)
 ·rw[hs] at hk
  simp only[zv]
  exact hk w1 hf1.w (h.keep0 hf1)
 ·rw[hs] at hk
  simp only at hk
  have h1:=h.setKs hf1 hp1 (by rw[y3r,qbx hl])
  simp only[zv]
  have eg:(qfs (p:Int) n).1=(p:Int)*32:=by unfold qfs;rw[if_pos (by omega)]
  rw[eg] at hk
  refine F119.k6.to (qka (by omega) (by omega) ?_)
  obtain⟨ds,d1,d2,d3,d4,d5,d6⟩:=h1.blk
  simp only[zv]
  refine C.ad (v := .pointer (some ⟨A.tk,0,none⟩)) d1 d5 (qtc h1.tk fun w2 hf2 h2b=>?_)
  have h2:=h1.setTk hf2 h2b
  obtain⟨es,e1,e2,e3,e4,e5,e6⟩:=h2.blk
  refine C.ad (v := .pointer (some ⟨A.mem,0,none⟩)) e1 e4 ?_
  rw[qab (n:=n*32) (by omega)]
  refine qly h2.mm (by omega) fun w3 hf3 h3m=>?_
  exact hk w3 ((hf1.kv.trans hf2.tk).trans hf3.mv) (h2.setMem hf3 h3m (qbs _ _ _ _))
theorem zdn {a:Int} (h:qar A w c) (hk:∀w',Fr A.S w w'→qar A w' (c.give a).1→K (.bool (c.give a).2) w'):
  C.i y5c 338 #[.pointer (some ⟨A.cel,0,none⟩),.int .i64 a] w K:=by
 obtain⟨cs,c1,c2,c3,c4,c5,c6⟩:=h.blk
 have hle:=h.pg.le
 refine F338.sh (qx0 h ?_)
 unfold Ce.give at hk
 cases hi:c.isIt a with
 | false=>
  rw[hi] at hk
  simp only[y2b,if_false] at hk
  simp only[zv]
  exact hk w (Fr.refl _ _) h
 | true=>
  rw[hi] at hk
  simp only[if_true] at hk
  have ha:0≤a∧a<c.n:=by simp[Ce.isIt,qd0] at hi;exact hi.1
  have hml:=h.ml
  have hmle:=h.mm.le
  have han:a<c.m.length:=ha.2
  have hpg:qap a=a / 32:=by unfold qap;rw[if_pos (by omega)]
  simp only[zv]
  refine F338.k3.to ?_
  simp only[zv]
  refine C.ad (v := .pointer (some ⟨A.tk,0,none⟩)) c1 c5 (qpd h.tk fun w1 hf1 h1b=>?_)
  have h1:=h.setTk hf1 h1b
  refine qfe (qgn h1 fun w2 hf2=>?_)
  have h2:=h1.keep0 hf2
  obtain⟨ds,d1,d2,d3,d4,d5,d6⟩:=h2.blk
  by_cases k5:kAt c.ks (qap a)=5
  ·rw[if_pos k5] at hk
   simp only[zv,eq_self,k5]
   refine C.ad (v := .pointer (some ⟨A.tab,0,none⟩)) d1 d3 (qr9 h2.pg fun w3 hf3 h3p=>?_)
   exact hk w3 ((hf1.tk.trans hf2.w).trans hf3.kv) (h2.setKs hf3 h3p (qn5 hle _))
  ·rw[if_neg k5] at hk
   simp only[zv,k5]
   refine F338.k9.to (za4 ?_)
   simp only[zv]
   refine C.a5 (fun _=>True) fun w3 hf3 _=>⟨trivial,?_⟩
   have h3:=h2.keep0 hf3
   have d13:=hf3.at_ d1 (by simp)
   have hp0:0≤qap a∧qap a<64:=by rw[hpg];omega
   obtain⟨p,hp⟩:=y1b hp0.1
   rw[hp] at hk hp0 ⊢
   simp only[]
   refine C.bq (by omega) (by omega) ?_
   rw[y2t]
   have hch:(ds.toList.drop (2+p*2)).take 2=[.int .i64 (c.ch.getD p (0,0)).1,.int .i64 (c.ch.getD p (0,0)).2]:=by
    have q1:=(d6 p (by omega)).1
    have q2:=(d6 p (by omega)).2
    apply y2r
    intro i
    rw[y2f,y2h]
    match i with
    | 0=>simpa using q1
    | 1=>simpa using q2
    | i+2=>rw[if_neg (by omega)];rfl
   have eT:c.chain ((p:Nat):Int)=c.ch.getD p (0,0):=by simp[Ce.chain]
   rw[eT] at hk
   obtain⟨g1,g2⟩:=qwj (m:=c.m) (p:=(p:Int)) (k:=kAt c.ks (p:Int)) (i:=(qfr (kAt c.ks (p:Int)) a).1) (l:=c.ch.getD p (0,0))
   have fin:∀w4 ok,Fr (qaa A.mv) w3 w4→qax w4 A.mem A.mv (qdr c.m p (kAt c.ks p) (c.ch.getD p (0,0)) (qfr (kAt c.ks (p:Int)) a).1).1→True∧C.a1 0 (.tuple #[chV (qdr c.m p (kAt c.ks p) (c.ch.getD p (0,0)) (qfr (kAt c.ks (p:Int)) a).1).2,.bool ok]) w4 fun x56_22 w22=>
     C.a1 1 (.tuple #[chV (qdr c.m p (kAt c.ks p) (c.ch.getD p (0,0)) (qfr (kAt c.ks (p:Int)) a).1).2,.bool ok]) w22 fun x57_23 w23=>C.bs 64 2 (.pointer (some ⟨A.cel,2,none⟩)) (.int .i64 (p:Int)) w23 fun x60_24 w24=>
     (C.ak 2 x60_24 x56_22 w24 fun w25=>(True∧F338.k11 K w25))∧True:=fun w4 ok hf4 hm4=>by
    have h4:=h3.setMem hf4 hm4 g2
    refine⟨trivial,?_⟩
    simp only[zv]
    refine C.bq (by omega) (by omega) ?_
    rw[y2t]
    refine⟨h4.setCh (by omega) g1 fun w5 hf5 h5=>⟨trivial,F338.k11.to ?_⟩,trivial⟩
    exact hk w5 ((hf1.tk.trans (hf2.trans hf3).w).trans (hf4.mv.trans hf5.cel)) h5
   refine⟨C.ad (v := .pointer (some ⟨A.mem,0,none⟩)) d13 d4 ⟨trivial,?_⟩,?_,trivial⟩
   ·exact⟨C.br (n:=2) d13 (by omega) hch ⟨trivial,qrz (l:=c.ch.getD p (0,0)) h3.mm (by omega) fin,trivial⟩,trivial⟩
   ·exact C.br (n:=2) d13 (by omega) hch ⟨trivial,C.ad (v := .pointer (some ⟨A.mem,0,none⟩)) d13 d4 ⟨trivial,qrz (l:=c.ch.getD p (0,0)) h3.mm (by omega) fin,trivial⟩,trivial⟩
theorem qrx {p:Int} (h:qar A w c) (hk:∀w',Fr A.S w w'→qar A w' (c.drop p).1→K (.bool (c.drop p).2) w'):
  C.i y5c 212 #[.pointer (some ⟨A.cel,0,none⟩),.int .i64 p] w K:=by
 have hle:=h.pg.le
 refine F212.sh (qs5 h fun w1 hf1=>?_)
 have h1:=h.keep0 hf1
 unfold Ce.drop at hk
 cases hs:c.small p with
 | false=>
  rw[hs] at hk
  simp only[y2b,false_and,if_false] at hk
  simp only[zv]
  exact hk w1 hf1.w h1
 | true=>
  rw[hs] at hk
  simp only[true_and] at hk
  simp only[zv]
  refine qo8 h1 fun w2 hf2=>qgn (h1.keep0 hf2) fun w3 hf3=>qm1 ?_
  have h3:=(h1.keep0 hf2).keep0 hf3
  have f3:=hf1.trans (hf2.trans hf3)
  by_cases d:c.left p<qae (kAt c.ks p)
  ·simp only[zv,d]
   rw[if_neg (by omega)] at hk
   exact hk w3 f3.w h3
  ·simp only[zv,d]
   rw[if_pos (by omega)] at hk
   refine F212.k3.to ?_
   obtain⟨ds,d1,d2,d3,d4,d5,d6⟩:=h3.blk
   simp only[zv]
   refine C.ad (v := .pointer (some ⟨A.tab,0,none⟩)) d1 d3 (qr9 h3.pg fun w4 hf4 h4p=>?_)
   exact hk w4 (f3.w.trans hf4.kv) (h3.setKs hf4 h4p (qn5 hle _))
end
structure IsC (w:World) (b m:Nat) (n:Int) (l:List ((Int × Int) × Value × Nat)) (c:Nat):Prop where
 blk:w.heap[b]?=some (.cells #[.int .i64 n,.map (some m)] 247 (0,0))
 map:qda qci w m l c
 int:∀x∈l,∃p:Int,x.2.1 = .int .i64 p
theorem IsC.keep {S:List Nat} {w w':World} {b m c:Nat} {n:Int} {l:List ((Int × Int) × Value × Nat)} (h:IsC w b m n l c) (hf:Fr S w w') (hb:b∉S) (hm:m∉S):IsC w' b m n l c:=
 ⟨hf.at_ h.blk hb,h.map.keep hf hm,h.int⟩
def zad:Value→Int
 | .int _ p=>p
 | _ => -1
def qdz (l:List ((Int × Int) × Value × Nat)) (a:Int × Int):Int:=match fnd a l 0 with
 | some (_,v)=>zad v
 | none => -1
section
variable {K:VK} {w:World}
theorem zeh (n:Int) (m:Nat):(Instr.build 247 #[(0,.int .i64 n),(1,.map (some m))]).run y5c w = .ok (.agg #[.int .i64 n,.map (some m)]) w:=by kernel_rfl
theorem qtt (t k:Int):(Instr.build 265 #[(0,.int .i64 t),(1,.int .i64 k)]).run y5c w = .ok (qci (t,k)) w:=by kernel_rfl
theorem zfx {t:Int} (h:∀b m w',Fr [] w w'→w.heap.size≤b→w.heap.size≤m→b≠m→IsC w' b m (if t<0 then 0 else if t>9 then 9 else t) [] 0→K (.pointer (some ⟨b,0,none⟩)) w'):C.i y5c 113 #[.int .i64 t] w K:=by
 refine F113.sh (qdb ?_)
 generalize (if t<0 then 0 else if t>9 then 9 else t)=n at h ⊢
 refine C.c2 (kv:=qci) fun w1 hf1 hm1 hs1=>C.a4 (zeh n _) ?_
 refine C.av fun b w2 hn2=>?_
 have hi:=hn2.is
 exact h b w.heap.size w2 (hf1.trans hn2.fr) (by have:=hf1.size;omega) (y4q _) (by omega) ⟨hn2.at_,hm1.keep hn2.fr (by simp),by simp⟩
theorem qva {b m c:Nat} {n t k:Int} {l:List ((Int × Int) × Value × Nat)} (hC:IsC w b m n l c) (h:K (.int .i64 (qdz l (t,k))) w):C.i y5c 184 #[.pointer (some ⟨b,0,none⟩),.int .i64 t,.int .i64 k] w K:=by
 refine F184.sh ⟨_,qan _ _ _ Tryz.underlying168,?_⟩
 simp only[C.ac]
 refine F184.k3.to ?_
 simp only[zv]
 refine C.ad (v := .map (some m)) hC.blk rfl (C.a4 (qtt t k) ?_)
 have hx:∀ {j:Nat} {v:Value},fnd (t,k) l 0=some (j,v)→∃p:Int,v = .int .i64 p:=fun {j v} e=>by
  have hex:∃x∈l,x.1=(t,k):=by
   apply y0q
   intro hc
   rw[qfi fun x hx he=>hc ⟨x,hx,he⟩] at e
   cases e
  obtain⟨j',x,h1,_,_,h4⟩:=qji (i:=0) hex
  rw[e] at h4
  simp only[y2k,y4e] at h4
  obtain⟨p,hp⟩:=hC.int x (y1r h1)
  exact⟨p,by rw[h4.2,hp]⟩
 cases e:fnd (t,k) l 0 with
 | none=>
  refine C.ct qh0 Tryz.underlying245 (z := .int .i64 0) (by kernel_rfl) hC.map (t,k) (.inl ⟨e,rfl,rfl⟩) ?_
  simp only[zv,eq_self,if_true]
  refine F184.k6.to ?_
  simpa[qdz,e] using h
 | some p=>
  obtain⟨j,v⟩:=p
  obtain⟨p,rfl⟩:=hx e
  refine C.ct qh0 Tryz.underlying245 (z := .int .i64 0) (by kernel_rfl) hC.map (t,k) (.inr ⟨j,e,rfl⟩) ?_
  simp only[zv,eq_self,if_true]
  simpa[qdz,e,zad] using h
end
end Go.Proofs.YtcakfaakbpdklaaGreatDoorV
namespace Go.Proofs.YtcakfaakbpdklaaGreatDoorV
open Go Go.Proofs Go.RowKit
open Go.Proofs.Tryz renaming prog→y5c
open Go.ChangeMaps (setBlock)
open Go.Proofs.Tryz renaming prog→y5c
def qt6 (p:Int):Value→Bool
 | .int .i64 q=>decide (q=p)
 | _=>false
theorem qlg {p:Int} {v:Value}:qt6 p v=true↔v = .int .i64 p:=by
 unfold qt6
 split
 ·simp
 ·rename_i h
  simp only[y2b,false_iff]
  exact fun e=>h p e
def qbn (l:List ((Int × Int) × Value × Nat)) (p:Int):Int × Int:=match l.find? (fun x=>qt6 p x.2.1) with
 | some x=>x.1
 | none=>(-1,0)
theorem qg6 {l:List ((Int × Int) × Value × Nat)} {p:Int} (h:∀x∈l,x.2.1 ≠ .int .i64 p):qbn l p=(-1,0):=by
 unfold qbn
 rw[y2i.2 fun x hx=>fun e=>h x hx (qlg.1 e)]
theorem qju {l:List ((Int × Int) × Value × Nat)} {p:Int} {x:(Int × Int) × Value × Nat} (hx:x∈l) (hp:x.2.1 = .int .i64 p) (hu:∀x∈l,∀y∈l,x.2.1=y.2.1→x=y):qbn l p=x.1:=by
 unfold qbn
 cases e:l.find? (fun x=>qt6 p x.2.1) with
 | none=>exact absurd (qlg.2 hp) (y2i.1 e x hx)
 | some y=>
  have h1:=List.mem_of_find?_eq_some e
  have h2:y.2.1 = .int .i64 p:=qlg.1 (by have:=List.find?_some e;exact this)
  rw[hu x hx y h1 (by rw[hp,h2])]
structure qdj (l:List ((Int × Int) × Value × Nat)) (c:Nat):Prop where
 born:∀x∈l,x.2.2<c
 once:(l.map fun x=>x.2.2).Nodup
 uni:∀x∈l,∀y∈l,x.2.1=y.2.1→x=y
section
variable {K:VK} {w:World}
theorem qq4 {r:Nat} {o o':Obj} (hr:w.heap[r]?=some o):Upd w r o' (setBlock w r o'):=qgl hr o'
theorem que {W:World} {b m c r:Nat} {n p:Int} {l:List ((Int × Int) × Value × Nat)} (hC:IsC W b m n l c) (hg:qdj l c) (hr0:W.heap.size≤r)
  (h:∀w',Fr [] W w'→K (.tuple #[.int .i64 (qbn l p).1,.int .i64 (qbn l p).2]) w'):
  ∀(d:Nat) (seen:Array Nat) (w:World),(leftOf (l.map (ent qci)).toArray seen).size≤d→Fr [] W w→w.heap[r]?=some (.mapIter (some m) c seen c)→(∀x∈l,seen.contains x.2.2=true→x.2.1 ≠ .int .i64 p)→
   F185.l4 K (.int .i64 p) (.pointer (some ⟨r,0,none⟩)) w:=by
 have hmW:=qac hC.map
 intro d
 induction d with
 | zero=>
  intro seen w hd hf hr hs
  have hm:=hC.map.keep hf (by simp)
  rcases run_next_at (P:=y5c) w 0 r m c c seen _ c hr hm (fun x hx=>by
   simp only[y4l] at hx
   obtain⟨y,hy,rfl⟩:=hx
   exact hg.born y hy) (y4q _) with⟨h0,hrun⟩ | ⟨e,he,w1,hal,hrun⟩
  ·refine F185.l4.to (C.a4 hrun ⟨#[.bool false],.bool false,rfl,rfl,?_⟩)
   simp only[C.ac]
   refine F185.k8.to ?_
   have:=h w hf
   rwa [qg6 fun x hx=>hs x hx (all_seen _ _ h0 _ (y4l.2 ⟨x,hx,rfl⟩))] at this
  ·have:=Array.size_pos_of_mem (Array.mem_toList_iff.1 he)
   omega
 | succ d ih=>
  intro seen w hd hf hr hs
  have hm:=hC.map.keep hf (by simp)
  rcases run_next_at (P:=y5c) w 0 r m c c seen _ c hr hm (fun x hx=>by
   simp only[y4l] at hx
   obtain⟨y,hy,rfl⟩:=hx
   exact hg.born y hy) (y4q _) with⟨h0,hrun⟩ | ⟨e,he,w1,hal,hrun⟩
  ·refine F185.l4.to (C.a4 hrun ⟨#[.bool false],.bool false,rfl,rfl,?_⟩)
   simp only[C.ac]
   refine F185.k8.to ?_
   have:=h w hf
   rwa [qg6 fun x hx=>hs x hx (all_seen _ _ h0 _ (y4l.2 ⟨x,hx,rfl⟩))] at this
  ·have hsh:=left_shrinks _ _ _ he
   obtain⟨hem,hes⟩:=mem_left he
   obtain⟨x,hx,rfl⟩:=y4l.1 hem
   have f1:Fr [] w w1∧w1.heap=w.heap:=by
    rcases hal with rfl | rfl
    ·exact⟨Fr.refl _ _,rfl⟩
    ·exact⟨Fr.drew w,rfl⟩
   have hr1:w1.heap[r]?=some (.mapIter (some m) c seen c):=by rw[f1.2];exact hr
   have hu:=qq4 (o' := .mapIter (some m) c (seen.push x.2.2) c) hr1
   have ff:Fr [] W (setBlock w1 r (.mapIter (some m) c (seen.push x.2.2) c)):=(hf.trans f1.1).then hu.fr fun z hz => .inr (by simp only[y2d] at hz;omega)
   refine F185.l4.to (C.a4 hrun ?_)
   simp only[zv]
   have hrun2:=run_entry_at (P:=y5c) _ r m c seen _ c (ent qci x) hu.at_ (hC.map.keep ff (by simp)) hem (by simpa[ent,Function.comp_def] using hg.once)
   refine F185.k5.to (C.a4 hrun2 ?_)
   obtain⟨q,hq⟩:=hC.int x hx
   simp only[zv,ent,hq]
   refine C.av fun g w2 hn2=>C.a0 (x:=qci x.1) hn2.at_ rfl (by simp[qci,Value.cells,Value.oneCell']) rfl fun w3 hu3=>?_
   have i2:=hn2.is
   have s2:=ff.size
   have f2:Fr [] W w3:=(ff.trans hn2.fr).then hu3.fr fun z hz => .inr (by simp only[y2d] at hz;omega)
   by_cases c1:q=p
   ·subst c1
    simp only[zv,eq_self]
    refine C.a5 (fun w'=>Fr [] w3 w') fun w4 hf4 _=>⟨hf4,?_⟩
    refine C.ao (v := .int .i64 x.1.1) (fun w' hw=>⟨_,_,_,hw.at_ hu3.at_ (by simp),rfl⟩) ?_
    refine C.ao (v := .int .i64 x.1.2) (fun w' hw=>⟨_,_,_,hw.at_ hu3.at_ (by simp),rfl⟩) ?_
    have:=h w4 (f2.trans hf4)
    rwa [qju hx hq hg.uni] at this
   ·simp only[zv,c1]
    refine ih (seen.push x.2.2) w3 (by have:(ent qci x).born=x.2.2:=rfl;rw[this] at hsh;omega) f2 ?_ fun y hy hc=>?_
    ·refine hu3.fr.at_ (hn2.fr.at_ hu.at_ (by simp)) ?_
     have:=qac hu.at_
     simp only[y2d]
     omega
    ·rw[Array.contains_push,Bool.or_eq_true] at hc
     rcases hc with hc | hc
     ·exact hs y hy hc
     ·have e2:y.2.2=x.2.2:=by simpa using hc
      intro hyp
      have:x=y:=by
       obtain⟨i,hi,rfl⟩:=y1y hx
       obtain⟨j,hj,rfl⟩:=y1y hy
       by_cases eij:i=j
       ·subst eij;rfl
       ·rcases Nat.lt_or_gt_of_ne eij with hlt | hlt
        ·have q:=y0t.1 hg.once i j (by simpa using hi) (by simpa using hj) hlt;simp only[y3h] at q;exact absurd e2.symm q
        ·have q:=y0t.1 hg.once j i (by simpa using hj) (by simpa using hi) hlt;simp only[y3h] at q;exact absurd e2 q
      subst this
      rw[hq] at hyp
      simp only[Value.int.injEq,true_and] at hyp
      exact c1 hyp
theorem qr8 {b m c:Nat} {n p:Int} {l:List ((Int × Int) × Value × Nat)} (hC:IsC w b m n l c) (hg:qdj l c)
  (h:∀w',Fr [] w w'→K (.tuple #[.int .i64 (qbn l p).1,.int .i64 (qbn l p).2]) w'):C.i y5c 185 #[.pointer (some ⟨b,0,none⟩),.int .i64 p] w K:=by
 refine F185.sh ⟨_,qan _ _ _ Tryz.underlying168,?_⟩
 simp only[C.ac]
 refine F185.k3.to ?_
 simp only[zv]
 refine C.ad (v := .map (some m)) hC.blk rfl (C.a4 (run_range_map w 245 265 3 m _ c Tryz.underlying245 hC.map) ?_)
 have hn:=New.mk' w (.mapIter (some m) c #[] c)
 exact que hC hg (y4q _) h _ #[] _ (y4q _) hn.fr hn.at_ fun x _ hx=>by simp at hx
end
end Go.Proofs.YtcakfaakbpdklaaGreatDoorV
namespace Go.Proofs.YtcakfaakbpdklaaGreatDoorV
open Go Go.Proofs Go.RowKit
open Go.Proofs.Tryz renaming prog→y5c
def setL (l:List ((Int × Int) × Value × Nat)) (a:Int × Int) (p:Int) (c:Nat):List ((Int × Int) × Value × Nat) × Nat:=match fnd a l 0 with
 | none=>(l ++ [(a,.int .i64 p,c)],c+1)
 | some (j,_)=>(l.set j (a,.int .i64 p,(l[j]?.map fun x=>x.2.2).getD 0),c)
theorem qyv {k:Int}:csz k=0↔k<1∨k≥5:=by
 unfold csz
 by_cases h1:k=1
 ·simp[h1]
 by_cases h2:k=2
 ·simp[h2]
 by_cases h3:k=3
 ·simp[h3]
 by_cases h4:k=4
 ·simp[h4]
 simp only[h1,h2,h3,h4,if_false,true_iff]
 omega
section
variable {K:VK} {w:World}
theorem qt0 (x y:Operand) (m:Nat):(do eqGuard .eql 245 x y (.map (some m)) (.map none);binOp .eql 245 (.map (some m)) (.map none):Sem Value).run y5c w = .ok (.bool false) w:=by
 have h:∀d,(Op.equalIn (d+1) 245 (.map (some m)) (.map none)).run y5c w = .ok false w:=fun d=>by simp[Op.equalIn,run_underlying Tryz.underlying245]
 exact qkg (by simp[eqGuard]) rfl (h 9999)
theorem zf1 {b m c:Nat} {n t k p:Int} {l:List ((Int × Int) × Value × Nat)} (hC:IsC w b m n l c) (hg:qdj l c)
  (h0:¬(0≤t∧t<n∧csz k≠0∧0≤p∧p<64∧(qbn l p).1<0)→∀w',Fr [] w w'→K (.bool false) w')
  (h1:(0≤t∧t<n∧csz k≠0∧0≤p∧p<64∧(qbn l p).1<0)→∀w',Fr [m] w w'→IsC w' b m n (setL l (t,k) p c).1 (setL l (t,k) p c).2→K (.bool true) w'):
  C.i y5c 124 #[.pointer (some ⟨b,0,none⟩),.int .i64 t,.int .i64 k,.int .i64 p] w K:=by
 have hbm:b≠m:=fun e=>by subst e;have h1:=hC.blk;have h2:=hC.map;unfold qda at h2;rw[h1] at h2;cases h2
 refine F124.sh ⟨_,qan _ _ _ Tryz.underlying168,?_⟩
 simp only[zv]
 refine C.ad (v := .map (some m)) hC.blk rfl ⟨_,qt0 _ _ m,?_⟩
 simp only[zv]
 by_cases c1:t<0
 ·simp only[zv,c1]
  exact h0 (by omega) w (Fr.refl _ _)
 simp only[zv,c1]
 refine C.ad (v := .int .i64 n) hC.blk rfl ?_
 by_cases c2:t≥n
 ·simp only[zv,c2]
  exact h0 (by omega) w (Fr.refl _ _)
 simp only[zv,c2]
 refine qcn ?_
 by_cases c3:csz k=0
 ·simp only[zv,eq_self,c3]
  exact h0 (fun e=>e.2.2.1 c3) w (Fr.refl _ _)
 simp only[zv,c3]
 by_cases c4:p<0
 ·simp only[zv,c4]
  exact h0 (by omega) w (Fr.refl _ _)
 simp only[zv,c4]
 by_cases c5:p≥64
 ·simp only[zv,c5]
  exact h0 (by omega) w (Fr.refl _ _)
 simp only[zv,c5]
 refine F124.k3.to (qr8 hC hg fun w1 hf1=>?_)
 by_cases c6:(qbn l p).1≥0
 ·simp only[zv,c6]
  exact h0 (by omega) w1 hf1
 simp only[zv,c6]
 have hC1:=hC.keep hf1 (by simp) (by simp)
 refine F124.k6.to ?_
 simp only[zv]
 refine C.ad (v := .map (some m)) hC1.blk rfl (C.a4 (qtt t k) ?_)
 have hlt:=qac hC.map
 have fin:∀w' l' c',setL l (t,k) p c=(l',c')→Fr [m] w1 w'→qda qci w' m l' c'→(∀x∈l',∃q:Int,x.2.1 = .int .i64 q)→K (.bool true) w':=fun w' l' c' e hf hm hi=>by
  refine h1 ⟨by omega,by omega,c3,by omega,by omega,by omega⟩ w' ((hf1.mono (by simp)).trans hf) ?_
  rw[e]
  exact⟨hf.at_ hC1.blk (by simpa using hbm),hm,hi⟩
 cases e:fnd (t,k) l 0 with
 | none=>
  refine C.c5 qh0 Tryz.underlying245 hC1.map (t,k) (.int .i64 p) e fun w' hf hs hm=>fin w' _ _ (by simp[setL,e]) hf hm fun x hx=>?_
  rcases y3q.1 hx with hx | hx
  ·exact hC.int x hx
  ·rw[y2d.1 hx];exact⟨p,rfl⟩
 | some jv=>
  obtain⟨j,v⟩:=jv
  have hex:∃x∈l,x.1=(t,k):=by
   apply y0q
   intro hc
   rw[qfi fun x hx he=>hc ⟨x,hx,he⟩] at e
   cases e
  obtain⟨j',x,g1,g2,_,g4⟩:=qji (i:=0) hex
  rw[y4k] at g4
  have ej:j=j':=by rw[e] at g4;simp only[y2k,y4e] at g4;exact g4.1
  subst ej
  refine C.c6 qh0 Tryz.underlying245 hC1.map (t,k) (.int .i64 p) g1 g2 g4 fun w' hf hs hm=>fin w' _ _ (by simp[setL,e,g1]) hf hm fun y hy=>?_
  rcases y0r hy with hy | hy
  ·exact hC.int y hy
  ·rw[hy];exact⟨p,rfl⟩
end
theorem qy5:qdj [] 0:=⟨by simp,by simp,by simp⟩
theorem qy6 {l:List ((Int × Int) × Value × Nat)} {c:Nat} {a:Int × Int} {p:Int} (hg:qdj l c) (hp:∀x∈l,x.2.1 ≠ .int .i64 p):qdj (setL l a p c).1 (setL l a p c).2:=by
 unfold setL
 cases e:fnd a l 0 with
 | none=>
  refine⟨fun x hx=>?_,?_,fun x hx y hy he=>?_⟩
  ·rcases y3q.1 hx with hx | hx
   ·have:=hg.born x hx;simp only;omega
   ·rw[y2d.1 hx];simp
  ·simp only[y3v,y4a,y4o]
   rw[y2w]
   refine⟨hg.once,by simp,fun x hx y hy=>?_⟩
   obtain⟨z,hz,rfl⟩:=y4l.1 hx
   have:=hg.born z hz
   rw[y2d.1 hy]
   omega
  ·rcases y3q.1 hx with hx | hx <;> rcases y3q.1 hy with hy | hy
   ·exact hg.uni x hx y hy he
   ·rw[y2d.1 hy] at he;exact absurd he (hp x hx)
   ·rw[y2d.1 hx] at he;exact absurd he.symm (hp y hy)
   ·rw[y2d.1 hx,y2d.1 hy]
 | some jv=>
  obtain⟨j,v⟩:=jv
  have hex:∃x∈l,x.1=a:=by
   apply y0q
   intro hc
   rw[qfi fun x hx he=>hc ⟨x,hx,he⟩] at e
   cases e
  obtain⟨j',x0,g1,g2,_,g4⟩:=qji (i:=0) hex
  rw[y4k,e] at g4
  simp only[y2k,y4e] at g4
  obtain⟨rfl,_⟩:=g4
  have hjl:j<l.length:=(y0m.1 g1).1
  have hxj:l[j]=x0:=(y0m.1 g1).2
  simp only[g1,y3l,y3f]
  refine⟨fun x hx=>?_,?_,fun x hx y hy he=>?_⟩
  ·rcases y0r hx with hx | hx
   ·exact hg.born x hx
   ·rw[hx];exact hg.born x0 (y1r g1)
  ·rw[List.map_set]
   have:(l.map fun x=>x.2.2).set j x0.2.2=l.map fun x=>x.2.2:=by
    apply y3e
    ·simp
    ·intro i h1 h2
     rw[y3d]
     split
     ·rename_i e;subst e;simp[hxj]
     ·rfl
   rw[this]
   exact hg.once
  ·rcases y0r hx with hx | hx <;> rcases y0r hy with hy | hy
   ·exact hg.uni x hx y hy he
   ·rw[hy] at he;exact absurd he (hp x hx)
   ·rw[hx] at he;exact absurd he.symm (hp y hy)
   ·rw[hx,hy]
abbrev Pgs:=List ((Int × Int) × Value × Nat)
structure qcm (n:Int) (l:Pgs):Prop where
 ks:∀x∈l,0≤x.1.1∧x.1.1<n∧1≤x.1.2∧x.1.2<5∧∃p:Int,x.2.1 = .int .i64 p∧0≤p∧p<64
 kn:(l.map fun x=>x.1).Nodup
def On (l:Pgs) (a:Int × Int) (p:Int):Prop:=∃x∈l,x.1=a∧x.2.1 = .int .i64 p
theorem qig (a:Int × Int) (l:Pgs):(fnd a l 0=none∧∀x∈l,x.1≠a)∨∃j x,l[j]?=some x∧x.1=a∧fnd a l 0=some (j,x.2.1):=by
 by_cases h:∃x∈l,x.1=a
 ·obtain⟨j,x,h1,h2,_,h4⟩:=qji (i:=0) h
  rw[y4k] at h4
  exact .inr ⟨j,x,h1,h2,h4⟩
 ·have h':∀x∈l,x.1≠a:=fun x hx e=>h ⟨x,hx,e⟩
  exact .inl ⟨qfi h',h'⟩
theorem qnc {l:Pgs} (h:(l.map fun x=>x.1).Nodup) {i j:Nat} {x y:(Int × Int) × Value × Nat} (hi:l[i]?=some x) (hj:l[j]?=some y) (e:x.1=y.1):i=j:=by
 obtain⟨i1,i2⟩:=y0m.1 hi
 obtain⟨j1,j2⟩:=y0m.1 hj
 apply y0q
 intro hne
 have hp:=y0t.1 (List.nodup_iff_pairwise_ne.1 h)
 rcases Nat.lt_or_gt_of_ne hne with c | c
 ·have:=hp i j (by simpa using i1) (by simpa using j1) c
  simp only[y3h,i2,j2] at this
  exact this e
 ·have:=hp j i (by simpa using j1) (by simpa using i1) c
  simp only[y3h,i2,j2] at this
  exact this e.symm
theorem zcf {l:Pgs} (h:(l.map fun x=>x.1).Nodup) {x y:(Int × Int) × Value × Nat} (hx:x∈l) (hy:y∈l) (e:x.1=y.1):x=y:=by
 obtain⟨i,hi⟩:=y1q.1 hx
 obtain⟨j,hj⟩:=y1q.1 hy
 have:=qnc h hi hj e
 subst this
 rw[hi] at hj
 exact y3k hj
theorem On.one {n:Int} {l:Pgs} (hk:qcm n l) {a:Int × Int} {p q:Int} (h1:On l a p) (h2:On l a q):p=q:=by
 obtain⟨x,a1,a2,a3⟩:=h1
 obtain⟨y,b1,b2,b3⟩:=h2
 have:=zcf hk.kn a1 b1 (a2.trans b2.symm)
 subst this
 rw[a3] at b3
 simpa using b3
theorem On.whose {c:Nat} {l:Pgs} (hg:qdj l c) {a b:Int × Int} {p:Int} (h1:On l a p) (h2:On l b p):a=b:=by
 obtain⟨x,a1,a2,a3⟩:=h1
 obtain⟨y,b1,b2,b3⟩:=h2
 have:=hg.uni x a1 y b1 (a3.trans b3.symm)
 subst this
 exact a2.symm.trans b2
theorem On.in {n:Int} {l:Pgs} (hk:qcm n l) {a:Int × Int} {p:Int} (h:On l a p):0≤a.1∧a.1<n∧1≤a.2∧a.2<5∧0≤p∧p<64:=by
 obtain⟨x,a1,rfl,a3⟩:=h
 obtain⟨h1,h2,h3,h4,q,h5,h6,h7⟩:=hk.ks x a1
 rw[a3] at h5
 simp only[Value.int.injEq,true_and] at h5
 subst h5
 exact⟨h1,h2,h3,h4,h6,h7⟩
theorem zcj {n:Int} {l:Pgs} (hk:qcm n l) {a:Int × Int} (h:∀p,¬On l a p):∀x∈l,x.1≠a:=fun x hx e=>by
 obtain⟨_,_,_,_,q,h5,_⟩:=hk.ks x hx
 exact h q ⟨x,hx,e,h5⟩
theorem zcl {n:Int} {l:Pgs} (hk:qcm n l) {a:Int × Int} {p:Int} (h:On l a p):qdz l a=p:=by
 unfold qdz
 rcases qig a l with⟨h1,h2⟩ | ⟨j,x,h1,h2,h3⟩
 ·obtain⟨x,a1,a2,_⟩:=h
  exact absurd a2 (h2 x a1)
 ·rw[h3]
  obtain⟨_,_,_,_,q,h5,_⟩:=hk.ks x (y1r h1)
  have:=On.one hk h ⟨x,y1r h1,h2,h5⟩
  simp[h5,zad,this]
theorem qzr {n:Int} {l:Pgs} (hk:qcm n l) {a:Int × Int} (h:∀p,¬On l a p):qdz l a = -1:=by
 unfold qdz
 rw[qfi (zcj hk h)]
theorem qsz {n:Int} {l:Pgs} (hk:qcm n l) (a:Int × Int):(0≤qdz l a∧On l a (qdz l a))∨(qdz l a = -1∧∀p,¬On l a p):=by
 by_cases h:∃p,On l a p
 ·obtain⟨p,h⟩:=h
  rw[zcl hk h]
  exact .inl ⟨(h.in hk).2.2.2.2.1,h⟩
 ·have h':∀p,¬On l a p:=fun p hp=>h ⟨p,hp⟩
  exact .inr ⟨qzr hk h',h'⟩
theorem qqn {c:Nat} {l:Pgs} (hg:qdj l c) {a:Int × Int} {p:Int} (h:On l a p):qbn l p=a:=by
 obtain⟨x,a1,a2,a3⟩:=h
 rw[qju a1 a3 hg.uni,a2]
theorem qw0 {l:Pgs} {p:Int} (h:∀a,¬On l a p):qbn l p=(-1,0):=qg6 fun x hx e=>h x.1 ⟨x,hx,rfl,e⟩
theorem qqm {n:Int} {c:Nat} {l:Pgs} (hg:qdj l c) (hk:qcm n l) (p:Int):(0≤(qbn l p).1∧On l (qbn l p) p)∨(qbn l p=(-1,0)∧∀a,¬On l a p):=by
 by_cases h:∃a,On l a p
 ·obtain⟨a,h⟩:=h
  rw[qqn hg h]
  exact .inl ⟨(h.in hk).1,h⟩
 ·have h':∀a,¬On l a p:=fun p hp=>h ⟨p,hp⟩
  exact .inr ⟨qw0 h',h'⟩
theorem ze5 {n:Int} {l:Pgs} (hk:qcm n l) {a:Int × Int} {p:Int} {c:Nat} (b:Int × Int) (q:Int):On (setL l a p c).1 b q↔(b=a∧q=p)∨(b≠a∧On l b q):=by
 unfold setL
 rcases qig a l with⟨h1,h2⟩ | ⟨j,x,h1,h2,h3⟩
 ·rw[h1]
  constructor
  ·rintro⟨x,a1,a2,a3⟩
   rcases y3q.1 a1 with d | d
   ·exact .inr ⟨a2 ▸ h2 x d,x,d,a2,a3⟩
   ·rw[y2d.1 d] at a2 a3
    simp only[Value.int.injEq,true_and] at a3
    exact .inl ⟨a2.symm,a3.symm⟩
  ·rintro (⟨rfl,rfl⟩ | ⟨_,x,d,a2,a3⟩)
   ·exact⟨_,y3q.2 (.inr (y2d.2 rfl)),rfl,rfl⟩
   ·exact⟨x,y3q.2 (.inl d),a2,a3⟩
 ·rw[h3]
  simp only[h1,y3l,y3f]
  have hjl:j<l.length:=(y0m.1 h1).1
  constructor
  ·rintro⟨y,a1,a2,a3⟩
   obtain⟨i,hi⟩:=y1q.1 a1
   by_cases e:i=j
   ·subst e
    rw[List.getElem?_set_self hjl] at hi
    have:=y3k hi
    subst this
    simp only[Value.int.injEq,true_and] at a3
    exact .inl ⟨a2.symm,a3.symm⟩
   ·rw[List.getElem?_set_ne (Ne.symm e)] at hi
    exact .inr ⟨fun d=>e (qnc hk.kn hi h1 (by rw[a2,d,h2])),y,y1r hi,a2,a3⟩
  ·rintro (⟨rfl,rfl⟩ | ⟨hb,y,d,a2,a3⟩)
   ·exact⟨_,y1q.2 ⟨j,List.getElem?_set_self hjl⟩,rfl,rfl⟩
   ·obtain⟨i,hi⟩:=y1q.1 d
    by_cases e:i=j
    ·subst e
     rw[h1] at hi
     have:=y3k hi
     subst this
     exact absurd (a2.symm.trans h2) hb
    ·exact⟨y,y1q.2 ⟨i,by rw[List.getElem?_set_ne (Ne.symm e)];exact hi⟩,a2,a3⟩
theorem qza {n t k p:Int} {l:Pgs} (hk:qcm n l) {c:Nat} (h1:0≤t) (h2:t<n) (h3:1≤k) (h4:k<5) (h5:0≤p) (h6:p<64):qcm n (setL l (t,k) p c).1:=by
 unfold setL
 rcases qig (t,k) l with⟨g1,g2⟩ | ⟨j,x,g1,g2,g3⟩
 ·rw[g1]
  refine⟨fun x hx=>?_,?_⟩
  ·rcases y3q.1 hx with d | d
   ·exact hk.ks x d
   ·rw[y2d.1 d]
    exact⟨h1,h2,h3,h4,p,rfl,h5,h6⟩
  ·simp only[y3v,y4a,y4o]
   rw[y2w]
   refine⟨hk.kn,by simp,fun x hx y hy=>?_⟩
   obtain⟨z,hz,rfl⟩:=y4l.1 hx
   rw[y2d.1 hy]
   exact g2 z hz
 ·rw[g3]
  simp only[g1,y3l,y3f]
  refine⟨fun x hx=>?_,?_⟩
  ·rcases y0r hx with d | d
   ·exact hk.ks x d
   ·rw[d]
    exact⟨h1,h2,h3,h4,p,rfl,h5,h6⟩
  ·rw[List.map_set]
   have:(l.map fun x=>x.1).set j (t,k)=l.map fun x=>x.1:=by
    obtain⟨e1,e2⟩:=y0m.1 g1
    apply y3e
    ·simp
    ·intro i h1 h2
     rw[y3d]
     split
     ·rename_i e;subst e;simp[e2,g2]
     ·rfl
   rw[this]
   exact hk.kn
def qlc (l:Pgs) (a:Int × Int):Pgs:=match fnd a l 0 with
 | some (j,_)=>l.eraseIdx j
 | none=>l
theorem qso (l:Pgs) (a:Int × Int):List.Sublist (qlc l a) l:=by
 unfold qlc
 split
 ·exact List.eraseIdx_sublist _ _
 ·exact List.Sublist.refl _
theorem qdj.sub {l l':Pgs} {c:Nat} (hg:qdj l c) (h:List.Sublist l' l):qdj l' c:=
 ⟨fun x hx=>hg.born x (h.subset hx),(h.map _).nodup hg.once,fun x hx y hy=>hg.uni x (h.subset hx) y (h.subset hy)⟩
theorem qcm.sub {n:Int} {l l':Pgs} (hk:qcm n l) (h:List.Sublist l' l):qcm n l':=
 ⟨fun x hx=>hk.ks x (h.subset hx),(h.map _).nodup hk.kn⟩
theorem ze4 {n:Int} {l:Pgs} (hk:qcm n l) {a:Int × Int} (b:Int × Int) (q:Int):On (qlc l a) b q↔b≠a∧On l b q:=by
 unfold qlc
 rcases qig a l with⟨h1,h2⟩ | ⟨j,x,h1,h2,h3⟩
 ·rw[h1]
  constructor
  ·rintro⟨x,a1,a2,a3⟩
   exact⟨a2 ▸ h2 x a1,x,a1,a2,a3⟩
  ·exact fun h=>h.2
 ·rw[h3]
  simp only
  constructor
  ·rintro⟨y,a1,a2,a3⟩
   obtain⟨i,hi,e⟩:=List.mem_eraseIdx_iff_getElem?.1 a1
   exact⟨fun d=>hi (qnc hk.kn e h1 (by rw[a2,d,h2])),y,y1r e,a2,a3⟩
  ·rintro⟨hb,y,d,a2,a3⟩
   obtain⟨i,hi⟩:=y1q.1 d
   refine⟨y,List.mem_eraseIdx_iff_getElem?.2 ⟨i,fun e=>?_,hi⟩,a2,a3⟩
   subst e
   rw[h1] at hi
   have:=y3k hi
   subst this
   exact hb (a2.symm.trans h2)
theorem qjr:∀(n:Nat) (l:List Int),l.Nodup→(∀x∈l,0≤x∧x<(n:Int))→l.length≤n
 | 0,l,_,h=>by
  cases l with
  | nil=>simp
  | cons x l=>have:=h x (by simp);omega
 | n+1,l,hd,h=>by
  by_cases hn:(n:Int)∈l
  ·have ih:=qjr n (l.erase n) (hd.erase _) fun x hx=>by
    have h1:=h x (List.mem_of_mem_erase hx)
    have h2:x≠n:=fun e=>by subst e;exact absurd hx hd.not_mem_erase
    omega
   have:=List.length_erase_of_mem hn
   omega
  ·have ih:=qjr n l hd fun x hx=>by
    have h1:=h x hx
    have h2:x≠n:=fun e=>by subst e;exact hn hx
    omega
   omega
structure qeh (n t:Int) (l:Pgs) (c:Nat) (k:Int) (l':Pgs) (out:List Int):Prop where
 good0:qdj l c
 good:qdj l' c
 kept:qcm n l'
 on:∀b q,On l' b q↔On l b q∧¬(b.1=t∧b.2<k)
 mem:∀q,q∈out↔∃j,j<k∧On l (t,j) q
 nd:out.Nodup
 len:(out.length:Int)<k
section
variable {n t k:Int} {l l':Pgs} {c:Nat} {out:List Int}
theorem qeh.start (hg:qdj l c) (hk:qcm n l):qeh n t l c 1 l []:=by
 refine⟨hg,hg,hk,fun b q=>⟨fun h=>⟨h,fun e=>?_⟩,fun h=>h.1⟩,fun q=>⟨fun h=>(by cases h),?_⟩,by simp,by simp⟩
 ·have:=h.in hk;omega
 ·rintro⟨j,hj,h⟩
  have:=h.in hk
  simp only at this
  omega
theorem qeh.take {p:Int} (h:qeh n t l c k l' out) (hp:On l' (t,k) p):qeh n t l c (k+1) (qlc l' (t,k)) (out ++ [p]):=by
 have hs:=qso l' (t,k)
 have h0:=(h.on _ _).1 hp
 refine⟨h.good0,h.good.sub hs,h.kept.sub hs,fun b q=>?_,fun q=>?_,?_,?_⟩
 ·rw[ze4 h.kept,h.on]
  constructor
  ·rintro⟨h1,h2,h3⟩
   refine⟨h2,fun e=>?_⟩
   by_cases e2:b.2=k
   ·exact h1 (Prod.ext e.1 e2)
   ·exact h3 ⟨e.1,by omega⟩
  ·rintro⟨h2,h3⟩
   refine⟨fun e=>?_,h2,fun e=>h3 ⟨e.1,by omega⟩⟩
   subst e
   exact h3 ⟨rfl,by simp only;omega⟩
 ·rw[y3q,h.mem,y2d]
  constructor
  ·rintro (⟨j,hj,hq⟩ | rfl)
   ·exact⟨j,by omega,hq⟩
   ·exact⟨k,by omega,h0.1⟩
  ·rintro⟨j,hj,hq⟩
   by_cases e:j=k
   ·subst e
    exact .inr (On.one h.kept ((h.on _ _).2 ⟨hq,fun d=>h0.2 ⟨rfl,d.2⟩⟩) hp)
   ·exact .inl ⟨j,by omega,hq⟩
 ·rw[y2w]
  refine⟨h.nd,by simp,fun x hx y hy=>?_⟩
  rw[y2d.1 hy]
  rintro rfl
  obtain⟨j,hj,hq⟩:=(h.mem _).1 hx
  have:=On.whose h.good0 hq h0.1
  simp only[y4e,true_and] at this
  omega
 ·have:=h.len
  simp only[y2g,y3a,y3n]
  omega
theorem qeh.skip (h:qeh n t l c k l' out) (hp:∀p,¬On l' (t,k) p):qeh n t l c (k+1) l' out:=by
 have hno:∀p,¬On l (t,k) p:=fun p hq=>hp p ((h.on _ _).2 ⟨hq,fun d=>by have:=d.2;simp only at this;omega⟩)
 refine⟨h.good0,h.good,h.kept,fun b q=>?_,fun q=>?_,h.nd,by have:=h.len;omega⟩
 ·rw[h.on]
  constructor
  ·rintro⟨h2,h3⟩
   refine⟨h2,fun e=>?_⟩
   by_cases e2:b.2=k
   ·have:b=(t,k):=Prod.ext e.1 e2
    subst this
    exact hno q h2
   ·exact h3 ⟨e.1,by omega⟩
  ·rintro⟨h2,h3⟩
   exact⟨h2,fun e=>h3 ⟨e.1,by omega⟩⟩
 ·rw[h.mem]
  constructor
  ·rintro⟨j,hj,hq⟩
   exact⟨j,by omega,hq⟩
  ·rintro⟨j,hj,hq⟩
   by_cases e:j=k
   ·subst e;exact absurd hq (hno q)
   ·exact⟨j,by omega,hq⟩
theorem qeh.fin (hk:qcm n l) (h:qeh n t l c 5 l' out):(∀b q,On l' b q↔On l b q∧b.1≠t)∧∀q,q∈out↔∃j,On l (t,j) q:=by
 refine⟨fun b q=>?_,fun q=>?_⟩
 ·rw[h.on]
  refine⟨fun ⟨a,b⟩=>⟨a,fun e=>b ⟨e,(a.in hk).2.2.2.1⟩⟩,fun ⟨a,b⟩=>⟨a,fun e=>b e.1⟩⟩
 ·rw[h.mem]
  exact⟨fun ⟨j,_,a⟩=>⟨j,a⟩,fun ⟨j,a⟩=>⟨j,(a.in hk).2.2.2.1,a⟩⟩
end
end Go.Proofs.YtcakfaakbpdklaaGreatDoorV
namespace Go.Proofs.YtcakfaakbpdklaaGreatDoorV
open Go Go.Proofs Go.Shelf
open Go.Proofs.Tryz renaming prog→y5c
def qxf:Go.Shelf.Ren:=⟨fun | 5=>262 | 8=>94 | 7=>294 | 19=>140 | 20=>141 | 10=>310 | 11=>311 | 12=>312 | 13=>313 | 14=>314 | 15=>315 | 16=>316 | 17=>317 | 18=>318 | 30=>330 | 31=>204 | 32=>205 | 33=>331 | 34=>332 | 35=>333 | 40=>340 | n=>n,fun | 23=>54 | 25=>3 | 3=>3 | 32=>157 | 22=>54 | 0=>0 | 44=>208 | 46=>210 | 4=>4 | 36=>201 | 35=>200 | 41=>68 | 5=>5 | 9=>9 | 53=>275 | 57=>109 | 63=>306 | 64=>262 | n=>n,fun n=>n⟩
theorem zap:SlLaysM.n5 y5c qxf:={
 mixed:=by kernel_rfl,
 f5:=⟨Tryz.f262.name,by decide,Tryz.func262.trans (congrArg some (by kernel_rfl))⟩,
 f7:=⟨Tryz.f294.name,by decide,Tryz.func294.trans (congrArg some (by kernel_rfl))⟩,
 f8:=Tryz.func94.trans (congrArg some (by kernel_rfl)),
 f10:=⟨Tryz.f310.name,by decide,Tryz.func310.trans (congrArg some (by kernel_rfl))⟩,
 f11:=⟨Tryz.f311.name,by decide,Tryz.func311.trans (congrArg some (by kernel_rfl))⟩,
 f12:=⟨Tryz.f312.name,by decide,Tryz.func312.trans (congrArg some (by kernel_rfl))⟩,
 f13:=⟨Tryz.f313.name,by decide,Tryz.func313.trans (congrArg some (by kernel_rfl))⟩,
 f14:=⟨Tryz.f314.name,by decide,Tryz.func314.trans (congrArg some (by kernel_rfl))⟩,
 f15:=⟨Tryz.f315.name,by decide,Tryz.func315.trans (congrArg some (by kernel_rfl))⟩,
 f16:=⟨Tryz.f316.name,by decide,Tryz.func316.trans (congrArg some (by kernel_rfl))⟩,
 f17:=⟨Tryz.f317.name,by decide,Tryz.func317.trans (congrArg some (by kernel_rfl))⟩,
 f18:=⟨Tryz.f318.name,by decide,Tryz.func318.trans (congrArg some (by kernel_rfl))⟩,
 f19:=Tryz.func140.trans (congrArg some (by kernel_rfl)),
 f20:=Tryz.func141.trans (congrArg some (by kernel_rfl)),
 f30:=⟨Tryz.f330.name,by decide,Tryz.func330.trans (congrArg some (by kernel_rfl))⟩,
 f31:=Tryz.func204.trans (congrArg some (by kernel_rfl)),
 f32:=Tryz.func205.trans (congrArg some (by kernel_rfl)),
 f33:=⟨Tryz.f331.name,by decide,Tryz.func331.trans (congrArg some (by kernel_rfl))⟩,
 f34:=⟨Tryz.f332.name,by decide,Tryz.func332.trans (congrArg some (by kernel_rfl))⟩,
 f35:=⟨Tryz.f333.name,by decide,Tryz.func333.trans (congrArg some (by kernel_rfl))⟩,
 f40:=⟨Tryz.f340.name,by decide,Tryz.func340.trans (congrArg some (by kernel_rfl))⟩,
 t0:=Tryz.underlying0,
 a0:=Tryz.isAgg0,
 z0:=Tryz.sizeOf0,
 v0:=Tryz.zeroValue0,
 t3:=Tryz.underlying3,
 a3:=Tryz.isAgg3,
 z3:=Tryz.sizeOf3,
 v3:=Tryz.zeroValue3,
 t4:=Tryz.underlying4,
 a4:=Tryz.isAgg4,
 z4:=Tryz.sizeOf4,
 v4:=Tryz.zeroValue4,
 t5:=Tryz.underlying5,
 a5:=Tryz.isAgg5,
 z5:=Tryz.sizeOf5,
 v5:=Tryz.zeroValue5,
 t9:=Tryz.underlying9,
 a9:=Tryz.isAgg9,
 z9:=Tryz.sizeOf9,
 v9:=Tryz.zeroValue9,
 t22:=Tryz.underlying54,
 a22:=Tryz.isAgg54,
 z22:=Tryz.sizeOf54,
 v22:=Tryz.zeroValue54,
 t23:=Tryz.underlying54,
 a23:=Tryz.isAgg54,
 z23:=Tryz.sizeOf54,
 v23:=Tryz.zeroValue54,
 t25:=Tryz.underlying3,
 a25:=Tryz.isAgg3,
 z25:=Tryz.sizeOf3,
 v25:=Tryz.zeroValue3,
 t32:=Tryz.underlying157,
 a32:=Tryz.isAgg157,
 z32:=Tryz.sizeOf157,
 v32:=Tryz.zeroValue157,
 t35:=Tryz.underlying200,
 a35:=Tryz.isAgg200,
 z35:=Tryz.sizeOf200,
 v35:=Tryz.zeroValue200,
 t36:=Tryz.underlying201,
 a36:=Tryz.isAgg201,
 z36:=Tryz.sizeOf201,
 v36:=Tryz.zeroValue201,
 t41:=Tryz.underlying68,
 a41:=Tryz.isAgg68,
 z41:=Tryz.sizeOf68,
 v41:=Tryz.zeroValue68,
 t44:=Tryz.underlying208,
 a44:=Tryz.isAgg208,
 z44:=Tryz.sizeOf208,
 v44:=Tryz.zeroValue208,
 t46:=Tryz.underlying210,
 a46:=Tryz.isAgg210,
 z46:=Tryz.sizeOf210,
 v46:=Tryz.zeroValue210,
 t53:=Tryz.underlying275,
 a53:=Tryz.isAgg275,
 z53:=Tryz.sizeOf275,
 v53:=Tryz.zeroValue275,
 t57:=Tryz.underlying109,
 a57:=Tryz.isAgg109,
 z57:=Tryz.sizeOf109,
 v57:=Tryz.zeroValue109,
 t63:=Tryz.underlying306,
 a63:=Tryz.isAgg306,
 z63:=Tryz.sizeOf306,
 v63:=Tryz.zeroValue306,
 t64:=Tryz.underlying262,
 a64:=Tryz.isAgg262,
 z64:=Tryz.sizeOf262,
 v64:=Tryz.zeroValue262 }
end Go.Proofs.YtcakfaakbpdklaaGreatDoorV
namespace Go.Proofs.YtcakfaakbpdklaaGreatDoorV
open Go Go.Proofs Go.RowKit
open Go.Proofs.Tryz renaming prog→y5c
def srt (l:List Int):List Int:=l.mergeSort fun x y=>decide (x≤y)
theorem qee (l:List Int):(srt l).Perm l:=List.mergeSort_perm l _
theorem qkn (l:List Int):(srt l).length=l.length:=(qee l).length_eq
theorem zfj (l:List Int):(srt l).Pairwise (· ≤ ·):=by
 have:=List.pairwise_mergeSort (le:=fun (x y:Int)=>decide (x≤y)) (fun a b c h1 h2=>by simp at *;omega) (fun a b=>by simp;omega) l
 exact this.imp fun h=>by simpa using h
theorem qq2 {l:List Int} (h:l.Nodup):(srt l).Pairwise (· < ·):=by
 have h1:=zfj l
 have h2:(srt l).Nodup:=(qee l).nodup_iff.2 h
 exact (h1.and h2).imp fun ⟨a,b⟩=>by omega
theorem zfi {l k:List Int} (hk:k.Pairwise (· < ·)) (hp:k.Perm l):srt l=k:=by
 have hl:l.Nodup:=hp.nodup_iff.1 (hk.imp fun h=>by omega)
 have h1:=qq2 hl
 have hm:∀x,x∈srt l↔x∈k:=fun x=>(qee l).mem_iff.trans hp.mem_iff.symm
 generalize srt l=s at h1 hm
 clear hp hl
 induction s generalizing k with
 | nil=>
  cases k with
  | nil=>rfl
  | cons y k=>have:=(hm y).2 (by simp);cases this
 | cons x s ih=>
  cases k with
  | nil=>have:=(hm x).1 (by simp);cases this
  | cons y k=>
   obtain⟨a1,a2⟩:=List.pairwise_cons.1 h1
   obtain⟨b1,b2⟩:=List.pairwise_cons.1 hk
   have e:x=y:=by
    rcases y4b.1 ((hm x).1 (by simp)) with c | c
    ·exact c
    ·rcases y4b.1 ((hm y).2 (by simp)) with d | d
     ·exact d.symm
     ·have:=b1 x c;have:=a1 y d;omega
   subst e
   refine congrArg (x :: ·) (ih b2 a2 fun z=>?_)
   constructor
   ·intro hz
    rcases y4b.1 ((hm z).1 (by simp[hz])) with c | c
    ·subst c;have:=a1 z hz;omega
    ·exact c
   ·intro hz
    rcases y4b.1 ((hm z).2 (by simp[hz])) with c | c
    ·subst c;have:=b1 z hz;omega
    ·exact c
theorem qen (l:List Int):(qag l).flatten=l.map (Value.int .i64):=by
 induction l with
 | nil=>rfl
 | cons x l ih=>simp only[qag,y4a,y2s,List.cons_append,y3o] at *;rw[ih]
theorem qhj {l:List Int}:∀y∈qag l,∀u∈y,u.oneCell'=true:=by
 intro y hy u hu
 simp only[qag,y4l] at hy
 obtain⟨x,_,rfl⟩:=hy
 simp only[y4b,y3i,or_false] at hu
 subst hu
 rfl
section
variable {K:VK} {w:World}
theorem zbr {v:Value} {l:List Int} (ho:qad w v 3 1 (qag l)) (hl:l.length≤4000000000000000) (h:∀w',Fr (qaa v) w w'→qad w' v 3 1 (qag (srt l))→K (.tuple #[]) w'):C.i y5c 262 #[v] w K:=by
 obtain⟨⟨h1,h2⟩,h3⟩:=ho
 rw[qak] at h1 h2
 rcases h2 with⟨rfl,h2⟩ | ⟨g,cap,cur,rfl,hb,hg,h4,h5,h6,h7⟩
 ·have e:l=[]:=y0d h2
  subst e
  refine (AnyM.slices_Sort_int_none zap none 0 w).mono ?_
  rintro e w' ⟨rfl,rfl⟩
  exact⟨_,rfl,h w' (Fr.refl _ _) (by
   have:srt []=[]:=by simp[srt]
   rw[this]
   exact qad.nil _ _ _)⟩
 ·rw[qen,y4t] at h7
  have hH:=holds_of_blockI hg h7
  refine (AnyM.slices_Sort_int zap g 0 cap l w hH (qac hg) (by omega)).mono ?_
  rintro e w' ⟨rfl,n,os,rfl⟩
  refine⟨_,rfl,h _ (qgc (v := .slice (some ⟨g,0,none⟩) l.length cap) (grownBy_sortedI _)) ?_⟩
  have hr:=ownsRow_sortedI (n:=n) (os:=os) (base:=0) (ts:=srt l) (qkn l) (Nat.zero_le _) hg h4 h5 h6
  refine⟨?_,fun x hx=>⟨?_,qhj x hx⟩⟩
  ·rw[qak,qen,qkn]
   exact hr
  ·simp only[qag,y4l] at hx
   obtain⟨y,_,rfl⟩:=hx
   rfl
end
section
variable {K:VK} {w:World}
theorem IsC.mb {b m c:Nat} {n:Int} {l:Pgs} (h:IsC w b m n l c):b≠m:=fun e=>by
 subst e;have h1:=h.blk;have h2:=h.map;unfold qda at h2;rw[h1] at h2;cases h2
theorem qwa {W:World} {b m c:Nat} {n t:Int} {l:Pgs} (hm0:m<W.heap.size) (hb0:b<W.heap.size)
  (h:∀v w' l' out,Fr [m] W w'→IsC w' b m n l' c→qeh n t l c 5 l' out→qaj W v→qad w' v 3 1 (qag (srt out))→K v w'):
  ∀(d:Nat) (k:Int) (w:World) (v:Value) (l':Pgs) (out:List Int),k+d=5→1≤k→Fr [m] W w→IsC w b m n l' c→qeh n t l c k l' out→qaj W v→qad w v 3 1 (qag out)→
   F211.l5 K (.pointer (some ⟨b,0,none⟩)) (.int .i64 t) v (.int .i64 k) w:=by
 intro d
 induction d with
 | zero=>
  intro k w v l' out hk hk1 hf hC hD hn ho
  have e:k=5:=by omega
  subst e
  have hlen:=hD.len
  refine F211.l5.to (qcn ?_)
  simp only[zv,show csz 5=0 by decide,show ¬((0:Int)>0) by omega]
  refine F211.k11.to (zbr ho (by omega) fun w1 hf1 ho1=>?_)
  have hb:b∉qaa v:=fun hg=>by have:=hn.blk b hg;omega
  have hm:m∉qaa v:=fun hg=>by have:=hn.blk m hg;omega
  exact h v w1 l' out (hf.then hf1 fun z hz => .inr (hn.blk z hz)) (hC.keep hf1 hb hm) hD hn ho1
 | succ d ih=>
  intro k w v l' out hk hk1 hf hC hD hn ho
  have k5:k<5:=by omega
  have hlen:=hD.len
  refine F211.l5.to (qcn ?_)
  simp only[zv,qsn hk1 k5]
  refine F211.k7.to (qva hC ?_)
  rcases qsz hD.kept (t,k) with⟨p0,pon⟩ | ⟨pm,pno⟩
  ·simp only[zv,p0]
   generalize qdz l' (t,k)=p at *
   refine C.cx ho (by omega) fun v1 w1 ho1 hf1 hg1=>?_
   have hb:b∉qaa v:=fun hg=>by have:=hn.blk b hg;omega
   have hm:m∉qaa v:=fun hg=>by have:=hn.blk m hg;omega
   have hC1:=hC.keep hf1 hb hm
   have hn1:qaj W v1:=qng hn hf.size hg1
   refine C.ad (v := .map (some m)) hC1.blk rfl (C.a4 (qtt t k) ?_)
   refine C.c4 qh0 Tryz.underlying245 hC1.map (t,k) (l':=qlc l' (t,k)) rfl fun w2 hf2 _ hm2=>?_
   have hm1:m∉qaa v1:=fun hg=>by have:=hn1.blk m hg;omega
   refine F211.k6.to ?_
   simp only[C.a6]
   rw[qab (n:=k+1) (by omega)]
   refine ih (k+1) w2 v1 (qlc l' (t,k)) (out ++ [p]) (by omega) (by omega) ((hf.then hf1 fun z hz => .inr (hn.blk z hz)).trans hf2) ⟨hf2.at_ hC1.blk (by simpa using hC.mb),hm2,fun x hx=>hC.int x ((qso _ _).subset hx)⟩ (hD.take pon) hn1
    (ho1.keep' hf2 fun g hg e=>by simp only[y2d] at e;subst e;exact hm1 hg)
  ·simp only[zv,pm,show ¬((-1:Int)≥0) by omega]
   refine F211.k6.to ?_
   simp only[C.a6]
   rw[qab (n:=k+1) (by omega)]
   exact ih (k+1) w v l' out (by omega) (by omega) hf hC (hD.skip pno) hn ho
theorem zdi {b m c:Nat} {n t:Int} {l:Pgs} (hC:IsC w b m n l c) (hg:qdj l c) (hk:qcm n l)
  (h:∀v w' l' out,Fr [m] w w'→IsC w' b m n l' c→qdj l' c→qcm n l'→(∀b q,On l' b q↔On l b q∧b.1≠t)→(∀q,q∈out↔∃j,On l (t,j) q)→out.Nodup→qaj w v→qad w' v 3 1 (qag (srt out))→K v w'):
  C.i y5c 211 #[.pointer (some ⟨b,0,none⟩),.int .i64 t] w K:=by
 refine F211.sh ⟨_,qan _ _ _ Tryz.underlying168,?_⟩
 simp only[C.ac]
 refine F211.k3.to (qwa (l:=l) (qac hC.map) (qac hC.blk) (fun v w' l' out hf hC' hD hn ho=>?_) 4 1 w _ l [] rfl (by omega) (Fr.refl _ _) hC (qeh.start hg hk) (qaj.nil _) (qad.nil _ _ _))
 obtain⟨h1,h2⟩:=hD.fin hk
 exact h v w' l' out hf hC' hD.good hD.kept h1 h2 hD.nd hn ho
end
def qdl (w:World) (b m:Nat) (n:Int) (f:Om):Prop:=n≤9∧∃l c,IsC w b m n l c∧qdj l c∧qcm n l∧∀a p,On l a p↔f a=some p
theorem qdl.keep {S:List Nat} {w w':World} {b m:Nat} {n:Int} {f:Om} (h:qdl w b m n f) (hf:Fr S w w') (hb:b∉S) (hm:m∉S):qdl w' b m n f:=by
 obtain⟨h9,l,c,h1,h2⟩:=h
 exact⟨h9,l,c,h1.keep hf hb hm,h2⟩
theorem qwv {a:Int × Int}:a∈qev↔0≤a.1∧a.1<9∧1≤a.2∧a.2≤4:=by
 obtain⟨t,k⟩:=a
 simp only[qev,List.mem_flatMap,y3x,y4b,y3i,or_false,y4e]
 constructor
 ·rintro⟨x,hx,h | h | h | h⟩ <;> simp only[Int.ofNat_eq_natCast] at h <;> omega
 ·rintro⟨h1,h2,h3,h4⟩
  refine⟨t.toNat,by omega,?_⟩
  simp only[Int.ofNat_eq_natCast]
  omega
section
variable {K:VK} {w:World} {b m:Nat} {n:Int} {f:Om}
theorem qzo {l:Pgs} (hk:qcm n l) (ho:∀a p,On l a p↔f a=some p) (a:Int × Int):qdz l a=qdw f a:=by
 unfold qdw
 rcases qsz hk a with⟨h1,h2⟩ | ⟨h1,h2⟩
 ·rw[(ho _ _).1 h2];rfl
 ·cases e:f a with
  | none=>simpa using h1
  | some p=>exact absurd ((ho _ _).2 e) (h2 p)
theorem qoc {c:Nat} {l:Pgs} (h9:n≤9) (hg:qdj l c) (hk:qcm n l) (ho:∀a p,On l a p↔f a=some p) (p:Int):qbn l p=qbt f p:=by
 unfold qbt
 rcases qqm hg hk p with⟨h1,h2⟩ | ⟨h1,h2⟩
 ·cases e:qev.find? (fun a=>decide (f a=some p)) with
  | none=>
   have:=y2i.1 e (qbn l p) (by
    obtain⟨i1,i2,i3,i4,_⟩:=h2.in hk
    exact qwv.2 ⟨i1,by omega,i3,by omega⟩)
   simp[(ho _ _).1 h2] at this
  | some a=>
   have e1:=List.find?_some e
   simp only[decide_eq_true_eq] at e1
   exact qqn hg ((ho _ _).2 e1)
 ·cases e:qev.find? (fun a=>decide (f a=some p)) with
  | none=>exact h1
  | some a=>
   have e1:=List.find?_some e
   simp only[decide_eq_true_eq] at e1
   exact absurd ((ho _ _).2 e1) (h2 a)
theorem zbe {t k:Int} (h:qdl w b m n f) (hk:K (.int .i64 (qdw f (t,k))) w):C.i y5c 184 #[.pointer (some ⟨b,0,none⟩),.int .i64 t,.int .i64 k] w K:=by
 obtain⟨h9,l,c,h1,h2,h3,h4⟩:=h
 refine qva h1 ?_
 rw[qzo h3 h4];exact hk
theorem qpb {p:Int} (h:qdl w b m n f) (hk:∀w',Fr [] w w'→K (.tuple #[.int .i64 (qbt f p).1,.int .i64 (qbt f p).2]) w'):C.i y5c 185 #[.pointer (some ⟨b,0,none⟩),.int .i64 p] w K:=by
 obtain⟨h9,l,c,h1,h2,h3,h4⟩:=h
 refine qr8 h1 h2 fun w' hf=>?_
 rw[qoc h9 h2 h3 h4];exact hk w' hf
theorem zds {t k p:Int} (h:qdl w b m n f)
  (h0:¬(0≤t∧t<n∧csz k≠0∧0≤p∧p<64∧(qbt f p).1<0)→∀w',Fr [] w w'→K (.bool false) w')
  (h1:(0≤t∧t<n∧csz k≠0∧0≤p∧p<64∧(qbt f p).1<0)→∀w',Fr [m] w w'→qdl w' b m n (qln f (t,k) p)→K (.bool true) w'):
  C.i y5c 124 #[.pointer (some ⟨b,0,none⟩),.int .i64 t,.int .i64 k,.int .i64 p] w K:=by
 obtain⟨h9,l,c,a1,a2,a3,a4⟩:=h
 rw[←qoc h9 a2 a3 a4] at h0 h1
 refine zf1 a1 a2 h0 fun hc w' hf hi=>h1 hc w' hf ⟨h9,_,_,hi,?_,?_,?_⟩
 ·obtain⟨c1,c2,c3,c4,c5,c6⟩:=hc
  refine qy6 a2 fun x hx e=>?_
  rcases qqm a2 a3 p with⟨q1,_⟩ | ⟨_,q2⟩
  ·omega
  ·exact q2 x.1 ⟨x,hx,rfl,e⟩
 ·obtain⟨c1,c2,c3,c4,c5,c6⟩:=hc
  have c3:¬(k<1∨k≥5):=fun e=>c3 (qyv.2 e)
  exact qza a3 c1 c2 (by omega) (by omega) c4 c5
 ·intro a q
  rw[ze5 a3,a4]
  unfold qln
  by_cases e:a=(t,k)
  ·rw[if_pos e]
   simp only[e,ne_eq,not_true,false_and,or_false,true_and,y2k]
   exact eq_comm
  ·rw[if_neg e];simp[e]
theorem zcd {l:Pgs} {t:Int} {out:List Int} (hk:qcm n l) (ho:∀a p,On l a p↔f a=some p) (hs:∀q,q∈out↔∃j,On l (t,j) q) (hn:out.Nodup) (hu:∀a c p,On l a p→On l c p→a=c):srt out=(qd5 f t).mergeSort fun x y=>decide (x≤y):=by
 have hg:(qd5 f t).Nodup:=by
  unfold qd5
  have key:∀i j p,f (t,i)=some p→f (t,j)=some p→i=j:=fun i j p e1 e2=>by
   have:=hu _ _ _ ((ho _ _).2 e1) ((ho _ _).2 e2)
   simpa using this
  have hN:∀l:List Int,l.Nodup→(l.filterMap fun k=>f (t,k)).Nodup:=by
   intro l
   induction l with
   | nil=>simp
   | cons x l ih=>
    intro hl
    rw[y3s] at hl
    rw[List.filterMap_cons]
    cases e:f (t,x) with
    | none=>exact ih hl.2
    | some p=>
     simp only
     rw[y3s]
     refine⟨fun hm=>?_,ih hl.2⟩
     obtain⟨j,hj,e2⟩:=List.mem_filterMap.1 hm
     exact hl.1 (key x j p e e2 ▸ hj)
  exact hN _ (by decide)
 have hp:(qd5 f t).Perm out:=by
  rw[List.perm_iff_count]
  intro x
  have hm:x∈qd5 f t↔x∈out:=by
   rw[hs]
   unfold qd5
   rw[List.mem_filterMap]
   constructor
   ·rintro⟨k,_,e⟩;exact⟨k,(ho _ _).2 e⟩
   ·rintro⟨j,hj⟩
    obtain⟨_,_,i3,i4,_⟩:=hj.in hk
    simp only at i3 i4
    refine⟨j,?_,(ho _ _).1 hj⟩
    simp only[y4b,y3i,or_false]
    omega
  rw[hg.count,hn.count]
  simp only[hm]
 exact zfi (qq2 hg) ((qee _).trans hp)
theorem zbd {t:Int} (h:qdl w b m n f) (hk:∀v w',Fr [m] w w'→qdl w' b m n (qio f t)→qaj w v→qad w' v 3 1 (qag ((qd5 f t).mergeSort fun x y=>decide (x≤y)))→K v w'):
  C.i y5c 211 #[.pointer (some ⟨b,0,none⟩),.int .i64 t] w K:=by
 obtain⟨h9,l,c,a1,a2,a3,a4⟩:=h
 refine zdi a1 a2 a3 fun v w' l' out hf hi hg' hk' ho hq hn hv hs=>hk v w' hf ⟨h9,l',c,hi,hg',hk',fun a p=>?_⟩ hv ?_
 ·rw[ho,a4]
  unfold qio
  by_cases e:a.1=t <;> simp[e]
 ·rw[zcd a3 a4 hq hn fun a c p h1 h2=>h1.whose a2 h2] at hs;exact hs
theorem zdr {t:Int} (h:∀b m w',Fr [] w w'→w.heap.size≤b→w.heap.size≤m→b≠m→qdl w' b m (if t<0 then 0 else if t>9 then 9 else t) (fun _=>none)→K (.pointer (some ⟨b,0,none⟩)) w'):C.i y5c 113 #[.int .i64 t] w K:=
 zfx fun b m w' hf h1 h2 h3 hi=>h b m w' hf h1 h2 h3 ⟨by repeat' split <;> omega,[],0,hi,qy5,⟨by simp,by simp⟩,fun a p=>by simp[On]⟩
end
end Go.Proofs.YtcakfaakbpdklaaGreatDoorV
namespace Go.Proofs.YtcakfaakbpdklaaGreatDoorV
open Go Go.Proofs
open Go.Proofs.Tryz renaming prog→y5c
noncomputable section
variable {K:VK} {w:World} {x0 x1 x2 x3 y0 y1 y2 y3 y4 y5 y7 y9 y19 y20 y21:Value}

theorem F153.sh (h:(C.a3 (.cells #[.int .i64 0,.int .i64 0] 60) w fun a b=>
 C.ay y5c (Instr.build 60 #[(0,(.int .i64 2)),(1,x0)]) b fun c d=>
 C.i y5c 224 #[c] d fun f g=>
 C.ak 2 a f g fun i=>
 C.an 2 a i fun r5 _=>
 K r5 i)):C.i y5c 153 #[x0] w K:=q9 (A:=A0) (args:=[x0]) (qq h)
namespace F201
def ann:Ann:=⟨[(6,[2,4]),(8,[2,4])],[],[],[],none⟩
variable (K:VK) (y2 y4:Value) (w:World)
def k6:Prop:=nk ann 24 [(2,y2),(4,y4)] w [1,1,1] Tryz.f201 K
def k8:Prop:=nk ann 24 [(2,y2),(4,y4)] w [1,1,1,1] Tryz.f201 K
attribute [irreducible] k6 k8
end F201
theorem F201.k6.to (h:(C.an 2 y4 w fun a b=>
 C.i y5c 227 #[a] b fun c d=>
 C.aj .neq c (.int .i64 0) d fun f g=>
 C.am f (C.ay y5c (Instr.build 60 #[]) g fun i j=>
 C.ak 2 y2 i j fun k=>
 C.an 2 y2 k fun r6 _=>
 K (.tuple #[r6,(.bool false)]) k) (F201.k8 K y2 y4 g))):F201.k6 K y2 y4 w:=qq h
theorem F201.k8.to (h:(C.an 2 y4 w fun a b=>
 C.ak 2 y2 a b fun c=>
 C.an 2 y2 c fun r3 _=>
 K (.tuple #[r3,(.bool true)]) c)):F201.k8 K y2 y4 w:=qq h
theorem F201.sh (h:(C.a3 (.cells #[.int .i64 0,.int .i64 0] 60) w fun a b=>
 C.a3 (.cells #[.int .i64 0,.int .i64 0] 60) b fun c d=>
 C.bi y5c .and 2 (.tmp 6) (.const (.int .i64 1)) x0 (.int .i64 1) d fun f g=>
 C.aj .eql f (.int .i64 1) g fun i j=>
 C.am i (C.bi y5c .shr 2 (.tmp 9) (.const (.int .u64 1)) x0 (.int .u64 1) j fun k m=>
 C.ay y5c (Instr.build 60 #[(0,(.int .i64 1)),(1,k)]) m fun o p=>
 C.ak 2 c o p fun q=>
 F201.k6 K a c q) (C.aj .neq x0 (.int .i64 0) j fun r s=>
 C.am r (C.bi y5c .quo 2 (.tmp 15) (.const (.int .i64 2)) x0 (.int .i64 2) s fun t u=>
 C.aj .sub t (.int .i64 1) u fun v x=>
 C.ay y5c (Instr.build 60 #[(0,(.int .i64 2)),(1,v)]) x fun y z=>
 C.ak 2 c y z fun aa=>
 F201.k6 K a c aa) (F201.k6 K a c s)))):C.i y5c 201 #[x0] w K:=q9 (A:=F201.ann) (args:=[x0]) (qq h)
namespace F224
def ann:Ann:=⟨[(3,[1,2])],[],[],[],none⟩
variable (K:VK) (y1 y2:Value) (w:World)
def k3:Prop:=nk ann 8 [(1,y1),(2,y2)] w [1,1] Tryz.f224 K
attribute [irreducible] k3
end F224
theorem F224.k3.to (h:(C.an 2 y1 w fun a b=>
 C.ak 2 y2 a b fun c=>
 C.an 2 y2 c fun r3 _=>
 K r3 c)):F224.k3 K y1 y2 w:=qq h
theorem F224.sh (h:(C.a3 (.cells (Value.cells x0) 60) w fun a b=>
 C.a3 (.cells #[.int .i64 0,.int .i64 0] 60) b fun c d=>
 C.an 2 a d fun f g=>
 C.i y5c 227 #[f] g fun i j=>
 C.aj .neq i (.int .i64 0) j fun k m=>
 C.am k (C.ay y5c (Instr.build 60 #[]) m fun o p=>
 C.ak 2 c o p fun q=>
 C.an 2 c q fun r8 _=>
 K r8 q) (F224.k3 K a c m))):C.i y5c 224 #[x0] w K:=q9 (A:=F224.ann) (args:=[x0]) (qq h)
namespace F227
def ann:Ann:=⟨[(10,[3]),(12,[])],[],[],[],none⟩
variable (K:VK) (y3:Value) (w:World)
def k10:Prop:=nk ann 33 [(3,y3)] w [1,1,1] Tryz.f227 K
def k12:Prop:=nk ann 33 [] w [1,1,1,1] Tryz.f227 K
attribute [irreducible] k10 k12
end F227
theorem F227.k10.to (h:(C.bf y3 w fun a b=>
 C.am a (K (.int .i64 4) b) (F227.k12 K b))):F227.k10 K y3 w:=qq h
theorem F227.k12.to (h:(K (.int .i64 0) w)):F227.k12 K w:=qq h
theorem F227.sh (h:(C.a3 (.cells (Value.cells x0) 60) w fun a b=>
 C.ab 0 a b fun c d=>
 C.ai c d fun f g=>
 C.aj .eql f (.int .i64 0) g fun i j=>
 C.am i (C.ab 1 a j fun k m=>
 C.ai k m fun o p=>
 C.aj .eql o (.int .i64 0) p fun q r=>
 F227.k10 K q r) (C.aj .eql f (.int .i64 1) j fun s t=>
 C.am s (C.ab 1 a t fun u v=>
 C.ai u v fun x y=>
 C.aj .geq x (.int .i64 (-1099511627776)) y fun z aa=>
 C.q true z (fun K=>C.ab 1 a aa K) aa fun ab ac=>
 C.q true z (fun K=>C.ai ab ac K) ac fun ad ae=>
 C.q true z (fun K=>C.aj .lss ad (.int .i64 1099511627776) ae K) ae fun af ag=>
 C.a2 (some z) (some af) (some (.bool false)) ag fun ah ai=>
 F227.k10 K ah ai) (C.aj .eql f (.int .i64 2) t fun aj ak=>
 C.am aj (C.ab 1 a ak fun al am=>
 C.ai al am fun an ao=>
 C.aj .geq an (.int .i64 0) ao fun ap aq=>
 C.q true ap (fun K=>C.ab 1 a aq K) aq fun ar au=>
 C.q true ap (fun K=>C.ai ar au K) au fun av aw=>
 C.q true ap (fun K=>C.aj .lss av (.int .i64 2048) aw K) aw fun ax ay=>
 C.a2 (some ap) (some ax) (some (.bool false)) ay fun az ba=>
 F227.k10 K az ba) (K (.int .i64 12) ak))))):C.i y5c 227 #[x0] w K:=q9 (A:=F227.ann) (args:=[x0]) (qq h)
namespace F279
def ann:Ann:=⟨[(3,[1]),(6,[1,4,9]),(7,[1]),(8,[1,4]),(9,[4])],[],[],[],none⟩
variable (K:VK) (y1 y4 y9:Value) (w:World)
def k3:Prop:=nk ann 21 [(1,y1)] w [1,1] Tryz.f279 K
def k9:Prop:=nk ann 21 [(4,y4)] w [1,1,1,1] Tryz.f279 K
def k8:Prop:=nk ann 21 [(1,y1),(4,y4)] w [1,1,1,0,1,0,1] Tryz.f279 K
def k7:Prop:=nk ann 21 [(1,y1)] w [1,1,1,0,1,0,0,0,1] Tryz.f279 K
def k6:Prop:=nk ann 21 [(1,y1),(4,y4),(9,y9)] w [1,1,1,0,1,0,0,0,0,0,0,1] Tryz.f279 K
attribute [irreducible] k3 k9 k8 k7 k6
end F279
theorem F279.k3.to (h:(C.ab 0 y1 w fun a b=>
 C.ai a b fun c d=>
 C.aj .eql c (.int .i64 2) d fun f g=>
 C.am f (F279.k7 K y1 g) (F279.k6 K y1 (.int .i64 0) c g))):F279.k3 K y1 w:=qq h
theorem F279.k9.to (h:(K (.tuple #[y4,(.bool true)]) w)):F279.k9 K y4 w:=qq h
theorem F279.k8.to (h:(C.ab 1 y1 w fun a b=>
 C.ai a b fun c d=>
 C.aj .mul (.int .i64 2) c d fun f g=>
 C.aj .add f (.int .i64 1) g fun i j=>
 C.aj .add y4 i j fun k m=>
 F279.k9 K k m)):F279.k8 K y1 y4 w:=qq h
theorem F279.k7.to (h:(F279.k8 K y1 (.int .i64 1) w)):F279.k7 K y1 w:=qq h
theorem F279.k6.to (h:(C.aj .eql y9 (.int .i64 1) w fun a b=>
 C.am a (F279.k8 K y1 y4 b) (F279.k9 K y4 b))):F279.k6 K y1 y4 y9 w:=qq h
theorem F279.sh (h:(C.a3 (.cells (Value.cells x0) 60) w fun a b=>
 C.an 2 a b fun c d=>
 C.i y5c 227 #[c] d fun f g=>
 C.aj .neq f (.int .i64 0) g fun i j=>
 C.am i (K (.tuple #[(.int .i64 0),(.bool false)]) j) (F279.k3 K a j))):C.i y5c 279 #[x0] w K:=q9 (A:=F279.ann) (args:=[x0]) (qq h)

theorem F42.sh (h:(C.i y5c 66 #[x1,(.int .i64 1),(.int .i64 64)] w fun a b=>
 C.i y5c 66 #[x2,(.int .i64 0),a] b fun c d=>
 C.i y5c 66 #[x0,(.int .i64 0),(.int .i64 8)] d fun f g=>
 C.ay y5c (Instr.makeSlice 139 f f) g fun i j=>
 C.ay y5c (Instr.build 141 #[(0,a),(1,c),(2,i)]) j fun k m=>
 C.a3 (.cells (Value.cells k) 141) m fun o p=>
 K o p)):C.i y5c 42 #[x0,x1,x2] w K:=q9 (A:=A0) (args:=[x0,x1,x2]) (qq h)
namespace F107
def ann:Ann:=⟨[(4,[0,2,7])],[],[],[],none⟩
variable (K:VK) (y0 y2 y7:Value) (w:World)
def k4:Prop:=nk ann 33 [(0,y0),(2,y2),(7,y7)] w [1,1,1] Tryz.f107 K
attribute [irreducible] k4
end F107
theorem F107.k4.to (h:(C.i y5c 167 #[y0,y7,y2,(.bool false)] w fun a b=>
 C.ae y7 b fun c d=>
 C.ab 1 c d fun f g=>
 C.ai f g fun i j=>
 C.aj .add i y2 j fun k m=>
 C.ae y7 m fun o p=>
 C.ab 1 o p fun q r=>
 C.ak 1 q k r fun s=>
 K (.bool true) s)):F107.k4 K y0 y2 y7 w:=qq h
theorem F107.sh (h:(C.i y5c 166 #[x0,x1] w fun a b=>
 C.bi y5c .eql 227 (.tmp 11) (.const (.pointer none)) a (.pointer none) b fun c d=>
 C.q false c (fun K=>K x2 d) d fun f g=>
 C.q false c (fun K=>C.aj .lss f (.int .i64 0) g K) g fun i j=>
 C.a2 (some c) (some (.bool true)) (some i) j fun k m=>
 C.q false k (fun K=>K x2 m) m fun o p=>
 C.q false k (fun K=>C.aj .gtr o (.int .i64 64) p K) p fun q r=>
 C.a2 (some k) (some (.bool true)) (some q) r fun s t=>
 C.am s (K (.bool false) t) (F107.k4 K x0 x2 a t))):C.i y5c 107 #[x0,x1,x2] w K:=q9 (A:=F107.ann) (args:=[x0,x1,x2]) (qq h)
namespace F164
def ann:Ann:=⟨[(4,[0,2,7])],[],[],[(4,(.take 0 (.take 1 (.take 2 (.take 3 (.take 6 (.take 8 (.take 9 (.take 10 (.take 15 (.take 17 (.take 18 (.take 19 (.take 4 (.take 5 (.take 7 (.take 11 (.take 12 (.take 13 (.take 20 (.go 14 (.take 16 (.take 21 (.take 22 .fin))) .fin)))))))))))))))))))))],none⟩
variable (K:VK) (y0 y2 y7:Value) (w:World)
def k4:Prop:=nk ann 47 [(0,y0),(2,y2),(7,y7)] w [1,1,1] Tryz.f164 K
attribute [irreducible] k4
end F164
theorem F164.k4.to (h:(C.a9 w fun S a=>
 C.ae y7 a fun b c=>
 C.ab 0 b c fun d f=>
 C.ae y0 f fun g i=>
 C.ab 0 g i fun j k=>
 C.ae y0 k fun m o=>
 C.ab 1 m o fun p q=>
 C.aq S d q fun r s=>
 C.bl r s fun t u=>
 C.aj .add t y2 u fun v x=>
 C.aq S j x fun y z=>
 C.aj .sub v y z fun aa ab=>
 ∃ac,(∀w',S w'→(builtin .max #[3,3] 3 #[false,true] #[aa,(.int .i64 0)]).run y5c w' = .ok (.value ac) w')∧(C.aq S p ab fun ad ae=>
 (C.i y5c 236 #[y7,ac] ae fun af ag=>
 (S ag∧
 C.aj .add af y2 ag fun ah ai=>
 C.aj .leq ah ad ai fun aj ak=>
 K aj ak))∧True))):F164.k4 K y0 y2 y7 w:=qq h
theorem F164.sh (h:(C.i y5c 166 #[x0,x1] w fun a b=>
 C.bi y5c .eql 227 (.tmp 11) (.const (.pointer none)) a (.pointer none) b fun c d=>
 C.q false c (fun K=>K x2 d) d fun f g=>
 C.q false c (fun K=>C.aj .lss f (.int .i64 0) g K) g fun i j=>
 C.a2 (some c) (some (.bool true)) (some i) j fun k m=>
 C.q false k (fun K=>K x2 m) m fun o p=>
 C.q false k (fun K=>K x0 p) p fun q r=>
 C.q false k (fun K=>C.ae q r K) r fun s t=>
 C.q false k (fun K=>C.ab 1 s t K) t fun u v=>
 C.q false k (fun K=>C.ai u v K) v fun x y=>
 C.q false k (fun K=>C.aj .gtr o x y K) y fun z aa=>
 C.a2 (some k) (some (.bool true)) (some z) aa fun ab ac=>
 C.am ab (K (.bool false) ac) (F164.k4 K x0 x2 a ac))):C.i y5c 164 #[x0,x1,x2] w K:=q9 (A:=F164.ann) (args:=[x0,x1,x2]) (qq h)
namespace F166
def ann:Ann:=⟨[(3,[0,1])],[],[],[],none⟩
variable (K:VK) (y0 y1:Value) (w:World)
def k3:Prop:=nk ann 26 [(0,y0),(1,y1)] w [1,1] Tryz.f166 K
attribute [irreducible] k3
end F166
theorem F166.k3.to (h:(C.ae y0 w fun a b=>
 C.ab 2 a b fun c d=>
 C.ai c d fun f g=>
 C.bk 3 f y1 g fun i j=>
 K i j)):F166.k3 K y0 y1 w:=qq h
theorem F166.sh (h:(C.bi y5c .eql 89 (.tmp 5) (.const (.pointer none)) x0 (.pointer none) w fun a b=>
 C.q false a (fun K=>K x1 b) b fun c d=>
 C.q false a (fun K=>C.aj .lss c (.int .i64 0) d K) d fun f g=>
 C.a2 (some a) (some (.bool true)) (some f) g fun i j=>
 C.q false i (fun K=>K x1 j) j fun k m=>
 C.q false i (fun K=>K x0 m) m fun o p=>
 C.q false i (fun K=>C.ae o p K) p fun q r=>
 C.q false i (fun K=>C.ab 2 q r K) r fun s t=>
 C.q false i (fun K=>C.ai s t K) t fun u v=>
 C.q false i (fun K=>C.bl u v K) v fun x y=>
 C.q false i (fun K=>C.aj .geq k x y K) y fun z aa=>
 C.a2 (some i) (some (.bool true)) (some z) aa fun ab ac=>
 C.am ab (K (.pointer none) ac) (F166.k3 K x0 x1 ac))):C.i y5c 166 #[x0,x1] w K:=q9 (A:=F166.ann) (args:=[x0,x1]) (qq h)
namespace F167
def ann:Ann:=⟨[(1,[0,1])],[],[],[(0,(.take 0 (.take 1 (.take 2 (.take 3 (.take 5 (.take 7 (.take 8 (.take 9 (.take 10 (.take 11 (.take 12 (.go 4 (.go 6 (.go 13 (.go 14 (.take 15 (.take 16 (.go 17 .fin .fin))) .fin) .fin) .fin) (.go 6 (.go 4 (.go 13 (.go 14 (.take 15 (.take 16 (.go 17 .fin .fin))) .fin) .fin) (.go 13 (.go 4 (.go 14 (.take 15 (.take 16 (.go 17 .fin .fin))) .fin) .fin) .fin)) .fin)))))))))))))),(1,(.take 0 (.take 1 (.take 2 (.take 3 (.take 5 (.take 6 (.take 7 (.take 10 (.take 11 (.take 12 (.take 13 (.go 4 (.go 8 (.take 9 (.take 14 (.take 15 (.take 16 (.go 17 (.take 18 (.take 19 (.go 20 .fin .fin))) .fin))))) .fin) (.go 8 (.take 9 (.take 14 (.take 15 (.go 4 (.take 16 (.go 17 (.take 18 (.take 19 (.go 20 .fin .fin))) .fin)) .fin)))) .fin))))))))))))))],none⟩
variable (K:VK) (y0 y1:Value) (w:World)
def k1:Prop:=nk ann 45 [(0,y0),(1,y1)] w [1] Tryz.f167 K
attribute [irreducible] k1
end F167
theorem F167.k1.to (h:(C.a9 w fun S a=>
 C.ae y1 a fun b c=>
 C.ab 0 b c fun d f=>
 C.ae y1 f fun g i=>
 C.ab 0 g i fun j k=>
 C.ae y0 k fun m o=>
 C.ab 0 m o fun p q=>
 C.aq S p q fun r s=>
 (C.ai d s fun t u=>
 (S u∧
 (C.ai j u fun v x=>
 (S x∧
 C.bl v x fun y z=>
 C.aj .sub y r z fun aa ab=>
 ∃ac,(∀w',S w'→(builtin .max #[3,3] 3 #[false,true] #[aa,(.int .i64 0)]).run y5c w' = .ok (.value ac) w')∧(∃ad,(∀w',S w'→(Instr.sliceAt 84 t (some ac) none none).run y5c w' = .ok ad w')∧((C.i y5c 239 #[ad] ab fun ae af=>
 (S af∧
 C.ae y1 af fun ag ah=>
 C.ab 0 ag ah fun ai aj=>
 (C.ak 1 ai ae aj fun ak=>
 (S ak∧
 K (.tuple #[]) ak))∧True))∧True))))∧True))∧((C.ai j s fun al am=>
 (S am∧
 C.bl al am fun an ao=>
 C.aj .sub an r ao fun ap aq=>
 ∃ar,(∀w',S w'→(builtin .max #[3,3] 3 #[false,true] #[ap,(.int .i64 0)]).run y5c w' = .ok (.value ar) w')∧((C.ai d aq fun au av=>
 (S av∧
 ∃aw,(∀w',S w'→(Instr.sliceAt 84 au (some ar) none none).run y5c w' = .ok aw w')∧((C.i y5c 239 #[aw] av fun ax ay=>
 (S ay∧
 C.ae y1 ay fun az ba=>
 C.ab 0 az ba fun bb bc=>
 (C.ak 1 bb ax bc fun bd=>
 (S bd∧
 K (.tuple #[]) bd))∧True))∧True)))∧True)))∧True))):F167.k1 K y0 y1 w:=qq h
theorem F167.sh (h:(C.a9 w fun S a=>
 C.ae x1 a fun b c=>
 C.ab 0 b c fun d f=>
 C.ae x0 f fun g i=>
 C.ab 0 g i fun j k=>
 C.aq S j k fun m o=>
 ∃p,(∀w',S w'→(builtin .min #[3,3] 3 #[false,false] #[x2,m]).run y5c w' = .ok (.value p) w')∧((C.ai d o fun q r=>
 (S r∧
 (C.ay y5c (Instr.buildSlice 84 1 #[(0,x3)]) r fun s t=>
 (S t∧
 (C.i y5c 238 #[s,p] t fun u v=>
 (S v∧
 (C.ay y5c (Builtin.append_ #[84,84] 84 #[q,u]) v fun x y=>
 (S y∧
 C.ae x1 y fun z aa=>
 C.ab 0 z aa fun ab ac=>
 (C.ak 1 ab x ac fun ad=>
 (S ad∧
 F167.k1 K x0 x1 ad))∧True))∧True))∧True))∧True))∧((C.ay y5c (Instr.buildSlice 84 1 #[(0,x3)]) o fun ae af=>
 (S af∧
 (C.ai d af fun ag ah=>
 (S ah∧
 (C.i y5c 238 #[ae,p] ah fun ai aj=>
 (S aj∧
 (C.ay y5c (Builtin.append_ #[84,84] 84 #[ag,ai]) aj fun ak al=>
 (S al∧
 C.ae x1 al fun am an=>
 C.ab 0 am an fun ao ap=>
 (C.ak 1 ao ak ap fun aq=>
 (S aq∧
 F167.k1 K x0 x1 aq))∧True))∧True))∧True))∧((C.i y5c 238 #[ae,p] af fun ar au=>
 (S au∧
 (C.ai d au fun av aw=>
 (S aw∧
 (C.ay y5c (Builtin.append_ #[84,84] 84 #[av,ar]) aw fun ax ay=>
 (S ay∧
 C.ae x1 ay fun az ba=>
 C.ab 0 az ba fun bb bc=>
 (C.ak 1 bb ax bc fun bd=>
 (S bd∧
 F167.k1 K x0 x1 bd))∧True))∧True))∧True))∧True)))∧True)))):C.i y5c 167 #[x0,x1,x2,x3] w K:=q9 (A:=F167.ann) (args:=[x0,x1,x2,x3]) (qq h)
namespace F236
def ann:Ann:=⟨[(4,[5,19,20,21]),(7,[5,19,20,21]),(8,[5])],[(3,[5,19,20,21])],[],[(2,(.take 0 (.take 1 (.take 2 (.take 4 (.take 5 (.take 6 (.take 7 (.take 13 (.take 3 (.take 8 (.take 9 (.take 10 (.take 11 (.take 12 .fin)))))))))))))))],none⟩
variable (K:VK) (y5 y19 y20 y21:Value) (w:World)
def k8:Prop:=nk ann 30 [(5,y5)] w [1,1,1] Tryz.f236 K
def l3:Prop:=nl ann 30 [(5,y5),(19,y19),(20,y20),(21,y21)] w [1,1,0,1,0] Tryz.f236 K
def k4:Prop:=nk ann 30 [(5,y5),(19,y19),(20,y20),(21,y21)] w [1,1,0,1,0,0,1,1] Tryz.f236 K
def k7:Prop:=nk ann 30 [(5,y5),(19,y19),(20,y20),(21,y21)] w [1,1,0,1,0,0,1,1,1] Tryz.f236 K
attribute [irreducible] k8 l3 k4 k7
end F236
theorem F236.k8.to (h:(K y5 w)):F236.k8 K y5 w:=qq h
theorem F236.l3.to (h:(C.aj .lss y21 y20 w fun a b=>
 C.am a (F236.k4 K y5 y19 y20 y21 b) (F236.k8 K y5 b))):F236.l3 K y5 y19 y20 y21 w:=by unfold F236.l3 nl;exact qah (qq h)
theorem F236.k4.to (h:(C.bk 1 y19 y21 w fun a b=>
 C.ai a b fun c d=>
 C.am c (C.aj .add y5 (.int .i64 1) d fun f g=>
 F236.k7 K f y19 y20 y21 g) (F236.k7 K y5 y19 y20 y21 d))):F236.k4 K y5 y19 y20 y21 w:=qq h
theorem F236.k7.to (h:(C.aj .add y21 (.int .i64 1) w fun a b=>
 F236.l3 K y5 y19 y20 a b)):F236.k7 K y5 y19 y20 y21 w:=qq h
theorem F236.sh (h:(C.a9 w fun S a=>
 C.ae x0 a fun b c=>
 C.ab 0 b c fun d f=>
 C.ae x0 f fun g i=>
 C.ab 0 g i fun j k=>
 C.aq S d k fun m o=>
 C.aq S j o fun p q=>
 C.bl p q fun r s=>
 ∃t,(∀w',S w'→(builtin .min #[3,3] 3 #[false,false] #[x1,r]).run y5c w' = .ok (.value t) w')∧(∃u,(∀w',S w'→(Instr.sliceAt 84 m (some t) none none).run y5c w' = .ok u w')∧(C.bl u s fun v x=>
 F236.l3 K (.int .i64 0) u v (.int .i64 0) x)))):C.i y5c 236 #[x0,x1] w K:=q9 (A:=F236.ann) (args:=[x0,x1]) (qq h)
namespace F237
def ann:Ann:=⟨[(3,[0,1,2])],[],[],[],none⟩
variable (K:VK) (y0 y1 y2:Value) (w:World)
def k3:Prop:=nk ann 28 [(0,y0),(1,y1),(2,y2)] w [1,1] Tryz.f237 K
attribute [irreducible] k3
end F237
theorem F237.k3.to (h:(C.i y5c 166 #[y0,y1] w fun a b=>
 C.i y5c 167 #[y0,a,y2,(.bool true)] b fun c d=>
 C.ae a d fun f g=>
 C.ab 2 f g fun i j=>
 C.ai i j fun k m=>
 C.aj .add k y2 m fun o p=>
 C.ae a p fun q r=>
 C.ab 2 q r fun s t=>
 C.ak 1 s o t fun u=>
 K (.bool true) u)):F237.k3 K y0 y1 y2 w:=qq h
theorem F237.sh (h:(C.i y5c 164 #[x0,x1,x2] w fun a b=>
 C.bf a b fun c d=>
 C.am c (K (.bool false) d) (F237.k3 K x0 x1 x2 d))):C.i y5c 237 #[x0,x1,x2] w K:=q9 (A:=F237.ann) (args:=[x0,x1,x2]) (qq h)
namespace F239
def ann:Ann:=⟨[(3,[0])],[],[],[],none⟩
variable (K:VK) (y0:Value) (w:World)
def k3:Prop:=nk ann 8 [(0,y0)] w [1,1] Tryz.f239 K
attribute [irreducible] k3
end F239
theorem F239.k3.to (h:(C.ay y5c (Instr.buildSlice 84 0 #[]) w fun a b=>
 C.ay y5c (Builtin.append_ #[84,84] 84 #[a,y0]) b fun c d=>
 K c d)):F239.k3 K y0 w:=qq h
theorem F239.sh (h:(C.bi y5c .eql 84 (.tmp 3) (.const (.slice none 0 0)) x0 (.slice none 0 0) w fun a b=>
 C.am a (K (.slice none 0 0) b) (F239.k3 K x0 b))):C.i y5c 239 #[x0] w K:=q9 (A:=F239.ann) (args:=[x0]) (qq h)

theorem F44.sh (h:(C.i y5c 66 #[x0,(.int .i64 0),(.int .i64 65535)] w fun a b=>
 C.ay y5c (Instr.build 145 #[(1,(.bool true)),(2,a)]) b fun c d=>
 C.a3 (.cells (Value.cells c) 145) d fun f g=>
 K f g)):C.i y5c 44 #[x0] w K:=q9 (A:=A0) (args:=[x0]) (qq h)
namespace F235
def ann:Ann:=⟨[(3,[0,1])],[],[],[(4,(.take 0 (.take 1 (.take 2 (.take 3 (.take 5 (.take 4 (.go 6 (.take 7 (.take 8 (.take 9 .fin))) .fin))))))))],none⟩
variable (K:VK) (y0 y1:Value) (w:World)
def k3:Prop:=nk ann 43 [(0,y0),(1,y1)] w [1,1] Tryz.f235 K
attribute [irreducible] k3
end F235
theorem F235.k3.to (h:(C.i y5c 66 #[y1,(.int .i64 0),(.int .i64 2147483648)] w fun a b=>
 C.a9 b fun S c=>
 C.ae y0 c fun d f=>
 C.ab 4 d f fun g i=>
 C.aq S g i fun j k=>
 (C.i y5c 274 #[y0] k fun m o=>
 (S o∧
 C.aj .sub j m o fun p q=>
 ∃r,(∀w',S w'→(builtin .min #[3,3] 3 #[false,false] #[a,p]).run y5c w' = .ok (.value r) w')∧(C.ae y0 q fun s t=>
 C.ab 0 s t fun u v=>
 C.ab 0 u v fun x y=>
 C.ai x y fun z aa=>
 C.aj .add z r aa fun ab ac=>
 C.ae y0 ac fun ad ae=>
 C.ab 0 ad ae fun af ag=>
 C.ab 0 af ag fun ah ai=>
 C.ak 1 ah ab ai fun aj=>
 C.ae y0 aj fun ak al=>
 C.ab 0 ak al fun am an=>
 C.ab 2 am an fun ao ap=>
 C.ai ao ap fun aq ar=>
 C.aj .sub a r ar fun au av=>
 C.aj .add aq au av fun aw ax=>
 C.ae y0 ax fun ay az=>
 C.ab 0 ay az fun ba bb=>
 C.ab 2 ba bb fun bc bd=>
 C.ak 1 bc aw bd fun be=>
 K r be)))∧True)):F235.k3 K y0 y1 w:=qq h
theorem F235.sh (h:(C.i y5c 281 #[x0] w fun a b=>
 C.bf a b fun c d=>
 C.am c (K (.int .i64 0) d) (F235.k3 K x0 x1 d))):C.i y5c 235 #[x0,x1] w K:=q9 (A:=F235.ann) (args:=[x0,x1]) (qq h)

theorem F274.sh (h:(C.i y5c 301 #[x0] w fun a b=>
 C.i y5c 302 #[a] b fun c d=>
 K c d)):C.i y5c 274 #[x0] w K:=q9 (A:=A0) (args:=[x0]) (qq h)
namespace F275
def ann:Ann:=⟨[(3,[0,1])],[],[],[],none⟩
variable (K:VK) (y0 y1:Value) (w:World)
def k3:Prop:=nk ann 23 [(0,y0),(1,y1)] w [1,1] Tryz.f275 K
attribute [irreducible] k3
end F275
theorem F275.k3.to (h:(C.i y5c 274 #[y0] w fun a b=>
 C.i y5c 66 #[y1,(.int .i64 0),a] b fun c d=>
 C.ae y0 d fun f g=>
 C.ab 0 f g fun i j=>
 C.ab 1 i j fun k m=>
 C.ai k m fun o p=>
 C.aj .add o c p fun q r=>
 C.ae y0 r fun s t=>
 C.ab 0 s t fun u v=>
 C.ab 1 u v fun x y=>
 C.ak 1 x q y fun z=>
 K c z)):F275.k3 K y0 y1 w:=qq h
theorem F275.sh (h:(C.i y5c 281 #[x0] w fun a b=>
 C.bf a b fun c d=>
 C.am c (K (.int .i64 0) d) (F275.k3 K x0 x1 d))):C.i y5c 275 #[x0,x1] w K:=q9 (A:=F275.ann) (args:=[x0,x1]) (qq h)

theorem F281.sh (h:(C.bi y5c .neq 91 (.tmp 3) (.const (.pointer none)) x0 (.pointer none) w fun a b=>
 C.q true a (fun K=>K x0 b) b fun c d=>
 C.q true a (fun K=>C.ae c d K) d fun f g=>
 C.q true a (fun K=>C.ab 3 f g K) g fun i j=>
 C.q true a (fun K=>C.ai i j K) j fun k m=>
 C.a2 (some a) (some k) (some (.bool false)) m fun o p=>
 K o p)):C.i y5c 281 #[x0] w K:=q9 (A:=A0) (args:=[x0]) (qq h)
namespace F301
def ann:Ann:=⟨[(3,[0])],[],[],[],none⟩
variable (K:VK) (y0:Value) (w:World)
def k3:Prop:=nk ann 11 [(0,y0)] w [1,1] Tryz.f301 K
attribute [irreducible] k3
end F301
theorem F301.k3.to (h:(C.ae y0 w fun a b=>
 C.ab 0 a b fun c d=>
 K c d)):F301.k3 K y0 w:=qq h
theorem F301.sh (h:(C.i y5c 281 #[x0] w fun a b=>
 C.bf a b fun c d=>
 C.am c (C.ay y5c (Instr.build 143 #[]) d fun f g=>
 C.a3 (.cells (Value.cells f) 143) g fun i j=>
 K i j) (F301.k3 K x0 d))):C.i y5c 301 #[x0] w K:=q9 (A:=F301.ann) (args:=[x0]) (qq h)
namespace F302
def ann:Ann:=⟨[],[],[],[(1,(.take 0 (.take 1 (.take 2 (.take 4 (.take 5 (.take 6 (.take 3 (.take 7 (.take 8 (.take 9 .fin)))))))))))],none⟩
end F302
theorem F302.sh (h:(C.a9 w fun S a=>
 C.ae x0 a fun b c=>
 C.ab 0 b c fun d f=>
 C.ae x0 f fun g i=>
 C.ab 1 g i fun j k=>
 C.aq S d k fun m o=>
 C.aq S j o fun p q=>
 C.aj .sub m p q fun r s=>
 K r s)):C.i y5c 302 #[x0] w K:=q9 (A:=F302.ann) (args:=[x0]) (qq h)
end
def V (k n:Int):Value := .agg #[.int .i64 k,.int .i64 n]
def vB (k n:Int):Obj := .cells #[.int .i64 k,.int .i64 n] 60 (0,0)
theorem zgl (a:Int) (h:a % 2=0):a.tdiv 2=a / 2:=Int.tdiv_eq_ediv_of_dvd (Int.dvd_of_emod_eq_zero h)
theorem qal {k n:Int}:∀v∈(V k n).cells.toList,v.oneCell'=true:=by
 intro v hv
 simp only[V,Value.cells,y4b,y3i,or_false] at hv
 rcases hv with rfl | rfl <;> rfl
section
variable {K:VK} {w:World}
theorem veq (x y:Operand) (a b c d:Int):(do eqGuard .eql 60 x y (V a b) (V c d);binOp .eql 60 (V a b) (V c d):Sem Value).run y5c w = .ok (.bool (decide (a=c∧b=d))) w:=by
 have h:=qsp (w:=w) (ks:=[.i64,.i64]) x y Tryz.underlying60 (by kernel_rfl) (by kernel_rfl) (by kernel_rfl) [a,b] [c,d] rfl rfl
 have e:([a,b] == [c,d])=decide (a=c∧b=d):=by rw[y3p];simp
 rw[e] at h
 exact h
theorem qmb (a b:Int):(Instr.build 60 #[(0,.int .i64 a),(1,.int .i64 b)]).run y5c w = .ok (V a b) w:=by kernel_rfl
theorem qdn:(Instr.build 60 #[]).run y5c w = .ok (V 0 0) w:=by kernel_rfl
theorem qfd (k n:Int) (h:∀w',Fr [] w w'→K (.int .i64 (chk k n)) w'):C.i y5c 227 #[V k n] w K:=by
 refine F227.sh (C.av fun b w1 hn=>?_)
 have hb:w1.heap[b]?=some (vB k n):=hn.at_
 have h:=h w1 hn.fr
 unfold chk at h
 try simp only[zv]
 refine C.ad (v := .int .i64 k) hb rfl ?_
 by_cases k0:k=0
 ·simp only[zv,eq_self,k0]
  refine C.ad (v := .int .i64 n) hb rfl ?_
  rw[if_pos k0] at h
  refine (C.az ..).2 (F227.k10.to ?_)
  by_cases n0:n=0
  ·rw[if_pos n0] at h
   simp only[zv,eq_self,n0]
   exact F227.k12.to h
  ·rw[if_neg n0] at h
   simp only[zv,n0]
   exact h
 ·rw[if_neg k0] at h
  by_cases k1:k=1
  ·rw[if_pos k1] at h
   simp only[zv,eq_self,k1,show ¬(1:Int)=0 by decide]
   refine C.ad (v := .int .i64 n) hb rfl ?_
   try simp only[C.ba]
   by_cases h1:n ≥ -1099511627776
   ·simp only[zv,h1]
    refine C.ad (v := .int .i64 n) hb rfl ?_
    try simp only[C.au]
    refine F227.k10.to ?_
    by_cases h2:n<1099511627776
    ·rw[if_pos ⟨h1,h2⟩] at h
     simp only[zv,h2]
     exact F227.k12.to h
    ·rw[if_neg (by omega)] at h
     simp only[zv,h2]
     exact h
   ·rw[if_neg (by omega)] at h
    simp only[zv,h1]
    refine F227.k10.to ?_
    try simp only[zv]
    exact h
  ·rw[if_neg k1] at h
   by_cases k2:k=2
   ·rw[if_pos k2] at h
    simp only[zv,eq_self,k2,show ¬(2:Int)=0 by decide,show ¬(2:Int)=1 by decide]
    refine C.ad (v := .int .i64 n) hb rfl ?_
    try simp only[C.ba]
    by_cases h1:n≥0
    ·simp only[zv,h1]
     refine C.ad (v := .int .i64 n) hb rfl ?_
     try simp only[C.au]
     refine F227.k10.to ?_
     by_cases h2:n<2048
     ·rw[if_pos ⟨h1,h2⟩] at h
      simp only[zv,h2]
      exact F227.k12.to h
     ·rw[if_neg (by omega)] at h
      simp only[zv,h2]
      exact h
    ·rw[if_neg (by omega)] at h
     simp only[zv,h1]
     refine F227.k10.to ?_
     try simp only[zv]
     exact h
   ·rw[if_neg k2] at h
    simp only[zv,k0,k1,k2]
    exact h
theorem qrc {k n:Int} (h:chk k n=0) (hk:k=1∨k=2) : -1099511627776≤n∧n<1099511627776:=by
 unfold chk at h
 rcases hk with rfl | rfl
 ·simp at h;omega
 ·simp at h;omega
theorem zdw (k n:Int) (hc:chk k n≠0) (h:∀w',Fr [] w w'→K (.tuple #[.int .i64 0,.bool false]) w'):C.i y5c 279 #[V k n] w K:=by
 refine F279.sh (C.av fun b w1 hn=>C.ax hn.at_ rfl (qfd k n fun w2 hf2=>?_))
 simp only[zv,ne_eq,hc,not_false_eq_true]
 exact h w2 (hn.fr.trans hf2)
theorem zbk (k n:Int) (hc:chk k n=0) (h:∀w',Fr [] w w'→K (.tuple #[.int .i64 (qlq k n),.bool true]) w'):C.i y5c 279 #[V k n] w K:=by
 refine F279.sh (C.av fun b w1 hn=>C.ax hn.at_ rfl (qfd k n fun w2 hf2=>?_))
 have hb:w2.heap[b]?=some (vB k n):=hf2.at_ hn.at_ (by simp)
 have h:=h w2 (hn.fr.trans hf2)
 simp only[zv,eq_self,ne_eq,hc,not_true_eq_false]
 refine F279.k3.to ?_
 try simp only[zv]
 refine C.ad (v := .int .i64 k) hb rfl ?_
 unfold qlq at h
 by_cases k2:k=2
 ·have hn:=qrc hc (.inr k2)
  rw[if_pos k2] at h
  simp only[zv,eq_self,k2]
  refine F279.k7.to (F279.k8.to ?_)
  try simp only[zv]
  refine C.ad (v := .int .i64 n) hb rfl ?_
  try simp only[zv]
  rw[qab (n:=2*n) (by omega),qab (n:=2*n+1) (by omega),qab (n:=1+(2*n+1)) (by omega)]
  refine F279.k9.to ?_
  rw[show 1+(2*n+1)=2*n+2 by omega]
  exact h
 ·rw[if_neg k2] at h
  simp only[zv,k2]
  refine F279.k6.to ?_
  by_cases k1:k=1
  ·have hn:=qrc hc (.inl k1)
   rw[if_pos k1] at h
   simp only[zv,eq_self,k1]
   refine F279.k8.to ?_
   try simp only[zv]
   refine C.ad (v := .int .i64 n) hb rfl ?_
   try simp only[zv]
   rw[qab (n:=2*n) (by omega),qab (n:=2*n+1) (by omega),qab (n:=0+(2*n+1)) (by omega)]
   refine F279.k9.to ?_
   rw[show 0+(2*n+1)=2*n+1 by omega]
   exact h
  ·rw[if_neg k1] at h
   simp only[zv,k1]
   exact F279.k9.to h
theorem qi9 {b r:Nat} {k n:Int} (hb:w.heap[b]?=some (vB k n)) (hr:w.heap[r]?=some (vB 0 0))
  (h1:chk k n=0→∀w',Fr [r] w w'→K (.tuple #[V k n,.bool true]) w') (h2:chk k n≠0→∀w',Fr [r] w w'→K (.tuple #[V 0 0,.bool false]) w'):
  F201.k6 K (.pointer (some ⟨r,0,none⟩)) (.pointer (some ⟨b,0,none⟩)) w:=by
 refine F201.k6.to (C.ax hb rfl (qfd k n fun w1 hf1=>?_))
 have hr1:=hf1.at_ hr (by simp)
 by_cases hc:chk k n=0
 ·simp only[zv,eq_self,ne_eq,hc,not_true_eq_false]
  refine F201.k8.to (C.ax (hf1.at_ hb (by simp)) rfl (C.a0 hr1 rfl qal rfl fun w2 hu=>C.ax hu.at_ rfl ?_))
  exact h1 hc w2 (hf1.w.trans hu.fr)
 ·simp only[zv,ne_eq,hc,not_false_eq_true]
  refine C.a4 qdn (C.a0 hr1 rfl qal rfl fun w2 hu=>C.ax hu.at_ rfl ?_)
  exact h2 hc w2 (hf1.w.trans hu.fr)
theorem zd1 (a:Int) (ha : -9223372036854775808≤a∧a≤9223372036854775807) (h1:chk (rdK a) (rdN a)=0→∀w',Fr [] w w'→K (.tuple #[V (rdK a) (rdN a),.bool true]) w') (h2:chk (rdK a) (rdN a)≠0→∀w',Fr [] w w'→K (.tuple #[V 0 0,.bool false]) w'):
  C.i y5c 201 #[.int .i64 a] w K:=by
 refine F201.sh (C.av fun r w1 hn1=>C.av fun b w2 hn2=>⟨_,qpl _ _ _,?_⟩)
 have hr:w2.heap[r]?=some (vB 0 0):=hn2.fr.at_ hn1.at_ (by simp)
 have hb:w2.heap[b]?=some (vB 0 0):=hn2.at_
 have hrb:r≠b:=hn2.ne (qac hn1.at_)
 have lr:w.heap.size≤r:=by have:=hn1.is;omega
 have lb:w.heap.size≤b:=by have:=hn2.is;have:=hn1.fr.size;omega
 have hf:Fr [] w w2:=hn1.fr.trans hn2.fr
 unfold rdK rdN at h1 h2
 by_cases o:a % 2=1
 ·simp only[if_pos o] at h1 h2
  simp only[zv,eq_self,o]
  refine⟨_,qz0 _ _ _,C.a4 (qmb _ _) (C.a0 hb rfl qal rfl fun w3 hu=>?_)⟩
  have hf3:Fr [] w w3:=hf.then hu.fr (by simp;omega)
  exact qi9 hu.at_ (hu.fr.at_ hr (by simp;omega)) (fun hc w' hf'=>h1 hc w' (hf3.then hf' (by simp;omega))) (fun hc w' hf'=>h2 hc w' (hf3.then hf' (by simp;omega)))
 ·simp only[if_neg o] at h1 h2
  simp only[zv,o]
  by_cases z:a=0
  ·simp only[if_pos z] at h1 h2
   simp only[z,ne_eq,not_true_eq_false,C.ac,eq_self,decide_false]
   exact qi9 hb hr (fun hc w' hf'=>h1 hc w' (hf.then hf' (by simp;omega))) (fun hc w' hf'=>h2 hc w' (hf.then hf' (by simp;omega)))
  ·simp only[if_neg z] at h1 h2
   simp only[z,ne_eq,not_false_eq_true,C.ah,decide_true]
   have e2:=zgl a (by omega)
   refine⟨_,qcl _ _ _ _ (by decide),?_⟩
   rw[qab (n:=a.tdiv 2) (by omega)]
   try simp only[C.bo]
   rw[qab (n:=a.tdiv 2-1) (by omega)]
   refine C.a4 (qmb _ _) (C.a0 hb rfl qal rfl fun w3 hu=>?_)
   have hf3:Fr [] w w3:=hf.then hu.fr (by simp;omega)
   exact qi9 hu.at_ (hu.fr.at_ hr (by simp;omega)) (fun hc w' hf'=>h1 hc w' (hf3.then hf' (by simp;omega))) (fun hc w' hf'=>h2 hc w' (hf3.then hf' (by simp;omega)))
theorem qyq {k n:Int} (h:chk k n=0):(k=0∧n=0)∨(k=1 ∧ -1099511627776≤n∧n<1099511627776)∨(k=2∧0≤n∧n<2048):=by
 unfold chk at h
 split at h
 ·split at h <;> omega
 ·split at h
  ·split at h <;> omega
  ·split at h
   ·split at h <;> omega
   ·omega
end
end Go.Proofs.YtcakfaakbpdklaaGreatDoorV
