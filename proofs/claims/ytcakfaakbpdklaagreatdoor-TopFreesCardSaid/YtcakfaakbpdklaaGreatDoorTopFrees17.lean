/- Part 17 of what the law needs: own lemmas, in the order in which they build. -/
import Derived.Shelf.SortM.Plain
import Derived.Sort.OwnSortedInts
import Derived.Test.YtcakfaakbpdklaaGreatDoorProg
import Derived.Test.YtcakfaakbpdklaaGreatDoorTopFrees16
set_option linter.unusedSimpArgs false
set_option linter.unusedVariables false
set_option maxRecDepth 100000
namespace Go.Proofs.YtcakfaakbpdklaaGreatDoorV
open Go Go.Proofs Go.RowKit
open Go.Proofs.Tryz renaming prog→y5c
def qa7 (out:List Int) (l:List V2):List Int:=l.foldl (fun out v=>if v.1=2∧v.2∉out then out ++ [v.2] else out) out
def Ma.rchGo (x:Ma):Nat→Nat→List Int→List Int
 | 0,_,out=>out
 | d+1,i,out=>if i<out.length then Ma.rchGo x d (i+1) (qa7 out (x.flds (out.getD i 0))) else out
def Ma.rch0 (cf:Cf) (x:Ma):List Int:=(List.range cf.threads.toNat).foldl (fun (out:List Int) (t:Nat)=>qa7 out (x.co.roots (t:Int))) [x.co.global]
def Ma.rch (cf:Cf) (x:Ma):List Int:=x.rchGo 2050 0 (x.rch0 cf)
def ql4 (l:List V2):Prop:=∀v∈l,v.1=2→0≤v.2∧v.2<2048
theorem qww (out:List Int) (l k:List V2):qa7 out (l ++ k)=qa7 (qa7 out l) k:=List.foldl_append
structure qca (out:List Int):Prop where
 ne:out≠[]
 nd:out.tail.Nodup
 rng:∀x∈out.tail,0≤x∧x<2048
theorem qmm:∀(n:Nat) (L:List Int),L.Nodup→(∀x∈L,0≤x∧x<n)→L.length≤n
 | 0,L,_,h=>by
  cases L with
  | nil=>simp
  | cons a L=>exact absurd (h a (by simp)) (by omega)
 | n+1,L,hn,h=>by
  have h1:=qmm n (L.erase (n:Int)) (hn.erase _) fun x hx=>by
   have:=(hn.mem_erase_iff).1 hx
   have:=h x this.2
   omega
  have:(L.erase (n:Int)).length=if (n:Int)∈L then L.length-1 else L.length:=List.length_erase
  split at this <;> omega
theorem qca.le {out:List Int} (h:qca out):out.length≤2049:=by
 have:=qmm 2048 out.tail h.nd h.rng
 rw[List.length_tail] at this
 omega
theorem qca.add {out:List Int} (h:qca out) {a:Int} (ha:0≤a∧a<2048) (hn:a∉out):qca (out ++ [a]):=by
 obtain⟨x,r,rfl⟩:=List.exists_cons_of_ne_nil h.ne
 have h2:=h.nd
 have h3:=h.rng
 simp only[List.tail_cons] at h2 h3
 simp only[y4b,not_or] at hn
 refine⟨by simp,?_,fun y hy=>?_⟩
 ·simp only[List.cons_append,List.tail_cons]
  rw[y2w]
  exact⟨h2,by simp,fun y hy z hz=>by simp only[y2d] at hz;rintro rfl;subst hz;exact hn.2 hy⟩
 ·simp only[List.cons_append,List.tail_cons] at hy
  rcases y3q.1 hy with c | c
  ·exact h3 y c
  ·rw[y2d.1 c];exact ha
theorem qca.note:∀(l:List V2) {out:List Int},qca out→ql4 l→qca (qa7 out l)
 | [],_,h,_=>h
 | v :: l,out,h,hl=>by
  have e:qa7 out (v :: l)=qa7 (if v.1=2∧v.2∉out then out ++ [v.2] else out) l:=rfl
  rw[e]
  refine qca.note l ?_ fun u hu=>hl u (by simp[hu])
  split
  ·rename_i hc
   exact h.add (hl v (by simp) hc.1) hc.2
  ·exact h
theorem qxl {w:Int} (h:(qgm w).1.1=2):0≤(qgm w).1.2∧(qgm w).1.2<2048:=by
 unfold qgm at *
 split at h
 ·rename_i hc
  rw[if_pos hc]
  simp only at h ⊢
  rw[h] at hc
  unfold chk at hc
  rw[if_neg (by decide),if_neg (by decide),if_pos rfl] at hc
  split at hc
  ·rename_i h3;exact h3
  ·cases hc
 ·cases h
theorem qki (x:Ma) (a:Int):ql4 (x.flds a):=by
 intro v hv h2
 unfold Ma.flds at hv
 obtain⟨i,_,rfl⟩:=y4l.1 hv
 unfold St.get at *
 split
 ·rename_i hc
  rw[if_pos hc] at h2
  exact qxl h2
 ·rename_i hc
  rw[if_neg hc] at h2
  exact absurd h2 (by decide)
theorem qyj:qb7 y5c 84=true:=by kernel_rfl
theorem qmx {f:FuncId} {cap:Array Value} {args:List Value} {w:World} {K:VK} (hb:qb7 y5c f=true) (h:C.i y5c f (args ++ cap.toList).toArray w K):qbo y5c (.func (.func f) #[] cap) args w K:=by
 simp only[qbo,hb,cond_true,y3o]
 exact h
section
variable {K:VK} {A:Mad} {g:Gw} {cf:Cf} {B:Int} {x:Ma}
structure qff (W:World) (yb:Nat) (out:List Int) (w:World):Prop where
 fr:Fr [] W w
 hy:W.heap.size≤yb
 ex:∃v,w.heap[yb]?=some (.cells #[v] 54 (0,0))∧qaj W v∧qad w v 3 1 (qag out)
theorem qff.keep {W w w':World} {yb:Nat} {out:List Int} (h:qff W yb out w) (hf:Fr [] w w'):qff W yb out w':=by
 obtain⟨v,v1,v2,v3⟩:=h.ex
 exact⟨h.fr.trans hf,h.hy,v,hf.at_ v1 (by simp),v2,v3.keep hf (by simp)⟩
theorem qu8 {W:World} {yb:Nat} {u:Value} {l:List V2} (hl:l.length≤1000) (hr:ql4 l) {out0:List Int} (h0:qca out0) (hk:∀w',qff W yb (qa7 out0 l) w'→K (.tuple #[]) w'):
  ∀(d i:Nat) (w:World),i+d=l.length→qff W yb (qa7 out0 (l.take i)) w→qad w u 60 2 (vaC l)→
   F84.l1 K (.pointer (some ⟨yb,0,none⟩)) u (.int .i64 (l.length:Int)) (.int .i64 (i:Int)) w:=by
 intro d
 induction d with
 | zero=>
  intro i w hi hs hu
  have e:i=l.length:=by omega
  subst e
  refine F84.l1.to ?_
  simp only[zv,show ¬((l.length:Int)<(l.length:Int)) by omega]
  rw[y2z] at hs
  exact hk w hs
 | succ d ih=>
  intro i w hi hs hu
  have hlt:i<l.length:=by omega
  have hok:qca (qa7 out0 (l.take i)):=h0.note _ fun v hv=>hr v (y1t hv)
  have e1:qa7 out0 (l.take (i+1))=if l[i].1=2∧l[i].2∉qa7 out0 (l.take i) then qa7 out0 (l.take i) ++ [l[i].2] else qa7 out0 (l.take i):=by
   rw[y2o,y0v hlt,qww]
   rfl
  have next:∀w',qff W yb (qa7 out0 (l.take (i+1))) w'→qad w' u 60 2 (vaC l)→F84.k6 K (.pointer (some ⟨yb,0,none⟩)) u (.int .i64 (l.length:Int)) (.int .i64 (i:Int)) w':=fun w' a b=>by
   refine F84.k6.to ?_
   try simp only[C.a6]
   rw[qab (n:=(i:Int)+1) (by omega)]
   exact ih (i+1) w' (by omega) a b
  generalize hgv:l[i]=v at e1
  refine F84.l1.to ?_
  simp only[zv,show (i:Int)<(l.length:Int) by omega]
  refine F84.k2.to (C.cl hu.rd hlt fun gg o cs e fz hg hcs ho=>C.br hg (by omega) hcs ?_)
  rw[hgv]
  refine C.av fun y w1 hn1=>C.a0 (x:=V v.1 v.2) hn1.at_ rfl qal rfl fun w2 hu2=>?_
  have l1:=hn1.is
  have f2:Fr [] w w2:=hn1.fr.then hu2.fr (by simp;omega)
  have hs2:=hs.keep f2
  have hu2':=hu.keep f2 (by simp)
  obtain⟨sv,s1,s2,s3⟩:=hs2.ex
  try simp only[zv]
  refine C.ad (v := .int .i64 v.2) hu2.at_ rfl ?_
  refine C.ad (v := .int .i64 v.1) hu2.at_ rfl ?_
  by_cases c2:v.1=2
  ·try simp only[zv,eq_self,c2]
   refine C.ad (v:=sv) s1 rfl ?_
   refine qh8 s3.rd ?_
   by_cases c3:v.2∈qa7 out0 (l.take i)
   ·rw[if_neg (fun z=>z.2 c3)] at e1
    try simp only[zv,c3]
    exact next w2 (by rw[e1];exact hs2) hu2'
   ·rw[if_pos ⟨c2,c3⟩] at e1
    try simp only[zv,c3]
    refine C.ad (v:=sv) s1 rfl (C.cu hs2.fr s2 s3 (by have:=hok.le;omega) fun v' w3 hf3 hn3 ho3 hf3' hb3=>?_)
    have hyb:yb∉qaa sv:=s3.nb s1 (by decide)
    have y3:=hf3'.at_ s1 hyb
    have hu3:qad w3 u 60 2 (vaC l):=hu2'.keep' hf3' (hu2'.ne s3 (by decide))
    have hyu:yb∉qaa u:=hu3.nb y3 (by decide)
    have hyv:yb∉qaa v':=ho3.nb y3 (by decide)
    refine C.bb y3 ho3.one.2 ho3.one.1 (by simp) fun w4 hu4=>?_
    refine next w4 ?_ (hu3.keep' hu4.fr fun q hq c=>hyu (by simp only[y2d] at c;rw[←c];exact hq))
    rw[e1]
    exact⟨hf3.then hu4.fr (fun q hq => .inr (by simp only[y2d] at hq;have:=hs.hy;omega)),hs.hy,v',hu4.at_,hn3,ho3.keep' hu4.fr fun q hq c=>hyv (by simp only[y2d] at c;rw[←c];exact hq)⟩
  ·rw[if_neg (fun z=>c2 z.1)] at e1
   try simp only[zv,c2]
   exact next w2 (by rw[e1];exact hs2) hu2'
theorem qu7 {W w:World} {yb:Nat} {u:Value} {l:List V2} (hl:l.length≤1000) (hr:ql4 l) {out:List Int} (h0:qca out) (hs:qff W yb out w) (hu:qad w u 60 2 (vaC l)) (hk:∀w',qff W yb (qa7 out l) w'→K (.tuple #[]) w'):
  qbo y5c (.func (.func 84) #[] #[.pointer (some ⟨yb,0,none⟩)]) [u] w K:=by
 refine qmx qyj (F84.sh (C.bg hu.rd ?_))
 rw[qa9]
 exact qu8 (W:=W) hl hr h0 hk l.length 0 w (by omega) hs hu
end
end Go.Proofs.YtcakfaakbpdklaaGreatDoorV
namespace Go.Proofs.YtcakfaakbpdklaaGreatDoorV
open Go Go.Proofs Go.RowKit Go.Sort Go.Shelf
open Go.Proofs.Tryz renaming prog→y5c
def qd6 (f:Int→Int) (l:List Int):List Int:=(pdq (ltOf fun a b=>f a-f b) l.toArray 0 l.length (Lib.bitLen l.length) true true).toList
theorem zar (f:Int→Int):SWO (ltOf fun a b=>f a-f b):=
 ⟨fun x=>by simp[ltOf],fun x y z a b=>by simp only[ltOf,decide_eq_true_eq] at *;omega,fun x y z a b=>by simp only[ltOf,decide_eq_false_iff_not] at *;omega⟩
theorem qkx {α : Type} (d:Array α) {n:Nat} (h:d.size=n):d.extract 0 n=d:=by subst h;simp
theorem qi0 (f:Int→Int) (l:List Int):(qd6 f l).Perm l∧(qd6 f l).Pairwise fun a b=>f a≤f b:=by
 obtain⟨⟨p1,_,p3⟩,h2⟩:=pdq_sorts (ltOf fun a b=>f a-f b) (zar f) l.toArray 0 l.toArray.size (Lib.bitLen l.toArray.size) true true (Nat.zero_le _) (y4q _) (Or.inl rfl)
 unfold qd6
 have e:l.toArray.size=l.length:=by simp
 rw[e] at p1 p3 h2
 generalize pdq (ltOf fun a b=>f a-f b) l.toArray 0 l.length (Lib.bitLen l.length) true true=d at p1 p3 h2
 constructor
 ·rw[qkx d (by rw[p1]),qkx l.toArray (by simp)] at p3
  simpa using p3
 ·rw[y0t]
  intro i j hi hj hij
  have hi':i<d.size:=by simpa using hi
  have hj':j<d.size:=by simpa using hj
  have:=h2 i j (Nat.zero_le _) hij (by omega)
  rw[getElem!_pos d i hi',getElem!_pos d j hj'] at this
  simp only[ltOf,decide_eq_false_iff_not] at this
  simp only[Array.getElem_toList]
  omega
theorem qj4 (f:Int→Int) (l:List Int):(qd6 f l).length=l.length:=(qi0 f l).1.length_eq
theorem qy7 {w:World} {g n:Nat} {os:Array Obj} {cur:Array Value} {e:TypeId} {fr:Nat × Nat} (d:Array Int) (hb:w.heap[g]?=some (.cells cur e fr)):
  (sortWorld (Value.int .i64) w g 0 n d os).heap[g]?=some (.cells (putCells (Value.int .i64) 0 d cur) e fr):=by
 have hg:g<w.heap.size:=(y0g.1 hb).1
 unfold sortWorld
 rw[heap_grow_old _ _ (by simpa using hg)]
 simp[putRow,mapBlock,Sort.ahead,y1j,hb,onCells]
theorem qwe {w:World} {g n:Nat} {os:Array Obj} (d:Array Int):Fr [g] w (sortWorld (Value.int .i64) w g 0 n d os):=by
 refine⟨rfl,rfl,rfl,by simp[sortWorld],fun k hk hne=>?_⟩
 unfold sortWorld
 rw[heap_grow_old _ _ (by simpa using hk)]
 have:g≠k:=fun e=>hne (by simp[e])
 simp[putRow,mapBlock,Sort.ahead,y1j,this]
theorem qz7 (cur:Array Value) (d:Array Int) (h:d.size≤cur.size):(putCells (Value.int .i64) 0 d cur).toList.take d.size=d.toList.map (Value.int .i64):=by
 apply y2r
 intro j
 by_cases hj:j<d.size
 ·rw[List.getElem?_take_of_lt hj,y1p]
  have h1:d[j]! = d[j]:=getElem!_pos d j hj
  simp[putCells,hj,show j<cur.size by omega]
 ·rw[List.getElem?_take_eq_none (by omega),y1l (by simp;omega)]
theorem qyy:∀args w,(callFunc 87 args).run y5c w = .ok (.enter 87 args) w:=by
 intro args w
 exact enters_of Tryz.func87 (by kernel_rfl) rfl args w
theorem qmv (s:St) (a:Int) : -1≤s.serial a∧s.serial a<1099511627776:=by
 unfold St.serial St.read
 split
 ·unfold qf5
  split
  ·simp only;omega
  ·simp only;omega
 ·simp only;omega
section
variable {K:VK} {A:Mad} {g:Gw} {cf:Cf} {B:Int} {x:Ma} {w:World}
theorem zfu {c:Nat} {a b:Int} {e:TypeId} {fz:Nat × Nat} (h:qaf A g cf B w x) (hc:w.heap[c]?=some (.cells #[.pointer (some ⟨A.ma,0,none⟩)] e fz)) (hk:K (.int .i64 (x.co.s.serial a-x.co.s.serial b)) { w with drawn:=w.drawn+1 }):
  C.i y5c 87 #[.int .i64 a,.int .i64 b,.pointer (some ⟨c,0,none⟩)] w K:=by
 have h':=h.keep0 (Fr.drew w)
 have hc':=(Fr.drew w).at_ hc (by simp)
 have ha:=qmv x.co.s a
 have hb:=qmv x.co.s b
 refine F87.sh ⟨fun w'=>w'={ w with drawn:=w.drawn+1 },rfl,?_⟩
 have hs1:∀w',w'=({ w with drawn:=w.drawn+1 }:World)→∃cs e fz,w'.heap[c]?=some (.cells cs e fz)∧cs[0]?=some (.pointer (some ⟨A.ma,0,none⟩)):=fun w' hw=>by subst hw;exact⟨_,_,_,hc',rfl⟩
 have hs2:∀w',w'=({ w with drawn:=w.drawn+1 }:World)→∃cs e fz,w'.heap[A.ma]?=some (.cells cs e fz)∧cs[12]?=some (.pointer (some ⟨A.Q.co,0,none⟩)):=fun w' hw=>by subst hw;exact⟨_,_,_,h'.blk,rfl⟩
 refine C.ao hs1 ?_
 try simp only[zv]
 refine C.ao hs2 (C.ao hs1 ?_)
 try simp only[zv]
 refine C.ao hs2 ⟨qfz h'.co ⟨rfl,qfz h'.co ⟨rfl,?_⟩,trivial⟩,trivial⟩
 try simp only[C.bo]
 rw[qab (by omega)]
 exact hk
theorem qx9 {W:World} {c:Nat} {ov:Value} {l:List Int} {e:TypeId} {fz:Nat × Nat} (h0:qaf A g cf B W x) (hf:Fr [] W w) (hn:qaj W ov) (ho:qad w ov 3 1 (qag l)) (hc:w.heap[c]?=some (.cells #[.pointer (some ⟨A.ma,0,none⟩)] e fz)) (he:e≠3) (hl:l.length≤1000000)
  (hk:∀w',Fr (qaa ov) w w'→qad w' ov 3 1 (qag (qd6 x.co.s.serial l))→K (.tuple #[]) w'):
  C.i y5c 86 #[ov,.func (.func 87) #[] #[.pointer (some ⟨c,0,none⟩)]] w K:=by
 have hcn:c∉qaa ov:=ho.nb hc (Ne.symm he)
 obtain⟨⟨h1,h2⟩,h3⟩:=id ho
 rw[qak] at h1 h2
 rcases h2 with⟨rfl,h2⟩ | ⟨g0,cap,cur,rfl,hb,hg,h4,h5,h6,h7⟩
 ·have el:l=[]:=y0d h2
  subst el
  refine (AnyF.slices_SortFunc_none { zao with } none 0 _ w).mono ?_
  rintro e w' ⟨rfl,rfl⟩
  refine⟨_,rfl,hk w' (Fr.refl _ _) ?_⟩
  have:qd6 x.co.s.serial []=[]:=y0d (qj4 _ _)
  rw[this]
  exact qad.nil _ _ _
 ·rw[qen,y4t] at h7
  have hH:=holds_of_blockI hg h7
  have hcg:c∉[g0]:=by simpa[qaa,Value.ownBlock] using hcn
  have hng:W.heap.size≤g0:=hn.blk g0 (by simp[qaa,Value.ownBlock])
  have qne:=Any.slices_SortFunc_eq (P:=y5c) (ρ := qoi) zao (Value.int .i64) (fun _=>rfl) (fun a b=>x.co.s.serial a-x.co.s.serial b) (zar _)
   87 #[.pointer (some ⟨c,0,none⟩)] g0 0 cap l.toArray w qyy (fun m os dk hs a b=>by
    have hf1:=qwe (w:=w) (g:=g0) (n:=m) (os:=os) dk
    have hW:Fr [] W (sortWorld (Value.int .i64) w g0 0 m dk os):=hf.then hf1 fun q hq => .inr (by simp only[y2d] at hq;omega)
    have:=zfu (K:=fun v W'=>v = .int .i64 (x.co.s.serial a-x.co.s.serial b)∧W'={ (sortWorld (Value.int .i64) w g0 0 m dk os) with drawn:=(sortWorld (Value.int .i64) w g0 0 m dk os).drawn+1 }) (a:=a) (b:=b) (h0.keep0 hW) (hf1.at_ hc hcg) ⟨rfl,rfl⟩
    refine Calls.mono this ?_
    rintro e W' ⟨v,rfl,rfl,rfl⟩
    exact⟨rfl,1, #[],by rw[grow_empty];rfl⟩) hH (qac hg) (by simp;omega)
  have main':Calls y5c 86 #[.slice (some ⟨g0,0,none⟩) l.length cap,.func (.func 87) #[] #[.pointer (some ⟨c,0,none⟩)]] w _:=qne
  refine main'.mono ?_
  rintro e w' ⟨rfl,n,os,rfl⟩
  have hlen:=qj4 x.co.s.serial l
  unfold qd6 at hk hlen
  simp only[List.size_toArray]
  generalize pdq (ltOf fun a b=>x.co.s.serial a-x.co.s.serial b) l.toArray 0 l.length (Lib.bitLen l.length) true true=d at hk hlen
  have ds:d.size=l.length:=by simpa using hlen
  refine⟨_,rfl,hk _ (by simpa[qaa,Value.ownBlock] using qwe d) ?_⟩
  refine qad.of_block (qy7 d hg) (by rw[qak,hlen]) h4 (by unfold maxLen at h5;omega) (by simp[putCells,h6]) ?_ ?_
  ·intro y hy
   refine⟨?_,qhj y hy⟩
   simp only[qag,y4l] at hy
   obtain⟨z,_,rfl⟩:=hy
   rfl
  ·have:=qz7 cur d (by rw[ds,h6];omega)
   rw[ds] at this
   rw[y4t,qen]
   exact this
end
end Go.Proofs.YtcakfaakbpdklaaGreatDoorV
namespace Go.Proofs.YtcakfaakbpdklaaGreatDoorV
open Go Go.Proofs Go.RowKit
open Go.Proofs.Tryz renaming prog→y5c
theorem RdS.one {w:World} {v:Value} {sz:Nat} {xs:List (List Value)} (h:RdS w v sz xs):v.oneCell'=true∧v.cells = #[v]:=by
 obtain⟨A,c,rfl,_⟩:=h
 exact⟨rfl,rfl⟩
abbrev Va:=Int × Int
abbrev Nd:=Int × List Va
abbrev Vw:=List (List Va) × List Nd
def slC (vs:List Value):List (List Value):=vs.map fun v=>[v]
theorem qnk (vs:List Value):(slC vs).length=vs.length:=by simp[slC]
theorem zcv {vs:List Value} {j:Nat} (h:j<vs.length):(slC vs)[j]?=some [vs[j]]:=by simp[slC,h]
theorem zcu (a b:List Value):slC (a ++ b)=slC a ++ slC b:=by simp[slC]
theorem zc5 {l:List Va} {j:Nat} (h:j<l.length):(vaC l)[j]?=some [.int .i64 l[j].1,.int .i64 l[j].2]:=by simp[vaC,h]
def ndC (N:List Nd) (fs:List Value):List (List Value):=List.zipWith (fun nd f=>[.int .i64 nd.1,f]) N fs
theorem qnf {N:List Nd} {fs:List Value} (h:fs.length=N.length):(ndC N fs).length=N.length:=by simp[ndC,h]
theorem qsv {N:List Nd} {fs:List Value} {j:Nat} (h:j<N.length) (h':j<fs.length):(ndC N fs)[j]?=some [.int .i64 N[j].1,fs[j]]:=by simp[ndC,List.getElem?_zipWith,y0v h,y0v h']
def qek (w:World) (rv:Value) (L:List (List Va)):Prop:=∃vs:List Value,RdS w rv 1 (slC vs)∧vs.length=L.length∧∀i (h:i<L.length) (h':i<vs.length),RdS w vs[i] 2 (vaC L[i])
theorem qek.keep {w w':World} {rv:Value} {L:List (List Va)} (h:qek w rv L) (hf:Fr [] w w'):qek w' rv L:=by
 obtain⟨vs,h1,h2,h3⟩:=h
 exact⟨vs,h1.keep hf,h2,fun i a b=>(h3 i a b).keep hf⟩
def qb0 (w:World) (nv:Value) (N:List Nd):Prop:=∃fs:List Value,fs.length=N.length∧RdS w nv 2 (ndC N fs)∧∀i (h:i<N.length) (h':i<fs.length),RdS w fs[i] 2 (vaC N[i].2)
theorem qb0.keep {w w':World} {nv:Value} {N:List Nd} (h:qb0 w nv N) (hf:Fr [] w w'):qb0 w' nv N:=by
 obtain⟨fs,h1,h2,h3⟩:=h
 exact⟨fs,h1,h2.keep hf,fun i a b=>(h3 i a b).keep hf⟩
structure IsV (w:World) (rv nv:Value) (V:Vw):Prop where
 rows:qek w rv V.1
 nodes:qb0 w nv V.2
theorem IsV.keep {w w':World} {rv nv:Value} {V:Vw} (h:IsV w rv nv V) (hf:Fr [] w w'):IsV w' rv nv V:=⟨h.rows.keep hf,h.nodes.keep hf⟩
theorem qek.one {w:World} {rv:Value} {L:List (List Va)} (h:qek w rv L):rv.oneCell'=true∧rv.cells = #[rv]:=by
 obtain⟨vs,h1,_⟩:=h
 exact h1.one
theorem qb0.one {w:World} {nv:Value} {N:List Nd} (h:qb0 w nv N):nv.oneCell'=true∧nv.cells = #[nv]:=by
 obtain⟨fs,_,h1,_⟩:=h
 exact h1.one
theorem IsV.cells {w:World} {rv nv:Value} {V:Vw} (h:IsV w rv nv V):Value.cells (.agg #[rv,nv]) = #[rv,nv]:=by
 simp[Value.cells]
theorem IsV.ones {w:World} {rv nv:Value} {V:Vw} (h:IsV w rv nv V):∀u∈(Value.cells (.agg #[rv,nv])).toList,u.oneCell'=true:=by
 rw[h.cells]
 intro u hu
 simp only[y4b,y3i,or_false] at hu
 rcases hu with rfl | rfl
 ·exact h.rows.one.1
 ·exact h.nodes.one.1
theorem qek.le {w:World} {rv:Value} {L:List (List Va)} (h:qek w rv L):L.length≤9223372036854775807:=by
 obtain⟨vs,h1,h2,_⟩:=h
 have:=h1.le
 rw[qnk] at this
 omega
theorem qb0.le {w:World} {nv:Value} {N:List Nd} (h:qb0 w nv N):N.length≤9223372036854775807:=by
 obtain⟨fs,h1,h2,_⟩:=h
 have:=h2.le
 rwa [qnf h1] at this
def VB (w:World) (b:Nat) (rv nv:Value):Prop:=w.heap[b]?=some (.cells #[rv,nv] 46 (0,0))
theorem VB.keep {S:List Nat} {w w':World} {b:Nat} {rv nv:Value} (h:VB w b rv nv) (hf:Fr S w w') (hS:b∉S):VB w' b rv nv:=hf.at_ h hS
section
variable {K:VK} {w:World}
theorem VB.f0 {b:Nat} {rv nv:Value} (h:VB w b rv nv) (hk:K rv w):C.ab 0 (.pointer (some ⟨b,0,none⟩)) w fun p w1=>C.ai p w1 K:=by
 simp only[zv]
 exact C.ad h rfl hk
theorem VB.f1 {b:Nat} {rv nv:Value} (h:VB w b rv nv) (hk:K nv w):C.ab 1 (.pointer (some ⟨b,0,none⟩)) w fun p w1=>C.ai p w1 K:=by
 simp only[zv]
 exact C.ad h rfl hk
theorem VB.all {b:Nat} {rv nv:Value} (h:VB w b rv nv) (hk:K (.agg #[rv,nv]) w):C.an 2 (.pointer (some ⟨b,0,none⟩)) w K:=C.ax h rfl hk
theorem VB.new {rv nv:Value} {V:Vw} (hV:IsV w rv nv V) (hk:∀b w',Fr [] w w'→w.heap.size≤b→VB w' b rv nv→IsV w' rv nv V→K (.pointer (some ⟨b,0,none⟩)) w'):C.a3 (.cells (Value.cells (.agg #[rv,nv])) 46) w K:=by
 refine C.av fun b w1 hn=>hk b w1 hn.fr (by have:=hn.is;omega) ?_ (hV.keep hn.fr)
 have:=hn.at_
 rw[hV.cells] at this
 exact this
theorem qb0.len {nv:Value} {N:List Nd} (h:qb0 w nv N) {w1:World} (hk:K (.int .i64 (N.length:Int)) w1):C.bl nv w1 K:=by
 obtain⟨fs,h1,⟨A,c,rfl,_⟩,_⟩:=h
 rw[qnf h1]
 simpa only[C.bt] using hk
theorem qek.len {rv:Value} {L:List (List Va)} (h:qek w rv L) {w1:World} (hk:K (.int .i64 (L.length:Int)) w1):C.bl rv w1 K:=by
 obtain⟨vs,⟨A,c,rfl,_⟩,h2,_⟩:=h
 rw[qnk,h2]
 simpa only[C.bt] using hk
theorem qb0.get {nv:Value} {N:List Nd} {i:Nat} (h:qb0 w nv N) (hi:i<N.length)
  (hk:∀g o cs e fz f,w.heap[g]?=some (.cells cs e fz)→cs[o]?=some (.int .i64 N[i].1)→cs[o+1]?=some f→RdS w f 2 (vaC N[i].2)→K (.pointer (some ⟨g,o,none⟩)) w):C.bk 2 nv (.int .i64 (i:Int)) w K:=by
 obtain⟨fs,h1,h2,h3⟩:=h
 have hi':i<fs.length:=by omega
 refine C.bw h2 (by omega) (by rw[y2t];exact qsv hi hi') fun g o cs e fz hg _ hc=>hk g o cs e fz fs[i] hg ?_ ?_ (h3 i hi hi')
 ·simpa using hc 0 (by omega)
 ·simpa using hc 1 (by omega)
theorem qek.getS {W w1:World} {rv:Value} {L:List (List Va)} {i:Nat} (h:qek W rv L) (hf:Fr [] W w1) (hi:i<L.length)
  (hk:∀g o v,RdS W v 2 (vaC L[i])→(∀w',Fr [] W w'→∃cs e fz,w'.heap[g]?=some (.cells cs e fz)∧cs[o]?=some v)→K (.pointer (some ⟨g,o,none⟩)) w1):C.bk 1 rv (.int .i64 (i:Int)) w1 K:=by
 obtain⟨vs,h1,h2,h3⟩:=h
 have hi':i<vs.length:=by omega
 refine C.ca (S:=fun w'=>Fr [] W w') (fun w' hw=>h1.keep hw) hf (by omega) (by rw[y2t];exact zcv hi') fun g o _ hs=>hk g o vs[i] (h3 i hi hi') fun w' hw=>?_
 obtain⟨cs,e,fz,x,y⟩:=hs w' hw
 exact⟨cs,e,fz,x,by simpa using y 0 (by simp)⟩
theorem qb0.getS {W w1:World} {nv:Value} {N:List Nd} {i:Nat} (h:qb0 W nv N) (hf:Fr [] W w1) (hi:i<N.length)
  (hk:∀g o f,RdS W f 2 (vaC N[i].2)→(∀w',Fr [] W w'→∃cs e fz,w'.heap[g]?=some (.cells cs e fz)∧cs[o]?=some (.int .i64 N[i].1))→(∀w',Fr [] W w'→∃cs e fz,w'.heap[g]?=some (.cells cs e fz)∧cs[o+1]?=some f)→K (.pointer (some ⟨g,o,none⟩)) w1):C.bk 2 nv (.int .i64 (i:Int)) w1 K:=by
 obtain⟨fs,h1,h2,h3⟩:=h
 have hi':i<fs.length:=by omega
 refine C.ca (S:=fun w'=>Fr [] W w') (fun w' hw=>h2.keep hw) hf (by omega) (by rw[y2t];exact qsv hi hi') fun g o _ hs=>hk g o fs[i] (h3 i hi hi') (fun w' hw=>?_) fun w' hw=>?_
 ·obtain⟨cs,e,fz,x,y⟩:=hs w' hw
  exact⟨cs,e,fz,x,by simpa using y 0 (by omega)⟩
 ·obtain⟨cs,e,fz,x,y⟩:=hs w' hw
  exact⟨cs,e,fz,x,by simpa using y 1 (by omega)⟩
end
structure qbq (lo:Nat) (w:World) (rv:Value) (L:List (List Va)) (vs:List Value):Prop where
 sp:qad w rv 56 1 (slC vs)
 ge:∀g∈qaa rv,lo≤g
 len:vs.length=L.length
 row:∀i (h:i<L.length) (h':i<vs.length),qad w vs[i] 60 2 (vaC L[i])∧∀g∈qaa vs[i],lo≤g
structure qbe (lo:Nat) (w:World) (nv:Value) (N:List Nd) (fs:List Value):Prop where
 len:fs.length=N.length
 sp:qad w nv 58 2 (ndC N fs)
 ge:∀g∈qaa nv,lo≤g
 row:∀i (h:i<N.length) (h':i<fs.length),qad w fs[i] 60 2 (vaC N[i].2)∧∀g∈qaa fs[i],lo≤g
theorem qbq.rd {lo:Nat} {w:World} {rv:Value} {L:List (List Va)} {vs:List Value} (h:qbq lo w rv L vs):qek w rv L:=⟨vs,h.sp.rd,h.len,fun i a b=>(h.row i a b).1.rd⟩
theorem qbe.rd {lo:Nat} {w:World} {nv:Value} {N:List Nd} {fs:List Value} (h:qbe lo w nv N fs):qb0 w nv N:=⟨fs,h.len,h.sp.rd,fun i a b=>(h.row i a b).1.rd⟩
theorem qbq.keep {lo:Nat} {S:List Nat} {w w':World} {rv:Value} {L:List (List Va)} {vs:List Value} (h:qbq lo w rv L vs) (hf:Fr S w w') (hS:∀g∈S,g<lo∨w.heap.size≤g∨∃cs e fz,w.heap[g]?=some (.cells cs e fz)∧e≠56∧e≠60):qbq lo w' rv L vs:=by
 have key:∀ {v:Value} {e:TypeId} {sz:Nat} {xs:List (List Value)},(e=56∨e=60)→qad w v e sz xs→(∀g∈qaa v,lo≤g)→qad w' v e sz xs:=fun he ho hl=>ho.keep' hf fun g hg c=>by
  rcases hS g c with d | d | ⟨cs,e,fz,d,e1,e2⟩
  ·have:=hl g hg;omega
  ·have:=ho.mem_lt g hg;omega
  ·refine ho.nb d (fun c=>?_) hg
   rcases he with rfl | rfl
   ·exact e1 c.symm
   ·exact e2 c.symm
 exact⟨key (.inl rfl) h.sp h.ge,h.ge,h.len,fun i a b=>⟨key (.inr rfl) (h.row i a b).1 (h.row i a b).2,(h.row i a b).2⟩⟩
theorem qbe.keep {lo:Nat} {S:List Nat} {w w':World} {nv:Value} {N:List Nd} {fs:List Value} (h:qbe lo w nv N fs) (hf:Fr S w w') (hS:∀g∈S,g<lo∨w.heap.size≤g∨∃cs e fz,w.heap[g]?=some (.cells cs e fz)∧e≠58∧e≠60):qbe lo w' nv N fs:=by
 have key:∀ {v:Value} {e:TypeId} {sz:Nat} {xs:List (List Value)},(e=58∨e=60)→qad w v e sz xs→(∀g∈qaa v,lo≤g)→qad w' v e sz xs:=fun he ho hl=>ho.keep' hf fun g hg c=>by
  rcases hS g c with d | d | ⟨cs,e,fz,d,e1,e2⟩
  ·have:=hl g hg;omega
  ·have:=ho.mem_lt g hg;omega
  ·refine ho.nb d (fun c=>?_) hg
   rcases he with rfl | rfl
   ·exact e1 c.symm
   ·exact e2 c.symm
 exact⟨h.len,key (.inl rfl) h.sp h.ge,h.ge,fun i a b=>⟨key (.inr rfl) (h.row i a b).1 (h.row i a b).2,(h.row i a b).2⟩⟩
theorem qbq.snoc {lo:Nat} {w w':World} {rv rv' v:Value} {L:List (List Va)} {vs:List Value} {l:List Va} (h:qbq lo w rv L vs) (hlo:lo≤w.heap.size) (hf:Fr (qaa rv) w w') (hg:∀g∈qaa rv',g∈qaa rv∨w.heap.size≤g) (hs:qad w' rv' 56 1 (slC vs ++ [[v]])) (hv:qad w v 60 2 (vaC l)) (hvl:∀g∈qaa v,lo≤g):
  qbq lo w' rv' (L ++ [l]) (vs ++ [v]):=by
 refine⟨by rw[zcu];exact hs,fun g hgg=>?_,by simp[h.len],fun i a b=>?_⟩
 ·rcases hg g hgg with c | c
  ·exact h.ge g c
  ·omega
 ·by_cases e:i<L.length
  ·have e':i<vs.length:=by rw[h.len];exact e
   rw[y0x e,y0x e']
   exact⟨(h.row i e e').1.keep' hf ((h.row i e e').1.ne h.sp (by decide)),(h.row i e e').2⟩
  ·have ei:i=L.length:=by simp at a;omega
   have ei':i=vs.length:=by rw[h.len];exact ei
   rw[y0u (by omega),y0u (by omega)]
   simp only[ei',Nat.sub_self,h.len,List.getElem_cons_zero]
   exact⟨hv.keep' hf (hv.ne h.sp (by decide)),hvl⟩
theorem qzn {N:List Nd} {fs:List Value} (h:fs.length=N.length) (nd:Nd) (f:Value):ndC (N ++ [nd]) (fs ++ [f])=ndC N fs ++ [[.int .i64 nd.1,f]]:=by
 unfold ndC
 rw[List.zipWith_append h.symm]
 rfl
theorem qbe.snoc {lo:Nat} {w w':World} {nv nv' v:Value} {N:List Nd} {fs:List Value} {nd:Nd} (h:qbe lo w nv N fs) (hlo:lo≤w.heap.size) (hf:Fr (qaa nv) w w') (hg:∀g∈qaa nv',g∈qaa nv∨w.heap.size≤g) (hs:qad w' nv' 58 2 (ndC N fs ++ [[.int .i64 nd.1,v]])) (hv:qad w v 60 2 (vaC nd.2)) (hvl:∀g∈qaa v,lo≤g):
  qbe lo w' nv' (N ++ [nd]) (fs ++ [v]):=by
 refine⟨by simp[h.len],by rw[qzn h.len];exact hs,fun g hgg=>?_,fun i a b=>?_⟩
 ·rcases hg g hgg with c | c
  ·exact h.ge g c
  ·omega
 ·by_cases e:i<N.length
  ·have e':i<fs.length:=by rw[h.len];exact e
   rw[y0x e,y0x e']
   exact⟨(h.row i e e').1.keep' hf ((h.row i e e').1.ne h.sp (by decide)),(h.row i e e').2⟩
  ·have ei:i=N.length:=by simp at a;omega
   have ei':i=fs.length:=by rw[h.len];exact ei
   rw[y0u (by omega),y0u (by omega)]
   simp only[ei',Nat.sub_self,h.len,List.getElem_cons_zero]
   exact⟨hv.keep' hf (hv.ne h.sp (by decide)),hvl⟩
def qa4 (l:List Va):List Int:=(l.filter fun x=>x.1 == 2).map Prod.snd
def plc (N:List Nd) (s:Int):Option Nat:=N.findIdx? fun x=>x.1 == s
def qhv (N:List Nd) (s:Int):Int:=match plc N s with
 | some i=>(i:Int)
 | none => -1
theorem qiq {N:List Nd} {s:Int} {i:Nat} (h:plc N s=some i):∃h':i<N.length,N[i].1=s∧∀j (hj:j<N.length),j<i→N[j].1≠s:=by
 unfold plc at h
 rw[y0a] at h
 obtain⟨h1,h2,h3⟩:=h
 exact⟨h1,by simpa using h2,fun j hj hji=>by simpa using h3 j hji⟩
theorem ze7 {N:List Nd} {s:Int} {i:Nat} (h:i<N.length) (h1:N[i].1=s) (h2:∀j (hj:j<N.length),j<i→N[j].1≠s):plc N s=some i:=by
 unfold plc
 rw[y0a]
 exact⟨h,by simpa using h1,fun j hj=>by simpa using h2 j (by omega) hj⟩
theorem qzs {N:List Nd} {s:Int} (h:∀x∈N,x.1≠s):plc N s=none:=by
 unfold plc
 rw[y0s]
 exact fun x hx=>by simpa using h x hx
theorem qmq {N:List Nd} {s:Int} {i:Nat} (h:plc N s=some i):i<N.length:=(qiq h).1
theorem qzt {N:List Nd} {s:Int} {i:Nat} (h:plc N s=some i):∃h':i<N.length,plc N N[i].1=some i:=by
 obtain⟨h1,h2,_⟩:=qiq h
 exact⟨h1,by rw[h2];exact h⟩
def qfw (V:Vw):List Int:=0 :: V.1.flatMap qa4
inductive RchN (V:Vw):Nat→Prop where
 | seed {s:Int} {i:Nat}:s∈qfw V→plc V.2 s=some i→RchN V i
 | step {j i:Nat} {nd:Nd} {s:Int}:RchN V j→V.2[j]?=some nd→s∈qa4 nd.2→plc V.2 s=some i→RchN V i
theorem RchN.has {V:Vw} {i:Nat} (h:RchN V i):∃s,plc V.2 s=some i:=by
 cases h with
 | seed _ h=>exact⟨_,h⟩
 | step _ _ _ h=>exact⟨_,h⟩
theorem RchN.lt {V:Vw} {i:Nat} (h:RchN V i):i<V.2.length:=by
 obtain⟨s,hs⟩:=h.has
 exact qmq hs
theorem RchN.first {V:Vw} {i:Nat} (h:RchN V i) (hi:i<V.2.length):plc V.2 V.2[i].1=some i:=by
 obtain⟨s,hs⟩:=h.has
 obtain⟨_,h2⟩:=qzt hs
 exact h2
theorem RchN.inj {V:Vw} {i j:Nat} (hi:RchN V i) (hj:RchN V j) (li:i<V.2.length) (lj:j<V.2.length) (h:V.2[i].1=V.2[j].1):i=j:=by
 have h1:=hi.first li
 have h2:=hj.first lj
 rw[h,h2] at h1
 exact (y3k h1).symm
open Classical in
noncomputable def qco (V:Vw):List Bool:=(List.range V.2.length).map fun i=>decide (RchN V i)
theorem qlm (V:Vw):(qco V).length=V.2.length:=by simp[qco]
theorem qfl {V:Vw} {i:Nat}:(qco V)[i]?=some true↔RchN V i:=by
 unfold qco
 rw[y2q]
 constructor
 ·intro h
  rcases Nat.lt_or_ge i V.2.length with c | c
  ·rw[List.getElem?_range c] at h
   simpa using h
  ·rw[y1l (by simpa using c)] at h
   simp at h
 ·intro h
  rw[List.getElem?_range h.lt]
  simpa using h
theorem qyk {a b:List Bool} (hl:a.length=b.length) (h:∀i:Nat,a[i]?=some true↔b[i]?=some true):a=b:=by
 apply y3e hl
 intro i h1 h2
 have:=h i
 rw[y0v h1,y0v h2] at this
 simp only[y2k] at this
 cases ha:a[i] <;> cases hb:b[i] <;> simp_all
theorem zch {V:Vw} {m:List Bool} (hl:m.length=V.2.length) (h1:∀i:Nat,m[i]?=some true→RchN V i) (h2:∀i:Nat,RchN V i→m[i]?=some true):m=qco V:=
 qyk (by rw[hl,qlm]) fun i=>⟨fun h=>qfl.2 (h1 i h),fun h=>h2 i (qfl.1 h)⟩
theorem zfb {V:Vw} {m:List Bool} (h0:∀s∈qfw V,∀i,plc V.2 s=some i→m[i]?=some true)
  (hc:∀j:Nat,m[j]?=some true→∀nd,V.2[j]?=some nd→∀s∈qa4 nd.2,∀i,plc V.2 s=some i→m[i]?=some true):∀i,RchN V i→m[i]?=some true:=by
 intro i h
 induction h with
 | seed h1 h2=>exact h0 _ h1 _ h2
 | step _ h1 h2 h3 ih=>exact hc _ ih _ h1 _ h2 _ h3
theorem qby {m:List Bool} {i j:Nat} (hi:i<m.length):(m.set i true)[j]?=some true↔i=j∨m[j]?=some true:=by
 rw[y2u]
 by_cases e:i=j
 ·subst e;simp[hi]
 ·simp[e]
def qd8:List Bool→Nat
 | []=>0
 | b :: m=>(if b then 0 else 1)+qd8 m
theorem qic:∀ {m:List Bool} {i:Nat},m[i]?=some false→qd8 (m.set i true)+1=qd8 m
 | [],i,h=>by simp at h
 | b :: m,0,h=>by
  simp only[y0z,y2k] at h
  subst h
  simp[qd8];omega
 | b :: m,i+1,h=>by
  have:=qic (m:=m) (i:=i) (by simpa using h)
  simp only[List.set_cons_succ,qd8]
  omega
def qc1 (N:List Nd) (s:Int) (mq:List Bool × List Nat):List Bool × List Nat:=match plc N s with
 | some i=>if mq.1[i]?=some true then mq else (mq.1.set i true,mq.2 ++ [i])
 | none=>mq
def qa6 (N:List Nd) (l:List Int) (mq:List Bool × List Nat):List Bool × List Nat:=l.foldl (fun z s=>qc1 N s z) mq
theorem qlk {N:List Nd} {s:Int} {i:Nat} {m:List Bool} {q:List Nat} (h:plc N s=some i) (hm:m[i]?=some true):qc1 N s (m,q)=(m,q):=by
 unfold qc1;simp only[h];rw[if_pos hm]
theorem qjq {N:List Nd} {s:Int} {i:Nat} {m:List Bool} {q:List Nat} (h:plc N s=some i) (hm:m[i]?=some false):qc1 N s (m,q)=(m.set i true,q ++ [i]):=by
 unfold qc1;simp only[h];rw[if_neg (by rw[hm];simp)]
theorem qll {N:List Nd} {s:Int} {mq:List Bool × List Nat} (h:plc N s=none):qc1 N s mq=mq:=by
 unfold qc1;simp only[h]
theorem qn2 {m:List Bool} {i:Nat} (h:i<m.length):m[i]?=some true∨m[i]?=some false:=by
 rw[y0v h]
 cases m[i] <;> simp
structure Wy (V:Vw) (m:List Bool) (q:List Nat):Prop where
 len:m.length=V.2.length
 snd:∀i:Nat,m[i]?=some true→RchN V i
 qm:∀i∈q,m[i]?=some true
 cl:∀j:Nat,m[j]?=some true→j∉q→∀nd,V.2[j]?=some nd→∀s∈qa4 nd.2,∀i,plc V.2 s=some i→m[i]?=some true
theorem qzi {V:Vw} {s:Int} {m:List Bool} {q:List Nat} (h:Wy V m q) (hs:∀i,plc V.2 s=some i→RchN V i):
  Wy V (qc1 V.2 s (m,q)).1 (qc1 V.2 s (m,q)).2∧qd8 (qc1 V.2 s (m,q)).1+(qc1 V.2 s (m,q)).2.length=qd8 m+q.length∧(∀i:Nat,m[i]?=some true→(qc1 V.2 s (m,q)).1[i]?=some true)∧(∀i,plc V.2 s=some i→(qc1 V.2 s (m,q)).1[i]?=some true):=by
 cases hp:plc V.2 s with
 | none=>
  rw[qll hp]
  exact⟨h,rfl,fun i hi=>hi,fun i hi=>by cases hi⟩
 | some i=>
  have li:i<m.length:=by rw[h.len];exact qmq hp
  rcases qn2 li with c | c
  ·rw[qlk hp c]
   exact⟨h,rfl,fun i hi=>hi,fun k hk=>by obtain rfl:=y3k hk;exact c⟩
  ·rw[qjq hp c]
   refine⟨⟨by simpa using h.len,fun k hk=>?_,fun k hk=>?_,fun j hj hq nd hnd s' hs' k hk=>?_⟩,?_,fun k hk=>(qby li).2 (.inr hk),fun k hk=>(qby li).2 (.inl (y3k hk))⟩
   ·rcases (qby li).1 hk with rfl | hk
    ·exact hs _ hp
    ·exact h.snd k hk
   ·rcases y3q.1 hk with hk | hk
    ·exact (qby li).2 (.inr (h.qm k hk))
    ·exact (qby li).2 (.inl (y2d.1 hk).symm)
   ·rcases (qby li).1 hj with rfl | hj
    ·exact absurd (y3q.2 (.inr (by simp))) hq
    ·exact (qby li).2 (.inr (h.cl j hj (fun c=>hq (y3q.2 (.inl c))) nd hnd s' hs' k hk))
   ·have:=qic c
    simp only[y2g,y3a,y3n]
    omega
theorem qoa {V:Vw}:∀ {l:List Int} {m:List Bool} {q:List Nat},Wy V m q→(∀s∈l,∀i,plc V.2 s=some i→RchN V i)→
  Wy V (qa6 V.2 l (m,q)).1 (qa6 V.2 l (m,q)).2∧qd8 (qa6 V.2 l (m,q)).1+(qa6 V.2 l (m,q)).2.length=qd8 m+q.length∧(∀i:Nat,m[i]?=some true→(qa6 V.2 l (m,q)).1[i]?=some true)∧(∀s∈l,∀i,plc V.2 s=some i→(qa6 V.2 l (m,q)).1[i]?=some true)
 | [],m,q,h,_=>⟨h,rfl,fun i hi=>hi,fun s hs=>by simp at hs⟩
 | s :: l,m,q,h,hs=>by
  obtain⟨a1,a2,a3,a4⟩:=qzi h (hs s (by simp))
  obtain⟨b1,b2,b3,b4⟩:=qoa (l:=l) a1 fun s' h'=>hs s' (by simp[h'])
  refine⟨b1,by rw[←a2];exact b2,fun i hi=>b3 i (a3 i hi),fun s' h' i hi=>?_⟩
  rcases y4b.1 h' with rfl | h'
  ·exact b3 i (a4 i hi)
  ·exact b4 s' h' i hi
theorem qml (N:List Nd) (a b:List Int) (mq:List Bool × List Nat):qa6 N (a ++ b) mq=qa6 N b (qa6 N a mq):=by simp[qa6,List.foldl_append]
theorem zhk (V:Vw):Wy V (List.replicate V.2.length false) []:=by
 refine⟨by simp,fun i hi=>?_,fun i hi=>by simp at hi,fun j hj=>?_⟩
 ·rw[y1a] at hi;split at hi <;> simp at hi
 ·rw[y1a] at hj;split at hj <;> simp at hj
structure Mid (V:Vw) (i:Nat) (m:List Bool) (q:List Nat):Prop where
 len:m.length=V.2.length
 snd:∀k:Nat,m[k]?=some true→RchN V k
 qm:∀k∈q,m[k]?=some true
 cl:∀j:Nat,m[j]?=some true→j∉q→j≠i→∀nd,V.2[j]?=some nd→∀s∈qa4 nd.2,∀k,plc V.2 s=some k→m[k]?=some true
structure Tgt (V:Vw) (i:Nat) (l:List Int) (m:List Bool) (q:List Nat) (r:List Bool × List Nat):Prop where
 mid:Mid V i r.1 r.2
 cnt:qd8 r.1+r.2.length=qd8 m+q.length
 mono:∀k:Nat,m[k]?=some true→r.1[k]?=some true
 all:∀s∈l,∀k,plc V.2 s=some k→r.1[k]?=some true
theorem qzk {V:Vw} {i:Nat} {s:Int} {m:List Bool} {q:List Nat} (h:Mid V i m q) (hsr:∀k,plc V.2 s=some k→RchN V k):Tgt V i [s] m q (qc1 V.2 s (m,q)):=by
 cases hp:plc V.2 s with
 | none=>
  rw[qll hp]
  exact⟨h,rfl,fun k hk=>hk,fun s' h' k hk=>by rw[y2d.1 h',hp] at hk;cases hk⟩
 | some k0=>
  have lk:k0<m.length:=by rw[h.len];exact qmq hp
  rcases qn2 lk with cc | cc
  ·rw[qlk hp cc]
   exact⟨h,rfl,fun k hk=>hk,fun s' h' k hk=>by rw[y2d.1 h',hp] at hk;obtain rfl:=y3k hk;exact cc⟩
  ·rw[qjq hp cc]
   refine⟨⟨by simpa using h.len,fun k hk=>?_,fun k hk=>?_,fun j hj hq hji nd' hnd' s' hs' k hk=>?_⟩,?_,fun k hk=>(qby lk).2 (.inr hk),fun s' h' k hk=>?_⟩
   ·rcases (qby lk).1 hk with rfl | hk
    ·exact hsr _ hp
    ·exact h.snd k hk
   ·rcases y3q.1 hk with hk | hk
    ·exact (qby lk).2 (.inr (h.qm k hk))
    ·exact (qby lk).2 (.inl (y2d.1 hk).symm)
   ·rcases (qby lk).1 hj with rfl | hj
    ·exact absurd (y3q.2 (.inr (by simp))) hq
    ·exact (qby lk).2 (.inr (h.cl j hj (fun c=>hq (y3q.2 (.inl c))) hji nd' hnd' s' hs' k hk))
   ·have:=qic cc
    simp only[y2g,y3a,y3n]
    omega
   ·rw[y2d.1 h',hp] at hk
    exact (qby lk).2 (.inl (y3k hk))
theorem qob {V:Vw} {i:Nat}:∀ {l:List Int} {m:List Bool} {q:List Nat},Mid V i m q→(∀s∈l,∀k,plc V.2 s=some k→RchN V k)→Tgt V i l m q (qa6 V.2 l (m,q))
 | [],m,q,h,_=>⟨h,rfl,fun k hk=>hk,fun s hs=>by simp at hs⟩
 | s :: l,m,q,h,hs=>by
  have a:=qzk h (hs s (by simp))
  have b:=qob (l:=l) (m:=(qc1 V.2 s (m,q)).1) (q:=(qc1 V.2 s (m,q)).2) a.mid fun s' h'=>hs s' (by simp[h'])
  refine⟨b.mid,by rw[←a.cnt];exact b.cnt,fun k hk=>b.mono k (a.mono k hk),fun s' h' k hk=>?_⟩
  rcases y4b.1 h' with rfl | h'
  ·exact b.mono k (a.all s' (by simp) k hk)
  ·exact b.all s' h' k hk
theorem zfs {V:Vw} {m:List Bool} {i:Nat} {q:List Nat} {nd:Nd} (h:Wy V m (i :: q)) (hn:V.2[i]?=some nd):
  Wy V (qa6 V.2 (qa4 nd.2) (m,q)).1 (qa6 V.2 (qa4 nd.2) (m,q)).2∧qd8 (qa6 V.2 (qa4 nd.2) (m,q)).1+(qa6 V.2 (qa4 nd.2) (m,q)).2.length=qd8 m+q.length∧(∀k:Nat,m[k]?=some true→(qa6 V.2 (qa4 nd.2) (m,q)).1[k]?=some true):=by
 have hri:=h.snd i (h.qm i (by simp))
 have t:=qob (V:=V) (i:=i) (l:=qa4 nd.2) (m:=m) (q:=q) ⟨h.len,h.snd,fun k hk=>h.qm k (by simp[hk]),fun j hj hq hji=>h.cl j hj (by simp[hji,hq])⟩ fun s hs k hk => .step hri hn hs hk
 refine⟨⟨t.mid.len,t.mid.snd,t.mid.qm,fun j hj hq nd' hnd' s' hs' k hk=>?_⟩,t.cnt,t.mono⟩
 by_cases hji:j=i
 ·subst hji
  rw[hn] at hnd'
  obtain rfl:=y3k hnd'
  exact t.all s' hs' k hk
 ·exact t.mid.cl j hj hq hji nd' hnd' s' hs' k hk
theorem zfr {V:Vw} {m:List Bool} (h:Wy V m []) (h0:∀s∈qfw V,∀i,plc V.2 s=some i→m[i]?=some true):m=qco V:=
 zch h.len h.snd (zfb h0 fun j hj nd hnd s hs i hi=>h.cl j hj (by simp) nd hnd s hs i hi)
theorem qw7 (a b:List Va):qa4 (a ++ b)=qa4 a ++ qa4 b:=by simp[qa4]
theorem qw8 (x:Va):qa4 [x]=if x.1=2 then[x.2] else[]:=by
 unfold qa4
 by_cases h:x.1=2 <;> simp[h]
theorem quk {l:List Va} {i:Nat} (h:i<l.length):qa4 (l.take (i+1))=qa4 (l.take i) ++ if l[i].1=2 then[l[i].2] else[]:=by
 rw[y0b h,qw7,qw8]
end Go.Proofs.YtcakfaakbpdklaaGreatDoorV
namespace Go.Proofs.YtcakfaakbpdklaaGreatDoorV
open Go Go.Proofs Go.Shelf
open Go.Proofs.Tryz renaming prog→y5c
def qxg:Go.Shelf.Ren:=⟨fun | 5=>52 | 8=>94 | 7=>93 | 19=>140 | 20=>141 | 10=>131 | 11=>132 | 12=>133 | 13=>134 | 14=>135 | 15=>136 | 16=>137 | 17=>138 | 18=>139 | 30=>203 | 31=>204 | 32=>205 | 33=>206 | 34=>207 | 35=>208 | 40=>259 | n=>n,fun | 23=>52 | 25=>2 | 3=>3 | 32=>157 | 22=>52 | 0=>0 | 44=>208 | 46=>210 | 4=>4 | 36=>201 | 35=>200 | 41=>68 | 5=>5 | 9=>9 | 53=>275 | 57=>109 | 63=>306 | 64=>262 | n=>n,fun n=>n⟩
theorem zaq:SlLaysM.n5 y5c qxg:={
 mixed:=by kernel_rfl,
 f5:=⟨Tryz.f52.name,by decide,Tryz.func52.trans (congrArg some (by kernel_rfl))⟩,
 f7:=⟨Tryz.f93.name,by decide,Tryz.func93.trans (congrArg some (by kernel_rfl))⟩,
 f8:=Tryz.func94.trans (congrArg some (by kernel_rfl)),
 f10:=⟨Tryz.f131.name,by decide,Tryz.func131.trans (congrArg some (by kernel_rfl))⟩,
 f11:=⟨Tryz.f132.name,by decide,Tryz.func132.trans (congrArg some (by kernel_rfl))⟩,
 f12:=⟨Tryz.f133.name,by decide,Tryz.func133.trans (congrArg some (by kernel_rfl))⟩,
 f13:=⟨Tryz.f134.name,by decide,Tryz.func134.trans (congrArg some (by kernel_rfl))⟩,
 f14:=⟨Tryz.f135.name,by decide,Tryz.func135.trans (congrArg some (by kernel_rfl))⟩,
 f15:=⟨Tryz.f136.name,by decide,Tryz.func136.trans (congrArg some (by kernel_rfl))⟩,
 f16:=⟨Tryz.f137.name,by decide,Tryz.func137.trans (congrArg some (by kernel_rfl))⟩,
 f17:=⟨Tryz.f138.name,by decide,Tryz.func138.trans (congrArg some (by kernel_rfl))⟩,
 f18:=⟨Tryz.f139.name,by decide,Tryz.func139.trans (congrArg some (by kernel_rfl))⟩,
 f19:=Tryz.func140.trans (congrArg some (by kernel_rfl)),
 f20:=Tryz.func141.trans (congrArg some (by kernel_rfl)),
 f30:=⟨Tryz.f203.name,by decide,Tryz.func203.trans (congrArg some (by kernel_rfl))⟩,
 f31:=Tryz.func204.trans (congrArg some (by kernel_rfl)),
 f32:=Tryz.func205.trans (congrArg some (by kernel_rfl)),
 f33:=⟨Tryz.f206.name,by decide,Tryz.func206.trans (congrArg some (by kernel_rfl))⟩,
 f34:=⟨Tryz.f207.name,by decide,Tryz.func207.trans (congrArg some (by kernel_rfl))⟩,
 f35:=⟨Tryz.f208.name,by decide,Tryz.func208.trans (congrArg some (by kernel_rfl))⟩,
 f40:=⟨Tryz.f259.name,by decide,Tryz.func259.trans (congrArg some (by kernel_rfl))⟩,
 t0:=Tryz.underlying0,
 a0:=Tryz.isAgg0,
 z0:=Tryz.sizeOf0,
 v0:=Tryz.zeroValue0,
 t3:=Tryz.underlying3,
 a3:=Tryz.isAgg3,
 z3:=Tryz.sizeOf3,
 v3:=Tryz.zeroValue3,
 t4:=Tryz.underlying4,
 a4:=Tryz.isAgg4,
 z4:=Tryz.sizeOf4,
 v4:=Tryz.zeroValue4,
 t5:=Tryz.underlying5,
 a5:=Tryz.isAgg5,
 z5:=Tryz.sizeOf5,
 v5:=Tryz.zeroValue5,
 t9:=Tryz.underlying9,
 a9:=Tryz.isAgg9,
 z9:=Tryz.sizeOf9,
 v9:=Tryz.zeroValue9,
 t22:=Tryz.underlying52,
 a22:=Tryz.isAgg52,
 z22:=Tryz.sizeOf52,
 v22:=Tryz.zeroValue52,
 t23:=Tryz.underlying52,
 a23:=Tryz.isAgg52,
 z23:=Tryz.sizeOf52,
 v23:=Tryz.zeroValue52,
 t25:=Tryz.underlying2,
 a25:=Tryz.isAgg2,
 z25:=Tryz.sizeOf2,
 v25:=Tryz.zeroValue2,
 t32:=Tryz.underlying157,
 a32:=Tryz.isAgg157,
 z32:=Tryz.sizeOf157,
 v32:=Tryz.zeroValue157,
 t35:=Tryz.underlying200,
 a35:=Tryz.isAgg200,
 z35:=Tryz.sizeOf200,
 v35:=Tryz.zeroValue200,
 t36:=Tryz.underlying201,
 a36:=Tryz.isAgg201,
 z36:=Tryz.sizeOf201,
 v36:=Tryz.zeroValue201,
 t41:=Tryz.underlying68,
 a41:=Tryz.isAgg68,
 z41:=Tryz.sizeOf68,
 v41:=Tryz.zeroValue68,
 t44:=Tryz.underlying208,
 a44:=Tryz.isAgg208,
 z44:=Tryz.sizeOf208,
 v44:=Tryz.zeroValue208,
 t46:=Tryz.underlying210,
 a46:=Tryz.isAgg210,
 z46:=Tryz.sizeOf210,
 v46:=Tryz.zeroValue210,
 t53:=Tryz.underlying275,
 a53:=Tryz.isAgg275,
 z53:=Tryz.sizeOf275,
 v53:=Tryz.zeroValue275,
 t57:=Tryz.underlying109,
 a57:=Tryz.isAgg109,
 z57:=Tryz.sizeOf109,
 v57:=Tryz.zeroValue109,
 t63:=Tryz.underlying306,
 a63:=Tryz.isAgg306,
 z63:=Tryz.sizeOf306,
 v63:=Tryz.zeroValue306,
 t64:=Tryz.underlying262,
 a64:=Tryz.isAgg262,
 z64:=Tryz.sizeOf262,
 v64:=Tryz.zeroValue262 }
end Go.Proofs.YtcakfaakbpdklaaGreatDoorV
namespace Go.Proofs.YtcakfaakbpdklaaGreatDoorV
open Go Go.Proofs Go.RowKit
open Go.Proofs.Tryz renaming prog→y5c
section
variable {K:VK} {A:Mad} {g:Gw} {cf:Cf} {B:Int} {x:Ma} {w:World}
theorem C.c3 {f:Fn} {a b:Array Value} {X:Prop} (hf:∀l,f ≠ .yield l) (h:X):C.cr (.func f a b) X:=⟨fun l _ _ e=>hf l (by injection e),h⟩
def qey (x:Ma):Prop:=∀t:Int,ql4 (x.co.roots t)
def Ma.rchT (x:Ma) (n:Nat):List Int:=(List.range n).foldl (fun (out:List Int) (t:Nat)=>qa7 out (x.co.roots (t:Int))) [x.co.global]
theorem qjv (x:Ma) (n:Nat):x.rchT (n+1)=qa7 (x.rchT n) (x.co.roots (n:Int)):=by
 unfold Ma.rchT
 rw[y3u,List.foldl_append]
 rfl
theorem zhh (a:Int):qca [a]:=⟨by simp,by simp,fun x hx=>by cases hx⟩
theorem qh5 (x:Ma) (hr:qey x):∀n,qca (x.rchT n)
 | 0=>zhh _
 | n+1=>by rw[qjv];exact (qh5 x hr n).note _ (hr _)
theorem qp1 (x:Ma) (a:Int):(x.flds a).length≤127:=by
 have:=qgg (s:=x.co.s) a
 unfold Ma.flds
 rw[y3t,y2v]
 omega
theorem qlr (x:Ma):∀(d i:Nat) {out:List Int},qca out→qca (x.rchGo d i out)
 | 0,i,out,h=>h
 | d+1,i,out,h=>by
  unfold Ma.rchGo
  split
  ·exact qlr x d (i+1) (h.note _ (qki x _))
  ·exact h
def qud (yb:Nat):Value := .func (.func 84) #[] #[.pointer (some ⟨yb,0,none⟩)]
theorem qrg {W:World} {c yb:Nat} (h0:qaf A g cf B W x) (hr:qey x) (hc:W.heap[c]?=some (.cells #[.pointer (some ⟨A.ma,0,none⟩)] 49 (0,0))) {n:Nat} (hn:cf.threads=(n:Int))
  (hk:∀w',qff W yb (x.rch0 cf) w'→F48.k8 K (.pointer (some ⟨c,0,none⟩)) (.pointer (some ⟨yb,0,none⟩)) (qud yb) w'):
  ∀(d i:Nat) (w:World),i+d=n→qff W yb (x.rchT i) w→
   F48.l4 K (.pointer (some ⟨c,0,none⟩)) (.pointer (some ⟨yb,0,none⟩)) (qud yb) (.int .i64 (n:Int)) (.int .i64 (i:Int)) w:=by
 have hth:=h0.fine.th
 intro d
 induction d with
 | zero=>
  intro i w hi hs
  have e:i=n:=by omega
  subst e
  refine F48.l4.to ?_
  simp only[zv,show ¬((i:Int)<(i:Int)) by omega]
  refine hk w ?_
  have:x.rch0 cf=x.rchT i:=by unfold Ma.rch0 Ma.rchT;rw[hn,y2t]
  rw[this];exact hs
 | succ d ih=>
  intro i w hi hs
  have h:=h0.keep0 hs.fr
  refine F48.l4.to ?_
  simp only[zv,show (i:Int)<(n:Int) by omega]
  refine F48.k5.to (C.ad (v := .pointer (some ⟨A.ma,0,none⟩)) (hs.fr.at_ hc (by simp)) rfl ?_)
  try simp only[zv]
  refine C.ad (v := .pointer (some ⟨A.Q.co,0,none⟩)) h.blk rfl ?_
  refine qgr h.co fun v w1 hf1 ho1 hn1=>?_
  refine qu7 (by have:=qog h (i:Int);omega) (hr _) (qh5 x hr i) (hs.keep hf1) ho1 fun w2 hs2=>?_
  refine F48.k7.to ?_
  try simp only[C.a6]
  rw[qab (n:=(i:Int)+1) (by omega)]
  exact ih (i+1) w2 (by omega) (by rw[qjv];exact hs2)
theorem zd0 {W:World} {c yb:Nat} (h0:qaf A g cf B W x) (hc:W.heap[c]?=some (.cells #[.pointer (some ⟨A.ma,0,none⟩)] 49 (0,0))) {fin:List Int}
  (hk:∀w',qff W yb fin w'→F48.k12 K (.pointer (some ⟨c,0,none⟩)) (.pointer (some ⟨yb,0,none⟩)) w'):
  ∀(d i:Nat) (w:World) (out:List Int),i+d=2050→qca out→x.rchGo d i out=fin→qff W yb out w→
   F48.l9 K (.pointer (some ⟨c,0,none⟩)) (.pointer (some ⟨yb,0,none⟩)) (qud yb) (.int .i64 (i:Int)) w:=by
 intro d
 induction d with
 | zero=>
  intro i w out hi hok he hs
  obtain⟨v,v1,v2,v3⟩:=hs.ex
  have hle:=hok.le
  refine F48.l9.to (C.ad v1 rfl (C.bg v3.rd ?_))
  rw[qak]
  simp only[zv,show ¬((i:Int)<(out.length:Int)) by omega]
  have:out=fin:=he
  exact hk w (by rw[←this];exact hs)
 | succ d ih=>
  intro i w out hi hok he hs
  obtain⟨v,v1,v2,v3⟩:=hs.ex
  have hle:=hok.le
  refine F48.l9.to (C.ad v1 rfl (C.bg v3.rd ?_))
  rw[qak]
  unfold Ma.rchGo at he
  by_cases hlt:i<out.length
  ·rw[if_pos hlt,qcb hlt] at he
   simp only[zv,show (i:Int)<(out.length:Int) by omega]
   refine F48.k11.to (C.a5 (fun w'=>Fr [] W w') fun w1 hf1 _=>⟨hs.fr.trans hf1,?_⟩)
   have hs1:=hs.keep hf1
   obtain⟨v,v1,v2,v3⟩:=hs1.ex
   refine C.ao (fun w' hw=>⟨_,_,_,hw.at_ hc (by simp),rfl⟩) ⟨C.ad v1 rfl ⟨hs1.fr,?_⟩,trivial⟩
   refine C.bx v3.rd hlt fun g1 o1 cs1 e1 fz1 hg1 hc1=>⟨C.ad hg1 hc1 ⟨hs1.fr,?_⟩,trivial⟩
   refine⟨qhc (h0.keep0 hs1.fr) fun u w2 hf2 hn2 ho2=>⟨hs1.fr.trans hf2,?_⟩,trivial⟩
   refine⟨C.c3 (by intro l e;cases e) (qu7 (by have:=qp1 x out[i];omega) (qki x _) hok (hs1.keep hf2) ho2 fun w3 hs3=>⟨hs3.fr,?_⟩),trivial⟩
   refine F48.k10.to ?_
   try simp only[C.a6]
   rw[qab (n:=(i:Int)+1) (by omega)]
   exact ih (i+1) w3 _ (by omega) (hok.note _ (qki x _)) he hs3
  ·rw[if_neg hlt] at he
   simp only[zv,show ¬((i:Int)<(out.length:Int)) by omega]
   exact hk w (by rw[←he];exact hs)
theorem qvh (h:qaf A g cf B w x) (hr:qey x) (hk:∀v w',Fr [] w w'→qaj w v→qad w' v 3 1 (qag (qd6 x.co.s.serial (x.rch cf)))→K v w'):C.i y5c 48 #[.pointer (some ⟨A.ma,0,none⟩)] w K:=by
 have hth:=h.fine.th
 obtain⟨n,hn⟩:=y1b (show 0≤cf.threads by omega)
 refine F48.sh (C.av fun c w1 hn1=>?_)
 have h1:=h.keep0 hn1.fr
 have c1:w1.heap[c]?=some (.cells #[.pointer (some ⟨A.ma,0,none⟩)] 49 (0,0)):=hn1.at_
 refine C.ad (v := .pointer (some ⟨A.ma,0,none⟩)) c1 rfl ?_
 try simp only[zv]
 refine C.ad (v := .pointer (some ⟨A.Q.co,0,none⟩)) h1.blk rfl ?_
 refine qnr h1.co (C.a4 (bsI _) ?_)
 have hw2:=New.mk' w1 (.cells #[.int .i64 x.co.global] 3)
 generalize hW2:w1.alloc (.cells #[.int .i64 x.co.global] 3)=w2 at hw2
 refine C.av fun yb w3 hn3=>?_
 have l3:=hn3.is
 have s2:=hw2.fr.size
 have ho:qad w2 (.slice (some ⟨w1.heap.size,0,none⟩) 1 1) 3 1 (qag [x.co.global]):=qad.of_block (sz:=1) hw2.at_ rfl (by decide) (by decide) rfl (by
  intro y hy
  refine⟨?_,qhj y hy⟩
  simp only[qag,y4a,y4o,y2d] at hy
  subst hy;rfl) rfl
 have ho3:=ho.keep hn3.fr (by simp)
 refine C.bb hn3.at_ rfl rfl (by simp) fun w4 hu4=>?_
 have hyb:yb∉qaa (.slice (some ⟨w1.heap.size,0,none⟩) 1 1):=ho3.nb hn3.at_ (by decide)
 have f4:Fr [] w1 w4:=(hw2.fr.trans hn3.fr).then hu4.fr (fun q hq => .inr (by simp only[y2d] at hq;omega))
 have hs4:qff w1 yb (x.rchT 0) w4:=⟨f4,by omega,_,hu4.at_,fun q hq=>by simp only[Value.ownBlock,y2k] at hq;omega,ho3.keep' hu4.fr fun q hq c=>hyb (by simp only[y2d] at c;rw[←c];exact hq)⟩
 refine C.ad (v := .pointer (some ⟨A.ma,0,none⟩)) (f4.at_ c1 (by simp)) rfl ?_
 try simp only[zv]
 refine C.ad (v := .int .i64 cf.threads) (h1.keep0 f4).blk rfl ?_
 rw[hn]
 refine qrg (W:=w1) h1 hr c1 hn (fun w5 hs5=>?_) n 0 w4 (by omega) hs4
 refine F48.k8.to ?_
 have hok:qca (x.rch0 cf):=by
  have:x.rch0 cf=x.rchT n:=by unfold Ma.rch0 Ma.rchT;rw[hn,y2t]
  rw[this];exact qh5 x hr n
 refine zd0 (W:=w1) (fin:=x.rch cf) h1 c1 (fun w6 hs6=>?_) 2050 0 w5 _ (by omega) hok rfl hs5
 obtain⟨v,v1,v2,v3⟩:=hs6.ex
 have hyv:yb∉qaa v:=v3.nb v1 (by decide)
 refine F48.k12.to (C.ad v1 rfl (qx9 h1 hs6.fr v2 v3 (hs6.fr.at_ c1 (by simp)) (by decide) (by have:=(qlr x 2050 0 hok).le;unfold Ma.rch;omega) fun w7 hf7 ho7=>?_))
 refine C.ad (hf7.at_ v1 hyv) rfl (hk v w7 ?_ (v2.mono hn1.fr.size) ho7)
 exact hn1.fr.trans (hs6.fr.then hf7 fun q hq => .inr (v2.blk q hq))
end
def Ma.rowsV (x:Ma) (n:Nat):List (List Va):=(List.range n).map fun t:Nat=>x.sers (x.co.roots (t:Int))
def Ma.node (x:Ma) (a:Int):Nd:=(x.co.s.serial a,x.sers (x.flds a))
def Ma.view (cf:Cf) (x:Ma):Vw:=(x.rowsV cf.threads.toNat,(qd6 x.co.s.serial (x.rch cf)).map x.node)
structure VwS (W:World) (yb:Nat) (L:List (List Va)) (N:List Nd) (w:World):Prop where
 fr:Fr [] W w
 hy:W.heap.size≤yb
 ex:∃rv nv vs fs,w.heap[yb]?=some (.cells #[rv,nv] 46 (0,0))∧qbq W.heap.size w rv L vs∧qbe W.heap.size w nv N fs
theorem qbq.keep0 {lo:Nat} {w w':World} {rv:Value} {L:List (List Va)} {vs:List Value} (h:qbq lo w rv L vs) (hf:Fr [] w w'):qbq lo w' rv L vs:=h.keep hf fun g hg=>by cases hg
theorem qbe.keep0 {lo:Nat} {w w':World} {nv:Value} {N:List Nd} {fs:List Value} (h:qbe lo w nv N fs) (hf:Fr [] w w'):qbe lo w' nv N fs:=h.keep hf fun g hg=>by cases hg
theorem VwS.keep {W w w':World} {yb:Nat} {L:List (List Va)} {N:List Nd} (h:VwS W yb L N w) (hf:Fr [] w w'):VwS W yb L N w':=by
 obtain⟨rv,nv,vs,fs,e1,e2,e3⟩:=h.ex
 exact⟨h.fr.trans hf,h.hy,rv,nv,vs,fs,hf.at_ e1 (by simp),e2.keep0 hf,e3.keep0 hf⟩
theorem qad.at_blk {w:World} {v:Value} {e:TypeId} {sz:Nat} {xs:List (List Value)} (h:qad w v e sz xs) {q:Nat} (hq:q∈qaa v):∃cs e' fz,w.heap[q]?=some (.cells cs e' fz)∧e'=e:=by
 obtain⟨⟨h1,h2⟩,h3⟩:=h
 rcases h2 with⟨rfl,h2⟩ | ⟨g,cap,cur,rfl,hb,hg,h4,h5,h6,h7⟩
 ·simp[qaa,Value.ownBlock] at hq
 ·have:q=g:=by simpa[qaa,Value.ownBlock] using hq
  subst this
  exact⟨_,_,_,hg,rfl⟩
section
variable {K:VK} {A:Mad} {g:Gw} {cf:Cf} {B:Int} {x:Ma} {w:World}
theorem bsR (A:Option Addr) (n c:Nat):(Instr.buildSlice 43 1 #[(0,.slice A n c)]).run y5c w = .ok (.slice (some ⟨w.heap.size,0,none⟩) 1 1) (w.alloc (.cells #[.slice A n c] 56)):=by kernel_rfl
theorem bsN (s:Int) (A:Option Addr) (n c:Nat):(Instr.buildSlice 44 1 #[(0,.agg #[.int .i64 s,.slice A n c])]).run y5c w = .ok (.slice (some ⟨w.heap.size,0,none⟩) 1 1) (w.alloc (.cells #[.int .i64 s,.slice A n c] 58)):=by kernel_rfl
theorem bNd (s:Int) (A:Option Addr) (n c:Nat):(Instr.build 58 #[(0,.int .i64 s),(1,.slice A n c)]).run y5c w = .ok (.agg #[.int .i64 s,.slice A n c]) w:=by kernel_rfl
theorem qsb {W:World} {yb:Nat} {rv nv u s:Value} {vs fs:List Value} {L:List (List Va)} {N:List Nd} {l:List Va} {X:World→Prop} (hf:Fr [] W w) (hy:W.heap.size≤yb) (hb:w.heap[yb]?=some (.cells #[rv,nv] 46 (0,0))) (hR:qbq W.heap.size w rv L vs) (hN:qbe W.heap.size w nv N fs)
  (hL:L.length≤100000) (hu:qad w u 60 2 (vaC l)) (hul:qaj W u) (hs:RdS w s 1 (slC [u])) (hk:∀w',VwS W yb (L ++ [l]) N w'→X w'):
  C.ay y5c (Builtin.append_ #[43,43] 43 #[rv,s]) w fun x w1=>(Fr [] W w1∧(C.ak 1 (.pointer (some ⟨yb,0,none⟩)) x w1 fun w3=>(Fr [] W w3∧X w3))∧True):=by
 have hvl:(slC vs).length=L.length:=by rw[qnk,hR.len]
 refine C.ci (W0:=W) (e:=56) (sz:=1) (bytes:=24) (z := .slice none 0 0) Tryz.underlying43 (by kernel_rfl) rfl (by decide) hf (fun q hq=>hR.ge q (qam.2 hq)) hR.sp hs ?_ ?_ ?_ fun v' w1 hf1 hn1 ho1 hf1' hg1=>⟨hf1,?_⟩
 ·intro y hy u' hu'
  simp only[slC,y4a,y4o,y2d] at hy
  subst hy
  rw[y2d.1 hu']
  exact hu.one.1
 ·rw[hvl];simp[slC];omega
 ·rw[hvl];simp[slC];omega
 have hyr:yb∉qaa rv:=hR.sp.nb hb (by decide)
 have hb1:=hf1'.at_ hb hyr
 have hR1:=hR.snoc hf.size hf1' hg1 ho1 hu (fun q hq=>hul.blk q hq)
 have hN1:=hN.keep hf1' fun q hq => .inr (.inr (by
  obtain⟨cs,e,fz,a1,a2⟩:=hR.sp.at_blk hq
  exact⟨cs,e,fz,a1,by rw[a2];decide,by rw[a2];decide⟩))
 refine⟨C.bb hb1 ho1.one.2 ho1.one.1 (by simp) fun w3 hu3=>?_,trivial⟩
 have hf3:Fr [] W w3:=hf1.then hu3.fr fun q hq => .inr (by simp only[y2d] at hq;omega)
 have hyS:∀q∈[yb],q<W.heap.size∨w1.heap.size≤q∨∃cs e fz,w1.heap[q]?=some (.cells cs e fz)∧e≠56∧e≠60:=fun q hq=>by
  rw[y2d.1 hq]
  exact .inr (.inr ⟨_,_,_,hb1,by decide,by decide⟩)
 have hyS':∀q∈[yb],q<W.heap.size∨w1.heap.size≤q∨∃cs e fz,w1.heap[q]?=some (.cells cs e fz)∧e≠58∧e≠60:=fun q hq=>by
  rw[y2d.1 hq]
  exact .inr (.inr ⟨_,_,_,hb1,by decide,by decide⟩)
 exact⟨hf3,hk w3 ⟨hf3,hy,v',nv,vs ++ [u],fs,hu3.at_,hR1.keep hu3.fr hyS,hN1.keep hu3.fr hyS'⟩⟩
theorem qpa {W:World} {yb:Nat} {rv nv u s:Value} {vs fs:List Value} {L:List (List Va)} {N:List Nd} {nd:Nd} {X:World→Prop} (hf:Fr [] W w) (hy:W.heap.size≤yb) (hb:w.heap[yb]?=some (.cells #[rv,nv] 46 (0,0))) (hR:qbq W.heap.size w rv L vs) (hN:qbe W.heap.size w nv N fs)
  (hL:N.length≤100000) (hu:qad w u 60 2 (vaC nd.2)) (hul:qaj W u) (hs:RdS w s 2 [[.int .i64 nd.1,u]]) (hk:∀w',VwS W yb L (N ++ [nd]) w'→Fr (yb :: qaa nv) w w'→X w'):
  C.ay y5c (Builtin.append_ #[44,44] 44 #[nv,s]) w fun x w1=>(Fr [] W w1∧(C.ak 1 (.pointer (some ⟨yb,1,none⟩)) x w1 fun w3=>(Fr [] W w3∧X w3))∧True):=by
 have hvl:(ndC N fs).length=N.length:=qnf hN.len
 refine C.ci (W0:=W) (e:=58) (sz:=2) (bytes:=32) (z := .agg #[.int .i64 0,.slice none 0 0]) Tryz.underlying44 (by kernel_rfl) rfl (by decide) hf (fun q hq=>hN.ge q (qam.2 hq)) hN.sp hs ?_ ?_ ?_ fun v' w1 hf1 hn1 ho1 hf1' hg1=>⟨hf1,?_⟩
 ·intro y hy u' hu'
  rw[y2d.1 hy] at hu'
  simp only[y4b,y3i,or_false] at hu'
  rcases hu' with rfl | rfl
  ·rfl
  ·exact hu.one.1
 ·rw[hvl];simp;omega
 ·rw[hvl];simp;omega
 have hyr:yb∉qaa nv:=hN.sp.nb hb (by decide)
 have hb1:=hf1'.at_ hb hyr
 have hN1:=hN.snoc hf.size hf1' hg1 ho1 hu (fun q hq=>hul.blk q hq)
 have hR1:=hR.keep hf1' fun q hq => .inr (.inr (by
  obtain⟨cs,e,fz,a1,a2⟩:=hN.sp.at_blk hq
  exact⟨cs,e,fz,a1,by rw[a2];decide,by rw[a2];decide⟩))
 refine⟨C.bb hb1 ho1.one.2 ho1.one.1 (by simp) fun w3 hu3=>?_,trivial⟩
 have hf3:Fr [] W w3:=hf1.then hu3.fr fun q hq => .inr (by simp only[y2d] at hq;omega)
 have hyS:∀q∈[yb],q<W.heap.size∨w1.heap.size≤q∨∃cs e fz,w1.heap[q]?=some (.cells cs e fz)∧e≠56∧e≠60:=fun q hq=>by
  rw[y2d.1 hq]
  exact .inr (.inr ⟨_,_,_,hb1,by decide,by decide⟩)
 have hyS':∀q∈[yb],q<W.heap.size∨w1.heap.size≤q∨∃cs e fz,w1.heap[q]?=some (.cells cs e fz)∧e≠58∧e≠60:=fun q hq=>by
  rw[y2d.1 hq]
  exact .inr (.inr ⟨_,_,_,hb1,by decide,by decide⟩)
 exact⟨hf3,hk w3 ⟨hf3,hy,rv,v',vs,fs ++ [u],hu3.at_,hR1.keep hu3.fr hyS,hN1.keep hu3.fr hyS'⟩ ((hf1'.mono fun q hq=>by simp[hq]).trans (hu3.fr.mono fun q hq=>by simp at hq;simp[hq]))⟩
structure VwX (W:World) (yb:Nat) (rv nv:Value) (vs fs:List Value) (L:List (List Va)) (N:List Nd) (w:World):Prop where
 fr:Fr [] W w
 hy:W.heap.size≤yb
 hb:w.heap[yb]?=some (.cells #[rv,nv] 46 (0,0))
 hR:qbq W.heap.size w rv L vs
 hN:qbe W.heap.size w nv N fs
theorem VwX.keep {W w w':World} {yb:Nat} {rv nv:Value} {vs fs:List Value} {L:List (List Va)} {N:List Nd} (h:VwX W yb rv nv vs fs L N w) (hf:Fr [] w w'):VwX W yb rv nv vs fs L N w':=
 ⟨h.fr.trans hf,h.hy,hf.at_ h.hb (by simp),h.hR.keep0 hf,h.hN.keep0 hf⟩
section
variable {W:World} {yb:Nat} {rv nv u:Value} {vs fs:List Value} {L:List (List Va)} {N:List Nd} {l:List Va} {nd:Nd} {X:World→Prop}
theorem qs4 {s u:Value} (w:World) (hu:u.oneCell'=true∧∃A n c,u = .slice A n c):∃A n c,u = .slice A n c∧RdS (w.alloc (.cells #[.slice A n c] 56)) (.slice (some ⟨w.heap.size,0,none⟩) 1 1) 1 (slC [u]):=by
 obtain⟨_,A,n,c,rfl⟩:=hu
 have hw:=New.mk' w (.cells #[.slice A n c] 56)
 exact⟨A,n,c,rfl,RdS.of_block hw.at_ rfl (by decide) (by decide) (by simp[slC]) rfl⟩
theorem qpe (h:VwX W yb rv nv vs fs L N w) (hL:L.length≤100000) (hu:qad w u 60 2 (vaC l)) (hul:qaj W u) (hk:∀w',VwS W yb (L ++ [l]) N w'→X w'):
  C.ay y5c (Instr.buildSlice 43 1 #[(0,u)]) w fun s w0=>(Fr [] W w0∧(C.ay y5c (Builtin.append_ #[43,43] 43 #[rv,s]) w0 fun x w1=>(Fr [] W w1∧(C.ak 1 (.pointer (some ⟨yb,0,none⟩)) x w1 fun w3=>(Fr [] W w3∧X w3))∧True))∧True):=by
 obtain⟨A,c,e⟩:=hu.len
 obtain⟨A,n,c,e,hs⟩:=qs4 (s:=u) (u:=u) w ⟨hu.one.1,_,_,_,e⟩
 subst e
 have hw:=New.mk' w (.cells #[.slice A n c] 56)
 refine C.a4 (bsR A n c) ⟨h.fr.trans hw.fr,?_,trivial⟩
 have h1:=h.keep hw.fr
 exact qsb h1.fr h1.hy h1.hb h1.hR h1.hN hL (hu.keep hw.fr (by simp)) hul hs hk
theorem zbo (h:VwX W yb rv nv vs fs L N w) (hL:L.length≤100000) (hu:qad w u 60 2 (vaC l)) (hul:qaj W u) (hk:∀w',VwS W yb (L ++ [l]) N w'→X w'):
  C.ay y5c (Instr.buildSlice 43 1 #[(0,u)]) w fun s w0=>(Fr [] W w0∧(C.ai (.pointer (some ⟨yb,0,none⟩)) w0 fun r w0=>(Fr [] W w0∧(C.ay y5c (Builtin.append_ #[43,43] 43 #[r,s]) w0 fun x w1=>(Fr [] W w1∧(C.ak 1 (.pointer (some ⟨yb,0,none⟩)) x w1 fun w3=>(Fr [] W w3∧X w3))∧True))∧True))∧True):=by
 obtain⟨A,c,e⟩:=hu.len
 obtain⟨A,n,c,e,hs⟩:=qs4 (s:=u) (u:=u) w ⟨hu.one.1,_,_,_,e⟩
 subst e
 have hw:=New.mk' w (.cells #[.slice A n c] 56)
 refine C.a4 (bsR A n c) ⟨h.fr.trans hw.fr,?_,trivial⟩
 have h1:=h.keep hw.fr
 exact C.ad (v:=rv) h1.hb rfl ⟨h1.fr,qsb h1.fr h1.hy h1.hb h1.hR h1.hN hL (hu.keep hw.fr (by simp)) hul hs hk,trivial⟩
theorem qqj (w:World) {u:Value} (s:Int) (A:Option Addr) (n c:Nat) (e:u = .slice A n c):RdS (w.alloc (.cells #[.int .i64 s,.slice A n c] 58)) (.slice (some ⟨w.heap.size,0,none⟩) 1 1) 2 [[.int .i64 s,u]]:=by
 subst e
 have hw:=New.mk' w (.cells #[.int .i64 s,.slice A n c] 58)
 exact RdS.of_block hw.at_ rfl (by decide) (by decide) (by simp) rfl
theorem qkb (h:VwX W yb rv nv vs fs L N w) (hL:N.length≤100000) (hu:qad w u 60 2 (vaC nd.2)) (hul:qaj W u) (hk:∀w',VwS W yb L (N ++ [nd]) w'→Fr (yb :: qaa nv) w w'→X w'):
  C.ay y5c (Instr.buildSlice 44 1 #[(0,.agg #[.int .i64 nd.1,u])]) w fun s w0=>(Fr [] W w0∧(C.ay y5c (Builtin.append_ #[44,44] 44 #[nv,s]) w0 fun x w1=>(Fr [] W w1∧(C.ak 1 (.pointer (some ⟨yb,1,none⟩)) x w1 fun w3=>(Fr [] W w3∧X w3))∧True))∧True):=by
 obtain⟨A,c,e⟩:=hu.len
 have hs:=qqj w nd.1 A _ c e
 generalize (vaC nd.2).length=n at e hs
 have hw:=New.mk' w (.cells #[.int .i64 nd.1,.slice A n c] 58)
 have hb:=bsN (w:=w) nd.1 A n c
 rw[←e] at hb
 refine C.a4 hb ?_
 rw[←e] at hw hs
 refine⟨h.fr.trans hw.fr,?_,trivial⟩
 have h1:=h.keep hw.fr
 exact qpa h1.fr h1.hy h1.hb h1.hR h1.hN hL (hu.keep hw.fr (by simp)) hul hs fun w' a b=>hk w' a (hw.fr.w.trans b)
theorem qx4 (h:VwX W yb rv nv vs fs L N w) (hL:N.length≤100000) (hu:qad w u 60 2 (vaC nd.2)) (hul:qaj W u) (hk:∀w',VwS W yb L (N ++ [nd]) w'→Fr (yb :: qaa nv) w w'→X w'):
  C.ay y5c (Instr.buildSlice 44 1 #[(0,.agg #[.int .i64 nd.1,u])]) w fun s w0=>(Fr [] W w0∧(C.ai (.pointer (some ⟨yb,1,none⟩)) w0 fun r w0=>(Fr [] W w0∧(C.ay y5c (Builtin.append_ #[44,44] 44 #[r,s]) w0 fun x w1=>(Fr [] W w1∧(C.ak 1 (.pointer (some ⟨yb,1,none⟩)) x w1 fun w3=>(Fr [] W w3∧X w3))∧True))∧True))∧True):=by
 obtain⟨A,c,e⟩:=hu.len
 have hs:=qqj w nd.1 A _ c e
 generalize (vaC nd.2).length=n at e hs
 have hw:=New.mk' w (.cells #[.int .i64 nd.1,.slice A n c] 58)
 have hb:=bsN (w:=w) nd.1 A n c
 rw[←e] at hb
 refine C.a4 hb ?_
 rw[←e] at hw hs
 refine⟨h.fr.trans hw.fr,?_,trivial⟩
 have h1:=h.keep hw.fr
 exact C.ad (v:=nv) h1.hb rfl ⟨h1.fr,qpa h1.fr h1.hy h1.hb h1.hR h1.hN hL (hu.keep hw.fr (by simp)) hul hs fun w' a b=>hk w' a (hw.fr.w.trans b),trivial⟩
theorem zgq (s:Int) {u:Value} {A:Option Addr} {n c:Nat} (e:u = .slice A n c):(Instr.build 58 #[(0,.int .i64 s),(1,u)]).run y5c w = .ok (.agg #[.int .i64 s,u]) w:=by subst e;exact bNd s A n c
end
end
section
variable {K:VK} {A:Mad} {g:Gw} {cf:Cf} {B:Int} {x:Ma} {w:World}
theorem VwS.spec {W:World} {yb:Nat} {L:List (List Va)} {N:List Nd} (h:VwS W yb L N w):∃rv nv vs fs,VwX W yb rv nv vs fs L N w:=by
 obtain⟨rv,nv,vs,fs,e1,e2,e3⟩:=h.ex
 exact⟨rv,nv,vs,fs,h.fr,h.hy,e1,e2,e3⟩
theorem qrh {W:World} {yb y2:Nat} (h0:qaf A g cf B W x) {n:Nat} (hn:cf.threads=(n:Int))
  (hk:∀w',VwS W yb (x.rowsV n) [] w'→F17.k9 K (.pointer (some ⟨A.ma,0,none⟩)) (.pointer (some ⟨y2,0,none⟩)) (.pointer (some ⟨yb,0,none⟩)) w'):
  ∀(d i:Nat) (w:World),i+d=n→VwS W yb (x.rowsV i) [] w→
   F17.l5 K (.pointer (some ⟨A.ma,0,none⟩)) (.pointer (some ⟨y2,0,none⟩)) (.pointer (some ⟨yb,0,none⟩)) (.int .i64 (n:Int)) (.int .i64 (i:Int)) w:=by
 have hth:=h0.fine.th
 intro d
 induction d with
 | zero=>
  intro i w hi hs
  have e:i=n:=by omega
  subst e
  refine F17.l5.to ?_
  simp only[zv,show ¬((i:Int)<(i:Int)) by omega]
  exact hk w hs
 | succ d ih=>
  intro i w hi hs
  refine F17.l5.to ?_
  simp only[zv,show (i:Int)<(n:Int) by omega]
  refine F17.k6.to (C.a5 (fun w'=>Fr [] W w') fun w1 hf1 _=>⟨hs.fr.trans hf1,?_⟩)
  obtain⟨rv,nv,vs,fs,h1⟩:=(hs.keep hf1).spec
  have hma:=h0.keep0 h1.fr
  have hL:(x.rowsV i).length≤100000:=by unfold Ma.rowsV;rw[y3t,y2v];omega
  have fin:∀w',VwS W yb (x.rowsV i ++ [x.sers (x.co.roots (i:Int))]) [] w'→F17.k8 K (.pointer (some ⟨A.ma,0,none⟩)) (.pointer (some ⟨y2,0,none⟩)) (.pointer (some ⟨yb,0,none⟩)) (.int .i64 (n:Int)) (.int .i64 (i:Int)) w':=fun w' hv=>by
   refine F17.k8.to ?_
   try simp only[C.a6]
   rw[qab (n:=(i:Int)+1) (by omega)]
   refine ih (i+1) w' (by omega) ?_
   have:x.rowsV (i+1)=x.rowsV i ++ [x.sers (x.co.roots (i:Int))]:=by unfold Ma.rowsV;rw[y3u,y3v];rfl
   rw[this];exact hv
  have hlen:=qog hma (i:Int)
  try simp only[zv]
  refine C.ao (v := .pointer (some ⟨A.Q.co,0,none⟩)) (fun w' hw=>⟨_,_,_,(h0.keep0 hw).blk,rfl⟩) ?_
  refine⟨C.ad (v:=rv) h1.hb rfl ⟨h1.fr,?_,trivial⟩,?_,trivial⟩
  ·refine qgr hma.co fun v w2 hf2 ho2 hn2=>⟨h1.fr.trans hf2,?_,trivial⟩
   have h2:=h1.keep hf2
   refine qdk (h0.keep0 h2.fr) (by omega) ho2 fun u w3 hf3 hn3 ho3=>⟨h2.fr.trans hf3,?_,trivial⟩
   have h3:=h2.keep hf3
   exact qpe h3 hL ho3 (hn3.mono h2.fr.size) fin
  ·refine qgr hma.co fun v w2 hf2 ho2 hn2=>⟨h1.fr.trans hf2,C.ad (v:=rv) (h1.keep hf2).hb rfl ⟨h1.fr.trans hf2,?_,trivial⟩,?_,trivial⟩
   ·have h2:=h1.keep hf2
    refine qdk (h0.keep0 h2.fr) (by omega) ho2 fun u w3 hf3 hn3 ho3=>⟨h2.fr.trans hf3,?_,trivial⟩
    exact qpe (h2.keep hf3) hL ho3 (hn3.mono h2.fr.size) fin
   ·have h2:=h1.keep hf2
    refine qdk (h0.keep0 h2.fr) (by omega) ho2 fun u w3 hf3 hn3 ho3=>⟨h2.fr.trans hf3,?_⟩
    have h3:=h2.keep hf3
    exact⟨C.ad (v:=rv) h3.hb rfl ⟨h3.fr,qpe h3 hL ho3 (hn3.mono h2.fr.size) fin,trivial⟩,zbo h3 hL ho3 (hn3.mono h2.fr.size) fin,trivial⟩
theorem qpg {W:World} {yb y2:Nat} {lv:Value} {l:List Int} {L:List (List Va)} (h0:qaf A g cf B W x) (hll:l.length≤3000) (hnl:qaj W lv)
  (hk:∀w',VwS W yb L (l.map x.node) w'→F17.k14 K (.pointer (some ⟨y2,0,none⟩)) (.pointer (some ⟨yb,0,none⟩)) w'):
  ∀(d i:Nat) (w:World),i+d=l.length→VwS W yb L ((l.take i).map x.node) w→qad w lv 3 1 (qag l)→
   F17.l10 K (.pointer (some ⟨A.ma,0,none⟩)) (.pointer (some ⟨y2,0,none⟩)) (.pointer (some ⟨yb,0,none⟩)) lv (.int .i64 (l.length:Int)) (.int .i64 (i:Int)) w:=by
 intro d
 induction d with
 | zero=>
  intro i w hi hs hl
  have e:i=l.length:=by omega
  subst e
  refine F17.l10.to ?_
  simp only[zv,show ¬((l.length:Int)<(l.length:Int)) by omega]
  rw[y2z] at hs
  exact hk w hs
 | succ d ih=>
  intro i w hi hs hl
  have hlt:i<l.length:=by omega
  refine F17.l10.to ?_
  simp only[zv,show (i:Int)<(l.length:Int) by omega]
  refine F17.k11.to (C.bx hl.rd hlt fun gg o cs e fz hg hc=>C.ad hg hc ?_)
  refine C.a5 (fun w'=>Fr [] W w') fun w1 hf1 _=>⟨hs.fr.trans hf1,?_⟩
  obtain⟨rv,nv,vs,fs,h1⟩:=(hs.keep hf1).spec
  have hl1:=hl.keep hf1 (by simp)
  have hma:=h0.keep0 h1.fr
  have hN:((l.take i).map x.node).length≤100000:=by rw[y3t,y3b];omega
  have hfl:=qp1 x l[i]
  have hnl2:∀q∈qaa lv,q∉yb :: qaa nv:=fun q hq c=>by
   rcases y4b.1 c with rfl | c
   ·exact hl1.nb h1.hb (by decide) hq
   ·exact hl1.ne h1.hN.sp (by decide) q hq c
  have fin:∀w2,Fr [] w1 w2→∀w',VwS W yb L ((l.take i).map x.node ++ [x.node l[i]]) w'→Fr (yb :: qaa nv) w2 w'→F17.k13 K (.pointer (some ⟨A.ma,0,none⟩)) (.pointer (some ⟨y2,0,none⟩)) (.pointer (some ⟨yb,0,none⟩)) lv (.int .i64 (l.length:Int)) (.int .i64 (i:Int)) w':=fun w2 hf2 w' hv hfv=>by
   refine F17.k13.to ?_
   try simp only[C.a6]
   rw[qab (n:=(i:Int)+1) (by omega)]
   refine ih (i+1) w' (by omega) ?_ ((hl1.keep hf2 (by simp)).keep' hfv hnl2)
   rw[y2o,y0v hlt,y3v]
   exact hv
  try simp only[zv]
  refine C.ao (v := .pointer (some ⟨A.Q.co,0,none⟩)) (fun w' hw=>⟨_,_,_,(h0.keep0 hw).blk,rfl⟩) ?_
  have hse:∀w',Fr [] W w'→∀ {K':VK},K' (.int .i64 (x.co.s.serial l[i])) w'→C.i y5c 49 #[.pointer (some ⟨A.Q.co,0,none⟩),.int .i64 l[i]] w' K':=fun w' hw K' hk'=>qfz (h0.keep0 hw).co hk'
  have tl:∀w2 u,Fr [] w1 w2→qaj W u→qad w2 u 60 2 (vaC (x.sers (x.flds l[i])))→∃x53,(∀w',Fr [] W w'→(Instr.build 58 #[(0,.int .i64 (x.co.s.serial l[i])),(1,u)]).run y5c w' = .ok x53 w')∧x53 = .agg #[.int .i64 (x.node l[i]).1,u]:=fun w2 u hf2 hn2 ho2=>by
   obtain⟨A',c',e'⟩:=ho2.len
   exact⟨_,fun w' _=>zgq _ e',rfl⟩
  refine⟨C.ad (v:=nv) h1.hb rfl ⟨h1.fr,hse _ h1.fr ⟨h1.fr,?_,trivial⟩,trivial⟩,hse _ h1.fr ⟨h1.fr,C.ad (v:=nv) h1.hb rfl ⟨h1.fr,?_,trivial⟩,?_,trivial⟩,trivial⟩
  ·refine qhc hma fun f w2 hf2 hn2 ho2=>⟨h1.fr.trans hf2,qdk (h0.keep0 (h1.fr.trans hf2)) (by omega) ho2 fun u w3 hf3 hn3 ho3=>⟨(h1.fr.trans hf2).trans hf3,?_⟩,trivial⟩
   have h3:=(h1.keep hf2).keep hf3
   have hn3':=hn3.mono (h1.fr.trans hf2).size
   obtain⟨v53,t1,rfl⟩:=tl w3 u (hf2.trans hf3) hn3' ho3
   exact⟨_,t1,qkb h3 hN ho3 hn3' (fin w3 (hf2.trans hf3)),trivial⟩
  ·refine qhc hma fun f w2 hf2 hn2 ho2=>⟨h1.fr.trans hf2,qdk (h0.keep0 (h1.fr.trans hf2)) (by omega) ho2 fun u w3 hf3 hn3 ho3=>⟨(h1.fr.trans hf2).trans hf3,?_⟩,trivial⟩
   have h3:=(h1.keep hf2).keep hf3
   have hn3':=hn3.mono (h1.fr.trans hf2).size
   obtain⟨v53,t1,rfl⟩:=tl w3 u (hf2.trans hf3) hn3' ho3
   exact⟨_,t1,qkb h3 hN ho3 hn3' (fin w3 (hf2.trans hf3)),trivial⟩
  ·refine qhc hma fun f w2 hf2 hn2 ho2=>⟨h1.fr.trans hf2,C.ad (v:=nv) (h1.keep hf2).hb rfl ⟨h1.fr.trans hf2,?_,trivial⟩,?_,trivial⟩
   ·refine qdk (h0.keep0 (h1.fr.trans hf2)) (by omega) ho2 fun u w3 hf3 hn3 ho3=>⟨(h1.fr.trans hf2).trans hf3,?_⟩
    have h3:=(h1.keep hf2).keep hf3
    have hn3':=hn3.mono (h1.fr.trans hf2).size
    obtain⟨v53,t1,rfl⟩:=tl w3 u (hf2.trans hf3) hn3' ho3
    exact⟨_,t1,qkb h3 hN ho3 hn3' (fin w3 (hf2.trans hf3)),trivial⟩
   ·refine qdk (h0.keep0 (h1.fr.trans hf2)) (by omega) ho2 fun u w3 hf3 hn3 ho3=>⟨(h1.fr.trans hf2).trans hf3,?_⟩
    have h3:=(h1.keep hf2).keep hf3
    have hn3':=hn3.mono (h1.fr.trans hf2).size
    obtain⟨v53,t1,rfl⟩:=tl w3 u (hf2.trans hf3) hn3' ho3
    exact⟨_,t1,C.ad (v:=nv) h3.hb rfl ⟨h3.fr,qkb h3 hN ho3 hn3' (fin w3 (hf2.trans hf3)),trivial⟩,qx4 h3 hN ho3 hn3' (fin w3 (hf2.trans hf3)),trivial⟩
theorem qqu (hr:qey x):(qd6 x.co.s.serial (x.rch cf)).length≤2049:=by
 rw[qj4]
 have hok:qca (x.rch0 cf):=by
  have:x.rch0 cf=x.rchT cf.threads.toNat:=rfl
  rw[this];exact qh5 x hr _
 exact (qlr x 2050 0 hok).le
theorem zba (h:qaf A g cf B w x) (hr:qey x) (hk:∀rv nv vs fs w',Fr [] w w'→qbq w.heap.size w' rv (x.view cf).1 vs→qbe w.heap.size w' nv (x.view cf).2 fs→K (.agg #[rv,nv]) w'):C.i y5c 17 #[.pointer (some ⟨A.ma,0,none⟩)] w K:=by
 have hth:=h.fine.th
 obtain⟨n,hn⟩:=y1b (show 0≤cf.threads by omega)
 refine F17.sh (C.av fun y2 w1 hn1=>ql2 (h.keep0 hn1.fr) ?_)
 have l1:=hn1.is
 try simp only[zv]
 refine F17.k3.to (C.av fun yb w2 hn2=>?_)
 have l2:=hn2.is
 have h2:=h.keep0 (hn1.fr.trans hn2.fr)
 try simp only[zv]
 refine C.ad (v := .int .i64 cf.threads) h2.blk rfl ?_
 rw[hn]
 have hs2:VwS w1 yb (x.rowsV 0) [] w2:=⟨hn2.fr,by omega,.slice none 0 0,.slice none 0 0,[],[],hn2.at_,⟨qad.nil _ _ _,by simp[qaa,Value.ownBlock],rfl,fun i a=>by simp[Ma.rowsV] at a⟩,⟨rfl,qad.nil _ _ _,by simp[qaa,Value.ownBlock],fun i a=>by simp at a⟩⟩
 have hma1:=h.keep0 hn1.fr
 refine qrh (W:=w1) (yb:=yb) (y2:=y2) hma1 hn (fun w3 hs3=>?_) n 0 w2 (by omega) hs2
 refine F17.k9.to (qvh (hma1.keep0 hs3.fr) hr fun lv w4 hf4 hn4 ho4=>C.bg ho4.rd ?_)
 rw[qak]
 have hlen:=qqu (x:=x) (cf:=cf) hr
 refine qpg (W:=w1) (yb:=yb) (y2:=y2) (L:=x.rowsV n) hma1 (by omega) (hn4.mono hs3.fr.size) (fun w5 hs5=>?_) (qd6 x.co.s.serial (x.rch cf)).length 0 w4 (by omega) (hs3.keep hf4) ho4
 obtain⟨rv,nv,vs,fs,e1,e2,e3⟩:=hs5.ex
 have b2:w5.heap[y2]?=some (.cells #[.slice none 0 0,.slice none 0 0] 46 (0,0)):=hs5.fr.at_ hn1.at_ (by simp)
 have y2l:y2<w1.heap.size:=(y0g.1 hn1.at_).1
 have hne:y2≠yb:=by have:=hs5.hy;omega
 have hone:∀u∈(Value.cells (.agg #[rv,nv])).toList,u.oneCell'=true:=IsV.ones (w:=w5) (V:=(x.rowsV n,(qd6 x.co.s.serial (x.rch cf)).map x.node)) ⟨e2.rd,e3.rd⟩
 have hcells:Value.cells (.agg #[rv,nv]) = #[rv,nv]:=IsV.cells (w:=w5) (V:=(x.rowsV n,(qd6 x.co.s.serial (x.rch cf)).map x.node)) ⟨e2.rd,e3.rd⟩
 refine F17.k14.to (C.ax e1 rfl (C.a0 (x := .agg #[rv,nv]) b2 (by rw[hcells];rfl) hone rfl fun w6 hu6=>?_))
 rw[hcells] at hu6
 refine C.ax hu6.at_ rfl (hk rv nv vs fs w6 ((hn1.fr.trans hs5.fr).then hu6.fr fun q hq => .inr (by simp only[y2d] at hq;omega)) ?_ ?_)
 ·have:(x.view cf).1=x.rowsV n:=by unfold Ma.view;rw[hn,y2t]
  rw[this]
  have h6:qbq w1.heap.size w6 rv (x.rowsV n) vs:=e2.keep hu6.fr fun q hq => .inl (by simp only[y2d] at hq;omega)
  exact⟨h6.sp,fun q hq=>y4i hn1.fr.size (h6.ge q hq),h6.len,fun i a b=>⟨(h6.row i a b).1,fun q hq=>y4i hn1.fr.size ((h6.row i a b).2 q hq)⟩⟩
 ·have h6:qbe w1.heap.size w6 nv ((qd6 x.co.s.serial (x.rch cf)).map x.node) fs:=e3.keep hu6.fr fun q hq => .inl (by simp only[y2d] at hq;omega)
  exact⟨h6.len,h6.sp,fun q hq=>y4i hn1.fr.size (h6.ge q hq),fun i a b=>⟨(h6.row i a b).1,fun q hq=>y4i hn1.fr.size ((h6.row i a b).2 q hq)⟩⟩
end
def Ma.objs (x:Ma):List Int:=srt (x.co.s.objects.map x.co.s.serial)
section
variable {K:VK} {A:Mad} {g:Gw} {cf:Cf} {B:Int} {x:Ma} {w:World}
theorem qsg {v:Value} {l:List Int} (ho:qad w v 2 1 (qag l)) (hl:l.length≤4000000000000000) (h:∀w',Fr (qaa v) w w'→qad w' v 2 1 (qag (srt l))→K (.tuple #[]) w'):C.i y5c 52 #[v] w K:=by
 obtain⟨⟨h1,h2⟩,h3⟩:=ho
 rw[qak] at h1 h2
 rcases h2 with⟨rfl,h2⟩ | ⟨g,cap,cur,rfl,hb,hg,h4,h5,h6,h7⟩
 ·have e:l=[]:=y0d h2
  subst e
  refine (AnyM.slices_Sort_int_none zaq none 0 w).mono ?_
  rintro e w' ⟨rfl,rfl⟩
  exact⟨_,rfl,h w' (Fr.refl _ _) (by
   have:srt []=[]:=by simp[srt]
   rw[this]
   exact qad.nil _ _ _)⟩
 ·rw[qen,y4t] at h7
  have hH:=holds_of_blockI hg h7
  refine (AnyM.slices_Sort_int zaq g 0 cap l w hH (qac hg) (by omega)).mono ?_
  rintro e w' ⟨rfl,n,os,rfl⟩
  refine⟨_,rfl,h _ (qgc (v := .slice (some ⟨g,0,none⟩) l.length cap) (grownBy_sortedI _)) ?_⟩
  have hr:=ownsRow_sortedI (n:=n) (os:=os) (base:=0) (ts:=srt l) (qkn l) (Nat.zero_le _) hg h4 h5 h6
  refine⟨?_,fun x hx=>⟨?_,qhj x hx⟩⟩
  ·rw[qak,qen,qkn]
   exact hr
  ·simp only[qag,y4l] at hx
   obtain⟨y,_,rfl⟩:=hx
   rfl
theorem bsW (a:Int):(Instr.buildSlice 52 1 #[(0,.int .i64 a)]).run y5c w = .ok (.slice (some ⟨w.heap.size,0,none⟩) 1 1) (w.alloc (.cells #[.int .i64 a] 2)):=by kernel_rfl
theorem C.cz {W0:World} {v:Value} {l:List Int} {n:Int} (hf:Fr [] W0 w) (hn:qaj W0 v) (hv:qad w v 2 1 (qag l)) (hl:l.length≤17592186044415)
  (hk:∀v' w',Fr [] W0 w'→qaj W0 v'→qad w' v' 2 1 (qag (l ++ [n]))→Fr (qaa v) w w'→(∀g∈qaa v',g∈qaa v∨w.heap.size≤g)→K v' w'):
  C.ay y5c (Instr.buildSlice 52 1 #[(0,.int .i64 n)]) w fun x w1=>C.ay y5c (Builtin.append_ #[52,52] 52 #[v,x]) w1 K:=
 C.cp (x:=[.int .i64 n]) (e:=2) (sz:=1) (bytes:=8) (z := .int .i64 0) Tryz.underlying52 (by kernel_rfl) rfl (by decide) (bsW n) rfl (by simp[Value.oneCell']) hf hn hv (by rw[qak];omega) (by rw[qak];omega) fun v' w' a b c d e=>hk v' w' a b (by rw[qle];exact c) d e
theorem qon {W:World} {lv:Value} {l:List Int} (h0:qaf A g cf B W x) (hl:l.length≤2048) (hk:∀v w',Fr [] W w'→qaj W v→qad w' v 2 1 (qag (l.map x.co.s.serial))→F18.k9 K v w'):
  ∀(d i:Nat) (w:World) (v:Value),i+d=l.length→Fr [] W w→qad w lv 3 1 (qag l)→qaj W v→qad w v 2 1 (qag ((l.take i).map x.co.s.serial))→
   F18.l5 K (.pointer (some ⟨A.ma,0,none⟩)) v lv (.int .i64 (l.length:Int)) (.int .i64 (i:Int)) w:=by
 intro d
 induction d with
 | zero=>
  intro i w v hi hf hv hn' hv'
  have e:i=l.length:=by omega
  subst e
  refine F18.l5.to ?_
  simp only[zv,show ¬((l.length:Int)<(l.length:Int)) by omega]
  rw[y2z] at hv'
  exact hk v w hf hn' hv'
 | succ d ih=>
  intro i w v hi hf hv hn' hv'
  have hlt:i<l.length:=by omega
  refine F18.l5.to ?_
  simp only[zv,show (i:Int)<(l.length:Int) by omega]
  refine F18.k6.to (C.bx hv.rd hlt fun gg o cs e fz hg hc=>C.ad hg hc ?_)
  try simp only[zv]
  have h:=h0.keep0 hf
  refine C.ad (v := .pointer (some ⟨A.Q.co,0,none⟩)) h.blk rfl (qfz h.co ?_)
  refine C.cz hf hn' hv' (by simp;omega) fun v1 w1 hf1 hn1 ho1 hf1' hg1=>?_
  refine F18.k8.to ?_
  try simp only[C.a6]
  rw[qab (n:=(i:Int)+1) (by omega)]
  refine ih (i+1) w1 v1 (by omega) hf1 (hv.keep' hf1' (hv.ne hv' (by decide))) hn1 ?_
  rw[y2o,y0v hlt,y3v]
  exact ho1
theorem ql3 (h:qaf A g cf B w x) (hk:∀v w',Fr [] w w'→qaj w v→qad w' v 2 1 (qag x.objs)→K v w'):C.i y5c 18 #[.pointer (some ⟨A.ma,0,none⟩)] w K:=by
 refine F18.sh (ql2 h ?_)
 try simp only[zv]
 refine F18.k3.to ?_
 try simp only[zv]
 refine C.ad (v := .pointer (some ⟨A.Q.co,0,none⟩)) h.blk rfl ?_
 refine qtj h.co fun lv w1 hf1 hn1 ho1=>C.bg ho1.rd ?_
 rw[qak]
 have hl:x.co.s.objects.length≤2048:=qhu h.co.hp.st
 refine qon (W:=w) h hl (fun v w2 hf2 hn2 ho2=>?_) x.co.s.objects.length 0 w1 _ (by omega) hf1 ho1 (qaj.nil _) (qad.nil _ _ _)
 refine F18.k9.to (qsg ho2 (by simp;omega) fun w3 hf3 ho3=>?_)
 exact hk v w3 (hf2.then hf3 fun q hq => .inr (hn2.blk q hq)) hn2 ho3
end
end Go.Proofs.YtcakfaakbpdklaaGreatDoorV
namespace Go.Proofs.YtcakfaakbpdklaaGreatDoorV
open Go Go.Proofs
open Go.Proofs.Tryz renaming prog→y5c
noncomputable section
variable {K:VK} {w:World} {x0 x1 x2 x3 y0 y1 y3 y4 y5 y6 y7 y8 y9 y19 y20 y21:Value}
namespace F26
def ann:Ann:=⟨[(4,[1,3,7,8,9]),(7,[1,3,7,8,9]),(8,[3])],[(3,[1,3,7,8,9])],[],[],none⟩
variable (K:VK) (y1 y3 y7 y8 y9:Value) (w:World)
def k8:Prop:=nk ann 29 [(3,y3)] w [1,1,1] Tryz.f26 K
def l3:Prop:=nl ann 29 [(1,y1),(3,y3),(7,y7),(8,y8),(9,y9)] w [1,1,0,1,0] Tryz.f26 K
def k4:Prop:=nk ann 29 [(1,y1),(3,y3),(7,y7),(8,y8),(9,y9)] w [1,1,0,1,0,0,1,1] Tryz.f26 K
def k7:Prop:=nk ann 29 [(1,y1),(3,y3),(7,y7),(8,y8),(9,y9)] w [1,1,0,1,0,0,1,1,1] Tryz.f26 K
attribute [irreducible] k8 l3 k4 k7
end F26
theorem F26.k8.to (h:(C.i y5c 52 #[y3] w fun a b=>
 C.i y5c 62 #[y3] b fun c d=>
 K c d)):F26.k8 K y3 w:=qq h
theorem F26.l3.to (h:(C.aj .lss y9 y8 w fun a b=>
 C.am a (F26.k4 K y1 y3 y7 y8 y9 b) (F26.k8 K y3 b))):F26.l3 K y1 y3 y7 y8 y9 w:=by unfold F26.l3 nl;exact qah (qq h)
theorem F26.k4.to (h:(C.bk 1 y7 y9 w fun a b=>
 C.ai a b fun c d=>
 C.am c (C.ab 1 y1 d fun f g=>
 C.ai f g fun i j=>
 C.bk 2 i y9 j fun k m=>
 C.ab 0 k m fun o p=>
 C.ai o p fun q r=>
 C.ay y5c (Instr.buildSlice 52 1 #[(0,q)]) r fun s t=>
 C.ay y5c (Builtin.append_ #[52,52] 52 #[y3,s]) t fun u v=>
 F26.k7 K y1 u y7 y8 y9 v) (F26.k7 K y1 y3 y7 y8 y9 d))):F26.k4 K y1 y3 y7 y8 y9 w:=qq h
theorem F26.k7.to (h:(C.aj .add y9 (.int .i64 1) w fun a b=>
 F26.l3 K y1 y3 y7 y8 a b)):F26.k7 K y1 y3 y7 y8 y9 w:=qq h
theorem F26.sh (h:(C.a3 (.cells (Value.cells x0) 46) w fun a b=>
 C.an 2 a b fun c d=>
 C.i y5c 61 #[c] d fun f g=>
 C.bl f g fun i j=>
 F26.l3 K a (.slice none 0 0) f i (.int .i64 0) j)):C.i y5c 26 #[x0] w K:=q9 (A:=F26.ann) (args:=[x0]) (qq h)
namespace F61
def ann:Ann:=⟨[(8,[1,3,4,6,19,20,21]),(10,[1,3,4,6,19,20,21]),(11,[1,3,4,6]),(12,[1,3,4,6]),(15,[3])],[(7,[1,3,4,6,19,20,21]),(11,[1,3,4,6])],[],[],none⟩
variable (K:VK) (y1 y3 y4 y6 y19 y20 y21:Value) (w:World)
def k11:Prop:=nk ann 46 [(1,y1),(3,y3),(4,y4),(6,y6)] w [1,1,1,1,1,1,1] Tryz.f61 K
def l7:Prop:=nl ann 46 [(1,y1),(3,y3),(4,y4),(6,y6),(19,y19),(20,y20),(21,y21)] w [1,1,1,1,1,1,0,1,0] Tryz.f61 K
def k8:Prop:=nk ann 46 [(1,y1),(3,y3),(4,y4),(6,y6),(19,y19),(20,y20),(21,y21)] w [1,1,1,1,1,1,0,1,0,0,1,1] Tryz.f61 K
def k10:Prop:=nk ann 46 [(1,y1),(3,y3),(4,y4),(6,y6),(19,y19),(20,y20),(21,y21)] w [1,1,1,1,1,1,0,1,0,0,1,1,1] Tryz.f61 K
def k15:Prop:=nk ann 46 [(3,y3)] w [1,1,1,1,1,1,1,1] Tryz.f61 K
def l11:Prop:=nl ann 46 [(1,y1),(3,y3),(4,y4),(6,y6)] w [1,1,1,1,1,1,1,0,0] Tryz.f61 K
def k12:Prop:=nk ann 46 [(1,y1),(3,y3),(4,y4),(6,y6)] w [1,1,1,1,1,1,1,0,0,0,1] Tryz.f61 K
attribute [irreducible] k11 l7 k8 k10 k15 l11 k12
end F61
theorem F61.k11.to (h:(F61.l11 K y1 y3 y4 y6 w)):F61.k11 K y1 y3 y4 y6 w:=qq h
theorem F61.l7.to (h:(C.aj .lss y21 y20 w fun a b=>
 C.am a (F61.k8 K y1 y3 y4 y6 y19 y20 y21 b) (F61.k11 K y1 y3 y4 y6 b))):F61.l7 K y1 y3 y4 y6 y19 y20 y21 w:=by unfold F61.l7 nl;exact qah (qq h)
theorem F61.k8.to (h:(C.bk 1 y19 y21 w fun a b=>
 C.ai a b fun c d=>
 qbo y5c y6 [c] d fun f g=>
 F61.k10 K y1 y3 y4 y6 y19 y20 y21 g)):F61.k8 K y1 y3 y4 y6 y19 y20 y21 w:=qq h
theorem F61.k10.to (h:(C.aj .add y21 (.int .i64 1) w fun a b=>
 F61.l7 K y1 y3 y4 y6 y19 y20 a b)):F61.k10 K y1 y3 y4 y6 y19 y20 y21 w:=qq h
theorem F61.k15.to (h:(C.ai y3 w fun a b=>
 K a b)):F61.k15 K y3 w:=qq h
theorem F61.l11.to (h:(C.ai y4 w fun a b=>
 C.bl a b fun c d=>
 C.aj .gtr c (.int .i64 0) d fun f g=>
 C.am f (F61.k12 K y1 y3 y4 y6 g) (F61.k15 K y3 g))):F61.l11 K y1 y3 y4 y6 w:=by unfold F61.l11 nl;exact qah (qq h)
theorem F61.k12.to (h:(C.ai y4 w fun a b=>
 C.bk 1 a (.int .i64 0) b fun c d=>
 C.ai c d fun f g=>
 C.ai y4 g fun i j=>
 C.ay y5c (Instr.sliceAt 54 i (some (.int .i64 1)) none none) j fun k m=>
 C.ak 1 y4 k m fun o=>
 C.ab 1 y1 o fun p q=>
 C.ai p q fun r s=>
 C.bk 2 r f s fun t u=>
 C.ab 1 t u fun v x=>
 C.ai v x fun y z=>
 qbo y5c y6 [y] z fun aa ab=>
 F61.l11 K y1 y3 y4 y6 ab)):F61.k12 K y1 y3 y4 y6 w:=qq h
theorem F61.sh (h:(C.a3 (.cells (Value.cells x0) 46) w fun a b=>
 C.ab 1 a b fun c d=>
 C.ai c d fun f g=>
 C.bl f g fun i j=>
 C.ay y5c (Instr.makeSlice 84 i i) j fun k m=>
 C.a3 (.cells #[.slice none 0 0] 84) m fun o p=>
 C.ak 1 o k p fun q=>
 C.a3 (.cells #[.slice none 0 0] 54) q fun r s=>
 C.a3 (.cells #[.nilFunc] 163) s fun t u=>
 C.ak 1 t (.func (.func 108) #[] #[a,o,r]) u fun v=>
 C.ai t v fun x y=>
 qbo y5c x [(.int .i64 0)] y fun z aa=>
 C.ab 0 a aa fun ab ac=>
 C.ai ab ac fun ad ae=>
 C.bl ad ae fun af ag=>
 F61.l7 K a o r (.func (.func 110) #[] #[t]) ad af (.int .i64 0) ag)):C.i y5c 61 #[x0] w K:=q9 (A:=F61.ann) (args:=[x0]) (qq h)
namespace F62
def ann:Ann:=⟨[(3,[0]),(5,[0,3]),(6,[0,3]),(10,[0,3,4,5]),(11,[0,3,4,5]),(14,[0,3]),(16,[0])],[(4,[0,3]),(9,[0,3,4,5])],[],[(6,(.take 0 (.take 1 (.take 2 (.take 4 (.take 5 (.take 6 (.take 7 (.take 3 (.take 8 (.take 9 .fin))))))))))),(11,(.take 0 (.take 1 (.take 2 (.take 4 (.take 5 (.take 6 (.take 7 (.take 3 (.take 8 (.take 9 .fin)))))))))))],none⟩
variable (K:VK) (y0 y3 y4 y5:Value) (w:World)
def k3:Prop:=nk ann 61 [(0,y0)] w [1,1] Tryz.f62 K
def k16:Prop:=nk ann 61 [(0,y0)] w [1,1,1] Tryz.f62 K
def l4:Prop:=nl ann 61 [(0,y0),(3,y3)] w [1,1,0,1,0] Tryz.f62 K
def k6:Prop:=nk ann 61 [(0,y0),(3,y3)] w [1,1,0,1,0,0,1] Tryz.f62 K
def k5:Prop:=nk ann 61 [(0,y0),(3,y3)] w [1,1,0,1,0,0,1,1] Tryz.f62 K
def k14:Prop:=nk ann 61 [(0,y0),(3,y3)] w [1,1,0,1,0,0,1,0,0,1,0,1,1] Tryz.f62 K
def l9:Prop:=nl ann 61 [(0,y0),(3,y3),(4,y4),(5,y5)] w [1,1,0,1,0,0,1,0,0,1,0,1,0,1,0] Tryz.f62 K
def k11:Prop:=nk ann 61 [(0,y0),(3,y3),(4,y4),(5,y5)] w [1,1,0,1,0,0,1,0,0,1,0,1,0,1,0,0,1] Tryz.f62 K
def k10:Prop:=nk ann 61 [(0,y0),(3,y3),(4,y4),(5,y5)] w [1,1,0,1,0,0,1,0,0,1,0,1,0,1,0,0,1,1] Tryz.f62 K
attribute [irreducible] k3 k16 l4 k6 k5 k14 l9 k11 k10
end F62
theorem F62.k3.to (h:(F62.l4 K y0 (.int .i64 1) w)):F62.k3 K y0 w:=qq h
theorem F62.k16.to (h:(K y0 w)):F62.k16 K y0 w:=qq h
theorem F62.l4.to (h:(C.bl y0 w fun a b=>
 C.aj .lss y3 a b fun c d=>
 C.am c (F62.k6 K y0 y3 d) (F62.k16 K y0 d))):F62.l4 K y0 y3 w:=by unfold F62.l4 nl;exact qah (qq h)
theorem F62.k6.to (h:(C.a9 w fun S a=>
 C.bk 1 y0 y3 a fun b c=>
 C.aj .sub y3 (.int .i64 1) c fun d f=>
 C.bk 1 y0 d f fun g i=>
 C.aq S b i fun j k=>
 C.aq S g k fun m o=>
 C.aj .eql j m o fun p q=>
 C.am p (C.ay y5c (Instr.sliceAt 52 y0 (some y3) none none) q fun r s=>
 F62.l9 K y0 y3 r (.int .i64 1) s) (F62.k5 K y0 y3 q))):F62.k6 K y0 y3 w:=qq h
theorem F62.k5.to (h:(C.aj .add y3 (.int .i64 1) w fun a b=>
 F62.l4 K y0 a b)):F62.k5 K y0 y3 w:=qq h
theorem F62.sh (h:(C.bl x0 w fun a b=>
 C.aj .lss a (.int .i64 2) b fun c d=>
 C.am c (K x0 d) (F62.k3 K x0 d))):C.i y5c 62 #[x0] w K:=q9 (A:=F62.ann) (args:=[x0]) (qq h)

theorem F108.sh (h:(C.an 2 x1 w fun a b=>
 C.i y5c 109 #[a,x0] b fun c d=>
 C.aj .geq c (.int .i64 0) d fun f g=>
 C.q true f (fun K=>C.ai x2 g K) g fun i j=>
 C.q true f (fun K=>K c j) j fun k m=>
 C.q true f (fun K=>C.bk 1 i k m K) m fun o p=>
 C.q true f (fun K=>C.ai o p K) p fun q r=>
 C.q true f (fun K=>C.bf q r K) r fun s t=>
 C.a2 (some f) (some s) (some (.bool false)) t fun u v=>
 C.am u (C.ai x2 v fun x y=>
 C.bk 1 x c y fun z aa=>
 C.ak 1 z (.bool true) aa fun ab=>
 C.ai x3 ab fun ac ad=>
 C.ay y5c (Instr.buildSlice 54 1 #[(0,c)]) ad fun ae af=>
 C.ay y5c (Builtin.append_ #[54,54] 54 #[ac,ae]) af fun ag ah=>
 C.ak 1 x3 ag ah fun ai=>
 K (.tuple #[]) ai) (K (.tuple #[]) v))):C.i y5c 108 #[x0,x1,x2,x3] w K:=q9 (A:=A0) (args:=[x0,x1,x2,x3]) (qq h)

theorem F109.sh (h:(C.a3 (.cells (Value.cells x0) 46) w fun a b=>
 C.a3 (.cells (Value.cells x1) 2) b fun c d=>
 C.ab 1 a d fun f g=>
 C.ai f g fun i j=>
 C.i y5c 168 #[i,(.func (.func 169) #[] #[c])] j fun k m=>
 K k m)):C.i y5c 109 #[x0,x1] w K:=q9 (A:=A0) (args:=[x0,x1]) (qq h)
namespace F110
def ann:Ann:=⟨[(2,[1,5,6,7]),(5,[1,5,6,7])],[(1,[1,5,6,7])],[],[],none⟩
variable (K:VK) (y1 y5 y6 y7:Value) (w:World)
def l1:Prop:=nl ann 19 [(1,y1),(5,y5),(6,y6),(7,y7)] w [1,0] Tryz.f110 K
def k2:Prop:=nk ann 19 [(1,y1),(5,y5),(6,y6),(7,y7)] w [1,0,0,1,1] Tryz.f110 K
def k5:Prop:=nk ann 19 [(1,y1),(5,y5),(6,y6),(7,y7)] w [1,0,0,1,1,1] Tryz.f110 K
attribute [irreducible] l1 k2 k5
end F110
theorem F110.l1.to (h:(C.aj .lss y7 y6 w fun a b=>
 C.am a (F110.k2 K y1 y5 y6 y7 b) (K (.tuple #[]) b))):F110.l1 K y1 y5 y6 y7 w:=by unfold F110.l1 nl;exact qah (qq h)
theorem F110.k2.to (h:(C.bk 2 y5 y7 w fun a b=>
 C.an 2 a b fun c d=>
 C.a3 (.cells #[.int .i64 0,.int .i64 0] 60) d fun f g=>
 C.ak 2 f c g fun i=>
 C.ab 0 f i fun j k=>
 C.ai j k fun m o=>
 C.aj .eql m (.int .i64 2) o fun p q=>
 C.am p (C.ai y1 q fun r s=>
 C.ab 1 f s fun t u=>
 C.ai t u fun v x=>
 qbo y5c r [v] x fun y z=>
 F110.k5 K y1 y5 y6 y7 z) (F110.k5 K y1 y5 y6 y7 q))):F110.k2 K y1 y5 y6 y7 w:=qq h
theorem F110.k5.to (h:(C.aj .add y7 (.int .i64 1) w fun a b=>
 F110.l1 K y1 y5 y6 a b)):F110.k5 K y1 y5 y6 y7 w:=qq h
theorem F110.sh (h:(C.bl x0 w fun a b=>
 F110.l1 K x1 x0 a (.int .i64 0) b)):C.i y5c 110 #[x0,x1] w K:=q9 (A:=F110.ann) (args:=[x0,x1]) (qq h)
namespace F168
def ann:Ann:=⟨[(3,[0,1,7,8]),(6,[0,1,7,8]),(7,[])],[(2,[0,1,7,8])],[],[],none⟩
variable (K:VK) (y0 y1 y7 y8:Value) (w:World)
def k7:Prop:=nk ann 19 [] w [1,1] Tryz.f168 K
def l2:Prop:=nl ann 19 [(0,y0),(1,y1),(7,y7),(8,y8)] w [1,0,1,0] Tryz.f168 K
def k3:Prop:=nk ann 19 [(0,y0),(1,y1),(7,y7),(8,y8)] w [1,0,1,0,0,1,1] Tryz.f168 K
def k6:Prop:=nk ann 19 [(0,y0),(1,y1),(7,y7),(8,y8)] w [1,0,1,0,0,1,1,1] Tryz.f168 K
attribute [irreducible] k7 l2 k3 k6
end F168
theorem F168.k7.to (h:(K (.int .i64 (-1)) w)):F168.k7 K w:=qq h
theorem F168.l2.to (h:(C.aj .lss y8 y7 w fun a b=>
 C.am a (F168.k3 K y0 y1 y7 y8 b) (F168.k7 K b))):F168.l2 K y0 y1 y7 y8 w:=by unfold F168.l2 nl;exact qah (qq h)
theorem F168.k3.to (h:(C.bk 2 y0 y8 w fun a b=>
 C.an 2 a b fun c d=>
 qbo y5c y1 [c] d fun f g=>
 C.am f (K y8 g) (F168.k6 K y0 y1 y7 y8 g))):F168.k3 K y0 y1 y7 y8 w:=qq h
theorem F168.k6.to (h:(C.aj .add y8 (.int .i64 1) w fun a b=>
 F168.l2 K y0 y1 y7 a b)):F168.k6 K y0 y1 y7 y8 w:=qq h
theorem F168.sh (h:(C.bl x0 w fun a b=>
 F168.l2 K x0 x1 a (.int .i64 0) b)):C.i y5c 168 #[x0,x1] w K:=q9 (A:=F168.ann) (args:=[x0,x1]) (qq h)

theorem F169.sh (h:(C.a3 (.cells (Value.cells x0) 58) w fun a b=>
 C.ab 0 a b fun c d=>
 C.ai c d fun f g=>
 C.ai x1 g fun i j=>
 C.aj .eql f i j fun k m=>
 K k m)):C.i y5c 169 #[x0,x1] w K:=q9 (A:=A0) (args:=[x0,x1]) (qq h)
namespace F25
def ann:Ann:=⟨[(4,[0,1,5,6]),(5,[0,1,5,6]),(8,[0,1,5,6,7,8]),(9,[0,1,5,6,7,8]),(10,[0,1,5,6,7]),(12,[5])],[(3,[0,1,5,6]),(7,[0,1,5,6,7,8])],[],[(9,(.take 0 (.take 1 (.take 2 (.take 3 (.take 4 (.take 6 (.take 7 (.take 8 (.take 5 (.take 9 (.take 10 (.take 11 (.take 12 .fin))))))))))))))],none⟩
variable (K:VK) (y0 y1 y5 y6 y7 y8:Value) (w:World)
def k12:Prop:=nk ann 43 [(5,y5)] w [1,1,1] Tryz.f25 K
def l3:Prop:=nl ann 43 [(0,y0),(1,y1),(5,y5),(6,y6)] w [1,1,0,1,0] Tryz.f25 K
def k5:Prop:=nk ann 43 [(0,y0),(1,y1),(5,y5),(6,y6)] w [1,1,0,1,0,0,1] Tryz.f25 K
def k4:Prop:=nk ann 43 [(0,y0),(1,y1),(5,y5),(6,y6)] w [1,1,0,1,0,0,1,1] Tryz.f25 K
def k10:Prop:=nk ann 43 [(0,y0),(1,y1),(5,y5),(6,y6),(7,y7)] w [1,1,0,1,0,0,1,0,0,1,1] Tryz.f25 K
def l7:Prop:=nl ann 43 [(0,y0),(1,y1),(5,y5),(6,y6),(7,y7),(8,y8)] w [1,1,0,1,0,0,1,0,0,1,0,1,0] Tryz.f25 K
def k9:Prop:=nk ann 43 [(0,y0),(1,y1),(5,y5),(6,y6),(7,y7),(8,y8)] w [1,1,0,1,0,0,1,0,0,1,0,1,0,0,1] Tryz.f25 K
def k8:Prop:=nk ann 43 [(0,y0),(1,y1),(5,y5),(6,y6),(7,y7),(8,y8)] w [1,1,0,1,0,0,1,0,0,1,0,1,0,0,1,1] Tryz.f25 K
attribute [irreducible] k12 l3 k5 k4 k10 l7 k9 k8
end F25
theorem F25.k12.to (h:(K y5 w)):F25.k12 K y5 w:=qq h
theorem F25.l3.to (h:(C.bl y0 w fun a b=>
 C.aj .lss y6 a b fun c d=>
 C.am c (F25.k5 K y0 y1 y5 y6 d) (F25.k12 K y5 d))):F25.l3 K y0 y1 y5 y6 w:=by unfold F25.l3 nl;exact qah (qq h)
theorem F25.k5.to (h:(F25.l7 K y0 y1 y5 y6 (.bool false) (.int .i64 0) w)):F25.k5 K y0 y1 y5 y6 w:=qq h
theorem F25.k4.to (h:(C.aj .add y6 (.int .i64 1) w fun a b=>
 F25.l3 K y0 y1 y5 a b)):F25.k4 K y0 y1 y5 y6 w:=qq h
theorem F25.k10.to (h:(C.bf y7 w fun a b=>
 C.am a (C.bk 1 y0 y6 b fun c d=>
 C.ai c d fun f g=>
 C.ay y5c (Instr.buildSlice 52 1 #[(0,f)]) g fun i j=>
 C.ay y5c (Builtin.append_ #[52,52] 52 #[y5,i]) j fun k m=>
 F25.k4 K y0 y1 k y6 m) (F25.k4 K y0 y1 y5 y6 b))):F25.k10 K y0 y1 y5 y6 y7 w:=qq h
theorem F25.l7.to (h:(C.bl y1 w fun a b=>
 C.aj .lss y8 a b fun c d=>
 C.am c (F25.k9 K y0 y1 y5 y6 y7 y8 d) (F25.k10 K y0 y1 y5 y6 y7 d))):F25.l7 K y0 y1 y5 y6 y7 y8 w:=by unfold F25.l7 nl;exact qah (qq h)
theorem F25.k9.to (h:(C.a9 w fun S a=>
 C.q false y7 (fun K=>K y1 a) a fun b c=>
 C.q false y7 (fun K=>K y8 c) c fun d f=>
 C.q false y7 (fun K=>C.bk 1 b d f K) f fun g i=>
 C.q false y7 (fun K=>K y0 i) i fun j k=>
 C.q false y7 (fun K=>K y6 k) k fun m o=>
 C.q false y7 (fun K=>C.bk 1 j m o K) o fun p q=>
 C.q false y7 (fun K=>C.aq S g q K) q fun r s=>
 C.q false y7 (fun K=>C.aq S p s K) s fun t u=>
 C.q false y7 (fun K=>C.aj .eql r t u K) u fun v x=>
 C.a2 (some y7) (some (.bool true)) (some v) x fun y z=>
 F25.k8 K y0 y1 y5 y6 y y8 z)):F25.k9 K y0 y1 y5 y6 y7 y8 w:=qq h
theorem F25.k8.to (h:(C.aj .add y8 (.int .i64 1) w fun a b=>
 F25.l7 K y0 y1 y5 y6 y7 a b)):F25.k8 K y0 y1 y5 y6 y7 y8 w:=qq h
theorem F25.sh (h:(F25.l3 K x0 x1 (.slice none 0 0) (.int .i64 0) w)):C.i y5c 25 #[x0,x1] w K:=q9 (A:=F25.ann) (args:=[x0,x1]) (qq h)
end
end Go.Proofs.YtcakfaakbpdklaaGreatDoorV
