/- Part 18 of what the law needs: own lemmas, in the order in which they build. -/
import Derived.Laws.AppendOwn
import Derived.Test.YtcakfaakbpdklaaGreatDoorProg
import Derived.Test.YtcakfaakbpdklaaGreatDoorTopFrees17
set_option linter.unusedSimpArgs false
set_option linter.unusedVariables false
set_option maxRecDepth 100000
namespace Go.Proofs.YtcakfaakbpdklaaGreatDoorV
open Go Go.Proofs Go.RowKit
open Go.Proofs.Tryz renaming prog→y5c
def qC (l:List Int):List (List Value):=l.map fun n=>[.int .i64 n]
def qcc (w:World) (v:Value) (xs:List Int):Prop:=
 (v = .slice none 0 0∧xs=[])∨∃g o cap cur,v = .slice (some ⟨g,o,none⟩) xs.length cap∧w.heap[g]?=some (.cells cur 3 (0,0))∧xs.length≤cap∧o+cap≤cur.size∧cap≤maxLen∧∀j (h:j<xs.length),cur[o+j]?=some (.int .i64 xs[j])
theorem qcc.nil (w:World):qcc w (.slice none 0 0) [] := .inl ⟨rfl,rfl⟩
theorem qcc.rd {w:World} {v:Value} {xs:List Int} (h:qcc w v xs):RdS w v 1 (qC xs):=by
 have hl:(qC xs).length=xs.length:=by simp[qC]
 rcases h with⟨rfl,rfl⟩ | ⟨g,o,cap,cur,rfl,hg,h1,h2,h3,h4⟩
 ·exact⟨none,0,rfl,by simp[qC],by simp,fun h=>absurd rfl h⟩
 ·refine⟨_,cap,by rw[hl],by rw[hl];exact h1,h3,fun _=>⟨g,o,cur,_,_,rfl,hg,fun i x hi=>?_⟩⟩
  have hi':i<xs.length:=by have:=(y0m.1 hi).1;omega
  have hx:x=[.int .i64 xs[i]]:=by
   simp only[qC,y2q,y0v hi',y3l,y2k] at hi
   exact hi.symm
  subst hx
  refine⟨rfl,fun j hj=>?_⟩
  obtain rfl:j=0:=by omega
  simpa using h4 i hi'
theorem qcc.keep' {S:List Nat} {w w':World} {v:Value} {xs:List Int} (h:qcc w v xs) (hf:Fr S w w') (hS:∀g∈qaa v,g∉S):qcc w' v xs:=by
 rcases h with h | ⟨g,o,cap,cur,rfl,hg,r⟩
 ·exact .inl h
 ·exact .inr ⟨g,o,cap,cur,rfl,hf.at_ hg (hS g (qam.2 rfl)),r⟩
theorem qcc.keep {w w':World} {v:Value} {xs:List Int} (h:qcc w v xs) (hf:Fr [] w w'):qcc w' v xs:=h.keep' hf fun g _=>by simp
theorem qcc.one {w:World} {v:Value} {xs:List Int} (h:qcc w v xs):v.oneCell'=true∧v.cells = #[v]:=by
 rcases h with⟨rfl,_⟩ | ⟨g,o,cap,cur,rfl,_⟩
 ·exact⟨rfl,rfl⟩
 ·exact⟨rfl,rfl⟩
theorem qcc.nb {w:World} {v:Value} {xs:List Int} {g:Nat} {cs:Array Value} {e':TypeId} {fz:Nat × Nat} (h:qcc w v xs) (hg:w.heap[g]?=some (.cells cs e' fz)) (he:3≠e'):g∉qaa v:=by
 intro hg'
 rw[qam] at hg'
 rcases h with⟨rfl,_⟩ | ⟨k,o,cap,cur,rfl,hh,_⟩
 ·simp[Value.ownBlock] at hg'
 ·simp only[Value.ownBlock,y2k] at hg'
  rw[hg',hg] at hh
  simp only[y2k,Obj.cells.injEq] at hh
  exact he hh.2.1.symm
theorem qcc.ne {w:World} {v v':Value} {xs:List Int} {e':TypeId} {sz':Nat} {ys:List (List Value)} (h:qcc w v xs) (h':qad w v' e' sz' ys) (he:3≠e'):∀g∈qaa v,g∉qaa v':=by
 intro g hg hg'
 obtain⟨⟨_,h3'⟩,_⟩:=h'
 rcases h3' with⟨rfl,_⟩ | ⟨k',cap',cur',rfl,_,hh',_⟩
 ·simp[qaa,Value.ownBlock] at hg'
 ·simp[qaa,Value.ownBlock] at hg'
  subst hg'
  exact h.nb hh' he hg
theorem qcc.of_own {w:World} {v:Value} {xs:List Int} (h:qad w v 3 1 (qC xs)):qcc w v xs:=by
 have hl:(qC xs).length=xs.length:=by simp[qC]
 obtain⟨⟨h1,h2⟩,h3⟩:=h
 rcases h2 with⟨rfl,h2⟩ | ⟨g,cap,cur,rfl,_,hg,h4,h5,h6,h7⟩
 ·exact .inl ⟨rfl,y0d (by omega)⟩
 ·refine .inr ⟨g,0,cap,cur,by rw[hl],hg,by omega,by omega,h5,fun j hj=>?_⟩
  have hf:=qc4 (sz:=1) (qC xs) (fun x hx=>(h3 x hx).1) j [.int .i64 xs[j]] (by simp[qC,hj]) 0 (by omega)
  have e:(cur.toList.take ((qC xs).length*1))[j*1+0]?=some (.int .i64 xs[j]):=by rw[h7,hf];rfl
  rw[List.getElem?_take_of_lt (by omega)] at e
  simpa using e
section
variable {K:VK} {w:World}
theorem bsQ (n:Int):(Instr.buildSlice 54 1 #[(0,.int .i64 n)]).run y5c w = .ok (.slice (some ⟨w.heap.size,0,none⟩) 1 1) (w.alloc (.cells #[.int .i64 n] 3)):=by kernel_rfl
theorem qjz {P:Program} (t ty e:TypeId) (i:TypeInfo) (ht:P.underlying t=some (.slice e)) (hi:P.info? e=some i) (h1i:i.size=1)
  (g o sLen sCap:Nat) (cur:Array Value) (hg:w.heap[g]?=some (.cells cur e (0,0)))
  (a:Addr) (c:Nat) (u:Value) (hu:w.cell? a=some u) (h1:u.oneCell'=true)
  (hroom:sLen+1≤sCap) (hfit:o+sLen+1≤cur.size):
  (Builtin.append_ #[t,t] ty #[.slice (some ⟨g,o,none⟩) sLen sCap,.slice (some a) 1 c]).run P w=
   .ok (.slice (some ⟨g,o,none⟩) (sLen+1) sCap) (w.setRow g (cur.toList.take (o+sLen) ++ [u] ++ cur.toList.drop (o+sLen+1)).toArray):=by
 have hadd:a.add 0=a:=qhe a
 have hf:=run_firstCells_some (P:=P) w 1 1 a 1 c [u] rfl (fun j v hj=>by
  match j,hj with
  | 0,hj=>simp only[y0z,y2k] at hj;subst hj;rw[hadd];exact hu
  | j+1,hj=>simp at hj)
 have hst:=run_storeCells_at P g (o+sLen) e [u] 0 cur w hg (by simp;omega) (by simpa using h1)
 simp only[y4j,y3a,y3n,y4k] at hst
 simp[Builtin.append_,run_underlying ht,sizeOf,typeInfo,hi,h1i,Builtin.lenOf,hroom,hf,Addr.add_lit,hst]
theorem C.da {W0:World} {v:Value} {xs:List Int} {n:Int} (hf:Fr [] W0 w) (hn:qaj W0 v) (hv:qcc w v xs) (hl:xs.length≤17592186044415)
  (hk:∀v' w',Fr [] W0 w'→qaj W0 v'→qcc w' v' (xs ++ [n])→Fr (qaa v) w w'→(∀g∈qaa v',g∈qaa v∨w.heap.size≤g)→K v' w'):
  C.ay y5c (Instr.buildSlice 54 1 #[(0,.int .i64 n)]) w fun x w1=>C.ay y5c (Builtin.append_ #[54,54] 54 #[v,x]) w1 K:=by
 have happ:qC (xs ++ [n])=qC xs ++ [[.int .i64 n]]:=by simp[qC]
 rcases hv with⟨rfl,rfl⟩ | ⟨g,o,cap,cur,rfl,hg,h1,h2,h3,h4⟩
 ·refine C.cp (x:=[.int .i64 n]) (e:=3) (sz:=1) (bytes:=8) (z := .int .i64 0) Tryz.underlying54 (by kernel_rfl) rfl (by decide) (bsQ n) rfl (by simp[Value.oneCell']) hf hn (qad.nil _ _ _) (by simp) (by simp) fun v' w' a b c d e=>hk v' w' a b (.of_own c) d e
 ·refine C.a4 (bsQ n) ?_
  have hw:=New.mk' w (.cells #[.int .i64 n] 3)
  have hg1:=hw.fr.at_ hg (by simp)
  have hf1:=hf.trans hw.fr
  have hcell:(w.alloc (.cells #[.int .i64 n] 3)).cell? ⟨w.heap.size,0,none⟩=some (.int .i64 n):=by rw[qcr hw.at_];rfl
  have lg:=qac hg
  generalize w.alloc (.cells #[.int .i64 n] 3)=w1 at *
  have hsz:=hw.fr.size
  obtain⟨i0,hi,hzz⟩:∃i0,Tryz.prog.info? 3=some i0∧(i0.zero,i0.size,i0.bytes)=(some (.int .i64 0),1,8):=by
   have:(Tryz.prog.info? 3).map (fun i=>(i.zero,i.size,i.bytes))=some (some (.int .i64 0),1,8):=by kernel_rfl
   exact y1d.1 this
  simp only[y4e] at hzz
  by_cases hroom:xs.length+1≤cap
  ·have hr:=qjz (P:=y5c) (w:=w1) 54 54 3 i0 Tryz.underlying54 hi hzz.2.1 g o xs.length cap cur hg1 ⟨w.heap.size,0,none⟩ 1 (.int .i64 n) hcell rfl hroom (by omega)
   refine C.a4 hr ?_
   have hu:=qi1 (cs':=(cur.toList.take (o+xs.length) ++ [Value.int .i64 n] ++ cur.toList.drop (o+xs.length+1)).toArray) hg1
   refine hk _ _ (hf1.then hu.fr fun z hz => .inr (by simp only[y2d] at hz;rw[hz];exact hn g rfl)) hn (.inr ⟨g,o,cap,_,by simp,hu.at_,by simpa using hroom,by simp;omega,h3,fun j hj=>?_⟩) (by
    have:=hw.fr.w (S:=[g])
    exact this.trans hu.fr) fun z hz => .inl hz
   rw[y1n,List.append_assoc]
   by_cases hjl:j<xs.length
   ·rw[y0p (by simp;omega),List.getElem?_take_of_lt (by omega),y1p,h4 j hjl,y0x hjl]
   ·have ej:j=xs.length:=by simp at hj;omega
    subst ej
    rw[List.getElem?_append_right (by simp;omega)]
    have e0:o+xs.length-(cur.toList.take (o+xs.length)).length=0:=by simp;omega
    rw[e0]
    simp
  ·have hr:=run_append_grow (P:=y5c) w1 54 54 3 i0 (.int .i64 0) Tryz.underlying54 hi hzz.1 ⟨g,o,none⟩ xs.length cap (xs.map (Value.int .i64)) (by rw[hzz.2.1];simp) (fun j v hj=>by
     simp only[y2q,y1d] at hj
     obtain⟨k,hk1,rfl⟩:=hj
     obtain⟨hj',rfl⟩:=y0m.1 hk1
     rw[Addr.add_lit,qcr hg1]
     exact h4 j hj') ⟨w.heap.size,0,none⟩ 1 1 [.int .i64 n] (by rw[hzz.2.1];simp) (fun j v hj=>by
     match j,hj with
     | 0,hj=>simp only[y0z,y2k] at hj;subst hj;rw[qhe];exact hcell
     | j+1,hj=>simp at hj) (by omega) (by omega) (growslice_fits (by omega) (by rw[hzz.2.2];omega))
   refine C.a4 hr ?_
   have hge:=grownCap_ge w1 (xs.length+1) cap 3
   have hle:=grownCap_le_maxLen w1 (xs.length+1) cap 3 (by unfold maxLen;omega)
   generalize hcap:grownCap w1 (xs.length+1) cap 3=cap' at *
   have hn2:=New.mk' w1.drew (.cells ((xs.map (Value.int .i64)).toArray ++ [Value.int .i64 n].toArray ++ Builtin.zeroCells (Value.int .i64 0).cells (cap'-(xs.length+1))) 3)
   have fd:Fr [] w1 w1.drew:=Fr.drew w1
   have i2:=hn2.is
   have z2:w1.drew.heap.size=w1.heap.size:=rfl
   have z1:=hf1.size
   rw[show w1.heap.size=w1.drew.heap.size from rfl]
   refine hk _ _ (hf1.trans (fd.trans hn2.fr)) (fun z hz=>?_) (.inr ⟨_,0,cap',_,by simp,hn2.at_,by simpa using hge,by simp[Builtin.zeroCells,Value.cells];omega,hle,fun j hj=>?_⟩) ((hw.fr.trans (fd.trans hn2.fr)).w) fun z hz=>?_
   ·simp only[Value.ownBlock,y2k] at hz
    omega
   ·simp only[y4k]
    have hj':j<xs.length+1:=by simpa using hj
    rw[y0f (by simp;omega)]
    by_cases hjl:j<xs.length
    ·rw[y0f (by simpa using hjl),y0x hjl]
     simp[hjl]
    ·have ej:j=xs.length:=by omega
     subst ej
     rw[Array.getElem?_append_right (by simp)]
     simp
   ·simp only[qaa,Value.ownBlock,y2d] at hz
    exact .inr (by omega)
theorem C.db {v:Value} {x:Int} {xs:List Int} (hv:qcc w v (x :: xs)) (hk:∀v',qcc w v' xs→(∀g∈qaa v',g∈qaa v)→K v' w):C.ay y5c (Instr.sliceAt 54 v (some (.int .i64 1)) none none) w K:=by
 rcases hv with⟨_,h⟩ | ⟨g,o,cap,cur,rfl,hg,h1,h2,h3,h4⟩
 ·cases h
 ·refine C.a4 (qew (e:=3) (sz:=1) _ _ _ .i64 1 Tryz.underlying54 (by kernel_rfl) (by omega) (by simp;omega)) ?_
  simp only[y3a] at h1 ⊢
  by_cases hc:cap=1
  ·have e:xs=[]:=y0d (by omega)
   subst e hc
   refine hk _ (.inr ⟨g,o,0,cur,?_,hg,by simp,by omega,by simp[maxLen],fun j hj=>by simp at hj⟩) fun z hz=>hz
   simp
  ·refine hk _ (.inr ⟨g,o+1,cap-1,cur,?_,hg,by omega,by omega,by omega,fun j hj=>?_⟩) fun z hz=>?_
   ·rw[if_neg (by omega)]
    simp[Addr.add_lit]
   ·have:=h4 (j+1) (by simp;omega)
    rw[show o+1+j=o+(j+1) by omega,this]
    simp
   ·rw[if_neg (by omega)] at hz
    simpa[qaa,Value.ownBlock,Addr.add_lit] using hz
end
section
variable {K:VK} {w:World}
theorem qvy (l:List Bool) (j:Nat) (b:Bool):(qaw l).set j [.bool b]=qaw (l.set j b):=by simp[qaw,List.map_set]
theorem ze0 {g o:Nat} {cs:Array Value} {e:TypeId} {fz:Nat × Nat} {s f:Value} (hg:w.heap[g]?=some (.cells cs e fz)) (h0:cs[o]?=some s) (h1:cs[o+1]?=some f) (hk:K (.agg #[s,f]) w):C.an 2 (.pointer (some ⟨g,o,none⟩)) w K:=by
 refine C.b8 (x:=[s,f]) hg rfl (by omega) (fun j hj=>?_) hk
 match j,hj with
 | 0,_=>simpa using h0
 | 1,_=>simpa using h1
theorem ze6 {N:List Nd} {s:Int} {i:Nat} (h:i<N.length) (h1:N[i].1=s) (h2:∀j (hj:j<N.length),j<i→N[j].1≠s):qhv N s=i:=by
 unfold qhv;rw[ze7 h h1 h2]
theorem zcn {N:List Nd} {s:Int} (h:∀j (hj:j<N.length),N[j].1≠s):qhv N s = -1:=by
 unfold qhv
 rw[qzs fun x hx=>?_]
 obtain⟨j,hj,rfl⟩:=y1y hx
 exact h j hj
theorem qpq:qb7 y5c 169=true:=by kernel_rfl
theorem qug {W0:World} {nv:Value} {N:List Nd} {s:Int} {b:Nat} (hN:qb0 W0 nv N) (hb0:W0.heap[b]?=some (.cells #[.int .i64 s] 2 (0,0))) (h:∀w',Fr [] W0 w'→K (.int .i64 (qhv N s)) w'):
  ∀(d j:Nat) (w:World),N.length=j+d→Fr [] W0 w→(∀i (hi:i<N.length),i<j→N[i].1≠s)→F168.l2 K nv (.func (.func 169) #[] #[.pointer (some ⟨b,0,none⟩)]) (.int .i64 (N.length:Int)) (.int .i64 (j:Int)) w:=by
 have hle:=hN.le
 intro d
 induction d with
 | zero=>
  intro j w hj hf hn
  refine F168.l2.to ?_
  simp only[zv,show ¬((j:Int)<(N.length:Int)) by omega]
  refine F168.k7.to ?_
  have:=h w hf
  rwa [zcn fun i hi=>hn i hi (by omega)] at this
 | succ d ih=>
  intro j w hj hf hn
  have jl:j<N.length:=by omega
  refine F168.l2.to ?_
  simp only[zv,show ((j:Int)<(N.length:Int)) by omega]
  refine F168.k3.to ((hN.keep hf).get jl fun g o cs e fz f hg h0 h1 hr=>ze0 hg h0 h1 (qgb qpq (F169.sh ?_)))
  refine C.av fun b2 w1 hn1=>?_
  have e2:Value.cells (.agg #[.int .i64 N[j].1,f]) = #[.int .i64 N[j].1,f]:=by simp[Value.cells]
  have hb2:=hn1.at_
  rw[e2] at hb2
  simp only[zv]
  refine C.ad (v := .int .i64 N[j].1) hb2 rfl (C.ad (v := .int .i64 s) ((hf.trans hn1.fr).at_ hb0 (by simp)) rfl ?_)
  by_cases hs:N[j].1=s
  ·simp only[zv,eq_self,hs]
   have:=h w1 (hf.trans hn1.fr)
   rwa [ze6 jl hs hn] at this
  ·simp only[zv,hs]
   refine F168.k6.to ?_
   simp only[C.a6]
   rw[qab (n:=(j:Int)+1) (by omega),show (j:Int)+1=((j+1:Nat):Int) by omega]
   refine ih (j+1) w1 (by omega) (hf.trans hn1.fr) fun i hi hij=>?_
   by_cases e:i=j
   ·subst e;exact hs
   ·exact hn i hi (by omega)
theorem zcm {rv nv:Value} {V:Vw} {s:Int} (hV:IsV w rv nv V) (h:∀w',Fr [] w w'→K (.int .i64 (qhv V.2 s)) w'):C.i y5c 109 #[.agg #[rv,nv],.int .i64 s] w K:=by
 refine F109.sh (VB.new hV fun b w1 hf1 _ hb hV1=>C.av fun b2 w2 hn2=>(hb.keep hn2.fr (by simp)).f1 ?_)
 refine F168.sh (hV1.nodes.len ?_)
 exact qug (hV1.nodes.keep hn2.fr) hn2.at_ (fun w' hf'=>h w' ((hf1.trans hn2.fr).trans hf')) V.2.length 0 w2 (by omega) (Fr.refl _ _) fun i hi c=>by omega
end
def qI (q:List Nat):List Int:=q.map fun (k:Nat)=>(k:Int)
theorem ze9 (q:List Nat):(qI q).length=q.length:=by simp[qI]
structure RI (W0:World) (b1 b3 b4 b5:Nat) (rv nv:Value) (V:Vw) (mq:List Bool × List Nat) (w:World) (mv qv:Value):Prop where
 fr:Fr [] W0 w
 hb:VB w b1 rv nv
 h3:w.heap[b3]?=some (.cells #[mv] 84 (0,0))
 om:qad w mv 4 1 (qaw mq.1)
 nm:qaj W0 mv
 h4:w.heap[b4]?=some (.cells #[qv] 54 (0,0))
 oq:qcc w qv (qI mq.2)
 nq:qaj W0 qv
 h5:w.heap[b5]?=some (.cells #[.func (.func 108) #[] #[.pointer (some ⟨b1,0,none⟩),.pointer (some ⟨b3,0,none⟩),.pointer (some ⟨b4,0,none⟩)]] 163 (0,0))
 lo:W0.heap.size≤b3∧W0.heap.size≤b4∧b3≠b4∧b3≠b1∧b4≠b1∧b3≠b5∧b4≠b5
 ml:mq.1.length=V.2.length
 bnd:qd8 mq.1+mq.2.length≤V.2.length
theorem RI.keep {W0 w w':World} {b1 b3 b4 b5:Nat} {rv nv mv qv:Value} {V:Vw} {mq:List Bool × List Nat} (h:RI W0 b1 b3 b4 b5 rv nv V mq w mv qv) (hf:Fr [] w w'):RI W0 b1 b3 b4 b5 rv nv V mq w' mv qv:=
 ⟨h.fr.trans hf,h.hb.keep hf (by simp),hf.at_ h.h3 (by simp),h.om.keep hf (by simp),h.nm,hf.at_ h.h4 (by simp),h.oq.keep hf,h.nq,hf.at_ h.h5 (by simp),h.lo,h.ml,h.bnd⟩
section
variable {K:VK} {w:World}
theorem qrj:qb7 y5c 108=true:=by kernel_rfl
theorem qrk:qb7 y5c 110=true:=by kernel_rfl
theorem qwu {W0:World} {b1 b3 b4 b5:Nat} {rv nv mv qv:Value} {V:Vw} {mq:List Bool × List Nat} {s:Int} (hV:IsV W0 rv nv V) (hn:V.2.length≤4398046511104) (hI:RI W0 b1 b3 b4 b5 rv nv V mq w mv qv)
  (hk:∀w' mv' qv',RI W0 b1 b3 b4 b5 rv nv V (qc1 V.2 s mq) w' mv' qv'→K (.tuple #[]) w'):qbo y5c (.func (.func 108) #[] #[.pointer (some ⟨b1,0,none⟩),.pointer (some ⟨b3,0,none⟩),.pointer (some ⟨b4,0,none⟩)]) [.int .i64 s] w K:=by
 refine qgb qrj (F108.sh (hI.hb.all (zcm (hV.keep hI.fr) fun w1 hf1=>?_)))
 have hI1:=hI.keep hf1
 obtain⟨m,q⟩:=mq
 obtain⟨l1,l2,l3,l4,l5,l6,l7⟩:=hI.lo
 cases hp:plc V.2 s with
 | none=>
  have e:qhv V.2 s = -1:=by unfold qhv;rw[hp]
  rw[qll hp] at hk
  rw[e]
  simp only[zv,show ¬((-1:Int)≥0) by omega]
  exact hk w1 mv qv hI1
 | some i=>
  have e:qhv V.2 s=(i:Int):=by unfold qhv;rw[hp]
  have li:=qmq hp
  have hml:=hI.ml
  simp only at hml
  have lm:i<m.length:=by omega
  rw[e]
  simp only[zv,show ((i:Int)≥0) by omega]
  refine C.ad (v:=mv) hI1.h3 rfl (C.bw hI1.om.rd (by omega) (by rw[y2t];exact qjf lm) fun g oo cs e' fz hg _ hc=>C.ad (v := .bool m[i]) hg (by simpa using hc 0 (by simp)) ?_)
  cases hmi:m[i] with
  | true=>
   rw[qlk hp (by rw[y0v lm,hmi])] at hk
   simp only[zv]
   exact hk w1 mv qv hI1
  | false=>
   have hmf:m[i]?=some false:=by rw[y0v lm,hmi]
   rw[qjq hp hmf] at hk
   have hcf:=qic hmf
   have hbnd:=hI.bnd
   simp only at hbnd
   simp only[zv]
   refine C.ad (v:=mv) hI1.h3 rfl (C.bz hI1.om (by omega) (by rw[y2t,qbk];exact lm) rfl (by simp[Value.cells,Value.oneCell']) fun w2 ho2 hf2 hz2=>?_)
   rw[y2t] at ho2
   have n1:b1∉qaa mv:=hI1.om.nb hI1.hb (by decide)
   have n3:b3∉qaa mv:=hI1.om.nb hI1.h3 (by decide)
   have n4:b4∉qaa mv:=hI1.om.nb hI1.h4 (by decide)
   have n5:b5∉qaa mv:=hI1.om.nb hI1.h5 (by decide)
   have hf02:Fr [] W0 w2:=hI1.fr.then hf2 fun x hx => .inr (hI1.nm x (qam.1 hx))
   have oq2:=hI1.oq.keep' hf2 (hI1.oq.ne hI1.om (by decide))
   refine C.ad (v:=qv) (hf2.at_ hI1.h4 n4) rfl (C.da hf02 hI1.nq oq2 (by show (qI q).length≤_;rw[ze9];omega) fun qv' w3 hf3 hn3 ho3 hb3 hg3=>?_)
   have p1:b1∉qaa qv:=oq2.nb (hf2.at_ hI1.hb n1) (by decide)
   have p3:b3∉qaa qv:=oq2.nb (hf2.at_ hI1.h3 n3) (by decide)
   have p4:b4∉qaa qv:=oq2.nb (hf2.at_ hI1.h4 n4) (by decide)
   have p5:b5∉qaa qv:=oq2.nb (hf2.at_ hI1.h5 n5) (by decide)
   have om3:qad w3 mv 4 1 (qaw (m.set i true)):=by
    rw[←qvy]
    exact ho2.keep' hb3 fun g hg c=>oq2.ne ho2 (by decide) g c hg
   have h43:=hb3.at_ (hf2.at_ hI1.h4 n4) p4
   refine C.bb h43 ho3.one.2 ho3.one.1 (by simp) fun w4 hu4=>hk w4 mv qv' ?_
   have om4:qad w4 mv 4 1 (qaw (m.set i true)):=om3.keep' hu4.fr fun g hg c=>by
    simp only[y2d] at c
    subst c
    exact om3.nb h43 (by decide) hg
   have oq4:qcc w4 qv' (qI (q ++ [i])):=by
    have:qI (q ++ [i])=qI q ++ [(i:Int)]:=by simp[qI]
    rw[this]
    exact ho3.keep' hu4.fr fun g hg c=>by
     simp only[y2d] at c
     subst c
     exact ho3.nb h43 (by decide) hg
   exact⟨hf3.then hu4.fr fun z hz => .inr (by simp only[y2d] at hz;omega),hu4.fr.at_ (hb3.at_ (hf2.at_ hI1.hb n1) p1) (by simp;omega),hu4.fr.at_ (hb3.at_ (hf2.at_ hI1.h3 n3) p3) (by simp;omega),om4,hI1.nm,hu4.at_,oq4,hn3,hu4.fr.at_ (hb3.at_ (hf2.at_ hI1.h5 n5) p5) (by simp;omega),hI.lo,by simpa using hml,by simp only[y2g,y3a,y3n];omega⟩
theorem qrs {W0:World} {b1 b3 b4 b5:Nat} {rv nv lv:Value} {V:Vw} {mq:List Bool × List Nat} {l:List Va} (hV:IsV W0 rv nv V) (hn:V.2.length≤4398046511104) (hr:RdS W0 lv 2 (vaC l))
  (hk:∀w' mv' qv',RI W0 b1 b3 b4 b5 rv nv V (qa6 V.2 (qa4 l) mq) w' mv' qv'→K (.tuple #[]) w'):
  ∀(d i:Nat) (mv qv:Value) (w:World),l.length=i+d→RI W0 b1 b3 b4 b5 rv nv V (qa6 V.2 (qa4 (l.take i)) mq) w mv qv→F110.l1 K (.pointer (some ⟨b5,0,none⟩)) lv (.int .i64 (l.length:Int)) (.int .i64 (i:Int)) w:=by
 have hle:=hr.le
 rw[qa9] at hle
 intro d
 induction d with
 | zero=>
  intro i mv qv w hi hI
  refine F110.l1.to ?_
  simp only[zv,show ¬((i:Int)<(l.length:Int)) by omega]
  rw[y1f (by omega)] at hI
  exact hk w mv qv hI
 | succ d ih=>
  intro i mv qv w hi hI
  have il:i<l.length:=by omega
  have hs:=quk il
  refine F110.l1.to ?_
  simp only[zv,show ((i:Int)<(l.length:Int)) by omega]
  have nx:∀w' mv' qv',RI W0 b1 b3 b4 b5 rv nv V (qa6 V.2 (qa4 (l.take (i+1))) mq) w' mv' qv'→F110.k5 K (.pointer (some ⟨b5,0,none⟩)) lv (.int .i64 (l.length:Int)) (.int .i64 (i:Int)) w':=fun w' mv' qv' hI'=>by
   refine F110.k5.to ?_
   simp only[C.a6]
   rw[qab (n:=(i:Int)+1) (by omega),show (i:Int)+1=((i+1:Nat):Int) by omega]
   exact ih (i+1) mv' qv' w' (by omega) hI'
  refine F110.k2.to (C.bw (hr.keep hI.fr) (by omega) (by rw[y2t];exact zc5 il) fun g oo cs e fz hg _ hc=>C.b8 (x:=[.int .i64 l[i].1,.int .i64 l[i].2]) hg rfl (by omega) hc ?_)
  refine C.av fun b w1 hn1=>C.a0 (x := .agg #[.int .i64 l[i].1,.int .i64 l[i].2]) hn1.at_ rfl (by
   intro u hu
   simp[Value.cells] at hu
   rcases hu with rfl | rfl <;> rfl) rfl fun w2 hu2=>?_
  have i1:=hn1.is
  have f2:Fr [] w w2:=hn1.fr.then hu2.fr fun z hz => .inr (by simp only[y2d] at hz;omega)
  have hb2:w2.heap[b]?=some (.cells #[.int .i64 l[i].1,.int .i64 l[i].2] 60 (0,0)):=hu2.at_
  have hI2:=hI.keep f2
  simp only[zv]
  refine C.ad (v := .int .i64 l[i].1) hb2 rfl ?_
  by_cases h2:l[i].1=2
  ·simp only[zv,eq_self,h2]
   rw[if_pos h2] at hs
   refine C.ad (v := .func (.func 108) #[] #[.pointer (some ⟨b1,0,none⟩),.pointer (some ⟨b3,0,none⟩),.pointer (some ⟨b4,0,none⟩)]) hI2.h5 rfl (C.ad (v := .int .i64 l[i].2) hb2 rfl (qwu hV hn hI2 fun w3 mv' qv' hI3=>nx w3 mv' qv' ?_))
   rw[hs,qml]
   exact hI3
  ·simp only[zv,h2]
   rw[if_neg h2,y3m] at hs
   refine nx w2 mv qv ?_
   rw[hs]
   exact hI2
theorem qq5 {W0:World} {b1 b3 b4 b5:Nat} {rv nv lv mv qv:Value} {V:Vw} {mq:List Bool × List Nat} {l:List Va} (hV:IsV W0 rv nv V) (hn:V.2.length≤4398046511104) (hr:RdS W0 lv 2 (vaC l)) (hI:RI W0 b1 b3 b4 b5 rv nv V mq w mv qv)
  (hk:∀w' mv' qv',RI W0 b1 b3 b4 b5 rv nv V (qa6 V.2 (qa4 l) mq) w' mv' qv'→K (.tuple #[]) w'):qbo y5c (.func (.func 110) #[] #[.pointer (some ⟨b5,0,none⟩)]) [lv] w K:=by
 refine qgb qrk (F110.sh (C.bg hr ?_))
 rw[qa9]
 exact qrs hV hn hr hk l.length 0 mv qv w (by omega) hI
theorem qui {W0:World} {b1 b3 b4 b5:Nat} {rv nv:Value} {V:Vw} (hV:IsV W0 rv nv V) (hn:V.2.length≤4398046511104) (h:∀v' w',Fr [] W0 w'→qaj W0 v'→qad w' v' 4 1 (qaw (qco V))→K v' w'):
  ∀(d:Nat) (m:List Bool) (q:List Nat) (mv qv:Value) (w:World),qd8 m+q.length=d→RI W0 b1 b3 b4 b5 rv nv V (m,q) w mv qv→Wy V m q→(∀s∈qfw V,∀i,plc V.2 s=some i→m[i]?=some true)→
   F61.l11 K (.pointer (some ⟨b1,0,none⟩)) (.pointer (some ⟨b3,0,none⟩)) (.pointer (some ⟨b4,0,none⟩)) (.func (.func 110) #[] #[.pointer (some ⟨b5,0,none⟩)]) w:=by
 have fin:∀(m:List Bool) (mv qv:Value) (w:World),RI W0 b1 b3 b4 b5 rv nv V (m,[]) w mv qv→Wy V m []→(∀s∈qfw V,∀i,plc V.2 s=some i→m[i]?=some true)→
   F61.l11 K (.pointer (some ⟨b1,0,none⟩)) (.pointer (some ⟨b3,0,none⟩)) (.pointer (some ⟨b4,0,none⟩)) (.func (.func 110) #[] #[.pointer (some ⟨b5,0,none⟩)]) w:=fun m mv qv w hI hW hs=>by
  refine F61.l11.to (C.ad (v:=qv) hI.h4 rfl (C.bg hI.oq.rd ?_))
  simp only[qI,qC,y4o,y3n,C.ac,C.bj,decide_false,show ¬(((0:Nat):Int)>0) by omega]
  refine F61.k15.to (C.ad (v:=mv) hI.h3 rfl (h mv w hI.fr hI.nm ?_))
  have:=hI.om
  rwa [zfr hW hs] at this
 intro d
 induction d with
 | zero=>
  intro m q mv qv w hd hI hW hs
  obtain rfl:q=[]:=y0d (by omega)
  exact fin m mv qv w hI hW hs
 | succ d ih=>
  intro m q mv qv w hd hI hW hs
  cases q with
  | nil=>exact fin m mv qv w hI hW hs
  | cons i q=>
   have hri:=hW.snd i (hW.qm i (by simp))
   have li:=hri.lt
   have hni:V.2[i]?=some V.2[i]:=y0v li
   obtain⟨l1,l2,l3,l4,l5,l6,l7⟩:=hI.lo
   have hqi:qI (i :: q)=(i:Int) :: qI q:=rfl
   have hoq:=hI.oq
   simp only at hoq
   rw[hqi] at hoq
   refine F61.l11.to (C.ad (v:=qv) hI.h4 rfl (C.bg hoq.rd ?_))
   have hlen:((qC ((i:Int) :: qI q)).length:Int)>0:=by simp[qC]
   simp only[zv,hlen]
   refine F61.k12.to (C.ad (v:=qv) hI.h4 rfl (C.bw (x:=[.int .i64 (i:Int)]) hoq.rd (by omega) rfl fun g oo cs e' fz hg _ hc=>C.ad (v := .int .i64 (i:Int)) hg (by simpa using hc 0 (by simp)) (C.ad (v:=qv) hI.h4 rfl (C.db hoq fun qv' hq' hg'=>?_))))
   refine C.bb hI.h4 hq'.one.2 hq'.one.1 (by simp) fun w1 hu1=>?_
   have hI1:RI W0 b1 b3 b4 b5 rv nv V (m,q) w1 mv qv':=⟨hI.fr.then hu1.fr fun z hz => .inr (by simp only[y2d] at hz;omega),hu1.fr.at_ hI.hb (by simp;omega),hu1.fr.at_ hI.h3 (by simp;omega),hI.om.keep' hu1.fr fun z hz c=>by
     simp only[y2d] at c
     subst c
     exact hI.om.nb hI.h4 (by decide) hz,hI.nm,hu1.at_,hq'.keep' hu1.fr fun z hz c=>by
     simp only[y2d] at c
     subst c
     exact hq'.nb hI.h4 (by decide) hz,fun z hz=>hI.nq z (qam.1 (hg' z (qam.2 hz))),hu1.fr.at_ hI.h5 (by simp;omega),hI.lo,hI.ml,by have:=hI.bnd;simp only[y3a] at this;simp only;omega⟩
   refine hI1.hb.f1 (hV.nodes.getS hI1.fr li fun g oo f hr hs0 hs1=>?_)
   simp only[C.af]
   obtain⟨cs,e',fz,hg,h1⟩:=hs1 w1 hI1.fr
   refine C.ad hg h1 (qq5 hV hn hr hI1 fun w2 mv' qv'' hI2=>?_)
   obtain⟨p1,p2,p3⟩:=zfs hW hni
   refine ih (qa6 V.2 (qa4 V.2[i].2) (m,q)).1 (qa6 V.2 (qa4 V.2[i].2) (m,q)).2 mv' qv'' w2 (p2.trans (by simp only[y3a] at hd;omega)) hI2 p1 fun s hs' k hk=>p3 k (hs s hs' k hk)
theorem quj {W0:World} {b1 b3 b4 b5:Nat} {rv nv:Value} {V:Vw} (hV:IsV W0 rv nv V) (hn:V.2.length≤4398046511104) (h:∀v' w',Fr [] W0 w'→qaj W0 v'→qad w' v' 4 1 (qaw (qco V))→K v' w'):
  ∀(d j:Nat) (mv qv:Value) (w:World),V.1.length=j+d→RI W0 b1 b3 b4 b5 rv nv V (qa6 V.2 (0 :: (V.1.take j).flatMap qa4) (List.replicate V.2.length false,[])) w mv qv→
   F61.l7 K (.pointer (some ⟨b1,0,none⟩)) (.pointer (some ⟨b3,0,none⟩)) (.pointer (some ⟨b4,0,none⟩)) (.func (.func 110) #[] #[.pointer (some ⟨b5,0,none⟩)]) rv (.int .i64 (V.1.length:Int)) (.int .i64 (j:Int)) w:=by
 have hle:=hV.rows.le
 intro d
 induction d with
 | zero=>
  intro j mv qv w hj hI
  refine F61.l7.to ?_
  simp only[zv,show ¬((j:Int)<(V.1.length:Int)) by omega]
  rw[y1f (by omega)] at hI
  have hw:=qoa (l:=qfw V) (zhk V) fun s hs i hi => .seed hs hi
  exact F61.k11.to (qui hV hn h _ (qa6 V.2 (qfw V) (List.replicate V.2.length false,[])).1 (qa6 V.2 (qfw V) (List.replicate V.2.length false,[])).2 mv qv w rfl hI hw.1 hw.2.2.2)
 | succ d ih=>
  intro j mv qv w hj hI
  have jl:j<V.1.length:=by omega
  refine F61.l7.to ?_
  simp only[zv,show ((j:Int)<(V.1.length:Int)) by omega]
  refine F61.k8.to (hV.rows.getS hI.fr jl fun g o v hr hs=>?_)
  obtain⟨cs,e,fz,hg,hc⟩:=hs w hI.fr
  refine C.ad hg hc (qq5 hV hn hr hI fun w1 mv' qv' hI1=>F61.k10.to ?_)
  simp only[C.a6]
  rw[qab (n:=(j:Int)+1) (by omega),show (j:Int)+1=((j+1:Nat):Int) by omega]
  refine ih (j+1) mv' qv' w1 (by omega) ?_
  have e:0 :: (V.1.take (j+1)).flatMap qa4=(0 :: (V.1.take j).flatMap qa4) ++ qa4 V.1[j]:=by
   rw[y0b jl,List.flatMap_append]
   simp
  rw[e,qml]
  exact hI1
theorem qpt:∀n,qd8 (List.replicate n false)=n
 | 0=>rfl
 | n+1=>by rw[y2a];simp only[qd8];rw[qpt n,if_neg Bool.false_ne_true];omega
theorem zcs {rv nv:Value} {V:Vw} (hV:IsV w rv nv V) (hn:V.2.length≤4000000) (h:∀v' w',Fr [] w w'→qaj w v'→qad w' v' 4 1 (qaw (qco V))→K v' w'):C.i y5c 61 #[.agg #[rv,nv]] w K:=by
 refine F61.sh (VB.new hV fun b1 w1 hf1 hb10 hb1 hV1=>hb1.f1 (hV.nodes.len ?_))
 refine C.b6 (t:=84) (e:=4) (sz:=1) (bytes:=1) (z := .bool false) V.2.length Tryz.underlying84 (by kernel_rfl) rfl (by decide) (by simp[Value.cells,Value.oneCell']) (by omega) (by omega) fun gy w2 hn2 ho2=>?_
 have e0:List.replicate V.2.length (Value.cells (.bool false)).toList=qaw (List.replicate V.2.length false):=by simp[qaw,Value.cells]
 rw[e0] at ho2
 have f2:=hf1.trans hn2.fr
 have hb12:=hb1.keep hn2.fr (by simp)
 have i2:=hn2.is
 have z1:=hf1.size
 have z2:=hn2.sz
 have l1:=qac hb1
 refine C.av fun b3 w3 hn3=>C.bb hn3.at_ ho2.one.2 ho2.one.1 (by simp) fun w4 hu4=>C.av fun b4 w5 hn5=>C.av fun b5 w6 hn6=>C.bb hn6.at_ rfl rfl (by simp) fun w7 hu7=>?_
 have i3:=hn3.is
 have z3:=hn3.sz
 have z4:=hu4.sz
 have i5:=hn5.is
 have z5:=hn5.sz
 have i6:=hn6.is
 have g34:Fr [] w2 w4:=hn3.fr.then hu4.fr fun z hz => .inr (by simp only[y2d] at hz;omega)
 have f4:Fr [] w w4:=f2.trans g34
 have g57:Fr [] w4 w7:=(hn5.fr.trans hn6.fr).then hu7.fr fun z hz => .inr (by simp only[y2d] at hz;omega)
 have f7:Fr [] w w7:=f4.trans g57
 have h3:w7.heap[b3]?=some (.cells #[.slice (some ⟨gy,0,none⟩) V.2.length V.2.length] 84 (0,0)):=g57.at_ hu4.at_ (by simp)
 have h4:w7.heap[b4]?=some (.cells #[.slice none 0 0] 54 (0,0)):=hu7.fr.at_ (hn6.fr.at_ hn5.at_ (by simp)) (by simp;omega)
 have hI:RI w b1 b3 b4 b5 rv nv V (List.replicate V.2.length false,[]) w7 (.slice (some ⟨gy,0,none⟩) V.2.length V.2.length) (.slice none 0 0):=
  ⟨f7,(hb12.keep g34 (by simp)).keep g57 (by simp),h3,(ho2.keep g34 (by simp)).keep g57 (by simp),fun g hg=>by simp only[Value.ownBlock,y2k] at hg;omega,h4,qcc.nil _,qaj.nil _,hu7.at_,⟨by omega,by omega,by omega,by omega,by omega,by omega,by omega⟩,by simp,by simp[qpt]⟩
 refine C.ad (v := .func (.func 108) #[] #[.pointer (some ⟨b1,0,none⟩),.pointer (some ⟨b3,0,none⟩),.pointer (some ⟨b4,0,none⟩)]) hI.h5 rfl (qwu hV (by omega) hI fun w8 mv' qv' hI8=>?_)
 refine hI8.hb.f0 (hV.rows.len (quj hV (by omega) h V.1.length 0 mv' qv' w8 (by omega) ?_))
 exact hI8
end
def qfa (N:List Nd) (m:List Bool):Nat→List Int
 | 0=>[]
 | j+1=>qfa N m j ++ if m[j]?=some true then[(N.getD j (0,[])).1] else[]
theorem qj0 {N:List Nd} {m:List Bool} {j:Nat} (h:j<N.length):qfa N m (j+1)=qfa N m j ++ if m[j]?=some true then[N[j].1] else[]:=by
 show _ ++ _=_
 rw[y0h,y0v h]
 rfl
theorem qiw (N:List Nd) (m:List Bool):∀j,(qfa N m j).length≤j
 | 0=>by simp[qfa]
 | j+1=>by
  have:=qiw N m j
  simp only[qfa,y2g]
  split <;> simp <;> omega
theorem qls {N:List Nd} {m:List Bool} {s:Int}:∀ {j:Nat},j≤N.length→(s∈qfa N m j↔∃i,∃h:i<N.length,i<j∧m[i]?=some true∧N[i].1=s)
 | 0,_=>by simp[qfa]
 | j+1,hj=>by
  have jl:j<N.length:=by omega
  rw[qj0 jl,y3q,qls (by omega)]
  constructor
  ·rintro (⟨i,h,h1,h2,h3⟩ | h)
   ·exact⟨i,h,by omega,h2,h3⟩
   ·split at h
    ·rename_i hm
     exact⟨j,jl,by omega,hm,(y2d.1 h).symm⟩
    ·simp at h
  ·rintro⟨i,h,h1,h2,h3⟩
   by_cases e:i=j
   ·subst e
    right
    rw[if_pos h2]
    simpa using h3.symm
   ·exact .inl ⟨i,h,by omega,h2,h3⟩
theorem qix (V:Vw):∀ {j:Nat},j≤V.2.length→(qfa V.2 (qco V) j).Nodup
 | 0,_=>by simp[qfa]
 | j+1,hj=>by
  have jl:j<V.2.length:=by omega
  rw[qj0 jl]
  by_cases hm:(qco V)[j]?=some true
  ·rw[if_pos hm,y2w]
   refine⟨qix V (by omega),by simp,fun a ha b hb=>?_⟩
   rw[qls (by omega)] at ha
   obtain⟨i,hi,h1,h2,h3⟩:=ha
   simp only[y2d] at hb
   subst hb
   rw[←h3]
   intro c
   have:=RchN.inj (qfl.1 h2) (qfl.1 hm) hi jl c
   omega
  ·rw[if_neg hm,y3m]
   exact qix V (by omega)
noncomputable def qc2 (V:Vw):List Int:=srt (qfa V.2 (qco V) V.2.length)
theorem qw6 (V:Vw):(qc2 V).Pairwise (· < ·):=qq2 (qix V (y4q _))
section
variable {K:VK} {w:World}
theorem qom {v:Value} {l:List Int} (hv:RdS w v 1 (qag l)) (hp:l.Pairwise (· < ·)) (h:∀w',Fr [] w w'→K v w'):
  ∀(d j:Nat) (w':World),l.length≤j+1+d→Fr [] w w'→F62.l4 K v (.int .i64 ((j+1:Nat):Int)) w':=by
 have hle:=hv.le
 rw[qak] at hle
 have fin:∀(j:Nat) (w':World),l.length≤j+1→Fr [] w w'→F62.l4 K v (.int .i64 ((j+1:Nat):Int)) w':=fun j w' hj hf=>by
  refine F62.l4.to (C.bg hv ?_)
  rw[qak]
  simp only[zv,show ¬(((j+1:Nat):Int)<(l.length:Int)) by omega]
  exact F62.k16.to (h w' hf)
 intro d
 induction d with
 | zero=>exact fun j w' hj hf=>fin j w' (by omega) hf
 | succ d ih=>
  intro j w' hj hf
  by_cases hjl:l.length≤j+1
  ·exact fin j w' hjl hf
  have jl:j+1<l.length:=by omega
  refine F62.l4.to (C.bg hv ?_)
  rw[qak]
  simp only[zv,show (((j+1:Nat):Int)<(l.length:Int)) by omega]
  refine F62.k6.to (C.a5 (fun w2=>Fr [] w w2) fun w1 hf1 he1=>⟨hf.trans hf1,?_⟩)
  have f1:=hf.trans hf1
  simp only[C.bo]
  rw[qab (n:=((j+1:Nat):Int)-1) (by omega),show ((j+1:Nat):Int)-1=(j:Int) by omega]
  refine C.ca (S:=fun w2=>Fr [] w w2) (fun w2 hw=>hv.keep hw) f1 (by omega) (by rw[y2t];exact qfj jl) fun ga oa _ hs1=>?_
  refine C.ca (S:=fun w2=>Fr [] w w2) (fun w2 hw=>hv.keep hw) f1 (by omega) (by rw[y2t];exact qfj (l:=l) (j:=j) (by omega)) fun gb ob _ hs2=>?_
  refine C.ao (v := .int .i64 l[j+1]) (fun w' hw=>by obtain⟨cs,e,fz,x,y⟩:=hs1 w' hw;exact⟨cs,e,fz,x,by simpa using y 0 (by simp)⟩) ?_
  refine C.ao (v := .int .i64 l[j]) (fun w' hw=>by obtain⟨cs,e,fz,x,y⟩:=hs2 w' hw;exact⟨cs,e,fz,x,by simpa using y 0 (by simp)⟩) ?_
  have hlt:=y0t.1 hp j (j+1) (by omega) jl (by omega)
  have hne:¬(l[j+1]=l[j]):=by omega
  simp only[zv,hne]
  refine F62.k5.to ?_
  simp only[C.a6]
  rw[qab (n:=((j+1:Nat):Int)+1) (by omega),show ((j+1:Nat):Int)+1=((j+1+1:Nat):Int) by omega]
  exact ih (j+1) w1 (by omega) f1
theorem qte {v:Value} {l:List Int} (hv:RdS w v 1 (qag l)) (hp:l.Pairwise (· < ·)) (h:∀w',Fr [] w w'→K v w'):C.i y5c 62 #[v] w K:=by
 refine F62.sh (C.bg hv ?_)
 rw[qak]
 by_cases h2:(l.length:Int)<2
 ·simp only[zv,h2]
  exact h w (Fr.refl _ _)
 ·simp only[zv,h2]
  exact F62.k3.to (qom hv hp h l.length 0 w (by omega) (Fr.refl _ _))
theorem qtm {W0:World} {rv nv mv:Value} {V:Vw} {b:Nat} (hV:IsV W0 rv nv V) (hn:V.2.length≤4000000) (hm0:W0.heap.size≤W0.heap.size) (h:∀v' w',Fr [] W0 w'→qaj W0 v'→qad w' v' 2 1 (qag (qfa V.2 (qco V) V.2.length))→F26.k8 K v' w'):
  ∀(d j:Nat) (o:Value) (w:World),V.2.length=j+d→Fr [] W0 w→VB w b rv nv→RdS w mv 1 (qaw (qco V))→(∀g∈qaa mv,g∉qaa o)→(∀g∈qaa mv,g<w.heap.size)→qaj W0 o→qad w o 2 1 (qag (qfa V.2 (qco V) j))→
   F26.l3 K (.pointer (some ⟨b,0,none⟩)) o mv (.int .i64 (V.2.length:Int)) (.int .i64 (j:Int)) w:=by
 have hle:=hV.nodes.le
 intro d
 induction d with
 | zero=>
  intro j o w hj hf hb hm hbo hbs hno ho
  obtain rfl:j=V.2.length:=by omega
  refine F26.l3.to ?_
  simp only[zv,show ¬((V.2.length:Int)<(V.2.length:Int)) by omega]
  exact h o w hf hno ho
 | succ d ih=>
  intro j o w hj hf hb hm hbo hbs hno ho
  have jl:j<V.2.length:=by omega
  have jm:j<(qco V).length:=by rw[qlm];exact jl
  have hs:=qj0 (m:=qco V) jl
  have hlen:=qiw V.2 (qco V) j
  refine F26.l3.to ?_
  simp only[zv,show ((j:Int)<(V.2.length:Int)) by omega]
  refine F26.k4.to (C.bw hm (by omega) (by rw[y2t];exact qjf jm) fun g oo cs e' fz hg _ hc=>C.ad (v := .bool (qco V)[j]) hg (by simpa using hc 0 (by simp)) ?_)
  have eget:(qco V)[j]?=some (qco V)[j]:=y0v jm
  cases hmj:(qco V)[j] with
  | true=>
   rw[eget,hmj,if_pos rfl] at hs
   simp only[zv]
   refine C.ad (v:=nv) hb rfl ((hV.keep hf).nodes.get jl fun g oo cs e' fz f hg h0 h1 hr=>?_)
   simp only[C.af]
   refine C.ad hg h0 (C.cz hf hno ho (by omega) fun o' w' a b' c d' e=>?_)
   refine F26.k7.to ?_
   simp only[C.a6]
   rw[qab (n:=(j:Int)+1) (by omega),show (j:Int)+1=((j+1:Nat):Int) by omega]
   refine ih (j+1) o' w' (by omega) a (hb.keep d' (ho.nb hb (by decide))) ?_ (fun z hz c'=>?_) (fun z hz=>by have:=hbs z hz;have:=d'.size;omega) b' (by rw[hs];exact c)
   ·obtain⟨A,cc,rfl,x1,x2,x3⟩:=hm
    refine⟨A,cc,rfl,x1,x2,fun hx=>?_⟩
    obtain⟨g,o1,cs,e,fz,rfl,hg,hc⟩:=x3 hx
    exact⟨g,o1,cs,e,fz,rfl,d'.at_ hg (hbo g (qam.2 rfl)),hc⟩
   ·rcases e z c' with q | q
    ·exact hbo z hz q
    ·have:=hbs z hz;omega
  | false=>
   rw[eget,hmj,if_neg (by simp),y3m] at hs
   simp only[zv]
   refine F26.k7.to ?_
   simp only[C.a6]
   rw[qab (n:=(j:Int)+1) (by omega),show (j:Int)+1=((j+1:Nat):Int) by omega]
   exact ih (j+1) o w (by omega) hf hb hm hbo hbs hno (by rw[hs];exact ho)
theorem zbn {rv nv:Value} {V:Vw} (hV:IsV w rv nv V) (hn:V.2.length≤4000000) (h:∀v' w',Fr [] w w'→qaj w v'→RdS w' v' 1 (qag (qc2 V))→K v' w'):C.i y5c 26 #[.agg #[rv,nv]] w K:=by
 refine F26.sh (VB.new hV fun b w1 hf1 _ hb hV1=>hb.all (zcs hV1 hn fun mv w2 hf2 hn2 ho2=>C.bg ho2.rd ?_))
 rw[qbk,qlm]
 have f2:=hf1.trans hf2
 refine qtm (W0:=w) hV hn (y4q _) (fun v' w3 hf3 hn3 ho3=>?_) V.2.length 0 (.slice none 0 0) w2 (by omega) f2 (hb.keep hf2 (by simp)) ho2.rd (fun g hg c=>by simp[qaa,Value.ownBlock] at c) (fun g hg=>ho2.mem_lt g hg) (qaj.nil _) (qad.nil _ _ _)
 have hlen:=qiw V.2 (qco V) V.2.length
 refine F26.k8.to (qsg ho3 (by omega) fun w4 hf4 ho4=>qte ho4.rd (qw6 V) fun w5 hf5=>?_)
 exact h v' w5 ((hf3.then hf4 fun g hg => .inr (hn3 g (qam.1 hg))).trans hf5) hn3 (ho4.rd.keep hf5)
end
def wo (l k:List Int):List Int:=l.filter fun x=>decide (x∉k)
theorem qra {l k:List Int} {x:Int}:x∈wo l k↔x∈l∧x∉k:=by unfold wo;simp
section
variable {cf:Cf} {E:Int} {m:Ma}
theorem qk0 {s:St} (h:SI s) {x:Int}:x∈s.objects↔∃a:Nat,x=a∧s.c.tk a=true:=by
 unfold St.objects qgt
 have hn:=h.hi.ci.small_n
 simp only[List.mem_filter,y4l,y3x]
 constructor
 ·rintro⟨a,⟨a1,a2⟩,rfl⟩
  exact⟨a,rfl,a2⟩
 ·rintro⟨a,rfl,ha⟩
  have:=h.hi.ci.tk_lt ha
  exact⟨a,⟨by unfold Ce.n;omega,ha⟩,rfl⟩
theorem qlo (h:SI m.co.s) {ser:Int}:ser∈m.objs↔∃a fs,qa3 m.co.s.c a ser fs:=by
 unfold Ma.objs
 rw[(qee _).mem_iff,y4l]
 constructor
 ·rintro⟨x,hx,rfl⟩
  obtain⟨a,rfl,ha⟩:=(qk0 h).1 hx
  obtain⟨ser,fs,o,_⟩:=h.hi.obj a ha
  exact⟨a,fs,by rw[(St.read_obj h.hi.ci o).2];exact o⟩
 ·rintro⟨a,fs,o⟩
  exact⟨a,(qk0 h).2 ⟨a,rfl,o.tk⟩,(St.read_obj h.hi.ci o).2⟩
theorem qp2 (h:SI m.co.s) {a:Nat} {ser:Int} {fs:List V2} (o:qa3 m.co.s.c a ser fs):m.flds (a:Int)=fs:=by
 unfold Ma.flds
 rw[(St.read_obj h.hi.ci o).1,y2t]
 apply y3e
 ·simp
 ·intro i h1 h2
  simp only[y3h,List.getElem_range]
  rw[St.get_obj h.hi.ci o (i:Int),if_pos (by omega),y2t,y0v h2]
theorem qhm:∀(l:List V2) (out:List Int) (y:Int),y∈qa7 out l↔y∈out∨∃v∈l,v.1=2∧v.2=y
 | [],out,y=>by simp[qa7]
 | v :: l,out,y=>by
  have e:qa7 out (v :: l)=qa7 (if v.1=2∧v.2∉out then out ++ [v.2] else out) l:=rfl
  rw[e,qhm l]
  constructor
  ·rintro (h | ⟨u,hu,h⟩)
   ·split at h
    ·rename_i hc
     rcases y3q.1 h with h | h
     ·exact .inl h
     ·exact .inr ⟨v,by simp,hc.1,(y2d.1 h).symm⟩
    ·exact .inl h
   ·exact .inr ⟨u,by simp[hu],h⟩
  ·rintro (h | ⟨u,hu,h1,h2⟩)
   ·left
    split
    ·exact y3q.2 (.inl h)
    ·exact h
   ·rcases y4b.1 hu with rfl | hu
    ·left
     split
     ·exact y3q.2 (.inr (by simp[h2]))
     ·rename_i hc
      apply y0q
      intro hn
      exact hc ⟨h1,by rw[h2];exact hn⟩
    ·exact .inr ⟨u,hu,h1,h2⟩
theorem qjt:∀(l:List V2) (out:List Int),∃r,qa7 out l=out ++ r
 | [],out=>⟨[],by simp[qa7]⟩
 | v :: l,out=>by
  have e:qa7 out (v :: l)=qa7 (if v.1=2∧v.2∉out then out ++ [v.2] else out) l:=rfl
  rw[e]
  obtain⟨r,hr⟩:=qjt l (if v.1=2∧v.2∉out then out ++ [v.2] else out)
  rw[hr]
  split
  ·exact⟨v.2 :: r,by simp⟩
  ·exact⟨r,rfl⟩
theorem qoe (x:Ma):∀(d i:Nat) (out:List Int),∃r,x.rchGo d i out=out ++ r
 | 0,i,out=>⟨[],by simp[Ma.rchGo]⟩
 | d+1,i,out=>by
  unfold Ma.rchGo
  split
  ·obtain⟨r,hr⟩:=qoe x d (i+1) (qa7 out (x.flds (out.getD i 0)))
   obtain⟨r',hr'⟩:=qjt (x.flds (out.getD i 0)) out
   rw[hr,hr']
   exact⟨r' ++ r,by simp⟩
  ·exact⟨[],by simp⟩
theorem qqt (x:Ma):∀(d i:Nat) (out:List Int),qca out→2050≤i+d→(∀j,j<i→j<out.length→∀v∈x.flds (out.getD j 0),v.1=2→v.2∈out)→∀a∈x.rchGo d i out,∀v∈x.flds a,v.1=2→v.2∈x.rchGo d i out
 | 0,i,out,h,hd,hc=>fun a ha v hv h2=>by
  simp only[Ma.rchGo] at ha ⊢
  obtain⟨j,hj,rfl⟩:=y1y ha
  have:=h.le
  refine hc j (by omega) hj v ?_ h2
  rw[y0h,y0v hj];exact hv
 | d+1,i,out,h,hd,hc=>fun a ha v hv h2=>by
  unfold Ma.rchGo at ha ⊢
  by_cases hi:i<out.length
  ·rw[if_pos hi] at ha ⊢
   obtain⟨r,hr⟩:=qjt (x.flds (out.getD i 0)) out
   refine qqt x d (i+1) _ (h.note _ (qki x _)) (by omega) (fun j hj hjl u hu hu2=>?_) a ha v hv h2
   have hjo:j<out.length:=by omega
   have e:(qa7 out (x.flds (out.getD i 0))).getD j 0=out.getD j 0:=by
    rw[hr,y0h,y0h,y0p hjo]
   rw[e] at hu
   rw[qhm]
   by_cases hji:j=i
   ·subst hji
    exact .inr ⟨u,hu,hu2,rfl⟩
   ·exact .inl (hc j (by omega) hjo u hu hu2)
  ·rw[if_neg hi] at ha ⊢
   obtain⟨j,hj,rfl⟩:=y1y ha
   refine hc j (by omega) hj v ?_ h2
   rw[y0h,y0v hj];exact hv
theorem qir (x:Ma) {y:Int}:∀n:Nat,y∈x.rchT n↔y=x.co.global∨∃t:Nat,t<n∧∃v∈x.co.roots (t:Int),v.1=2∧v.2=y
 | 0=>by simp[Ma.rchT]
 | n+1=>by
  rw[qjv,qhm,qir x n]
  constructor
  ·rintro ((h | ⟨t,ht,h⟩) | h)
   ·exact .inl h
   ·exact .inr ⟨t,by omega,h⟩
   ·exact .inr ⟨n,by omega,h⟩
  ·rintro (h | ⟨t,ht,h⟩)
   ·exact .inl (.inl h)
   ·by_cases e:t=n
    ·subst e;exact .inr h
    ·exact .inl (.inr ⟨t,by omega,h⟩)
theorem qs2 (x:Ma) {y:Int} (h:y∈x.rchT cf.threads.toNat):y∈x.rch cf:=by
 unfold Ma.rch
 obtain⟨r,hr⟩:=qoe x 2050 0 (x.rch0 cf)
 rw[hr]
 exact y3q.2 (.inl h)
theorem zfa (x:Ma) (hr:qey x):∀a∈x.rch cf,∀v∈x.flds a,v.1=2→v.2∈x.rch cf:=
 qqt x 2050 0 (x.rch0 cf) (qh5 x hr _) (by omega) fun j hj=>absurd hj (by omega)
theorem qof (x:Ma) {P:Int→Prop} (hc:∀a,P a→∀v∈x.flds a,v.1=2→P v.2):∀(d i:Nat) (out:List Int),(∀a∈out,P a)→∀a∈x.rchGo d i out,P a
 | 0,i,out,h=>h
 | d+1,i,out,h=>by
  unfold Ma.rchGo
  split
  ·rename_i hi
   refine qof x hc d (i+1) _ fun a ha=>?_
   rw[qhm] at ha
   rcases ha with ha | ⟨v,hv,h2,rfl⟩
   ·exact h a ha
   ·refine hc _ (h (out.getD i 0) ?_) v hv h2
    rw[y0h,y0v hi];exact y3g hi
  ·exact h
theorem qqv (h:KI cf E m.co):∀a∈m.rch cf,∃n:Nat,a=n∧qa5 m.co n:=by
 have hf:∀(a:Nat),qa5 m.co a→∀v∈m.flds (a:Int),v.1=2→∃n:Nat,v.2=n∧qa5 m.co n:=fun a ka v hv h2=>by
  obtain⟨ser,fs,o,_⟩:=h.si.hi.obj a ka.1
  rw[qp2 h.si o] at hv
  obtain⟨j,hj,rfl⟩:=y1y hv
  obtain⟨b,eb,_⟩:=qfp (o.fld j hj).1 h2
  exact⟨b,by rw[eb],h.ni.cl a j b ka ⟨ser,fs,o,by rw[y0v hj,eb]⟩⟩
 unfold Ma.rch
 refine qof m (P:=fun a=>∃n:Nat,a=n∧qa5 m.co n) (fun a ⟨n,e,k⟩ v hv h2=>by subst e;exact hf n k v hv h2) 2050 0 _ fun a ha=>?_
 rcases (qir m _).1 ha with rfl | ⟨t,ht,v,hv,h2,rfl⟩
 ·have:=h.gn
  exact⟨m.co.global.toNat,by omega,h.ni.gl _ (by omega)⟩
 ·unfold Co.roots at hv
  split at hv
  ·rename_i hl
   rw[y2t] at hv
   have g:=h.root hl hv
   obtain⟨b,eb,_⟩:=qfp g.ok h2
   exact⟨b,by rw[eb],g.kp b eb⟩
  ·cases hv
theorem qmr {V:Vw} {ser:Int}:ser∈qc2 V↔∃i,RchN V i∧∃h:i<V.2.length,V.2[i].1=ser:=by
 unfold qc2
 rw[(qee _).mem_iff,qls (y4q _)]
 constructor
 ·rintro⟨i,h,_,h1,h2⟩
  exact⟨i,qfl.1 h1,h,h2⟩
 ·rintro⟨i,h1,h,h2⟩
  exact⟨i,h,h,qfl.2 h1,h2⟩
theorem qz8 {b:Nat}:(m.told (2,(b:Int))).2=m.co.s.serial (b:Int):=by unfold Ma.told;rw[if_pos rfl]
theorem qqx {l:List V2} {b:Nat} (h:(2,(b:Int))∈l):m.co.s.serial (b:Int)∈qa4 (m.sers l):=by
 unfold qa4 Ma.sers
 rw[y4l]
 refine⟨(2,m.co.s.serial (b:Int)),?_,rfl⟩
 rw[List.mem_filter]
 exact⟨y4l.2 ⟨_,h,by rw[qz8]⟩,by simp⟩
theorem qsx (h:KI cf E m.co) {nd:Nd} (hn:nd∈(m.view cf).2):∃(a:Nat) (ser:Int) (fs:List V2),(a:Int)∈m.rch cf∧qa3 m.co.s.c a ser fs∧nd=m.node (a:Int)∧nd.1=ser:=by
 unfold Ma.view at hn
 simp only[y4l] at hn
 obtain⟨x,hx,rfl⟩:=hn
 rw[(qi0 _ _).1.mem_iff] at hx
 obtain⟨a,rfl,ka⟩:=qqv h x hx
 obtain⟨ser,fs,o,_⟩:=h.si.hi.obj a ka.1
 exact⟨a,ser,fs,hx,o,rfl,(St.read_obj h.si.hi.ci o).2⟩
theorem zco (h:KI cf E m.co) {a:Nat} {ser:Int} {fs:List V2} (ha:(a:Int)∈m.rch cf) (o:qa3 m.co.s.c a ser fs):∃i,plc (m.view cf).2 ser=some i∧(m.view cf).2[i]?=some (m.node (a:Int)):=by
 have hin:m.node (a:Int)∈(m.view cf).2:=y4l.2 ⟨_,(qi0 _ _).1.mem_iff.2 ha,rfl⟩
 have hs:(m.node (a:Int)).1=ser:=(St.read_obj h.si.hi.ci o).2
 cases hp:plc (m.view cf).2 ser with
 | none=>
  unfold plc at hp
  rw[y0s] at hp
  have:=hp _ hin
  simp[hs] at this
 | some i=>
  obtain⟨hi,h1,_⟩:=qiq hp
  obtain⟨b,ser',fs',_,o',e,e1⟩:=qsx h (y3g hi)
  rw[h1] at e1;subst e1
  have:=h.si.hi.one a b _ _ _ o o'
  subst this
  exact⟨i,rfl,by rw[y0v hi,e]⟩
theorem qjw (h:KI cf E m.co) {a:Nat} {ser:Int} {fs:List V2} (ha:(a:Int)∈m.rch cf) (o:qa3 m.co.s.c a ser fs) (hs:∀i,plc (m.view cf).2 ser=some i→RchN (m.view cf) i):ser∈qc2 (m.view cf):=by
 obtain⟨i,h1,h2⟩:=zco h ha o
 obtain⟨hi,e,_⟩:=qiq h1
 exact qmr.2 ⟨i,hs i h1,hi,e⟩
theorem AF.start (h:MJ cf E m) (hz:GZ m.co) (f:FrC m.co) (hr:qey m):AF (· ∈ wo m.objs (qc2 (m.view cf))) m.co∧∀ser∈wo m.objs (qc2 (m.view cf)),ser<m.co.s.made:=by
 have k:=h.c.k
 have hno:∀ {b:Nat} {ser:Int} {fs:List V2},qa3 m.co.s.c b ser fs→ser∈qc2 (m.view cf)→¬Dd (· ∈ wo m.objs (qc2 (m.view cf))) m.co.s b:=fun {b ser fs} o hs ⟨ser',fs',o',d⟩=>by
  obtain⟨rfl,_⟩:=o.same o'
  exact (qra.1 d).2 hs
 have hgl:∀n:Nat,m.co.global=n→¬Dd (· ∈ wo m.objs (qc2 (m.view cf))) m.co.s n:=fun n e=>by
  obtain⟨fs,o⟩:=hz
  rw[e,y2t] at o
  exact hno o (qjw k (qs2 m ((qir m _).2 (.inl e.symm))) o fun i hi => .seed (by unfold qfw;simp) hi)
 refine⟨⟨f.ph.1,⟨fun a ha=>hgl a (f.mg a ha),fun l hl b hb=>?_,fun l hl b hb=>?_,hgl,fun a j b hna hf=>?_⟩,fun e5=>absurd e5 (by have:=f.ph;omega)⟩,fun ser hser=>?_⟩
 ·rw[f.bf l hl] at hb;cases hb
 ·obtain⟨t,ht,rfl⟩:=y1y hl
  have eg:m.co.th.getD t []=m.co.th[t]:=by rw[y0h,y0v ht];rfl
  cases hlv:m.co.r.live (t:Int) with
  | false=>
   have:=k.lv t hlv
   rw[eg] at this
   rw[this] at hb;cases hb
  | true=>
   have hrt:m.co.roots (t:Int)=m.co.th[t]:=by unfold Co.roots;rw[if_pos hlv,y2t,eg]
   have htt:t<cf.threads.toNat:=by
    have:=qds.1 hlv
    have:=k.rl
    omega
   have hb':(2,(b:Int))∈m.co.roots (t:Int):=by rw[hrt];exact hb
   obtain⟨ser,fs,o,_⟩:=k.si.hi.obj b (k.ni.rt _ hl b hb).1
   refine hno o (qjw k (qs2 m ((qir m _).2 (.inr ⟨t,htt,_,hb',rfl,rfl⟩))) o fun i hi => .seed ?_ hi)
   unfold qfw
   refine y4b.2 (.inr (List.mem_flatMap.2 ⟨m.sers (m.co.roots (t:Int)),?_,?_⟩))
   ·unfold Ma.view Ma.rowsV
    exact y4l.2 ⟨t,y3x.2 htt,rfl⟩
   ·have:=qqx (m:=m) hb'
    rwa [(St.read_obj k.si.hi.ci o).2] at this
 ·obtain⟨ser,fs,o,hj⟩:=hf
  have hre:ser∈qc2 (m.view cf):=by
   apply y0q
   intro hn
   exact hna ⟨ser,fs,o,qra.2 ⟨(qlo k.si).2 ⟨a,fs,o⟩,hn⟩⟩
  obtain⟨i,hi,hil,e⟩:=qmr.1 hre
  obtain⟨a',ser',fs',ha',o',e',e1⟩:=qsx k (y3g hil)
  rw[e] at e1;subst e1
  have:=k.si.hi.one a a' _ _ _ o o'
  subst this
  obtain⟨_,rfl⟩:=o.same o'
  have hfl:=qp2 k.si o
  have hmem:(2,(b:Int))∈fs:=y1r hj
  have hb:(b:Int)∈m.rch cf:=zfa m hr _ ha' (2,(b:Int)) (by rw[hfl];exact hmem) rfl
  obtain⟨n,en,kn⟩:=qqv k _ hb
  have:b=n:=by omega
  subst this
  obtain⟨sb,fb,ob,_⟩:=k.si.hi.obj b kn.1
  refine hno ob (qjw k hb ob fun q hq => .step hi (y0v hil) ?_ hq)
  rw[e']
  have:=qqx (m:=m) hmem
  rw[(St.read_obj k.si.hi.ci ob).2] at this
  unfold Ma.node
  simp only
  rw[hfl];exact this
 ·obtain⟨a,fs,o⟩:=(qlo k.si).1 (qra.1 hser).1
  exact k.si.hi.ser_lt o
theorem zc8 (h:SI m.co.s) {dead:List Int} (hd:∀a,¬Dd (· ∈ dead) m.co.s a):wo dead m.objs=dead:=by
 unfold wo
 rw[List.filter_eq_self]
 intro x hx
 simp only[decide_eq_true_eq]
 intro ho
 obtain⟨a,fs,o⟩:=(qlo h).1 ho
 exact hd a ⟨x,fs,o,hx⟩
end
section
variable {A A':Mad} {g g' g1:Gw} {cf cf':Cf} {B B':Int} {w w':World} {x x':Ma} {T:Nat}
theorem Mad.subS {y:Nat} (hy:y∈A.S T g):y∈A.all T g:=by
 simp only[Mad.S,y3q] at hy
 simp only[Mad.all,Mad.low,y3q]
 rcases hy with c | c | c | c | c
 ·exact .inl c
 ·exact .inr (.inl (.inl c))
 ·exact .inr (.inl (.inr (.inl c)))
 ·exact .inr (.inl (.inr (.inr (List.mem_of_mem_tail c))))
 ·exact .inr (.inr c)
theorem Mad.all_cases {y:Nat} (hy:y∈A.all T g):y=0∨y∈A.S T g:=by
 simp only[Mad.all,Mad.low,y3q] at hy
 simp only[Mad.S,y3q]
 rcases hy with c | (c | c | c) | c
 ·exact .inr (.inl c)
 ·exact .inr (.inr (.inl c))
 ·exact .inr (.inr (.inr (.inl c)))
 ·unfold Sad.all at c
  rcases y4b.1 c with c | c
  ·exact .inl c
  ·exact .inr (.inr (.inr (.inr (.inl c))))
 ·exact .inr (.inr (.inr (.inr (.inr c))))
theorem qaf.s0 (h:qaf A g cf B w x):0∉A.S cf.threads.toNat g:=by
 have h0:0∈A.Q.H.D.all:=by simp[Sad.all]
 have hN:0<A.Q.H.N:=h.co.hp.ok.lo 0 (by simp[h0])
 intro c
 simp only[Mad.S,y3q] at c
 rcases c with c | c | c | c | c
 ·exact h.ok.dj 0 c (by simp[Mad.low,h0])
 ·exact h.co.ok.dj 0 c (by simp[h0])
 ·exact h.co.hp.ok.dj 0 c h0
 ·exact h.co.hp.st.ok.z c
 ·simp only[Gw.all,Mv.all,y3q] at c
  rcases c with (c | c | c) | c
  ·have:=h.co.hp.hi 0 c;omega
  ·have:=h.co.hv 0 c;omega
  ·have:=h.co.ht 0 c;omega
  ·have:=h.hs 0 c;omega
def qel (W:World) (A:Mad) (T:Nat) (g:Gw):Prop:=∀y∈A.S T g,W.heap.size≤y
theorem qel.of (h:qaf A g cf B w x) {W:World} (hn:∀y∈A.all cf.threads.toNat g,y=0∨W.heap.size≤y):qel W A cf.threads.toNat g:=fun y hy=>by
 rcases hn y (Mad.subS hy) with e | e
 ·subst e;exact absurd hy h.s0
 ·exact e
theorem MTo.inS (h:MTo A T g w g' w') {y:Nat} (hy:y∈A.S T g'):y∈A.S T g∨w.heap.size≤y:=by
 simp only[Mad.S,y3q] at hy ⊢
 rcases hy with c | c | c | c | c
 ·exact .inl (.inl c)
 ·exact .inl (.inr (.inl c))
 ·exact .inl (.inr (.inr (.inl c)))
 ·exact .inl (.inr (.inr (.inr (.inl c))))
 ·rcases h.gr y c with d | d
  ·exact .inl (.inr (.inr (.inr (.inr d))))
  ·exact .inr d
theorem qel.step {W:World} (h:qel W A T g) (hf:MTo A T g w g' w') (hs:W.heap.size≤w.heap.size):qel W A T g':=fun y hy=>by
 rcases hf.inS hy with c | c
 ·exact h y c
 ·omega
theorem qel.fr {W:World} (h:qel W A T g) (hW:Fr [] W w) (hf:MTo A T g w g' w'):Fr [] W w':=hW.then hf.fr fun y hy => .inr (h y hy)
end
def Ma.ans (cf:Cf):Ma→List Stp→List Ans
 | _,[]=>[]
 | m,x :: l=>(m.step cf x).2 :: Ma.ans cf (m.step cf x).1 l
def qcp:Cf:=⟨16,4,20,4,700,100,4,4,16,4⟩
def qf3:List Stp:=[⟨1,0,0,0,0,0,0⟩,⟨3,0,0,0,0,1,2⟩,⟨17,0,0,0,0,0,0⟩,⟨14,0,0,0,0,0,0⟩,⟨14,0,0,0,0,0,0⟩,⟨16,0,0,0,0,0,64⟩]
set_option maxRecDepth 1000000 in
theorem qvr:∃a b c d e,Ma.ans qcp (Ma.new qcp) qf3=[a,⟨0,2,1,0,0⟩,b,c,d,⟨0,0,0,2,e⟩]:=by
 have h:(Ma.ans qcp (Ma.new qcp) qf3).length=6∧(Ma.ans qcp (Ma.new qcp) qf3)[1]?=some ⟨0,2,1,0,0⟩∧((Ma.ans qcp (Ma.new qcp) qf3)[5]?).map (fun a=>(a.code,a.kd,a.n,a.done))=some (0,0,0,2):=
  of_decide_eq_true (by kernel_rfl)
 generalize Ma.ans qcp (Ma.new qcp) qf3=l at h
 obtain⟨h1,h2,h3⟩:=h
 match l,h1 with
 | [a,x,b,c,d,y],_=>
  simp only[y0y,y0z,y2k,y3l,y4e] at h2 h3
  refine⟨a,b,c,d,y.credit,?_⟩
  rw[h2]
  obtain⟨y1,y2,y3,y4,y5⟩:=y
  simp only at h3
  obtain⟨rfl,rfl,rfl,rfl⟩:=h3
  rfl
end Go.Proofs.YtcakfaakbpdklaaGreatDoorV
namespace Go.Proofs.YtcakfaakbpdklaaGreatDoorV
open Go Go.Proofs
open Go.Proofs.Tryz renaming prog→y5c
noncomputable section
variable {K:VK} {w:World} {x0 x1 x2 y1 y2 y8 y10 y27 y28 y29:Value}

theorem F9.sh (h:(C.a3 (.cells (Value.cells x0) 23) w fun a b=>
 C.an 10 a b fun c d=>
 C.i y5c 32 #[c,x1,(.func (.func 33) #[] #[])] d fun f g=>
 C.a1 0 f g fun i j=>
 C.a1 1 f j fun k m=>
 K (.tuple #[i,k]) m)):C.i y5c 9 #[x0,x1] w K:=q9 (A:=A0) (args:=[x0,x1]) (qq h)
namespace F32
def ann:Ann:=⟨[(6,[1,2,8]),(9,[2,8,10,27,28,29]),(12,[2,8,10,27,28,29]),(13,[10])],[(8,[2,8,10,27,28,29])],[],[],none⟩
variable (K:VK) (y1 y2 y8 y10 y27 y28 y29:Value) (w:World)
def k6:Prop:=nk ann 45 [(1,y1),(2,y2),(8,y8)] w [1,1,1] Tryz.f32 K
def k13:Prop:=nk ann 45 [(10,y10)] w [1,1,1,1,1] Tryz.f32 K
def l8:Prop:=nl ann 45 [(2,y2),(8,y8),(10,y10),(27,y27),(28,y28),(29,y29)] w [1,1,1,1,0,1,0] Tryz.f32 K
def k9:Prop:=nk ann 45 [(2,y2),(8,y8),(10,y10),(27,y27),(28,y28),(29,y29)] w [1,1,1,1,0,1,0,0,1,1] Tryz.f32 K
def k12:Prop:=nk ann 45 [(2,y2),(8,y8),(10,y10),(27,y27),(28,y28),(29,y29)] w [1,1,1,1,0,1,0,0,1,1,1] Tryz.f32 K
attribute [irreducible] k6 k13 l8 k9 k12
end F32
theorem F32.k6.to (h:(C.bl y1 w fun a b=>
 F32.l8 K y2 y8 (.slice none 0 0) y1 a (.int .i64 0) b)):F32.k6 K y1 y2 y8 w:=qq h
theorem F32.k13.to (h:(K (.tuple #[y10,(.int .i64 0)]) w)):F32.k13 K y10 w:=qq h
theorem F32.l8.to (h:(C.aj .lss y29 y28 w fun a b=>
 C.am a (F32.k9 K y2 y8 y10 y27 y28 y29 b) (F32.k13 K y10 b))):F32.l8 K y2 y8 y10 y27 y28 y29 w:=by unfold F32.l8 nl;exact qah (qq h)
theorem F32.k9.to (h:(C.bk 7 y27 y29 w fun a b=>
 C.an 7 a b fun c d=>
 C.a3 (.cells #[.int .i64 0,.int .i64 0,.int .i64 0,.int .i64 0,.int .i64 0,.int .i64 0,.int .i64 0] 40) d fun f g=>
 C.ak 7 f c g fun i=>
 C.an 7 f i fun j k=>
 C.i y5c 20 #[y8,j] k fun m o=>
 C.a3 (.cells #[.int .i64 0,.int .i64 0,.int .i64 0,.int .i64 0,.int .i64 0] 38) o fun p q=>
 C.ak 5 p m q fun r=>
 C.an 5 p r fun s t=>
 qbo y5c y2 [y8,s] t fun u v=>
 C.ay y5c (Instr.buildSlice 27 1 #[(0,u)]) v fun x y=>
 C.ay y5c (Builtin.append_ #[27,27] 27 #[y10,x]) y fun z aa=>
 F32.k12 K y2 y8 z y27 y28 y29 aa)):F32.k9 K y2 y8 y10 y27 y28 y29 w:=qq h
theorem F32.k12.to (h:(C.aj .add y29 (.int .i64 1) w fun a b=>
 F32.l8 K y2 y8 y10 y27 y28 a b)):F32.k12 K y2 y8 y10 y27 y28 y29 w:=qq h
theorem F32.sh (h:(C.a3 (.cells (Value.cells x0) 23) w fun a b=>
 C.an 10 a b fun c d=>
 C.i y5c 16 #[c] d fun f g=>
 C.a1 0 f g fun i j=>
 C.a1 1 f j fun k m=>
 C.aj .neq k (.int .i64 0) m fun o p=>
 C.am o (K (.tuple #[(.slice none 0 0),k]) p) (C.bl x1 p fun q r=>
 C.aj .gtr q (.int .i64 256) r fun s t=>
 C.am s (K (.tuple #[(.slice none 0 0),(.int .i64 3)]) t) (F32.k6 K x1 x2 i t)))):C.i y5c 32 #[x0,x1,x2] w K:=q9 (A:=F32.ann) (args:=[x0,x1,x2]) (qq h)

theorem F33.sh (h:(C.a3 (.cells (Value.cells x1) 38) w fun a b=>
 C.a3 (.cells #[.int .i64 0,.int .i64 0,.int .i64 0,.int .i64 0,.int .i64 0] 38) b fun c d=>
 C.an 5 a d fun f g=>
 C.ak 5 c f g fun i=>
 C.an 5 c i fun r5 _=>
 K r5 i)):C.i y5c 33 #[x0,x1] w K:=q9 (A:=A0) (args:=[x0,x1]) (qq h)
end
end Go.Proofs.YtcakfaakbpdklaaGreatDoorV
namespace Go.Proofs.YtcakfaakbpdklaaGreatDoorV
open Go Go.Proofs Go.RowKit
open Go.Proofs.Tryz renaming prog→y5c
def stC (l:List Stp):List (List Value):=l.map fun x=>[.int .i64 x.kd,.int .i64 x.t,.int .i64 x.i,.int .i64 x.f,.int .i64 x.j,.int .i64 x.cost,.int .i64 x.n]
def anC (l:List Ans):List (List Value):=l.map fun a=>[.int .i64 a.code,.int .i64 a.kd,.int .i64 a.n,.int .i64 a.done,.int .i64 a.credit]
theorem qfo (l:List Stp):(stC l).length=l.length:=by simp[stC]
theorem qsj (l:List Ans):(anC l).length=l.length:=by simp[anC]
theorem zcx {l:List Stp} {j:Nat} (h:j<l.length):(stC l)[j]?=some [.int .i64 l[j].kd,.int .i64 l[j].t,.int .i64 l[j].i,.int .i64 l[j].f,.int .i64 l[j].j,.int .i64 l[j].cost,.int .i64 l[j].n]:=by simp[stC,h]
theorem zb0 (a b:List Ans):anC (a ++ b)=anC a ++ anC b:=by simp[anC]
theorem qyi:qb7 y5c 33=true:=by kernel_rfl
theorem qz3 {x:Stp}:∀v∈(stV x).cells.toList,v.oneCell'=true:=by
 intro v hv
 simp only[stV,Value.cells,y4b,y3i,or_false] at hv
 rcases hv with rfl | rfl | rfl | rfl | rfl | rfl | rfl <;> rfl
section
variable {K:VK} {A:Mad} {g:Gw} {cf:Cf} {B:Int} {x:Ma} {w:World}
theorem bsA (a:Ans):(Instr.buildSlice 27 1 #[(0,anV a)]).run y5c w = .ok (.slice (some ⟨w.heap.size,0,none⟩) 1 1) (w.alloc (.cells #[.int .i64 a.code,.int .i64 a.kd,.int .i64 a.n,.int .i64 a.done,.int .i64 a.credit] 38)):=by kernel_rfl
theorem C.c8 {W0:World} {v:Value} {l:List Ans} {n:Ans} (hf:Fr [] W0 w) (hn:qaj W0 v) (hv:qad w v 38 5 (anC l)) (hl:l.length≤1000000)
  (hk:∀v' w',Fr [] W0 w'→qaj W0 v'→qad w' v' 38 5 (anC (l ++ [n]))→Fr (qaa v) w w'→(∀g∈qaa v',g∈qaa v∨w.heap.size≤g)→K v' w'):
  C.ay y5c (Instr.buildSlice 27 1 #[(0,anV n)]) w fun x w1=>C.ay y5c (Builtin.append_ #[27,27] 27 #[v,x]) w1 K:=
 C.cp (x:=[.int .i64 n.code,.int .i64 n.kd,.int .i64 n.n,.int .i64 n.done,.int .i64 n.credit]) (e:=38) (sz:=5) (bytes:=40) (z:=anV Ans.ok) Tryz.underlying27 (by kernel_rfl) rfl (by decide) (bsA n) rfl (by simp[Value.oneCell']) hf hn hv (by rw[qsj];omega) (by rw[qsj];omega) fun v' w' a b c d e=>hk v' w' a b (by rw[zb0];exact c) d e
theorem C.c0 {u:Value} {l:List Stp} {i:Nat} (h:RdS w u 7 (stC l)) (hi:i<l.length) (hk:K (stV l[i]) w):C.bk 7 u (.int .i64 (i:Int)) w fun p w1=>C.an 7 p w1 K:=by
 refine C.bw h (by omega) (by rw[y2t];exact zcx hi) fun gg o cs e fz hg hl hs=>?_
 exact C.b8 (x:=[.int .i64 l[i].kd,.int .i64 l[i].t,.int .i64 l[i].i,.int .i64 l[i].f,.int .i64 l[i].j,.int .i64 l[i].cost,.int .i64 l[i].n]) hg rfl (by omega) hs hk
theorem zec {p:Value} {a:Ans} (hk:∀w',Fr [] w w'→K (anV a) w'):qbo y5c (.func (.func 33) #[] #[]) [p,anV a] w K:=by
 refine qmx qyi (F33.sh (C.av fun b w1 hn1=>C.av fun b2 w2 hn2=>?_))
 have l1:=hn1.is
 have l2:=hn2.is
 have h1:=hn2.fr.at_ hn1.at_ (by simp)
 refine C.ax h1 rfl (C.a0 (x:=anV a) hn2.at_ rfl qc3 rfl fun w3 hu3=>C.ax hu3.at_ rfl (hk w3 ?_))
 have s1:=hn1.fr.size
 exact (hn1.fr.trans hn2.fr).then hu3.fr fun q hq => .inr (by simp only[y2d] at hq;omega)
theorem Mad.zero_in {T:Nat}:0∈A.all T g:=by simp[Mad.all,Mad.low,Sad.all]
theorem qx7 {W:World} {u:Value} {l:List Stp} (hl:l.length≤256) (hu:RdS W u 7 (stC l)) (hk:∀v w',Fr [] W w'→qaj W v→qad w' v 38 5 (anC (Ma.ans cf x l))→K (.tuple #[v,.int .i64 0]) w'):
  ∀(d i:Nat) (w:World) (v:Value) (g:Gw) (B:Int) (y:Ma) (L:List Ans),i+d=l.length→Fr [] W w→qaf A g cf B w y→qel W A cf.threads.toNat g→B≤64*i→qaj W v→qad w v 38 5 (anC L)→L.length=i→L ++ Ma.ans cf y (l.drop i)=Ma.ans cf x l→
   (∀q∈qaa v,q∉A.all cf.threads.toNat g)→
   F32.l8 K (.func (.func 33) #[] #[]) (.pointer (some ⟨A.ma,0,none⟩)) v u (.int .i64 (l.length:Int)) (.int .i64 (i:Int)) w:=by
 intro d
 induction d with
 | zero=>
  intro i w v g B y L hi hf hm hs hB hn hv hL he hd
  have e:i=l.length:=by omega
  subst e
  refine F32.l8.to ?_
  simp only[zv,show ¬((l.length:Int)<(l.length:Int)) by omega]
  rw[y3j] at he
  simp only[Ma.ans,y3m] at he
  rw[he] at hv
  exact F32.k13.to (hk v w hf hn hv)
 | succ d ih=>
  intro i w v g B y L hi hf hm hs hB hn hv hL he hd
  have hlt:i<l.length:=by omega
  refine F32.l8.to ?_
  simp only[zv,show (i:Int)<(l.length:Int) by omega]
  refine F32.k9.to (C.c0 (hu.keep hf) hlt ?_)
  generalize hgs:l[i]=s
  refine C.av fun b w1 hn1=>C.a0 (x:=stV s) hn1.at_ rfl qz3 rfl fun w2 hu2=>C.ax hu2.at_ rfl ?_
  have l1:=hn1.is
  have s1:=hn1.fr.size
  have f2:Fr [] w w2:=hn1.fr.then hu2.fr (by simp;omega)
  have hm2:=hm.keep0 f2
  refine qvm hm2 (by omega) fun g3 w3 hT3 hm3=>?_
  have hF3:=hs.fr (hf.trans f2) hT3
  have s2:=f2.size
  have hv2:=hv.keep f2 (by simp)
  have hv3:=hv2.keep' hT3.fr fun q hq c=>hd q hq (Mad.subS c)
  refine C.av fun b4 w4 hn4=>C.a0 (x:=anV (y.step cf s).2) hn4.at_ rfl qc3 rfl fun w5 hu5=>C.ax hu5.at_ rfl ?_
  have l4:=hn4.is
  have s4:=hn4.fr.size
  have f5:Fr [] w3 w5:=hn4.fr.then hu5.fr (by simp;omega)
  refine zec fun w6 hf6=>?_
  have f6:=f5.trans hf6
  have hv6:=hv3.keep f6 (by simp)
  have hm6:=hm3.keep0 f6
  refine C.c8 (hF3.trans f6) hn hv6 (by omega) fun v' w7 hf7 hn7 ho7 hf7' hg7=>?_
  have hvA:∀q∈qaa v,q∉A.all cf.threads.toNat g3:=fun q hq c=>by
   rcases Mad.all_cases c with rfl | c
   ·have:=hn.blk _ hq
    have:=hs
    exact absurd (Mad.zero_in (A:=A) (T:=cf.threads.toNat) (g:=g)) (hd _ hq)
   ·rcases hT3.inS c with d | d
    ·exact hd q hq (Mad.subS d)
    ·have:=hv2.mem_lt q hq;omega
  have hm7:=hm6.keep hf7' fun q hq c=>hvA q c hq
  refine F32.k12.to ?_
  try simp only[C.a6]
  rw[qab (n:=(i:Int)+1) (by omega)]
  refine ih (i+1) w7 v' g3 (B+64) (y.step cf s).1 (L ++ [(y.step cf s).2]) (by omega) hf7 hm7 (hs.step hT3 (hf.trans f2).size) (by omega) hn7 ho7 (by simp[hL]) ?_ fun q hq c=>?_
  ·rw[←he,y0o hlt,hgs]
   simp[Ma.ans]
  ·rcases hg7 q hq with d | d
   ·exact hvA q d c
   ·have:=hm6.ltA q c;omega
theorem zf0 {u:Value} {l:List Stp} (L:cf.Legal) (hT:TzB w) (hz:0<w.heap.size) (hl:l.length≤256) (hu:RdS w u 7 (stC l)) (hk:∀v w',Fr [] w w'→qaj w v→qad w' v 38 5 (anC (Ma.ans cf (Ma.new cf) l))→K (.tuple #[v,.int .i64 0]) w'):
  C.i y5c 9 #[.agg (cfV cf).toArray,u] w K:=by
 refine F9.sh (C.av fun b w1 hn1=>C.ax hn1.at_ rfl (F32.sh (C.av fun b2 w2 hn2=>C.ax hn2.at_ rfl ?_)))
 have f2:=hn1.fr.trans hn2.fr
 refine qr7 (hT.keep f2 (by simp)) (y2c hz f2.size) (fun L'=>absurd L L') fun _ A g w3 hf3 hg3 hn3 hm3=>?_
 have f3:=f2.trans hf3
 simp only[zv,eq_self,ne_eq,not_true_eq_false]
 refine C.bg (hu.keep f3) ?_
 rw[qfo]
 simp only[zv,show ¬((256:Int)<(l.length:Int)) by omega]
 refine F32.k6.to (C.bg (hu.keep f3) ?_)
 rw[qfo]
 have hs3:qel w A cf.threads.toNat g:=qel.of hm3 fun y hy=>(hn3 y hy).imp id fun h=>y4i f2.size h
 refine qx7 (W:=w) (x:=Ma.new cf) hl hu (fun v w4 hf4 hn4 ho4=>?_) l.length 0 w3 _ g 0 (Ma.new cf) [] (by omega) f3 hm3 hs3 (by omega) (qaj.nil _) (qad.nil _ _ _) rfl (by simp) (by simp[qaa,Value.ownBlock])
 simp only[zv]
 exact hk v w4 hf4 hn4 ho4
theorem qrr:qcp.Legal:=by
 refine⟨fun i hi=>?_,by decide⟩
 have h:∀i:Fin 10,(spL.getD i.val (0,0)).1≤(cfL qcp).getD i.val 0∧(cfL qcp).getD i.val 0≤(spL.getD i.val (0,0)).2:=by decide
 exact h ⟨i,hi⟩
theorem zej:(Instr.build 23 #[(0,.int .i64 16),(1,.int .i64 4),(2,.int .i64 20),(3,.int .i64 4),(4,.int .i64 700),(5,.int .i64 100),(6,.int .i64 4),(7,.int .i64 4),(8,.int .i64 16),(9,.int .i64 4)]).run y5c w = .ok (.agg (cfV qcp).toArray) w:=by kernel_rfl
theorem zbv (hk:∀w',Fr [] w w'→K (.agg (cfV qcp).toArray) w'):C.i y5c 31 #[] w K:=by
 refine F31.sh (C.av fun b w1 hn1=>C.a4 zej ?_)
 have l1:=hn1.is
 refine C.a0 (x := .agg (cfV qcp).toArray) hn1.at_ rfl (by simp[cfV,Value.cells,Value.oneCell']) rfl fun w2 hu2=>C.ax hu2.at_ rfl (hk w2 (hn1.fr.then hu2.fr (by simp;omega)))
theorem zgu (a b c d e f:Stp):(Instr.buildSlice 24 6 #[(0,stV a),(1,stV b),(2,stV c),(3,stV d),(4,stV e),(5,stV f)]).run y5c w = .ok (.slice (some ⟨w.heap.size,0,none⟩) 6 6) (w.alloc (.cells (stC [a,b,c,d,e,f]).flatten.toArray 40)):=by kernel_rfl
theorem bS1:(Instr.build 40 #[(0,.int .i64 1)]).run y5c w = .ok (stV ⟨1,0,0,0,0,0,0⟩) w:=by kernel_rfl
theorem bS2:(Instr.build 40 #[(0,.int .i64 3),(6,.int .i64 2),(5,.int .i64 1)]).run y5c w = .ok (stV ⟨3,0,0,0,0,1,2⟩) w:=by kernel_rfl
theorem bS3:(Instr.build 40 #[(0,.int .i64 17)]).run y5c w = .ok (stV ⟨17,0,0,0,0,0,0⟩) w:=by kernel_rfl
theorem bS4:(Instr.build 40 #[(0,.int .i64 14)]).run y5c w = .ok (stV ⟨14,0,0,0,0,0,0⟩) w:=by kernel_rfl
theorem bS5:(Instr.build 40 #[(0,.int .i64 16),(6,.int .i64 64)]).run y5c w = .ok (stV ⟨16,0,0,0,0,0,64⟩) w:=by kernel_rfl
theorem bA1:(Instr.build 38 #[(1,.int .i64 2),(2,.int .i64 1)]).run y5c w = .ok (anV ⟨0,2,1,0,0⟩) w:=by kernel_rfl
theorem eqA (x y:Operand) (a b:Ans):(do eqGuard .eql 38 x y (anV a) (anV b);binOp .eql 38 (anV a) (anV b):Sem Value).run y5c w = .ok (.bool (([a.code,a.kd,a.n,a.done,a.credit] == [b.code,b.kd,b.n,b.done,b.credit]))) w:=
 qsp (ks:=[.i64,.i64,.i64,.i64,.i64]) x y Tryz.underlying38 (by kernel_rfl) (by kernel_rfl) (by kernel_rfl) [a.code,a.kd,a.n,a.done,a.credit] [b.code,b.kd,b.n,b.done,b.credit] rfl rfl
theorem zat (hT:TzB w) (hz:0<w.heap.size) (hk:∀w',Fr [] w w'→K (.bool true) w'):C.i y5c 7 #[] w K:=by
 refine F7.sh (zbv fun w1 hf1=>C.av fun b w2 hn2=>C.a0 (x := .agg (cfV qcp).toArray) hn2.at_ rfl (by simp[cfV,Value.cells,Value.oneCell']) rfl fun w3 hu3=>C.ax hu3.at_ rfl ?_)
 have l2:=hn2.is
 have s2:=hn2.fr.size
 have f3:Fr [] w1 w3:=hn2.fr.then hu3.fr (by simp;omega)
 refine C.a4 bS1 (C.a4 bS2 (C.a4 bS3 (C.a4 bS4 (C.a4 bS4 (C.a4 bS5 (C.a4 (zgu _ _ _ _ _ _) ?_))))))
 have hw4:=New.mk' w3 (.cells (stC qf3).flatten.toArray 40)
 have hu:RdS (w3.alloc (.cells (stC qf3).flatten.toArray 40)) (.slice (some ⟨w3.heap.size,0,none⟩) 6 6) 7 (stC qf3):=RdS.of_block hw4.at_ rfl (by decide) (by decide) (by
  intro y hy
  simp only[stC,y4l] at hy
  obtain⟨z,_,rfl⟩:=hy
  rfl) (by kernel_rfl)
 have f4:=(hf1.trans f3).trans hw4.fr
 refine zf0 qrr (hT.keep f4 (by simp)) (y2c hz f4.size) (by decide) hu fun v w5 hf5 hn5 ho5=>?_
 obtain⟨a,b,c,d,e,ha⟩:=qvr
 rw[ha] at ho5
 have hr:=ho5.rd
 simp only[zv,eq_self]
 refine C.bg hr ?_
 rw[show ((anC [a,⟨0,2,1,0,0⟩,b,c,d,⟨0,0,0,2,e⟩]).length:Int)=6 from rfl]
 simp only[zv,eq_self]
 refine C.bw (i:=1) (x:=[.int .i64 0,.int .i64 2,.int .i64 1,.int .i64 0,.int .i64 0]) hr (by decide) rfl fun gg o cs ee fz hg hl hs=>?_
 refine C.b8 (x:=[.int .i64 0,.int .i64 2,.int .i64 1,.int .i64 0,.int .i64 0]) hg rfl (by omega) hs (C.a4 bA1 ⟨_,eqA _ _ ⟨0,2,1,0,0⟩ ⟨0,2,1,0,0⟩,?_⟩)
 rw[show (([0,2,1,0,0]:List Int) == [0,2,1,0,0])=true by decide]
 simp only[zv]
 refine C.bw (i:=5) (x:=[.int .i64 0,.int .i64 0,.int .i64 0,.int .i64 2,.int .i64 e]) hr (by decide) rfl fun g2 o2 cs2 ee2 fz2 hg2 hl2 hs2=>?_
 simp only[C.af]
 refine C.ad (v := .int .i64 0) hg2 (by have:=hs2 0 (by simp);simpa using this) ?_
 simp only[zv,eq_self]
 refine C.bw (i:=5) (x:=[.int .i64 0,.int .i64 0,.int .i64 0,.int .i64 2,.int .i64 e]) hr (by decide) rfl fun g2 o2 cs2 ee2 fz2 hg2 hl2 hs2=>?_
 simp only[C.af]
 refine C.ad (v := .int .i64 2) hg2 (by have:=hs2 3 (by simp);simpa using this) ?_
 simp only[zv,eq_self]
 exact hk w5 (f4.trans hf5)
end
def VI (c:Co):Prop:=∀l∈c.th,∀v∈l,vOk v=true
section
variable (cf:Cf)
theorem qm5:∀(d:Nat) (c:Co),(c.advance cf d).th=c.th
 | 0,_=>rfl
 | d+1,c=>by
  unfold Co.advance
  repeat' split
  all_goals first | rfl | (rw[qm5];done) | (rw[qm5];rfl)
theorem zfk (c:Co):(c.tUnit cf).1.th=c.th:=by
 unfold Co.tUnit
 repeat' split
 all_goals first | rfl | (unfold Co.entry;simp only;split <;> rfl) | (split <;> rfl)
theorem qok:∀(l:List Int) (c:Co),(c.sweepAll l).th=c.th
 | [],_=>rfl
 | a :: l,c=>by
  rw[Co.sweepAll,qok l]
  unfold Co.sweepOne
  split <;> rfl
theorem zfo (c:Co):(c.wUnit cf).1.th=c.th:=by
 unfold Co.wUnit
 split
 ·rfl
 ·exact qok _ c
theorem zgm (c:Co):(c.unit cf).1.th=c.th:=by
 have h1:∀(r:Co × Bool),r.1.th=c.th→(if r.2 then ({ r.1 with units:=w64 (r.1.units+1) }:Co) else r.1).th=c.th:=fun r h=>by split <;> exact h
 unfold Co.unit
 refine h1 _ ?_
 split
 ·have ht:=zfk cf c
  generalize c.tUnit cf=z at ht
  obtain⟨d,b⟩:=z
  cases b with
  | true=>exact ht
  | false=>simp only;unfold Co.adv;rw[qm5];exact ht
 ·split
  ·have hw:=zfo cf c
   generalize c.wUnit cf=z at hw
   obtain⟨d,b⟩:=z
   simp only at hw ⊢
   split <;> exact hw
  ·rfl
theorem qo1:∀(n:Nat) (c:Co),(c.workN cf n).1.th=c.th
 | 0,_=>rfl
 | n+1,c=>by
  have h:=zgm cf c
  unfold Co.workN
  generalize c.unit cf=z at h
  obtain⟨d,b⟩:=z
  cases b with
  | true=>exact (qo1 n d).trans h
  | false=>exact h
theorem qvt (c:Co):(c.beginC cf).1.th=c.th:=by
 unfold Co.beginC Co.adv
 split
 ·simp only;rw[qm5];rfl
 ·rfl
theorem zgh (c:Co) (t:Int):(c.poll cf t).th=c.th:=by
 unfold Co.poll Co.adv
 split
 ·simp only;rw[qm5]
  split
  ·rfl
  ·split <;> rfl
 ·rfl
theorem VI.set {c:Co} (h:VI c) {i:Nat} {l:List V2} (hl:∀v∈l,vOk v=true):∀k∈c.th.set i l,∀v∈k,vOk v=true:=fun k hk v hv=>by
 rcases y0r hk with g | rfl
 ·exact h k g v hv
 ·exact hl v hv
theorem VI.row {c:Co} (h:VI c) (i:Nat):∀v∈c.th.getD i [],vOk v=true:=fun v hv=>by
 rw[y0h] at hv
 cases hg:c.th[i]? with
 | none=>rw[hg] at hv;cases hv
 | some l=>rw[hg] at hv;exact h l (y1r hg) v hv
theorem VI.detach {c:Co} (h:VI c) (t:Int):VI (c.detach cf t):=by
 unfold Co.detach Co.adv
 split
 ·simp only
  unfold VI
  rw[qm5]
  exact h.set fun v hv=>by cases hv
 ·exact h
theorem VI.push {c:Co} (h:VI c) (t:Int) (v:V2):VI (c.push t v).1:=by
 unfold Co.push
 split
 ·rename_i hc
  refine h.set fun x hx=>?_
  rcases y3q.1 hx with g | g
  ·exact h.row _ x g
  ·rw[y2d.1 g]
   have:=hc.2.1
   unfold Co.may at this
   simp only[y2y] at this
   exact this.1
 ·exact h
theorem VI.pop {c:Co} (h:VI c) (t:Int):VI (c.pop t).1:=by
 unfold Co.pop
 split
 ·split
  ·exact h.set fun x hx=>h.row _ x (y1v _ hx)
  ·exact h
 ·exact h
theorem qv4 (c:Co) (a:Int):(c.color cf a).th=c.th:=by
 unfold Co.color
 split
 ·rfl
 ·split <;> rfl
theorem zgc (c:Co) (t n:Int):(c.fast cf t n).1.th=c.th:=by
 unfold Co.fast
 split
 ·generalize c.s.fast t n=z
  obtain⟨s',o⟩:=z
  cases o with
  | none=>rfl
  | some a=>simp only;rw[qv4]
 ·rfl
theorem zgk (c:Co) (t n:Int):(c.slow cf t n).1.th=c.th:=by
 unfold Co.slow
 split
 ·generalize c.s.slow cf.pages.toNat (cf.threads+1) t n=z
  obtain⟨s',a,e⟩:=z
  simp only
  split
  ·rw[qv4]
  ·rfl
 ·rfl
theorem zfq (c:Co) (t a i:Int) (v:V2):(c.write t a i v).1.th=c.th:=by
 unfold Co.write
 split <;> rfl
theorem qsl (m:Ma) (t n:Int):(m.charge cf t n).co=m.co:=by unfold Ma.charge;split <;> rfl
theorem VI.of {c d:Co} (h:VI c) (e:d.th=c.th):VI d:=by unfold VI;rw[e];exact h
theorem zhj (m:Ma) (x:Stp):(m.tax cf x).1.co.th=m.co.th:=by
 unfold Ma.tax
 split
 ·rfl
 ·simp only
  split
  ·rfl
  ·simp only;rw[qsl];exact qo1 cf _ _
theorem ze1 (m:Ma) (x:Stp):(m.slow cf x).1.co.th=m.co.th:=by
 unfold Ma.slow
 simp only
 have h1:(if m.co.phase=0∧qa1 m.co.s.c.ks<cf.trigger then ({ m with co:=(m.co.beginC cf).1 }:Ma) else m).co.th=m.co.th:=by
  split
  ·exact qvt cf _
  ·rfl
 generalize (if m.co.phase=0∧qa1 m.co.s.c.ks<cf.trigger then ({ m with co:=(m.co.beginC cf).1 }:Ma) else m)=m1 at h1
 have h2:=zhj cf m1 x
 rw[h1] at h2
 generalize m1.tax cf x=z at h2
 obtain⟨m2,y⟩:=z
 simp only at h2 ⊢
 split
 ·exact h2
 ·exact (zgk cf _ _ _).trans h2
theorem VI.alloc {m:Ma} (h:VI m.co) (x:Stp):VI (m.alloc cf x).1.co:=by
 unfold Ma.alloc
 split
 ·exact h
 split
 ·exact h
 have hf:=zgc cf m.co x.t x.n
 generalize m.co.fast cf x.t x.n=z at hf
 obtain⟨c,o⟩:=z
 cases o with
 | some a=>exact VI.push (h.of hf) _ _
 | none=>
  simp only
  have h2:=ze1 cf m x
  split
  ·exact h.of h2
  ·exact VI.push (h.of h2) _ _
theorem VI.step {m:Ma} (h:VI m.co) (x:Stp):VI (m.step cf x).1.co:=by
 have hd:VI (m.doS cf x).1.co:=by
  unfold Ma.doS
  split
  ·exact h
  split
  ·exact h.detach cf _
  split
  ·exact h.alloc cf x
  split
  ·unfold Ma.pushS
   split
   ·exact h
   ·have hp:=h.push x.t (m.value x).1
    generalize m.co.push x.t (m.value x).1=z at hp
    obtain⟨c,o⟩:=z
    cases o
    ·exact h
    ·exact hp
  split
  ·have hp:=h.pop x.t
   generalize m.co.pop x.t=z at hp
   obtain⟨c,o⟩:=z
   cases o
   ·exact h
   ·exact hp
  split
  ·unfold Ma.writeS
   split
   ·exact h
   ·split
    ·exact h
    ·exact h.of (zfq _ _ _ _ _)
  split
  ·exact h
  split
  ·exact h.of (zgh cf _ _)
  unfold Ma.spend
  split
  ·split
   ·exact h.of (qvt cf _)
   ·exact h
  split
  ·exact h
  split
  ·exact h
  split
  ·exact h.of (qo1 cf _ _)
  split
  ·exact h
  split
  ·exact h
  simp only
  rw[qsl]
  exact h.of (qo1 cf _ _)
 unfold Ma.step
 split
 ·exact h
 split
 ·exact h
 simp only
 split
 ·exact hd
 ·exact hd
theorem VI.new:VI (Ma.new cf).co:=fun l hl v hv=>by
 have:l=[]:=(List.mem_replicate.1 hl).2
 rw[this] at hv;cases hv
end
theorem VI.rootsIn {x:Ma} (h:VI x.co):qey x:=fun t v hv h2=>by
 unfold Co.roots at hv
 split at hv
 ·have hk:=h.row t.toNat v hv
  unfold vOk chk at hk
  rw[h2,if_neg (by decide),if_neg (by decide),if_pos rfl] at hk
  by_cases hr:0≤v.2∧v.2<2048
  ·exact hr
  ·rw[if_neg hr] at hk;cases hk
 ·cases hv
section
variable {K:VK} {w:World} {cf:Cf}
theorem zfv {W:World} {u:Value} {l:List Stp} (hu:RdS W u 7 (stC l)) (hf:Fr [] W w) (hk:∀u',RdS W u' 7 (stC (l.take 70))→K u' w):C.i y5c 8 #[u] w K:=by
 refine F8.sh (C.bg (hu.keep hf) ?_)
 rw[qfo]
 by_cases h:70<l.length
 ·simp only[zv,show (70:Int)<(l.length:Int) by omega]
  obtain⟨A,c,rfl,h1,h2,h3⟩:=id hu
  rw[qfo] at h1 ⊢
  have run:∀w':World,(Instr.sliceAt 24 (.slice A l.length c) none (some (.int .i64 70)) none).run y5c w' = .ok (.slice A 70 c) w':=fun w'=>by
   have:=qfx (P:=y5c) (w:=w') (t:=24) (e:=40) (sz:=7) A l.length c .i64 70 Tryz.underlying24 (by kernel_rfl) (by omega) (by omega)
   exact this
  have ht:=RdS.take hu 70 (by rw[qfo];omega)
  refine C.a4 (run w) (hk _ ?_)
  have e:stC (l.take 70)=(stC l).take 70:=by simp[stC,List.map_take]
  rw[e];exact ht
 ·simp only[zv,show ¬(70:Int)<(l.length:Int) by omega]
  refine F8.k3.to (hk u ?_)
  rw[y1f (by omega)];exact hu
variable {A A':Mad} {g g':Gw} {B B':Int} {x:Ma}
end
end Go.Proofs.YtcakfaakbpdklaaGreatDoorV
namespace Go.Proofs.YtcakfaakbpdklaaGreatDoorV
open Go Go.Proofs
open Go.Proofs.Tryz renaming prog→y5c
noncomputable section
variable {K:VK} {w:World} {x0 x1 y1 y2 y5 y7 y8 y10:Value}
namespace F5
def ann:Ann:=⟨[(3,[1,2]),(5,[1,2]),(10,[1,5,7,8]),(11,[1,5,7,8]),(15,[1,5,7,8,10]),(17,[])],[(9,[1,5,7,8])],[],[],none⟩
variable (K:VK) (y1 y2 y5 y7 y8 y10:Value) (w:World)
def k3:Prop:=nk ann 66 [(1,y1),(2,y2)] w [1,1] Tryz.f5 K
def k5:Prop:=nk ann 66 [(1,y1),(2,y2)] w [1,1,1] Tryz.f5 K
def k17:Prop:=nk ann 66 [] w [1,1,1,1,1,1,1] Tryz.f5 K
def l9:Prop:=nl ann 66 [(1,y1),(5,y5),(7,y7),(8,y8)] w [1,1,1,1,1,1,0,1,0] Tryz.f5 K
def k11:Prop:=nk ann 66 [(1,y1),(5,y5),(7,y7),(8,y8)] w [1,1,1,1,1,1,0,1,0,0,1] Tryz.f5 K
def k10:Prop:=nk ann 66 [(1,y1),(5,y5),(7,y7),(8,y8)] w [1,1,1,1,1,1,0,1,0,0,1,1] Tryz.f5 K
def k15:Prop:=nk ann 66 [(1,y1),(5,y5),(7,y7),(8,y8),(10,y10)] w [1,1,1,1,1,1,0,1,0,0,1,0,0,1,1,1] Tryz.f5 K
attribute [irreducible] k3 k5 k17 l9 k11 k10 k15
end F5
theorem F5.k3.to (h:(C.an 10 y2 w fun a b=>
 C.i y5c 11 #[a] b fun c d=>
 C.aj .neq c (.int .i64 0) d fun f g=>
 C.am f (K (.bool true) g) (F5.k5 K y1 y2 g))):F5.k3 K y1 y2 w:=qq h
theorem F5.k5.to (h:(C.an 10 y2 w fun a b=>
 C.i y5c 16 #[a] b fun c d=>
 C.a1 0 c d fun f g=>
 C.a1 1 c g fun i j=>
 C.i y5c 8 #[y1] j fun k m=>
 F5.l9 K k f (.slice none 0 0) (.int .i64 0) m)):F5.k5 K y1 y2 w:=qq h
theorem F5.k17.to (h:(K (.bool true) w)):F5.k17 K w:=qq h
theorem F5.l9.to (h:(C.bl y1 w fun a b=>
 C.aj .lss y8 a b fun c d=>
 C.am c (F5.k11 K y1 y5 y7 y8 d) (F5.k17 K d))):F5.l9 K y1 y5 y7 y8 w:=by unfold F5.l9 nl;exact qah (qq h)
theorem F5.k11.to (h:(C.i y5c 23 #[y5] w fun a b=>
 C.i y5c 24 #[y5] b fun c d=>
 C.bk 7 y1 y8 d fun f g=>
 C.an 7 f g fun i j=>
 C.i y5c 20 #[y5,i] j fun k m=>
 C.aj .lss a (.int .i64 2) m fun o p=>
 C.q true o (fun K=>K y5 p) p fun q r=>
 C.q true o (fun K=>C.i y5c 23 #[q] r K) r fun s t=>
 C.q true o (fun K=>C.aj .geq s (.int .i64 2) t K) t fun u v=>
 C.a2 (some o) (some u) (some (.bool false)) v fun x y=>
 C.am x (C.i y5c 18 #[y5] y fun z aa=>
 C.i y5c 17 #[y5] aa fun ab ac=>
 C.i y5c 26 #[ab] ac fun ad ae=>
 C.i y5c 25 #[z,ad] ae fun af ag=>
 F5.k15 K y1 y5 af y8 c ag) (F5.k15 K y1 y5 y7 y8 c y))):F5.k11 K y1 y5 y7 y8 w:=qq h
theorem F5.k10.to (h:(C.aj .add y8 (.int .i64 1) w fun a b=>
 F5.l9 K y1 y5 y7 a b)):F5.k10 K y1 y5 y7 y8 w:=qq h
theorem F5.k15.to (h:(C.i y5c 24 #[y5] w fun a b=>
 C.aj .gtr a y10 b fun c d=>
 C.q true c (fun K=>K y7 d) d fun f g=>
 C.q true c (fun K=>K y5 g) g fun i j=>
 C.q true c (fun K=>C.i y5c 18 #[i] j K) j fun k m=>
 C.q true c (fun K=>C.i y5c 25 #[f,k] m K) m fun o p=>
 C.q true c (fun K=>C.bl o p K) p fun q r=>
 C.q true c (fun K=>K y7 r) r fun s t=>
 C.q true c (fun K=>C.bl s t K) t fun u v=>
 C.q true c (fun K=>C.aj .neq q u v K) v fun x y=>
 C.a2 (some c) (some x) (some (.bool false)) y fun z aa=>
 C.am z (K (.bool false) aa) (F5.k10 K y1 y5 y7 y8 aa))):F5.k15 K y1 y5 y7 y8 y10 w:=qq h
theorem F5.sh (h:(C.a3 (.cells (Value.cells x0) 23) w fun a b=>
 C.i y5c 7 #[] b fun c d=>
 C.bf c d fun f g=>
 C.am f (K (.bool false) g) (F5.k3 K x1 a g))):C.i y5c 5 #[x0,x1] w K:=q9 (A:=F5.ann) (args:=[x0,x1]) (qq h)
end
end Go.Proofs.YtcakfaakbpdklaaGreatDoorV
namespace Go.Proofs.YtcakfaakbpdklaaGreatDoorV
open Go Go.Proofs Go.RowKit
open Go.Proofs.Tryz renaming prog→y5c
theorem zc9 {l k:List Int} {i:Nat} (h:i<l.length):wo (l.take (i+1)) k=wo (l.take i) k ++ (if l[i]∈k then[] else[l[i]]):=by
 unfold wo
 rw[y2o,y0v h,y2j]
 congr 1
 by_cases hc:l[i]∈k
 ·rw[if_pos hc];simp[hc]
 ·rw[if_neg hc];simp[hc]
theorem qxm (l k:List Int):(wo l k).length≤l.length:=y1o _ _
section
variable {K:VK} {w:World}
theorem zf5 {W:World} {lv mv ov:Value} {l k:List Int} {i:Nat} (hi:i<l.length) (hl:RdS W lv 1 (qag l)) (hm:RdS W mv 1 (qag k)) (hkl:k.length≤4000000) {w0:World} (h0:Fr [] W w0)
  (hk:∀w',Fr [] w0 w'→F25.k10 K lv mv ov (.int .i64 (i:Int)) (.bool (decide (l[i]∈k))) w'):
  ∀(d j:Nat) (w:World),j+d=k.length→Fr [] w0 w→F25.l7 K lv mv ov (.int .i64 (i:Int)) (.bool (decide (l[i]∈k.take j))) (.int .i64 (j:Int)) w:=by
 intro d
 induction d with
 | zero=>
  intro j w hj hf
  refine F25.l7.to (C.bg (hm.keep (h0.trans hf)) ?_)
  rw[qak]
  simp only[zv,show ¬((j:Int)<(k.length:Int)) by omega]
  rw[y1f (by omega)]
  exact hk w hf
 | succ d ih=>
  intro j w hj hf
  have hjk:j<k.length:=by omega
  refine F25.l7.to (C.bg (hm.keep (h0.trans hf)) ?_)
  rw[qak]
  simp only[zv,show (j:Int)<(k.length:Int) by omega]
  refine F25.k9.to (C.a5 (fun w'=>Fr [] W w') fun w1 hf1 _=>⟨(h0.trans hf).trans hf1,?_⟩)
  have f1:=(h0.trans hf).trans hf1
  have fin:F25.k8 K lv mv ov (.int .i64 (i:Int)) (.bool (decide (l[i]∈k.take (j+1)))) (.int .i64 (j:Int)) w1:=by
   refine F25.k8.to ?_
   simp only[C.a6]
   rw[qab (n:=(j:Int)+1) (by omega),show (j:Int)+1=((j+1:Nat):Int) by omega]
   exact ih (j+1) w1 (by omega) (hf.trans hf1)
  have htk:l[i]∈k.take (j+1)↔l[i]∈k.take j∨k[j]=l[i]:=by
   rw[y2o,y0v hjk,y3q]
   simp only[y2e,y2d]
   constructor
   ·rintro (h | h)
    ·exact .inl h
    ·exact .inr h.symm
   ·rintro (h | h)
    ·exact .inl h
    ·exact .inr h.symm
  by_cases hb:l[i]∈k.take j
  ·rw[decide_eq_true (htk.2 (.inl hb))] at fin
   rw[decide_eq_true hb]
   simp only[zv]
   exact fin
  ·rw[decide_eq_false hb]
   simp only[zv]
   refine C.ca (S:=fun w2=>Fr [] W w2) (fun w2 hw=>hm.keep hw) f1 (by omega) (by rw[y2t];exact qfj hjk) fun ga oa hl1 hs1=>?_
   refine C.ca (S:=fun w2=>Fr [] W w2) (fun w2 hw=>hl.keep hw) f1 (by omega) (by rw[y2t];exact qfj hi) fun gb ob hl2 hs2=>?_
   refine C.ao (v := .int .i64 k[j]) (fun w2 hw=>?_) ?_
   ·obtain⟨cs,e,fz,a,b⟩:=hs1 w2 hw
    exact⟨cs,e,fz,a,by simpa using b 0 (by decide)⟩
   refine C.ao (v := .int .i64 l[i]) (fun w2 hw=>?_) ?_
   ·obtain⟨cs,e,fz,a,b⟩:=hs2 w2 hw
    exact⟨cs,e,fz,a,by simpa using b 0 (by decide)⟩
   have e:decide (l[i]∈k.take (j+1))=decide (k[j]=l[i]):=by
    by_cases h:k[j]=l[i]
    ·rw[decide_eq_true h,decide_eq_true (htk.2 (.inr h))]
    ·rw[decide_eq_false h,decide_eq_false fun x=>(htk.1 x).elim hb h]
   rw[e] at fin
   try simp only[C.az]
   exact fin
theorem zby {W:World} {lv mv:Value} {l k:List Int} (hl:RdS W lv 1 (qag l)) (hm:RdS W mv 1 (qag k)) (hll:l.length≤4000000) (hkl:k.length≤4000000)
  (hk:∀v w',Fr [] W w'→qaj W v→qad w' v 2 1 (qag (wo l k))→K v w'):
  ∀(d i:Nat) (w:World) (v:Value),i+d=l.length→Fr [] W w→qaj W v→qad w v 2 1 (qag (wo (l.take i) k))→F25.l3 K lv mv v (.int .i64 (i:Int)) w:=by
 intro d
 induction d with
 | zero=>
  intro i w v hi hf hn hv
  refine F25.l3.to (C.bg (hl.keep hf) ?_)
  rw[qak]
  simp only[zv,show ¬((i:Int)<(l.length:Int)) by omega]
  rw[y1f (by omega)] at hv
  exact F25.k12.to (hk v w hf hn hv)
 | succ d ih=>
  intro i w v hi hf hn hv
  have hil:i<l.length:=by omega
  refine F25.l3.to (C.bg (hl.keep hf) ?_)
  rw[qak]
  simp only[zv,show (i:Int)<(l.length:Int) by omega]
  refine F25.k5.to ?_
  have h0:decide (l[i]∈k.take 0)=false:=by simp
  have:=zf5 (K:=K) (ov:=v) hil hl hm hkl hf (fun w1 hf1=>?_) k.length 0 w (by omega) (Fr.refl _ _)
  ·rw[h0] at this;exact this
  have f1:=hf.trans hf1
  have hv1:=hv.keep hf1 (by simp)
  have hsucc:=zc9 (k:=k) hil
  have hlen:(wo (l.take i) k).length≤4000000:=y4i (qxm _ _) (by rw[y3b];omega)
  refine F25.k10.to ?_
  by_cases hc:l[i]∈k
  ·rw[decide_eq_true hc]
   simp only[zv]
   refine F25.k4.to ?_
   simp only[C.a6]
   rw[qab (n:=(i:Int)+1) (by omega),show (i:Int)+1=((i+1:Nat):Int) by omega]
   rw[if_pos hc,y3m] at hsucc
   exact ih (i+1) w1 v (by omega) f1 hn (by rw[hsucc];exact hv1)
  ·rw[decide_eq_false hc]
   simp only[zv]
   refine C.bw (hl.keep f1) (by omega) (by rw[y2t];exact qfj hil) fun g oo cs e' fz hg _ hcs=>C.ad (v := .int .i64 l[i]) hg (by simpa using hcs 0 (by simp)) ?_
   refine C.cz f1 hn hv1 (by omega) fun v' w2 a b c d' e=>?_
   refine F25.k4.to ?_
   try simp only[C.a6]
   rw[qab (n:=(i:Int)+1) (by omega),show (i:Int)+1=((i+1:Nat):Int) by omega]
   rw[if_neg hc] at hsucc
   exact ih (i+1) w2 v' (by omega) a b (by rw[hsucc];exact c)
theorem qnw {lv mv:Value} {l k:List Int} (hl:RdS w lv 1 (qag l)) (hm:RdS w mv 1 (qag k)) (hll:l.length≤4000000) (hkl:k.length≤4000000)
  (hk:∀v w',Fr [] w w'→qaj w v→qad w' v 2 1 (qag (wo l k))→K v w'):C.i y5c 25 #[lv,mv] w K:=by
 refine F25.sh ?_
 exact zby hl hm hll hkl hk l.length 0 w (.slice none 0 0) (by omega) (Fr.refl _ _) (qaj.nil _) (qad.nil _ _ _)
end
theorem qb2.of {cf:Cf} (L:cf.Legal):qb2 cf:=by
 have h:=L.1
 have g:∀i:Nat,i<10→(spL.getD i (0,0)).1≤(cfL cf).getD i 0∧(cfL cf).getD i 0≤(spL.getD i (0,0)).2:=h
 have h0:=g 0 (by decide)
 have h6:=g 6 (by decide)
 have h7:=g 7 (by decide)
 simp[spL,cfL] at h0 h6 h7
 exact⟨by omega,by omega,by omega⟩
theorem Legal.t8 {cf:Cf} (L:cf.Legal):0≤cf.threads∧cf.threads≤8∧0≤cf.cap:=by
 have g:∀i:Nat,i<10→(spL.getD i (0,0)).1≤(cfL cf).getD i 0∧(cfL cf).getD i 0≤(spL.getD i (0,0)).2:=L.1
 have h1:=g 1 (by decide)
 have h5:=g 5 (by decide)
 simp[spL,cfL] at h1 h5
 omega
theorem qqk {m:Ma} (h:SI m.co.s):m.objs.length≤2048:=by
 unfold Ma.objs
 rw[(qee _).length_eq,y3t]
 unfold St.objects qgt
 rw[y3t]
 refine y4i (y1o _ _) ?_
 have:=h.hi.ci.small_n
 rw[y2v]
 unfold Ce.n
 omega
theorem qxd (N:List Nd) (m:List Bool):(qfa N m N.length).length≤N.length:=qiw N m N.length
section
variable {K:VK} {w:World} {cf:Cf} {A:Mad}
theorem qux {W:World} {u dv:Value} {i:Nat} {g:Gw} {B:Int} {y:Ma} {dead:List Int} {cyc:Int} (hf:Fr [] W w) (hm:qaf A g cf B w y) (hd:qad w dv 2 1 (qag dead)) (hdl:dead.length≤4096) (hs:SI y.co.s)
  (hgone:cyc<y.co.cycles→wo dead y.objs=dead) (hk:∀w',Fr [] w w'→F5.k10 K u (.pointer (some ⟨A.ma,0,none⟩)) dv (.int .i64 (i:Int)) w'):
  F5.k15 K u (.pointer (some ⟨A.ma,0,none⟩)) dv (.int .i64 (i:Int)) (.int .i64 cyc) w:=by
 refine F5.k15.to (qns hm ?_)
 by_cases hc:cyc<y.co.cycles
 ·have hg:=hgone hc
  simp only[zv,hc]
  refine ql3 hm fun ov w1 hf1 hn1 ho1=>?_
  have hol:=qqk hs
  refine qnw (hd.rd.keep hf1) ho1.rd (by omega) (by omega) fun v w2 hf2 hn2 ho2=>?_
  refine C.bg ho2.rd ?_
  rw[qak,hg]
  refine C.bg (hd.rd.keep (hf1.trans hf2)) ?_
  rw[qak]
  try simp only[zv,eq_self,ne_eq,not_true_eq_false]
  exact hk w2 (hf1.trans hf2)
 ·simp only[zv,hc]
  exact hk w (Fr.refl _ _)
theorem qtf (L:qb2 cf) (L8:0≤cf.threads∧cf.threads≤8) {W:World} {u:Value} {l:List Stp} (hl:l.length≤70) (hu:RdS W u 7 (stC l)) (hk:∀w',Fr [] W w'→K (.bool true) w'):
  ∀(d i:Nat) (w:World) (g:Gw) (y:Ma) (dv:Value) (dead:List Int),i+d=l.length→Fr [] W w→qaf A g cf (64*(i:Int)) w y→qel W A cf.threads.toNat g→MJ cf (1+330*(i:Int)) y→GZ y.co→VI y.co→qaj W dv→qad w dv 2 1 (qag dead)→(∀q∈qaa dv,q∉A.all cf.threads.toNat g)→QF (· ∈ dead) y.co→(∀ser∈dead,ser<y.co.s.made)→dead.length≤4096→
   F5.l9 K u (.pointer (some ⟨A.ma,0,none⟩)) dv (.int .i64 (i:Int)) w:=by
 intro d
 induction d with
 | zero=>
  intro i w g y dv dead hi hf h1 hs hJ hZ hV hn hv hb hq hmd hdl
  refine F5.l9.to (C.bg (hu.keep hf) ?_)
  rw[qfo]
  simp only[zv,show ¬((i:Int)<(l.length:Int)) by omega]
  exact F5.k17.to (hk w hf)
 | succ d ih=>
  intro i w g y dv dead hi hf h1 hs hJ hZ hV hn hv hb hq hmd hdl
  have hlt:i<l.length:=by omega
  refine F5.l9.to (C.bg (hu.keep hf) ?_)
  rw[qfo]
  simp only[zv,show (i:Int)<(l.length:Int) by omega]
  refine F5.k11.to (qo9 h1 (qns h1 (C.c0 (hu.keep hf) hlt ?_)))
  generalize hgs:l[i]=s
  refine qvm (s:=s) h1 (by omega) fun g1 w1 hT1 m1=>?_
  have hF1:=hs.fr hf hT1
  have hs1:=hs.step hT1 hf.size
  have hJ1:=hJ.step L s (by omega)
  have hZ1:=hJ.stepZ L hZ s (by omega)
  have hV1:=VI.step cf hV s
  have hq1:=hJ.stepD L hq hmd s (by omega)
  have hfr:=fun hp=>hJ.step_fr hp s (by omega)
  have hcy:=zcy (cf:=cf) y s
  obtain⟨_,hmd1,_⟩:=zcz (cf:=cf) L8.2 y s hJ.c.k.si (by have:=hJ.c.md;omega)
  have hv1:=hv.keep' hT1.fr fun q hq c=>hb q hq (Mad.subS c)
  have hvA:∀q∈qaa dv,q∉A.all cf.threads.toNat g1:=fun q hq c=>by
   rcases Mad.all_cases c with rfl | c
   ·exact hb _ hq Mad.zero_in
   ·rcases hT1.inS c with d | d
    ·exact hb q hq (Mad.subS d)
    ·have:=hv.mem_lt q hq;omega
  have e1:64*(i:Int)+64=64*((i+1:Nat):Int):=by omega
  have e2:1+330*(i:Int)+330=1+330*((i+1:Nat):Int):=by omega
  rw[e1] at m1
  rw[e2] at hJ1
  generalize (y.step cf s).1=y1 at *
  have next:∀(w2:World) (dv':Value) (dead':List Int),Fr [] w1 w2→qaj W dv'→qad w2 dv' 2 1 (qag dead')→(∀q∈qaa dv',q∉A.all cf.threads.toNat g1)→QF (· ∈ dead') y1.co→(∀ser∈dead',ser<y1.co.s.made)→dead'.length≤4096→(y.co.cycles<y1.co.cycles→wo dead' y1.objs=dead')→
    F5.k15 K u (.pointer (some ⟨A.ma,0,none⟩)) dv' (.int .i64 (i:Int)) (.int .i64 y.co.cycles) w2:=fun w2 dv' dead' f2 a1 a2 a3 a4 a5 a6 a7=>by
   refine qux (hF1.trans f2) (m1.keep0 f2) a2 a6 hJ1.c.k.si a7 fun w3 f3=>?_
   refine F5.k10.to ?_
   try simp only[C.a6]
   rw[qab (n:=(i:Int)+1) (by omega),show (i:Int)+1=((i+1:Nat):Int) by omega]
   exact ih (i+1) w3 g1 y1 dv' dead' (by omega) ((hF1.trans f2).trans f3) (m1.keep0 (f2.trans f3)) hs1 hJ1 hZ1 hV1 a1 (a2.keep f3 (by simp)) a3 a4 a5 a6
  have same:F5.k15 K u (.pointer (some ⟨A.ma,0,none⟩)) dv (.int .i64 (i:Int)) (.int .i64 y.co.cycles) w1:=by
   refine next w1 dv dead (Fr.refl _ _) hn hv1 hvA hq1 (fun ser hs=>by have:=hmd ser hs;omega) hdl fun hc=>?_
   refine zc8 hJ1.c.k.si ?_
   rcases hq1 with h | h
   ·exact h
   ·have:=h.ph
    rcases hcy with e | e
    ·omega
    ·omega
  by_cases hp:y.co.phase<2
  ·simp only[zv,hp]
   refine qo9 m1 ?_
   by_cases hp2:2≤y1.co.phase
   ·simp only[zv,ge_iff_le,hp2]
    have hfc:FrC y1.co:=(hfr (by omega)).resolve_left (by omega)
    refine ql3 m1 fun ov w2 hf2 hn2 ho2=>?_
    refine zba (m1.keep0 hf2) hV1.rootsIn fun rv nv vs fs w3 hf3 hR hN=>?_
    have hV3:IsV w3 rv nv (y1.view cf):=⟨hR.rd,hN.rd⟩
    have hvl:(y1.view cf).2.length≤2049:=by
     have:=qqu (cf:=cf) hV1.rootsIn
     unfold Ma.view
     simpa using this
    refine zbn hV3 (by omega) fun qv w4 hf4 hn4 hr4=>?_
    have hol:=qqk hJ1.c.k.si
    have hrl:(qc2 (y1.view cf)).length≤2049:=by
     unfold qc2
     rw[(qee _).length_eq]
     exact y4i (qxd _ _) hvl
    refine qnw (ho2.rd.keep (hf3.trans hf4)) hr4 (by omega) (by omega) fun dv' w5 hf5 hn5 ho5=>?_
    have f4:=(hf2.trans hf3).trans hf4
    obtain⟨af,afm⟩:=AF.start hJ1 hZ1 hfc hV1.rootsIn
    refine next w5 dv' _ (f4.trans hf5) (hn5.mono (hF1.trans f4).size) ho5 (fun q hq c=>?_) (.inr af) afm (by have:=qxm y1.objs (qc2 (y1.view cf));omega) fun hc=>?_
    ·have:=hn5.blk q hq
     have:=m1.ltA q c
     have:=f4.size
     omega
    ·rcases hcy with e | e <;> omega
   ·simp only[zv,ge_iff_le,hp2]
    exact same
  ·simp only[zv,hp]
   exact same
theorem QF.none (c:Co):QF (· ∈ ([]:List Int)) c := .inl fun a ⟨_,_,_,d⟩=>by cases d
theorem qto {u:Value} {l:List Stp} (hT:TzB w) (hz:0<w.heap.size) (hu:RdS w u 7 (stC l)) (hk:∀w',Fr [] w w'→K (.bool true) w'):C.i y5c 5 #[.agg (cfV cf).toArray,u] w K:=by
 refine F5.sh (C.av fun b w1 hn1=>zat (hT.keep hn1.fr (by simp)) (y2c hz hn1.fr.size) fun w2 hf2=>?_)
 have f2:=hn1.fr.trans hf2
 have hb2:=hf2.at_ hn1.at_ (by simp)
 simp only[zv]
 have T2:=hT.keep f2 (by simp)
 have z2:=y2c hz f2.size
 refine F5.k3.to (C.ax hb2 rfl (qnp (fun L=>?_) fun L w3 hf3=>?_))
 rotate_left
 ·simp only[zv,ne_eq,show ¬((6:Int)=0) by decide,not_false_eq_true]
  exact hk w3 (f2.trans hf3)
 intro w3 hf3
 have f3:=f2.trans hf3
 simp only[zv,eq_self,ne_eq,not_true_eq_false]
 refine F5.k5.to (C.ax (hf3.at_ hb2 (by simp)) rfl ?_)
 refine qr7 (hT.keep f3 (by simp)) (y2c hz f3.size) (fun L'=>absurd L L') fun _ A g w4 hf4 hg4 hn4 hm4=>?_
 simp only[zv]
 have f4:=f3.trans hf4
 refine zfv hu f4 fun u' hu'=>?_
 have hs4:qel w A cf.threads.toNat g:=qel.of hm4 fun y hy=>(hn4 y hy).imp id fun h=>y4i f3.size h
 have L1:=qb2.of L
 have L8:=Legal.t8 L
 exact qtf (W:=w) L1 ⟨L8.1,L8.2.1⟩ (l:=l.take 70) (by rw[y3b];omega) hu' hk (l.take 70).length 0 w4 g (Ma.new cf) (.slice none 0 0) [] (by omega) f4 hm4 hs4 (MJ.new cf L1.pg ⟨L8.1,L8.2.1⟩ L8.2.2) (GZ.new L1.pg ⟨L8.1,L8.2.1⟩) (VI.new cf) (qaj.nil _) (qad.nil _ _ _) (fun q hq=>by simp[qaa,Value.ownBlock] at hq) (QF.none _) (fun _ h=>by cases h) (by simp)
end
end Go.Proofs.YtcakfaakbpdklaaGreatDoorV
