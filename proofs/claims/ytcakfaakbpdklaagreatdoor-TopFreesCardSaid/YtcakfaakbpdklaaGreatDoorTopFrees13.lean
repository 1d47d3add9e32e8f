/- Part 13 of what the law needs: own lemmas, in the order in which they build. -/
import Derived.Test.YtcakfaakbpdklaaGreatDoorTopFrees12
set_option linter.unusedSimpArgs false
set_option linter.unusedVariables false
set_option maxRecDepth 10000
namespace Go.Proofs.YtcakfaakbpdklaaGreatDoorV
open Go Go.Proofs Go.RowKit
open Go.Proofs.Tryz renaming prog→y5c
open Go.IntKind renaming i64→j6
open Go.Value renaming pointer→y4x
def qaw (l:List Bool):List (List Value):=l.map fun b=>[.bool b]
theorem qbk (l:List Bool):(qaw l).length=l.length:=by simp[qaw]
theorem qjf {l:List Bool} {j:Nat} (h:j<l.length):(qaw l)[j]?=some [.bool l[j]]:=by simp[qaw,h]
theorem qvw (l k:List Bool):qaw (l ++ k)=qaw l ++ qaw k:=by simp[qaw]
theorem qvx (n:Nat) (b:Bool):qaw (List.replicate n b)=List.replicate n [.bool b]:=by simp[qaw]
theorem qma (l:List Bool) (n:Nat):qaw (l.drop n)=(qaw l).drop n:=by simp[qaw,List.map_drop]
theorem qnz {l:List Bool}:∀y∈qaw l,∀u∈y,u.oneCell'=true:=by
 intro y hy u hu
 simp only[qaw,y4l] at hy
 obtain⟨x,_,rfl⟩:=hy
 simp only[y4b,y3i,or_false] at hu
 subst hu
 rfl
theorem qef {α : Type} (f:Nat → α) (t:Nat) (x : α):upd f t x t=x:=if_pos rfl
theorem qg8 {α : Type} (f:Nat → α) {t u:Nat} (x : α) (h:u≠t):upd f t x u=f u:=if_neg h
def Bcs (T:Nat) (S:Nat→Value) (cs:Array Value):Prop:=cs.size=T*3∧∀t,t<T→cs[t*3]?=some (S t)∧(∃a,cs[t*3+1]?=some (.int j6 a))∧∃b,cs[t*3+2]?=some (.int j6 b)
theorem Bcs.set0 {T:Nat} {S:Nat→Value} {cs:Array Value} (h:Bcs T S cs) {t:Nat} (ht:t<T) (x:Value):Bcs T (upd S t x) (cs.setIfInBounds (t*3) x):=by
 refine⟨by simpa using h.1,fun u hu=>?_⟩
 obtain⟨h1,⟨a,h2⟩,⟨b,h3⟩⟩:=h.2 u hu
 have:=h.1
 refine⟨?_,⟨a,?_⟩,⟨b,?_⟩⟩
 ·by_cases e:u=t
  ·subst e
   rw[qef,y0e,if_pos rfl,if_pos (by omega)]
  ·rw[qg8 _ _ e,y0e,if_neg (by omega),h1]
 ·rw[y0e,if_neg (by omega),h2]
 ·rw[y0e,if_neg (by omega),h3]
theorem Bcs.set12 {T:Nat} {S:Nat→Value} {cs:Array Value} (h:Bcs T S cs) {t k:Nat} (ht:t<T) (hk:k=1∨k=2) (n:Int):Bcs T S (cs.setIfInBounds (t*3+k) (.int j6 n)):=by
 refine⟨by simpa using h.1,fun u hu=>?_⟩
 obtain⟨h1,⟨a,h2⟩,⟨b,h3⟩⟩:=h.2 u hu
 have:=h.1
 refine⟨?_,?_,?_⟩
 ·rw[y0e,if_neg (by omega),h1]
 ·rw[y0e]
  by_cases e:t*3+k=u*3+1
  ·rw[if_pos e,if_pos (by omega)]
   exact⟨n,rfl⟩
  ·rw[if_neg e]
   exact⟨a,h2⟩
 ·rw[y0e]
  by_cases e:t*3+k=u*3+2
  ·rw[if_pos e,if_pos (by omega)]
   exact⟨n,rfl⟩
  ·rw[if_neg e]
   exact⟨b,h3⟩
def qjn (win most:Int) (bb T:Nat):Obj := .cells #[.int j6 win,.int j6 most,.slice (some ⟨bb,0,none⟩) T T] 141 (0,0)
structure Led (w:World) (g bb T:Nat) (win most:Int) (S:Nat→Value) (L:Nat→List Bool):Prop where
 obj:w.heap[g]?=some (qjn win most bb T)
 bk:∃cs,w.heap[bb]?=some (.cells cs 231 (0,0))∧Bcs T S cs
 own:∀t,t<T→qad w (S t) 4 1 (qaw (L t))
 gb:g≠bb
 sg:∀t,t<T→∀x∈qaa (S t),x≠g∧x≠bb
 ss:∀t,t<T→∀u,u<T→t≠u→∀x∈qaa (S t),x∉qaa (S u)
theorem Led.keep {A:List Nat} {w w':World} {g bb T:Nat} {win most:Int} {S:Nat→Value} {L:Nat→List Bool} (h:Led w g bb T win most S L) (hf:Fr A w w') (h1:g∉A) (h2:bb∉A) (h3:∀t,t<T→∀x∈qaa (S t),x∉A):Led w' g bb T win most S L:=by
 obtain⟨cs,hb,hc⟩:=h.bk
 exact⟨hf.at_ h.obj h1,⟨cs,hf.at_ hb h2,hc⟩,fun t ht=>(h.own t ht).keep' hf (h3 t ht),h.gb,h.sg,h.ss⟩
theorem Led.keep0 {w w':World} {g bb T:Nat} {win most:Int} {S:Nat→Value} {L:Nat→List Bool} (h:Led w g bb T win most S L) (hf:Fr [] w w'):Led w' g bb T win most S L:=h.keep hf (by simp) (by simp) (by simp)
theorem Led.row {A:List Nat} {w w':World} {g bb T t:Nat} {win most:Int} {S:Nat→Value} {L:Nat→List Bool} (h:Led w g bb T win most S L) (ht:t<T) (hf:Fr A w w') {s:Value} {l:List Bool} (hb:∃cs,w'.heap[bb]?=some (.cells cs 231 (0,0))∧Bcs T (upd S t s) cs)
  (ho:qad w' s 4 1 (qaw l)) (hs:∀x∈qaa s,x∈qaa (S t)∨w.heap.size≤x) (hA:∀x∈A,x=bb∨x∈qaa (S t)):Led w' g bb T win most (upd S t s) (upd L t l):=by
 have lt:∀u,u<T→∀x∈qaa (S u),x<w.heap.size:=fun u hu=>(h.own u hu).mem_lt
 have lg:=qac h.obj
 obtain⟨cs0,hb0,_⟩:=h.bk
 have lb:=qac hb0
 have hg:∀x∈qaa (S t),x≠g∧x≠bb:=h.sg t ht
 have sx:∀x∈qaa s,x≠g∧x≠bb:=fun x hx=>by
  rcases hs x hx with h | h
  ·exact hg x h
  ·exact⟨by omega,by omega⟩
 have sy:∀u,u<T→u≠t→∀x∈qaa s,x∉qaa (S u):=fun u hu hne x hx hy=>by
  rcases hs x hx with h' | h'
  ·exact h.ss t ht u hu (Ne.symm hne) x h' hy
  ·have:=lt u hu x hy
   omega
 refine⟨hf.at_ h.obj fun hx=>?_,hb,fun u hu=>?_,h.gb,fun u hu=>?_,fun u hu v hv hne=>?_⟩
 ·rcases hA _ hx with h' | h'
  ·exact h.gb h'
  ·exact (hg _ h').1 rfl
 ·by_cases e:u=t
  ·subst e
   rw[qef,qef]
   exact ho
  ·rw[qg8 _ _ e,qg8 _ _ e]
   refine (h.own u hu).keep' hf fun x hx hx'=>?_
   rcases hA _ hx' with h' | h'
   ·exact (h.sg u hu x hx).2 h'
   ·exact h.ss u hu t ht e x hx h'
 ·by_cases e:u=t
  ·subst e
   rw[qef]
   exact sx
  ·rw[qg8 _ _ e]
   exact h.sg u hu
 ·by_cases e:u=t
  ·subst e
   rw[qef,qg8 _ _ (Ne.symm hne)]
   exact sy v hv (Ne.symm hne)
  ·rw[qg8 _ _ e]
   by_cases e':v=t
   ·subst e'
    rw[qef]
    exact fun x hx hx'=>sy u hu e x hx' hx
   ·rw[qg8 _ _ e']
    exact h.ss u hu v hv hne
section
variable {K:VK} {w:World}
theorem zem (b:Bool):(Instr.buildSlice 84 1 #[(0,.bool b)]).run y5c w = .ok (.slice (some ⟨w.heap.size,0,none⟩) 1 1) (w.alloc (.cells #[.bool b] 4)):=by kernel_rfl
theorem zen:(Instr.buildSlice 84 0 #[]).run y5c w = .ok (.slice (some ⟨w.heap.size,0,none⟩) 0 0) (w.alloc (.cells #[] 4)):=by kernel_rfl
theorem qxu {v:Value} {l:List Bool} (hv:RdS w v 1 (qaw l)) (hl:l.length≤1000000) (h:∀v' w',Fr [] w w'→qad w' v' 4 1 (qaw l)→qaj w v'→K v' w'):C.i y5c 239 #[v] w K:=by
 have hv':=hv
 obtain⟨A,c,rfl,h1,h2,h3⟩:=hv
 refine F239.sh ⟨_,qgv (e:=4) _ _ _ _ _ Tryz.underlying84,?_⟩
 cases A with
 | none=>
  have:l=[]:=by
   cases l with
   | nil=>rfl
   | cons x l=>obtain⟨g,o,cs,e,fz,hA,_⟩:=h3 (by simp[qaw]);cases hA
  subst this
  simp only[Option.isNone_none,C.ah]
  exact h _ w (Fr.refl _ _) (qad.nil w 4 1) (qaj.nil w)
 | some a=>
  simp only[Option.isNone_some,C.ac]
  refine F239.k3.to (C.a4 zen ?_)
  have hn:=New.mk' w (.cells #[] 4)
  refine C.b7 (xs:=[]) (e:=4) (sz:=1) (bytes:=1) (z := .bool false) Tryz.underlying84 (by kernel_rfl) rfl (by decide) (qad.of_block hn.at_ rfl (by simp) (by simp) rfl (by simp) (by simp)) (hv'.keep hn.fr) qnz (by rw[qbk];simp;omega) (by rw[qbk];simp;omega) fun v' w' ho hf hb _=>?_
  refine h v' w' (hn.fr.then hf fun x hx=>?_) (by simpa using ho) fun g hg=>?_
  ·rw[qam] at hx
   simp only[Value.ownBlock,y2k] at hx
   exact .inr (by omega)
  ·rcases hb with hb | ⟨g',hb,hle⟩
   ·rw[hb] at hg
    simp only[Value.ownBlock,y2k] at hg
    omega
   ·rw[hb] at hg
    simp only[y2k] at hg
    subst hg
    exact y4i hn.fr.size hle
theorem qnd {g bb T:Nat} {win most:Int} {S:Nat→Value} {L:Nat→List Bool} {t:Nat} (hL:Led w g bb T win most S L) (ht:t<T) (h:K (y4x (some ⟨bb,t*3,none⟩)) w):C.i y5c 166 #[y4x (some ⟨g,0,none⟩),.int j6 (t:Int)] w K:=by
 refine F166.sh ⟨_,qan _ _ _ Tryz.underlying89,?_⟩
 simp only[zv,show ¬((t:Int)<0) by omega]
 refine C.ad (v := .slice (some ⟨bb,0,none⟩) T T) hL.obj rfl ?_
 simp only[zv,show ¬((t:Int)≥(T:Int)) by omega]
 refine F166.k3.to ?_
 simp only[zv]
 refine C.ad (v := .slice (some ⟨bb,0,none⟩) T T) hL.obj rfl ?_
 simp only[C.ck,y2t,y4k]
 exact⟨⟨by omega,by omega⟩,h⟩
theorem qyr {l:List Bool} {j:Nat} (h:j<l.length):cnt (l.take (j+1))=cnt (l.take j)+if l[j]=true then 1 else 0:=by
 unfold cnt
 rw[y2o,y0v h,List.count_append]
 simp only[y2e,List.count_singleton,beq_iff_eq]
theorem qv3 (l:List Bool):cnt l≤l.length:=List.count_le_length
theorem qm7 {v:Value} {l:List Bool} (hv:RdS w v 1 (qaw l)):
  ∀(d j:Nat),l.length=j+d→K (.int j6 (cnt l:Int)) w→F236.l3 K (.int j6 (cnt (l.take j):Int)) v (.int j6 (l.length:Int)) (.int j6 (j:Int)) w:=by
 intro d
 induction d with
 | zero=>
  intro j hd h
  refine F236.l3.to ?_
  simp only[zv,show ¬((j:Int)<(l.length:Int)) by omega]
  rw[y1f (by omega)]
  exact F236.k8.to h
 | succ d ih=>
  intro j hd h
  have jl:j<l.length:=by omega
  have hle:=hv.le
  rw[qbk] at hle
  have hc:=qyr jl
  have hc2:=qv3 (l.take j)
  rw[y3b] at hc2
  refine F236.l3.to ?_
  simp only[zv,show ((j:Int)<(l.length:Int)) by omega]
  refine F236.k4.to (C.bw hv (by omega) (by rw[y2t];exact qjf jl) fun g o cs e fz hg hl' hcc=>C.ad (v := .bool l[j]) hg (by simpa using hcc 0 (by omega)) ?_)
  have next:F236.k7 K (.int j6 (cnt (l.take (j+1)):Int)) v (.int j6 (l.length:Int)) (.int j6 (j:Int)) w:=by
   refine F236.k7.to ?_
   simp only[C.a6]
   rw[qab (n:=(j:Int)+1) (by omega),show (j:Int)+1=((j+1:Nat):Int) by omega]
   exact ih (j+1) (by omega) h
  cases hb:l[j] with
  | true=>
   simp only[zv]
   rw[hb,if_pos rfl] at hc
   rw[qab (n:=(cnt (l.take j):Int)+1) (by omega),show (cnt (l.take j):Int)+1=((cnt (l.take (j+1)):Nat):Int) by omega]
   exact next
  | false=>
   simp only[zv]
   rw[hb,if_neg (by simp)] at hc
   rw[show cnt (l.take j)=cnt (l.take (j+1)) by omega]
   exact next
theorem qrl {g bb T:Nat} {win most:Int} {S:Nat→Value} {L:Nat→List Bool} {t:Nat} (hL:Led w g bb T win most S L) (ht:t<T) (but:Nat) (hbut:but≤1000000) (h:∀w',Fr [] w w'→K (.int j6 (cnt ((L t).drop but):Int)) w'):C.i y5c 236 #[y4x (some ⟨bb,t*3,none⟩),.int j6 (but:Int)] w K:=by
 obtain⟨cs,hb,hc⟩:=hL.bk
 have ho:=hL.own t ht
 refine F236.sh (C.a5 (fun w'=>w'.heap[bb]?=some (.cells cs 231 (0,0))) fun w1 hf1 he1=>⟨by rw[he1];exact hb,?_⟩)
 simp only[zv,y4j]
 refine C.ao (v:=S t) (fun w' hw=>⟨_,_,_,hw,(hc.2 t ht).1⟩) (C.ao (v:=S t) (fun w' hw=>⟨_,_,_,hw,(hc.2 t ht).1⟩) ?_)
 have hrd:=(ho.keep hf1 (by simp)).rd
 obtain⟨A,c,he,hcap⟩:=hrd.len_c (P:=y5c) (K:=K)
 rw[he] at hrd ⊢
 have hle:=hrd.le
 rw[qbk] at *
 simp only[C.bt]
 refine⟨_,fun w' _=>qf8 _ _ _ _ _ _,_,fun w' _=>qew (e:=4) (sz:=1) A (L t).length c j6 (min (but:Int) ((L t).length:Int)) Tryz.underlying84 (by kernel_rfl) (by omega) (by omega),?_⟩
 have hd:=hrd.drop (min (but:Int) ((L t).length:Int)).toNat (by omega)
 have e1:(min (but:Int) ((L t).length:Int)).toNat=min but (L t).length:=by omega
 rw[e1] at hd ⊢
 have e2:(qaw (L t)).drop (min but (L t).length)=qaw ((L t).drop but):=by
  rw[←qma]
  congr 1
  rcases Nat.le_total but (L t).length with h' | h'
  ·rw[Nat.min_eq_left h']
  ·rw[Nat.min_eq_right h',y1e (y4q _),y1e h']
 rw[e2] at hd
 have e3:(L t).length-min but (L t).length=((L t).drop but).length:=by rw[y3c];omega
 rw[e3] at hd ⊢
 simp only[C.bt]
 exact qm7 hd ((L t).drop but).length 0 (by omega) (h w1 hf1)
end
theorem qn8 (k:Nat) (l:List Bool):(qe9 k l).length=min k l.length:=by unfold qe9;rw[y3c];omega
section
variable {K:VK} {w:World}
theorem qhs {g bb T t m:Nat} {win most:Int} {S:Nat→Value} {L:Nat→List Bool} {w0:World} {v:Value} {work:Bool} (hL0:Led w0 g bb T win most S L) (ht:t<T) (hf0:Fr [] w0 w) (hm:m≤64) (hl:(L t).length≤64) (hv:RdS w v 1 (qaw (List.replicate m work)))
  (h:∀s w',Fr (bb :: qaa (S t)) w0 w'→Led w' g bb T win most (upd S t s) (upd L t (L t ++ List.replicate m work))→(∀x∈qaa s,x∈qaa (S t)∨w0.heap.size≤x)→F167.k1 K (y4x (some ⟨g,0,none⟩)) (y4x (some ⟨bb,t*3,none⟩)) w'):
  C.ay y5c (Builtin.append_ #[84,84] 84 #[S t,v]) w fun x w24=>(w24.heap[g]?=some (qjn win most bb T)∧(C.ak 1 (y4x (some ⟨bb,t*3,none⟩)) x w24 fun w27=>(w27.heap[g]?=some (qjn win most bb T)∧F167.k1 K (y4x (some ⟨g,0,none⟩)) (y4x (some ⟨bb,t*3,none⟩)) w27))∧True):=by
 have hL:=hL0.keep0 hf0
 have hS:=hL.sg t ht
 refine C.b7 (xs:=qaw (L t)) (ys:=qaw (List.replicate m work)) (e:=4) (sz:=1) (bytes:=1) (z := .bool false) Tryz.underlying84 (by kernel_rfl) rfl (by decide) (hL.own t ht) hv qnz
  (by rw[qbk,qbk];simp;omega) (by rw[qbk,qbk];simp;omega) fun s w1 ho hf hb _=>?_
 have hg1:=hf.at_ hL.obj fun hx=>(hS g hx).1 rfl
 obtain⟨cs,hbb,hc⟩:=hL.bk
 have hbb1:=hf.at_ hbb fun hx=>(hS bb hx).2 rfl
 have hsz:=hc.1
 refine⟨hg1,C.bb hbb1 ho.one.2 ho.one.1 (by omega) fun w2 hu=>?_,trivial⟩
 have hsb:∀x∈qaa s,x∈qaa (S t)∨w.heap.size≤x:=fun x hx=>by
  rcases hb with e | ⟨g',e,hle⟩
  ·exact .inl (by rw[qam, ←e, ←qam];exact hx)
  ·rw[qam.1 hx] at e
   simp only[y2k] at e
   exact .inr (by omega)
 have lbb:=qac hbb
 have hsbb:∀x∈qaa s,x≠bb:=fun x hx=>by
  rcases hsb x hx with h' | h'
  ·exact (hS x h').2
  ·omega
 have hfA:Fr (bb :: qaa (S t)) w w2:=(hf.mono fun x hx=>by simp[hx]).trans (hu.fr.mono (by simp))
 refine⟨hu.fr.at_ hg1 (by simp only[y2d];exact hL.gb),h s w2 (hf0.w.trans hfA) ?_ fun x hx=>?_⟩
 ·refine hL.row ht hfA ⟨_,hu.at_,hc.set0 ht s⟩ ?_ hsb fun x hx=>by simpa using hx
  rw[qvw]
  exact ho.keep' hu.fr fun x hx=>by simpa using hsbb x hx
 ·rcases hsb x hx with h' | h'
  ·exact .inl h'
  ·exact .inr (by have:=hf0.size;omega)
theorem qzd {g bb T t:Nat} {win most n:Int} {S:Nat→Value} {L:Nat→List Bool} {work:Bool} (hL:Led w g bb T win most S L) (ht:t<T) (h0:0≤n) (h64:n≤64) (hw0:0≤win) (hl:(L t).length≤64)
  (h:∀s w',Fr (bb :: qaa (S t)) w w'→Led w' g bb T win most (upd S t s) (upd L t (L t ++ List.replicate (min n win).toNat work))→(∀x∈qaa s,x∈qaa (S t)∨w.heap.size≤x)→F167.k1 K (y4x (some ⟨g,0,none⟩)) (y4x (some ⟨bb,t*3,none⟩)) w'):
  C.i y5c 167 #[y4x (some ⟨g,0,none⟩),y4x (some ⟨bb,t*3,none⟩),.int j6 n,.bool work] w K:=by
 refine F167.sh (C.a5 (fun w'=>w'.heap[g]?=some (qjn win most bb T)) fun w1 hf1 he1=>⟨by rw[he1];exact hL.obj,?_⟩)
 have hL1:=hL.keep0 hf1
 obtain⟨cs,hbb,hc⟩:=hL1.bk
 simp only[zv,y4j]
 refine C.ao (v := .int j6 win) (fun w' hw=>⟨_,_,_,hw,rfl⟩) ⟨_,fun w' _=>qf8 _ _ _ _ _ _,?_⟩
 have em:min n win=((min n win).toNat:Int):=by omega
 rw[em]
 have hm:(min n win).toNat≤64:=by omega
 clear em
 generalize (min n win).toNat=m at *
 have hn2:=New.mk' w1 (.cells #[.bool work] 4)
 have hs1:RdS (w1.alloc (.cells #[.bool work] 4)) (.slice (some ⟨w1.heap.size,0,none⟩) 1 1) 1 [[.bool work]]:=RdS.of_block hn2.at_ rfl (by simp) (by simp) (by simp) (by simp)
 have hL2:=hL1.keep0 hn2.fr
 have rd:∀ {v' w'},qad w' v' 4 1 (List.replicate m [.bool work])→RdS w' v' 1 (qaw (List.replicate m work)):=fun ho=>by rw[qvx];exact ho.rd
 have hb0:=(hc.2 t ht).1
 have f12:=hf1.trans hn2.fr
 refine⟨C.ad hbb hb0 ⟨hL1.obj,C.a4 (zem work) ⟨hL2.obj,qja hs1 rfl (by omega) fun v' w3 hf3 ho3 hn3=>⟨hf3.at_ hL2.obj (by simp),qhs hL ht (f12.trans hf3) hm hl (rd ho3) h,trivial⟩,trivial⟩,trivial⟩,?_⟩
 refine⟨C.a4 (zem work) ⟨hL2.obj,C.ad (hn2.fr.at_ hbb (by simp)) hb0 ⟨hL2.obj,qja hs1 rfl (by omega) fun v' w3 hf3 ho3 hn3=>⟨hf3.at_ hL2.obj (by simp),qhs hL ht (f12.trans hf3) hm hl (rd ho3) h,trivial⟩,trivial⟩,?_⟩,trivial⟩
 refine⟨qja hs1 rfl (by omega) fun v' w3 hf3 ho3 hn3=>⟨hf3.at_ hL2.obj (by simp),C.ad (hf3.at_ (hn2.fr.at_ hbb (by simp)) (by simp)) hb0 ⟨hf3.at_ hL2.obj (by simp),qhs hL ht (f12.trans hf3) hm hl (rd ho3) h,trivial⟩,trivial⟩,trivial⟩
theorem qze {g bb T t:Nat} {win most:Int} {S:Nat→Value} {L:Nat→List Bool} (hL:Led w g bb T win most S L) (ht:t<T) (hw0:0≤win) (hw1:win≤64) (hl:(L t).length≤1000)
  (h:∀s w',Fr [bb] w w'→Led w' g bb T win most (upd S t s) (upd L t (qe9 win.toNat (L t)))→qaj w s→K (.tuple #[]) w'):F167.k1 K (y4x (some ⟨g,0,none⟩)) (y4x (some ⟨bb,t*3,none⟩)) w:=by
 refine F167.k1.to (C.a5 (fun w'=>w'.heap[g]?=some (qjn win most bb T)) fun w1 hf1 he1=>⟨by rw[he1];exact hL.obj,?_⟩)
 have hL1:=hL.keep0 hf1
 obtain⟨cs,hbb,hc⟩:=hL1.bk
 have hb0:=(hc.2 t ht).1
 have hsz:=hc.1
 have hrd:=(hL1.own t ht).rd
 have hS:=hL1.sg t ht
 have lbb:=qac hbb
 simp only[zv,y4j]
 refine C.ao (v := .int j6 win) (fun w' hw=>⟨_,_,_,hw,rfl⟩) ?_
 obtain⟨A,c,he,hcap⟩:=hrd.len_c (P:=y5c) (K:=K)
 rw[qbk] at he hcap
 have tail:∀v,RdS w1 v 1 (qaw (qe9 win.toNat (L t)))→C.i y5c 239 #[v] w1 fun x42_25 w25=>(w25.heap[g]?=some (qjn win most bb T)∧(C.ak 1 (y4x (some ⟨bb,t*3,none⟩)) x42_25 w25 fun w28=>(w28.heap[g]?=some (qjn win most bb T)∧K (.tuple #[]) w28))∧True):=by
  intro v hv
  refine qxu hv (by rw[qn8];omega) fun s w2 hf2 ho2 hn2=>?_
  have hg2:=hf2.at_ hL1.obj (by simp)
  have hbb2:=hf2.at_ hbb (by simp)
  refine⟨hg2,C.bb hbb2 ho2.one.2 ho2.one.1 (by omega) fun w3 hu=>?_,trivial⟩
  have hns:=hn2.blk
  have hfA:Fr [bb] w1 w3:=hf2.w.trans hu.fr
  refine⟨hu.fr.at_ hg2 (by simp only[y2d];exact hL.gb),h s w3 (hf1.w.trans hfA) ?_ (hn2.mono hf1.size)⟩
  refine hL1.row ht hfA ⟨_,hu.at_,hc.set0 ht s⟩ (ho2.keep' hu.fr fun x hx=>?_) (fun x hx => .inr (hns x hx)) fun x hx => .inl (by simpa using hx)
  have:=hns x hx
  simp only[y2d]
  omega
 have hlen:(L t).length≤9223372036854775807:=by omega
 have run:∀w':World,(Instr.sliceAt 84 (S t) (some (.int j6 (max (((L t).length:Int)-win) 0))) none none).run y5c w' = .ok (.slice (if c=(L t).length-win.toNat then A else A.map (·.add (((L t).length-win.toNat)*1))) ((L t).length-((L t).length-win.toNat)) (c-((L t).length-win.toNat))) w':=fun w'=>by
  have:=qew (P:=y5c) (w:=w') (t:=84) (e:=4) (sz:=1) A (L t).length c j6 (max (((L t).length:Int)-win) 0) Tryz.underlying84 (by kernel_rfl) (by omega) (by omega)
  rw[he,this]
  rw[show (max (((L t).length:Int)-win) 0).toNat=(L t).length-win.toNat by omega]
 have hd:RdS w1 (.slice (if c=(L t).length-win.toNat then A else A.map (·.add (((L t).length-win.toNat)*1))) ((L t).length-((L t).length-win.toNat)) (c-((L t).length-win.toNat))) 1 (qaw (qe9 win.toNat (L t))):=by
  rw[he] at hrd
  have:=hrd.drop ((L t).length-win.toNat) (by omega)
  rw[←qma] at this
  exact this
 refine⟨C.ad hbb hb0 ⟨hL1.obj,C.ad hbb hb0 ⟨hL1.obj,?_⟩,trivial⟩,C.ad hbb hb0 ⟨hL1.obj,?_⟩,trivial⟩
 ·refine C.bg hrd ?_
  simp only[C.bo,qbk]
  rw[qab (by omega)]
  exact⟨_,fun w' _=>qjp _ _ _ _ _ _,_,fun w' _=>run w',tail _ hd,trivial⟩
 ·refine C.bg hrd ?_
  simp only[C.bo,qbk]
  rw[qab (by omega)]
  exact⟨_,fun w' _=>qjp _ _ _ _ _ _,C.ad hbb hb0 ⟨hL1.obj,_,fun w' _=>run w',tail _ hd,trivial⟩,trivial⟩
theorem qs7 {α : Type} (f:Nat → α) (t:Nat) (x y : α):upd (upd f t x) t y=upd f t y:=by
 funext u
 unfold upd
 split <;> rfl
structure LNx (w w':World) (bb t:Nat) (S:Nat→Value) (s:Value):Prop where
 fr:Fr (bb :: qaa (S t)) w w'
 new:∀x∈qaa s,w.heap.size≤x
theorem qqd {g bb T t:Nat} {win most n:Int} {S:Nat→Value} {L:Nat→List Bool} {work:Bool} (hL:Led w g bb T win most S L) (ht:t<T) (h0:0≤n) (h64:n≤64) (hw0:0≤win) (hw1:win≤64) (hl:(L t).length≤64)
  (h:∀s w',LNx w w' bb t S s→Led w' g bb T win most (upd S t s) (upd L t (qe9 win.toNat (L t ++ List.replicate (min n win).toNat work)))→K (.tuple #[]) w'):
  C.i y5c 167 #[y4x (some ⟨g,0,none⟩),y4x (some ⟨bb,t*3,none⟩),.int j6 n,.bool work] w K:=by
 refine qzd hL ht h0 h64 hw0 hl fun s1 w1 hf1 hL1 hs1=>?_
 refine qze hL1 ht hw0 hw1 (by rw[qef];simp;omega) fun s2 w2 hf2 hL2 hn2=>?_
 rw[qs7,qs7,qef] at hL2
 exact h s2 w2 ⟨hf1.trans (hf2.mono (by simp)),fun x hx=>y4i hf1.size (hn2.blk x hx)⟩ hL2
theorem qqc {g bb T t k:Nat} {win most n:Int} {S:Nat→Value} {L:Nat→List Bool} (hL:Led w g bb T win most S L) (ht:t<T) (hk:k=1∨k=2) {F:World→Prop}
  (h:∀w',Fr [bb] w w'→Led w' g bb T win most S L→F w'):
  C.ai (y4x (some ⟨bb,t*3+k,none⟩)) w fun x28_4 w4=>C.aj .add x28_4 (.int j6 n) w4 fun x30_5 w5=>C.ak 1 (y4x (some ⟨bb,t*3+k,none⟩)) x30_5 w5 F:=by
 obtain⟨cs,hbb,hc⟩:=hL.bk
 have hsz:=hc.1
 obtain⟨_,⟨a,ha⟩,⟨b,hb⟩⟩:=hc.2 t ht
 have:∃m,cs[t*3+k]?=some (.int j6 m):=by
  rcases hk with rfl | rfl
  ·exact⟨a,ha⟩
  ·exact⟨b,hb⟩
 obtain⟨m,hm⟩:=this
 refine C.ad hbb hm ?_
 simp only[C.a6]
 refine C.bb hbb rfl rfl (by omega) fun w1 hu=>h w1 hu.fr ?_
 exact⟨hu.fr.at_ hL.obj (by simp only[y2d];exact hL.gb),⟨_,hu.at_,hc.set12 ht hk _⟩,fun u hu'=>(hL.own u hu').keep' hu.fr fun x hx=>by simpa using (hL.sg u hu' x hx).2,hL.gb,hL.sg,hL.ss⟩
theorem qub {g bb T t:Nat} {win most n:Int} {S:Nat→Value} {L:Nat→List Bool} (hL:Led w g bb T win most S L) (ht:t<T) (h0:0≤n) (h64:n≤64) (hw0:0≤win) (hw1:win≤64) (hl:(L t).length≤64)
  (h:∀s w',LNx w w' bb t S s→Led w' g bb T win most (upd S t s) (upd L t (qe9 win.toNat (L t ++ List.replicate (min n win).toNat false)))→K (.bool true) w'):C.i y5c 107 #[y4x (some ⟨g,0,none⟩),.int j6 (t:Int),.int j6 n] w K:=by
 refine F107.sh (qnd hL ht ⟨_,qan _ _ _ Tryz.underlying227,?_⟩)
 simp only[zv,show ¬n<0 by omega,show ¬n>64 by omega]
 refine F107.k4.to (qqd hL ht h0 h64 hw0 hw1 hl fun s w1 hx hL1=>?_)
 simp only[zv]
 exact qqc hL1 ht (.inl rfl) fun w2 hf2 hL2=>h s w2 ⟨hx.fr.trans (hf2.mono (by simp)),hx.new⟩ hL2
theorem qil {g bb T t:Nat} {win most n:Int} {S:Nat→Value} {L:Nat→List Bool} (hL:Led w g bb T win most S L) (ht:t<T) (hw0:0≤win) (hw1:win≤64) (hm:most≤win) (hl:(L t).length≤64)
  (h:∀w',Fr [] w w'→K (.bool (qdy win most n (L t))) w'):C.i y5c 164 #[y4x (some ⟨g,0,none⟩),.int j6 (t:Int),.int j6 n] w K:=by
 refine F164.sh (qnd hL ht ⟨_,qan _ _ _ Tryz.underlying227,?_⟩)
 simp only[zv]
 by_cases h0:n<0
 ·simp only[zv,h0]
  have:=h w (Fr.refl _ _)
  rw[show qdy win most n (L t)=false from decide_eq_false (by omega)] at this
  exact this
 ·simp only[zv,h0]
  refine C.ad (v := .int j6 most) hL.obj rfl ?_
  by_cases h1:n>most
  ·simp only[zv,h1]
   have:=h w (Fr.refl _ _)
   rw[show qdy win most n (L t)=false from decide_eq_false (by omega)] at this
   exact this
  ·simp only[zv,h1]
   obtain⟨cs,hbb,hc⟩:=hL.bk
   have hb0:=(hc.2 t ht).1
   refine F164.k4.to (C.a5 (fun w'=>w'.heap[g]?=some (qjn win most bb T)∧w'.heap[bb]?=some (.cells cs 231 (0,0))) fun w1 hf1 he1=>⟨by rw[he1];exact⟨hL.obj,hbb⟩,?_⟩)
   have hL1:=hL.keep0 hf1
   simp only[zv,y4j]
   refine C.ao (v:=S t) (fun w' hw=>⟨_,_,_,hw.2,hb0⟩) (C.bg (hL1.own t ht).rd ?_)
   simp only[C.a6,qbk]
   rw[qab (by omega)]
   refine C.ao (v := .int j6 win) (fun w' hw=>⟨_,_,_,hw.1,rfl⟩) ?_
   simp only[C.bo]
   rw[qab (by omega)]
   refine⟨_,fun w' _=>qjp _ _ _ _ _ _,C.ao (v := .int j6 most) (fun w' hw=>⟨_,_,_,hw.1,rfl⟩) ?_⟩
   rw[show max (((L t).length:Int)+n-win) 0=((((L t).length:Int)+n-win).toNat:Int) by omega]
   refine⟨qrl hL1 ht _ (by omega) fun w2 hf2=>⟨⟨hf2.at_ hL1.obj (by simp),hf2.at_ (hf1.at_ hbb (by simp)) (by simp)⟩,?_⟩,trivial⟩
   have hcl:=qv3 ((L t).drop (((L t).length:Int)+n-win).toNat)
   rw[y3c] at hcl
   simp only[zv]
   rw[qab (by omega)]
   have:=h w2 (hf1.trans hf2)
   have e:qdy win most n (L t)=decide ((cnt ((L t).drop (((L t).length:Int)+n-win).toNat):Int)+n≤most):=decide_eq_decide.2 (by omega)
   rw[e] at this
   exact this
theorem qwo {g bb T t:Nat} {win most n:Int} {S:Nat→Value} {L:Nat→List Bool} (hL:Led w g bb T win most S L) (ht:t<T) (hw0:0≤win) (hw1:win≤64) (hm:most≤win) (hl:(L t).length≤64)
  (hno:qdy win most n (L t)=false→∀w',Fr [] w w'→K (.bool false) w')
  (h:qdy win most n (L t)=true→∀s w',LNx w w' bb t S s→Led w' g bb T win most (upd S t s) (upd L t (qe9 win.toNat (L t ++ List.replicate (min n win).toNat true)))→K (.bool true) w'):C.i y5c 237 #[y4x (some ⟨g,0,none⟩),.int j6 (t:Int),.int j6 n] w K:=by
 refine F237.sh (qil hL ht hw0 hw1 hm hl fun w1 hf1=>?_)
 cases ha:qdy win most n (L t) with
 | false=>
  simp only[zv]
  exact hno ha w1 hf1
 | true=>
  simp only[zv]
  have hadm:=of_decide_eq_true ha
  have hL1:=hL.keep0 hf1
  refine F237.k3.to (qnd hL1 ht (qqd hL1 ht hadm.1 (by omega) hw0 hw1 hl fun s w2 hx hL2=>?_))
  simp only[zv]
  refine qqc hL2 ht (.inr rfl) fun w3 hf3 hL3=>h ha s w3 ⟨(hf1.w.trans hx.fr).trans (hf3.mono (by simp)),fun x hx'=>y4i hf1.size (hx.new x hx')⟩ hL3
end
end Go.Proofs.YtcakfaakbpdklaaGreatDoorV
