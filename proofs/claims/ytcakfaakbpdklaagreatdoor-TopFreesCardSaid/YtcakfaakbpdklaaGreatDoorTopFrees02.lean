/- Part 2 of what the law needs: own lemmas, in the order in which they build. -/
import Derived.Carry
import Derived.ChangeOld
import Derived.SizedLaws
import Derived.Deep.Slices
import Derived.OpenShut
import Derived.ProofKit
import Derived.Maps.AppendAt
import Derived.Laws.OwnMore
import Derived.Laws.CopyRow
import Derived.Laws.IdiomCopy
import Derived.Test.YtcakfaakbpdklaaGreatDoorTopFrees01
set_option linter.defProp false
set_option linter.unusedSimpArgs false
set_option linter.unusedVariables false
namespace Go.Proofs.YtcakfaakbpdklaaGreatDoorV
open Go Go.RowKit
structure Fr (S:List Nat) (w w':World):Prop where
 os:w'.os=w.os
 tape:w'.tape=w.tape
 output:w'.output=w.output
 size:w.heap.size≤w'.heap.size
 eq:∀b,b<w.heap.size→b∉S→w'.heap[b]?=w.heap[b]?
theorem Fr.refl (S:List Nat) (w:World):Fr S w w:=⟨rfl,rfl,rfl,y4q _,fun _ _ _=>rfl⟩
theorem Fr.trans {S:List Nat} {a b c:World} (h:Fr S a b) (k:Fr S b c):Fr S a c:=
 ⟨k.os.trans h.os,k.tape.trans h.tape,k.output.trans h.output,y4i h.size k.size,fun i hi hs=>(k.eq i (y2c hi h.size) hs).trans (h.eq i hi hs)⟩
theorem Fr.then {S T:List Nat} {a b c:World} (h:Fr S a b) (k:Fr T b c) (hT:∀x,x∈T→x∈S∨a.heap.size≤x):Fr S a c:=
 ⟨k.os.trans h.os,k.tape.trans h.tape,k.output.trans h.output,y4i h.size k.size,fun i hi hs=>
  (k.eq i (y2c hi h.size) (fun hx=>(hT i hx).elim hs (fun hle=>by omega))).trans (h.eq i hi hs)⟩
theorem Fr.mono {S T:List Nat} {a b:World} (h:Fr S a b) (hs:∀x,x∈S→x∈T):Fr T a b:=⟨h.os,h.tape,h.output,h.size,fun i hi ht=>h.eq i hi fun hx=>ht (hs i hx)⟩
theorem Fr.w {S:List Nat} {a b:World} (h:Fr [] a b):Fr S a b:=h.mono (by simp)
theorem Fr.below {a b:World} (h:Fr [] a b):Below a.heap.size a b:=⟨h.os,h.tape,h.output,h.size,fun i hi=>h.eq i hi (by simp)⟩
theorem Fr.of_below {a b:World} (h:Below a.heap.size a b):Fr [] a b:=⟨h.os,h.tape,h.output,h.size,fun i hi _=>h.block i hi⟩
theorem Fr.at_ {S:List Nat} {w w':World} (h:Fr S w w') {b:Nat} {o:Obj} (hb:w.heap[b]?=some o) (hs:b∉S):w'.heap[b]?=some o:=
 (h.eq b (y0g.1 hb).1 hs).trans hb
theorem qac {w:World} {b:Nat} {o:Obj} (hb:w.heap[b]?=some o):b<w.heap.size:=(y0g.1 hb).1
structure New (w:World) (g:Nat) (o:Obj) (w':World):Prop where
 is:g=w.heap.size
 fr:Fr [] w w'
 at_:w'.heap[g]?=some o
 sz:w'.heap.size=w.heap.size+1
theorem New.mk' (w:World) (o:Obj):New w w.heap.size o (w.alloc o) where
 is:=rfl
 fr := .of_below ((Below.refl _ w).alloc (y4q _) o)
 at_:=by show (w.heap.push o)[w.heap.size]?=_;simp
 sz:=by simp
theorem New.ne {w w':World} {g b:Nat} {o:Obj} (h:New w g o w') (hb:b<w.heap.size):b≠g:=by have:=h.is;omega
structure Upd (w:World) (g:Nat) (o:Obj) (w':World):Prop where
 fr:Fr [g] w w'
 at_:w'.heap[g]?=some o
 sz:w'.heap.size=w.heap.size
theorem Fr.drew (w:World):Fr [] w { w with drawn:=w.drawn+1 }:=⟨rfl,rfl,rfl,y4q _,fun _ _ _=>rfl⟩
theorem add_mk (g o n:Nat):(⟨g,o,none⟩:Addr).add n=⟨g,o+n,none⟩:=by unfold Addr.add;split <;> simp_all
theorem qcr {w:World} {g o:Nat} {cs:Array Value} {e:TypeId} {fz:Nat × Nat} (h:w.heap[g]?=some (.cells cs e fz)):w.cell? ⟨g,o,none⟩=cs[o]?:=by simp[World.cell?,h]
theorem qn1 {w:World} {g o:Nat} {cs:Array Value} {e:TypeId} (h:w.heap[g]?=some (.cells cs e (0,0))):w.frozen? ⟨g,o,none⟩=false:=by simp[World.frozen?,h]
theorem qis {w:World} {g:Nat} {cs:Array Value} {e:TypeId} {fz:Nat × Nat} (h:w.heap[g]?=some (.cells cs e fz)):∀(n o i:Nat),o+i+n≤cs.size→qer w ⟨g,o,none⟩ i n=some ((cs.toList.drop (o+i)).take n)
 | 0,o,i,hn=>by simp[qer]
 | n+1,o,i,hn=>by
  have ih:=qis h n o (i+1) (by omega)
  have hlt:o+i<cs.size:=by omega
  simp only[qer,add_mk,qcr h,ih,y0n hlt]
  have hd:cs.toList.drop (o+i)=cs[o+i] :: cs.toList.drop (o+(i+1)):=by
   rw[show o+(i+1)=o+i+1 by omega]
   have:=y0o (l:=cs.toList) (i:=o+i) (by simpa using hlt)
   simpa using this
  rw[hd]
  simp
def qa2 (cs:List Value) (o:Nat) (vs:List Value):List Value:=cs.take o ++ vs ++ cs.drop (o+vs.length)
theorem qk7 {w:World} {g o:Nat} {cs:Array Value} {e:TypeId} {fz:Nat × Nat} (h:w.heap[g]?=some (.cells cs e fz)) (v:Value):
  Upd w g (.cells (cs.setIfInBounds o v) e fz) (w.setCell ⟨g,o,none⟩ v):=by
 refine⟨⟨rfl,rfl,rfl,by simp[World.setCell],fun b _ hb=>?_⟩,?_,by simp[World.setCell]⟩
 ·simp only[y2d] at hb
  exact Below.heap_setCell w ⟨g,o,none⟩ v b hb
 ·simp[World.setCell,y1j,h]
theorem Upd.trans {w w1 w2:World} {g:Nat} {o1 o2:Obj} (h:Upd w g o1 w1) (k:Upd w1 g o2 w2):Upd w g o2 w2:=
 ⟨h.fr.trans k.fr,k.at_,k.sz.trans h.sz⟩
section
variable {P:Program} {w:World} {K:VK}
theorem C.av {o:Obj} (h:∀g w',New w g o w'→K (.pointer (some ⟨g,0,none⟩)) w'):C.a3 o w K:=h _ _ (New.mk' w o)
theorem C.ad {g o:Nat} {cs:Array Value} {e:TypeId} {fz:Nat × Nat} {v:Value} (hb:w.heap[g]?=some (.cells cs e fz)) (hv:cs[o]?=some v) (h:K v w):C.ai (.pointer (some ⟨g,o,none⟩)) w K:=
 ⟨_,v,rfl,by rw[qcr hb];exact hv,h⟩
theorem C.br {n g o:Nat} {cs:Array Value} {e:TypeId} {fz:Nat × Nat} {vs:List Value} (hb:w.heap[g]?=some (.cells cs e fz)) (hn:o+n≤cs.size) (hv:(cs.toList.drop o).take n=vs) (h:K (.agg vs.toArray) w):C.an n (.pointer (some ⟨g,o,none⟩)) w K:=
 ⟨_,vs,rfl,by rw[qis hb n o 0 (by omega)];simpa using hv,h⟩
theorem C.ax {n g:Nat} {cs:Array Value} {e:TypeId} {fz:Nat × Nat} (hb:w.heap[g]?=some (.cells cs e fz)) (hn:cs.size=n) (h:K (.agg cs) w):C.an n (.pointer (some ⟨g,0,none⟩)) w K:=
 C.br hb (by omega) (vs:=cs.toList) (by subst hn;rw[List.drop_zero, ←Array.length_toList,y2z]) (by simpa using h)
theorem C.ao {S:World→Prop} {g o:Nat} {v:Value} (hS:∀w',S w'→∃cs e fz,w'.heap[g]?=some (.cells cs e fz)∧cs[o]?=some v) (h:K v w):C.aq S (.pointer (some ⟨g,o,none⟩)) w K:=
 ⟨_,v,rfl,fun w' hw=>by obtain⟨cs,e,fz,hb,hv⟩:=hS w' hw;rw[qcr hb];exact hv,h⟩
theorem C.bn {S:World→Prop} {n g o:Nat} {vs:List Value} (hS:∀w',S w'→∃cs e fz,w'.heap[g]?=some (.cells cs e fz)∧o+n≤cs.size∧(cs.toList.drop o).take n=vs) (h:K (.agg vs.toArray) w):C.bm S n (.pointer (some ⟨g,o,none⟩)) w K:=
 ⟨_,vs,rfl,fun w' hw=>by obtain⟨cs,e,fz,hb,hn,hv⟩:=hS w' hw;rw[qis hb n o 0 (by omega)];simpa using hv,h⟩
theorem qmz {g:Nat} {e:TypeId} {K:World→Prop}:∀(vs:List Value) (o i:Nat) (cs:Array Value) (w:World),w.heap[g]?=some (.cells cs e (0,0))→(∀v∈vs,v.oneCell'=true)→o+i+vs.length≤cs.size→
  (∀w',Upd w g (.cells (qa2 cs.toList (o+i) vs).toArray e (0,0)) w'→K w')→qkr vs i ⟨g,o,none⟩ w K
 | [],o,i,cs,w,hb,_,_,h=>by
  refine h w ⟨Fr.refl _ _,?_,rfl⟩
  simp only[qa2,y3m,y3n,y4j,y1k]
  exact hb
 | v :: vs,o,i,cs,w,hb,hv,hn,h=>by
  simp only[y3a] at hn
  have hlt:o+i<cs.size:=by omega
  refine⟨hv v (by simp),⟨cs[o+i],?_⟩,?_,?_⟩
  ·rw[add_mk,qcr hb,y0n hlt]
  ·rw[add_mk];exact qn1 hb
  ·rw[add_mk]
   have hu:=qk7 (o:=o+i) hb v
   refine qmz vs o (i+1) _ _ hu.at_ (fun u hu=>hv u (by simp[hu])) (by simp;omega) fun w' hw=>h w' ?_
   have:=hu.trans hw
   have he:qa2 (cs.setIfInBounds (o+i) v).toList (o+(i+1)) vs=qa2 cs.toList (o+i) (v :: vs):=by
    simp only[qa2,Array.toList_setIfInBounds,y3a]
    rw[show o+(i+1)=o+i+1 by omega,List.take_set,List.drop_set,if_pos (by omega),y2o]
    rw[y0v (by simpa using hlt)]
    simp only[y2e]
    rw[List.set_append]
    simp only[y3b,Array.length_toList]
    rw[if_neg (by omega)]
    have:o+i-min (o+i) cs.size=0:=by omega
    rw[this]
    simp[y4c,Nat.add_comm 1]
   rw[he] at this
   exact this
theorem C.cc {n g o:Nat} {e:TypeId} {cs:Array Value} {x:Value} {K:World→Prop} (hb:w.heap[g]?=some (.cells cs e (0,0))) (hx:x.cells.size=n) (h1:∀v∈x.cells.toList,v.oneCell'=true) (hn:o+n≤cs.size)
  (h:∀w',Upd w g (.cells (qa2 cs.toList o x.cells.toList).toArray e (0,0)) w'→K w'):C.ak n (.pointer (some ⟨g,o,none⟩)) x w K:=
 ⟨_,rfl,hx,qmz _ o 0 cs w hb h1 (by simp;omega) (by simpa using h)⟩
theorem C.bb {g o:Nat} {e:TypeId} {cs:Array Value} {x:Value} {K:World→Prop} (hb:w.heap[g]?=some (.cells cs e (0,0))) (hx:x.cells = #[x]) (h1:x.oneCell'=true) (hn:o<cs.size)
  (h:∀w',Upd w g (.cells (cs.setIfInBounds o x) e (0,0)) w'→K w'):C.ak 1 (.pointer (some ⟨g,o,none⟩)) x w K:=by
 refine⟨_,rfl,by simp[hx],?_⟩
 rw[hx]
 refine⟨h1,⟨cs[o],by rw[add_mk,y4j,qcr hb,y0n hn]⟩,by rw[add_mk];exact qn1 hb,?_⟩
 rw[add_mk,y4j]
 exact h _ (qk7 hb x)
theorem C.a0 {n g:Nat} {e:TypeId} {cs:Array Value} {x:Value} {K:World→Prop} (hb:w.heap[g]?=some (.cells cs e (0,0))) (hx:x.cells.size=n) (h1:∀v∈x.cells.toList,v.oneCell'=true) (hn:cs.size=n)
  (h:∀w',Upd w g (.cells x.cells e (0,0)) w'→K w'):C.ak n (.pointer (some ⟨g,0,none⟩)) x w K:=by
 refine C.cc hb hx h1 (by omega) fun w' hw=>h w' ?_
 have:(qa2 cs.toList 0 x.cells.toList).toArray=x.cells:=by
  simp only[qa2,List.take_zero,y3o,y4k]
  rw[y1e (by simp;omega)]
  simp
 rwa [this] at hw
theorem C.a5 {F:(World→Prop)→World→Prop} (S:World→Prop) (h:∀w',Fr [] w w'→w'.heap=w.heap→S w'∧F S w'):C.a9 w F:=
 ⟨S,(h _ (Fr.drew w) rfl).1,(h _ (Fr.drew w) rfl).2⟩
theorem C.a4 {s:Sem Value} {v:Value} {w':World} (h:s.run P w = .ok v w') (hk:K v w'):C.ay P s w K:=⟨v,w',h,hk⟩
end
section
variable {P:Program} {w:World} {K:VK}
theorem C.cn (b:Bool) (A B:Prop):C.am (.bool b) A B↔(b=true→A)∧(b=false→B):=by
 constructor
 ·rintro⟨t,ht,h⟩;cases ht;exact h
 ·intro h;exact⟨b,rfl,h⟩
theorem C.ah (A B:Prop):C.am (.bool true) A B↔A:=by simp[C.cn]
theorem C.ac (A B:Prop):C.am (.bool false) A B↔B:=by simp[C.cn]
theorem C.aw (a b:Value):C.a2 (some (.bool true)) (some a) (some b) w K↔K a w:=by
 constructor
 ·rintro⟨t,ht,v,hv,h⟩;cases ht;cases hv;exact h
 ·intro h;exact⟨true,rfl,a,rfl,h⟩
theorem C.ar (a b:Value):C.a2 (some (.bool false)) (some a) (some b) w K↔K b w:=by
 constructor
 ·rintro⟨t,ht,v,hv,h⟩;cases ht;cases hv;exact h
 ·intro h;exact⟨false,rfl,b,rfl,h⟩
theorem C.ap (b:Bool):C.bf (.bool b) w K↔K (.bool !b) w:=by
 constructor
 ·rintro⟨t,ht,h⟩;cases ht;exact h
 ·intro h;exact⟨b,rfl,h⟩
theorem C.af (off g o:Nat):C.ab off (.pointer (some ⟨g,o,none⟩)) w K↔K (.pointer (some ⟨g,o+off,none⟩)) w:=by
 constructor
 ·rintro⟨a,ha,h⟩;cases ha;rwa [add_mk] at h
 ·intro h;exact⟨_,rfl,by rwa [add_mk]⟩
theorem C.ag (a:Addr):C.ae (.pointer (some a)) w K↔K (.pointer (some a)) w:=by simp[C.ae,qmo]
theorem C.b4 (op:BinOp) (k:IntKind) (a b:Int):C.aj op (.int k a) (.int k b) w K↔∃v,qeo op k a b=some v∧K v w:=by
 constructor
 ·rintro⟨k',a',b',v,h1,h2,h3,h⟩;cases h1;cases h2;exact⟨v,h3,h⟩
 ·rintro⟨v,h3,h⟩;exact⟨k,a,b,v,rfl,rfl,h3,h⟩
theorem C.a6 (k:IntKind) (a b:Int):C.aj .add (.int k a) (.int k b) w K↔K (.int k (k.wrap (a+b))) w:=by simp[C.b4,qeo]
theorem C.bo (k:IntKind) (a b:Int):C.aj .sub (.int k a) (.int k b) w K↔K (.int k (k.wrap (a-b))) w:=by simp[C.b4,qeo]
theorem C.bp (k:IntKind) (a b:Int):C.aj .mul (.int k a) (.int k b) w K↔K (.int k (k.wrap (a*b))) w:=by simp[C.b4,qeo]
theorem C.az (k:IntKind) (a b:Int):C.aj .eql (.int k a) (.int k b) w K↔K (.bool (decide (a=b))) w:=by
 have:(a == b)=decide (a=b):=by rw[y3p];simp
 simp[C.b4,qeo,this]
theorem C.bh (k:IntKind) (a b:Int):C.aj .neq (.int k a) (.int k b) w K↔K (.bool (decide (a≠b))) w:=by
 have:(a != b)=decide (a≠b):=by rw[y3p];simp
 simp only[C.b4,qeo,this,y2k,exists_eq_left']
theorem C.au (k:IntKind) (a b:Int):C.aj .lss (.int k a) (.int k b) w K↔K (.bool (decide (a<b))) w:=by simp[C.b4,qeo]
theorem C.b9 (k:IntKind) (a b:Int):C.aj .leq (.int k a) (.int k b) w K↔K (.bool (decide (a≤b))) w:=by simp[C.b4,qeo]
theorem C.bj (k:IntKind) (a b:Int):C.aj .gtr (.int k a) (.int k b) w K↔K (.bool (decide (a>b))) w:=by simp[C.b4,qeo]
theorem C.ba (k:IntKind) (a b:Int):C.aj .geq (.int k a) (.int k b) w K↔K (.bool (decide (a≥b))) w:=by simp[C.b4,qeo]
theorem C.ce (k k':IntKind) (a:Int):C.cb k (.int k' a) w K↔K (.int k (k.wrap a)) w:=by
 constructor
 ·rintro⟨k1,a1,h1,h⟩;cases h1;exact h
 ·intro h;exact⟨k',a,rfl,h⟩
theorem C.bt (g:Option Addr) (n c:Nat):C.bl (.slice g n c) w K↔K (.int .i64 (n:Int)) w:=by
 constructor
 ·rintro⟨g1,n1,c1,h1,h⟩;cases h1;exact h
 ·intro h;exact⟨g,n,c,rfl,h⟩
theorem C.cj (i:Nat) (vs:Array Value):C.a1 i (.tuple vs) w K↔∃v,vs[i]?=some v∧K v w:=by
 constructor
 ·rintro⟨vs',v,h1,h2,h⟩;cases h1;exact⟨v,h2,h⟩
 ·rintro⟨v,h2,h⟩;exact⟨vs,v,rfl,h2,h⟩
theorem C.a7 (a b:Value):C.a1 0 (.tuple #[a,b]) w K↔K a w:=by simp[C.cj]
theorem C.a8 (a b:Value):C.a1 1 (.tuple #[a,b]) w K↔K b w:=by simp[C.cj]
theorem C.b0 (a b c:Value):C.a1 0 (.tuple #[a,b,c]) w K↔K a w:=by simp[C.cj]
theorem C.b2 (a b c:Value):C.a1 1 (.tuple #[a,b,c]) w K↔K b w:=by simp[C.cj]
theorem C.b3 (a b c:Value):C.a1 2 (.tuple #[a,b,c]) w K↔K c w:=by simp[C.cj]
theorem C.ck (n:Nat) (g o len cap:Nat) (k:IntKind) (j:Int):C.bk n (.slice (some ⟨g,o,none⟩) len cap) (.int k j) w K↔(0≤j∧j<(len:Int))∧K (.pointer (some ⟨g,o+j.toNat*n,none⟩)) w:=by
 constructor
 ·rintro⟨g1,l1,c1,k1,j1,h1,h2,h3,h4,h⟩;cases h1;cases h2;rw[Go.Proofs.YtcakfaakbpdklaaGreatDoorV.add_mk] at h;exact⟨⟨h3,h4⟩,h⟩
 ·rintro⟨⟨h3,h4⟩,h⟩;exact⟨_,_,_,_,_,rfl,rfl,h3,h4,by rwa [Go.Proofs.YtcakfaakbpdklaaGreatDoorV.add_mk]⟩
theorem C.al (want:Bool) (F:VK→Prop):C.q want (.bool want) F w K↔F K:=by simp[C.q,C.cm]
theorem C.be (F:VK→Prop):C.q true (.bool false) F w K↔K undef w:=by simp[C.q,C.cm]
theorem C.bc (F:VK→Prop):C.q false (.bool true) F w K↔K undef w:=by simp[C.q,C.cm]
theorem C.b5 (want:Bool) (F:VK→Prop):C.q want undef F w K↔K undef w:=by simp[C.q,C.cm,undef]
end
theorem qab {n:Int} (h : -9223372036854775808≤n∧n≤9223372036854775807):IntKind.i64.wrap n=n:=by
 unfold IntKind.wrap IntKind.bits IntKind.signed
 simp
 omega
def zv:=y4v @C.ah (y4v @C.ac (y4v @C.aw (y4v @C.ar (y4v @C.ap (y4v @C.af (y4v @C.ag (y4v @C.a6 (y4v @C.bo (y4v @C.bp (y4v @C.az (y4v @C.bh (y4v @C.au (y4v @C.b9 (y4v @C.bj (y4v @C.ba (y4v @C.ce (y4v @C.bt (y4v @C.a7 (y4v @C.a8 (y4v @C.b0 (y4v @C.b2 (y4v @C.b3 (y4v @C.al (y4v @C.be (y4v @C.bc (y4v @C.b5 (y4v @Bool.not_true (y4v @Bool.not_false (y4v @Nat.zero_add (y4v @decide_true @decide_false))))))))))))))))))))))))))))))
end Go.Proofs.YtcakfaakbpdklaaGreatDoorV
namespace Go.Proofs.YtcakfaakbpdklaaGreatDoorV
open Go
section
variable {P:Program} {w:World} {t:TypeId}
theorem qkg {x y:Operand} {a b:Value} {r:Bool} (hg:(eqGuard .eql t x y a b).run P w = .ok () w) (hb:binOp .eql t a b=(do pure (.bool (←Op.equal t a b)))) (he:(Op.equalIn (9999+1) t a b).run P w = .ok r w):
  (do eqGuard .eql t x y a b;binOp .eql t a b:Sem Value).run P w = .ok (.bool r) w:=by
 have he':(Op.equal t a b).run P w = .ok r w:=he
 rw[hb]
 simp only[y4g,hg,y2m,he',y4h]
theorem zb9 {x y:Operand} {a b:Value} {r:Bool} (hg:(eqGuard .neq t x y a b).run P w = .ok () w) (hb:binOp .neq t a b=(do pure (.bool (!(←Op.equal t a b))))) (he:(Op.equalIn (9999+1) t a b).run P w = .ok r w):
  (do eqGuard .neq t x y a b;binOp .neq t a b:Sem Value).run P w = .ok (.bool (!r)) w:=by
 have he':(Op.equal t a b).run P w = .ok r w:=he
 rw[hb]
 simp only[y4g,hg,y2m,he',y4h]
theorem qi5 (d:Nat) (a:Addr) {e:TypeId} (hu:P.underlying t=some (.pointer e)):(Op.equalIn (d+1) t (.pointer (some a)) (.pointer none)).run P w = .ok (false) w:=by
 simp[Op.equalIn,underlying,hu]
theorem qan (x y:Operand) (a:Addr) {e:TypeId} (hu:P.underlying t=some (.pointer e)):(do eqGuard .eql t x y (.pointer (some a)) (.pointer none);binOp .eql t (.pointer (some a)) (.pointer none):Sem Value).run P w = .ok (.bool (false)) w:=
 qkg (by simp[eqGuard]) rfl (qi5 9999 a hu)
theorem qa0 (x y:Operand) (a:Addr) {e:TypeId} (hu:P.underlying t=some (.pointer e)):(do eqGuard .neq t x y (.pointer (some a)) (.pointer none);binOp .neq t (.pointer (some a)) (.pointer none):Sem Value).run P w = .ok (.bool (true)) w:=
 zb9 (by simp[eqGuard]) rfl (qi5 9999 a hu)
theorem qmd (d:Nat) (a:Option Addr) (n c:Nat) {e:TypeId} (hu:P.underlying t=some (.slice e)):(Op.equalIn (d+1) t (.slice a n c) (.slice none 0 0)).run P w = .ok (a.isNone) w:=by
 cases a <;> simp[Op.equalIn,underlying,hu]
theorem qgv (x y:Operand) (a:Option Addr) (n c:Nat) {e:TypeId} (hu:P.underlying t=some (.slice e)):(do eqGuard .eql t x y (.slice a n c) (.slice none 0 0);binOp .eql t (.slice a n c) (.slice none 0 0):Sem Value).run P w = .ok (.bool (a.isNone)) w:=
 qkg (by simp[eqGuard]) rfl (qmd 9999 a n c hu)
theorem qqg (at_:Array TypeId) (ty:TypeId) (k:IntKind) (a b:Int):(Builtin.min_ at_ ty #[.int k a,.int k b]).run P w = .ok (.int k (min a b)) w:=by
 have:(if b<a then b else a)=min a b:=by omega
 simp[Builtin.min_,Builtin.min2,this]
theorem qlj (at_:Array TypeId) (ty:TypeId) (k:IntKind) (a b:Int):(Builtin.max_ at_ ty #[.int k a,.int k b]).run P w = .ok (.int k (max a b)) w:=by
 have:(if a<b then b else a)=max a b:=by omega
 simp[Builtin.max_,Builtin.max2,this]
theorem qf8 (at_:Array TypeId) (ty:TypeId) (c:Array Bool) (k:IntKind) (a b:Int):(builtin .min at_ ty c #[.int k a,.int k b]).run P w = .ok (.value (.int k (min a b))) w:=by
 simp only[builtin,y4g,qqg];rfl
theorem qjp (at_:Array TypeId) (ty:TypeId) (c:Array Bool) (k:IntKind) (a b:Int):(builtin .max at_ ty c #[.int k a,.int k b]).run P w = .ok (.value (.int k (max a b))) w:=by
 simp only[builtin,y4g,qlj];rfl
end
end Go.Proofs.YtcakfaakbpdklaaGreatDoorV
namespace Go.Proofs.YtcakfaakbpdklaaGreatDoorV
open Go Go.RowKit Go.ChangeShapes Go.WideShapes Go.ChangeAt
def RdS (w:World) (v:Value) (sz:Nat) (xs:List (List Value)):Prop:=
 ∃A c,v = .slice A xs.length c∧xs.length≤c∧c≤maxLen∧(xs≠[]→∃g o cs e fz,A=some ⟨g,o,none⟩∧w.heap[g]?=some (.cells cs e fz)∧∀i x,xs[i]?=some x→x.length=sz∧∀j,j<sz→cs[o+(i*sz+j)]?=x[j]?)
theorem RdS.keep {w w':World} {v:Value} {sz:Nat} {xs:List (List Value)} (h:RdS w v sz xs) (hf:Fr [] w w'):RdS w' v sz xs:=by
 obtain⟨A,c,rfl,h1,h2,h3⟩:=h
 refine⟨A,c,rfl,h1,h2,fun hx=>?_⟩
 obtain⟨g,o,cs,e,fz,rfl,hg,hc⟩:=h3 hx
 exact⟨g,o,cs,e,fz,rfl,hf.at_ hg (by simp),hc⟩
theorem RdS.len_c {P:Program} {K:VK} {w:World} {v:Value} {sz:Nat} {xs:List (List Value)} (h:RdS w v sz xs):∃A c,v = .slice A xs.length c∧xs.length≤c:=by
 obtain⟨A,c,rfl,h1,_⟩:=h
 exact⟨A,c,rfl,h1⟩
theorem RdS.le {w:World} {v:Value} {sz:Nat} {xs:List (List Value)} (h:RdS w v sz xs):xs.length≤9223372036854775807:=by
 obtain⟨A,c,rfl,h1,h2,_⟩:=h
 unfold maxLen at h2
 omega
theorem C.bg {K:VK} {w w1:World} {v:Value} {sz:Nat} {xs:List (List Value)} (h:RdS w1 v sz xs) (hk:K (.int .i64 (xs.length:Int)) w):C.bl v w K:=by
 obtain⟨A,c,rfl,_⟩:=h
 simpa only[C.bt] using hk
theorem C.bw {K:VK} {w:World} {v:Value} {sz:Nat} {xs:List (List Value)} {k:IntKind} {i:Int} (h:RdS w v sz xs) {x:List Value} (h0:0≤i) (hx:xs[i.toNat]?=some x)
  (hk:∀g o cs e fz,w.heap[g]?=some (.cells cs e fz)→x.length=sz→(∀j,j<sz→cs[o+j]?=x[j]?)→K (.pointer (some ⟨g,o,none⟩)) w):C.bk sz v (.int k i) w K:=by
 obtain⟨A,c,rfl,h1,h2,h3⟩:=h
 have hlt:i.toNat<xs.length:=(y0m.1 hx).1
 obtain⟨g,o,cs,e,fz,rfl,hg,hc⟩:=h3 (by intro he;rw[he] at hlt;simp at hlt)
 obtain⟨hl,hj⟩:=hc _ _ hx
 rw[C.ck]
 exact⟨⟨h0,by omega⟩,hk g _ cs e fz hg hl fun j hjs=>by rw[y4c];exact hj j hjs⟩
theorem RdS.take {w:World} {A:Option Addr} {n c sz:Nat} {xs:List (List Value)} (h:RdS w (.slice A n c) sz xs) (m:Nat) (hm:m≤n):RdS w (.slice A m c) sz (xs.take m):=by
 obtain⟨A',c',he,h1,h2,h3⟩:=h
 simp only[y2p] at he
 obtain⟨rfl,rfl,rfl⟩:=he
 have hl:(xs.take m).length=m:=by rw[y3b];omega
 refine⟨A,c,by rw[hl],by rw[hl];omega,h2,fun hx=>?_⟩
 obtain⟨g,o,cs,e,fz,rfl,hg,hc⟩:=h3 (by intro e;rw[e] at hx;simp at hx)
 refine⟨g,o,cs,e,fz,rfl,hg,fun i x hi=>hc i x ?_⟩
 rw[y2f] at hi
 split at hi
 ·exact hi
 ·cases hi
inductive CK where
 | int (k:IntKind)
 | bool
def CK.ok:CK→Value→Prop
 | .int k,v=>∃n,v = .int k n∧(Lit.int k n).wf=true
 | .bool,v=>∃b,v = .bool b
def qkh (kd:TypeId→Option (List CK)) (sz:TypeId→Nat):List Field→Nat→Option (List CK)
 | [],_=>some []
 | f :: fs,off=>cond (Nat.beq f.offset off) (match kd f.type with
  | some ks=>cond (Nat.beq (sz f.type) ks.length) (match qkh kd sz fs (off+ks.length) with
   | some r=>some (ks ++ r)
   | none=>none) none
  | none=>none) none
def qif (P:Program):Nat→TypeId→Option (List CK)
 | 0,_=>none
 | d+1,t=>match P.underlying t with
  | some (.int k)=>some [.int k]
  | some .bool=>some [.bool]
  | some (.struct fs)=>match qkh (qif P d) P.cellsOf fs.toList 0 with
   | some ks=>cond (Nat.beq (P.cellsOf t) ks.length) (some ks) none
   | none=>none
  | _=>none
def qbm:List CK→List Value→Prop
 | [],[]=>True
 | k :: ks,v :: vs=>k.ok v∧qbm ks vs
 | _,_=>False
theorem qh2:∀ {ks ks':List CK} {vs vs':List Value},qbm ks vs→qbm ks' vs'→qbm (ks ++ ks') (vs ++ vs')
 | [],_,[],_,_,h=>h
 | k :: ks,_,v :: vs,_,h,h'=>⟨h.1,qh2 h.2 h'⟩
 | [],_,_ :: _,_,h,_=>h.elim
 | _ :: _,_,[],_,h,_=>h.elim
theorem qfm:∀ {ks:List CK} {vs:List Value},qbm ks vs→vs.length=ks.length
 | [],[],_=>rfl
 | k :: ks,v :: vs,h=>by simp[qfm h.2]
 | [],_ :: _,h=>h.elim
 | _ :: _,[],h=>h.elim
section
variable {H:Type} {enc:TypeId × Value→H} {P:Program} {w:World} {base:Nat} {spare:Nat→Bool} {held:Bool}
theorem qun {t:TypeId} {fuel:Nat} {cs:List Value} {x:DataW H × List MemPlace} (ht:P.underlying t=some .bool) (h:DataW.trod enc P w base spare held fuel t cs=some x):∃b,cs=[.bool b]:=by
 cases fuel with
 | zero=>simp[DataW.trod] at h
 | succ n=>
  unfold DataW.trod at h
  rw[ht] at h
  split at h <;> simp_all
theorem qp0 {n:Nat} {kd:TypeId→Option (List CK)} {cs:List Value} (hkd:∀t ks cs' x,kd t=some ks→DataW.trod enc P w base spare held n t cs'=some x→qbm ks cs'):
  ∀(fs:List Field) (off:Nat) (ks:List CK),qkh kd P.cellsOf fs off=some ks→off+ks.length=cs.length→(∀f∈fs,∃x,DataW.trod enc P w base spare held n f.type ((cs.drop f.offset).take (P.cellsOf f.type))=some x)→qbm ks (cs.drop off)
 | [],off,ks,hf,hl,_=>by
  simp only[qkh,y2k] at hf
  subst hf
  simp only[y3n,y4j] at hl
  rw[y1e (by omega)]
  trivial
 | f :: fs,off,ks,hf,hl,ht=>by
  simp only[qkh] at hf
  cases h1:Nat.beq f.offset off with
  | false=>rw[h1] at hf;cases hf
  | true=>
   rw[h1] at hf
   simp only[cond_true] at hf
   have e1:f.offset=off:=y1h h1
   cases hk:kd f.type with
   | none=>rw[hk] at hf;cases hf
   | some k1=>
    rw[hk] at hf
    simp only at hf
    cases h2:Nat.beq (P.cellsOf f.type) k1.length with
    | false=>rw[h2] at hf;cases hf
    | true=>
     rw[h2] at hf
     simp only[cond_true] at hf
     have e2:P.cellsOf f.type=k1.length:=y1h h2
     cases hr:qkh kd P.cellsOf fs (off+k1.length) with
     | none=>rw[hr] at hf;cases hf
     | some r=>
      rw[hr] at hf
      simp only[y2k] at hf
      subst hf
      rw[y2g] at hl
      obtain⟨x,hx⟩:=ht f (by simp)
      have a1:=hkd _ _ _ _ hk hx
      have a2:=qp0 hkd fs (off+k1.length) r hr (by omega) fun f' hf'=>ht f' (by simp[hf'])
      rw[e1,e2] at a1
      have:=qh2 a1 a2
      rw[←List.drop_drop,y1k] at this
      exact this
theorem qj6:∀(d:Nat) {t:TypeId} {ks:List CK} {fuel:Nat} {cs:List Value} {x:DataW H × List MemPlace},qif P d t=some ks→DataW.trod enc P w base spare held fuel t cs=some x→qbm ks cs
 | 0,_,_,_,_,_,hk,_=>by simp[qif] at hk
 | d+1,t,ks,fuel,cs,x,hk,h=>by
  simp only[qif] at hk
  split at hk
  ·rename_i k hu
   simp only[y2k] at hk
   subst hk
   obtain⟨n,rfl,_,hw⟩:=DataW.trod_int hu h
   exact⟨⟨n,rfl,hw⟩,trivial⟩
  ·rename_i hu
   simp only[y2k] at hk
   subst hk
   obtain⟨b,rfl⟩:=qun hu h
   exact⟨⟨b,rfl⟩,trivial⟩
  ·rename_i fs hu
   split at hk
   ·rename_i ks' hf
    cases hb:Nat.beq (P.cellsOf t) ks'.length with
    | false=>rw[hb] at hk;cases hk
    | true=>
     rw[hb] at hk
     simp only[cond_true,y2k] at hk
     subst hk
     obtain⟨xs,n,rfl,rfl,hl,hxl,hx⟩:=DataW.trod_struct hu h
     have:=qp0 (n:=n) (cs:=cs) (fun t ks cs' x hk hx=>qj6 d hk hx) fs.toList 0 ks' hf (by rw[hl,y1h hb];omega) fun f hf=>by
      obtain⟨i,hi,rfl⟩:=y1y hf
      have hi':i<fs.size:=by simpa using hi
      have:=hx i fs[i] (by simp[hi'])
      simp only[Array.getElem_toList]
      rw[this,y0v (by omega)]
      exact⟨_,rfl⟩
     simpa using this
   ·cases hk
  ·cases hk
theorem qwz {t e:TypeId} {d:Nat} {ks:List CK} {v:Value} {dd:DataW H} {ps:List MemPlace} (ht:P.underlying t=some (.slice e)) (hk:qif P d e=some ks) (hc:P.cellsOf e=ks.length) (hpos:0<ks.length)
  (h:DataW.Trod enc P w base spare held t v dd ps) (hv:v.cells.toList=[v]):∃xs,RdS w v ks.length xs∧∀x∈xs,qbm ks x:=by
 obtain⟨fuel,h⟩:=h
 rw[hv] at h
 rcases Deep.open_slice ht h with⟨h1,_⟩ | ⟨a,len,cap,m,n,D,Pl,h1,hb,hl,hm,rfl,_,hx⟩
 ·simp only[List.cons.injEq,and_true] at h1
  subst h1
  exact⟨[],⟨none,0,rfl,by simp,by simp[maxLen],fun h=>absurd rfl h⟩,by simp⟩
 ·simp only[List.cons.injEq,and_true] at h1
  subst h1
  have hx':∀i,i<len→∃cs',w.cells? base (a.add (i*P.cellsOf e)) (P.cellsOf e)=some cs'∧qbm ks cs':=fun i hi=>by
   obtain⟨cs',h1,h2⟩:=hx i (by split <;> omega)
   exact⟨cs',h1,qj6 d hk h2⟩
  rw[hc] at hx'
  obtain⟨X,hX⟩:=Deep.choose_lt (α := List Value) hx'
  have hlen:((List.range len).map X).length=len:=by simp
  refine⟨(List.range len).map X,⟨some a,cap,by rw[hlen],by rw[hlen];exact hl,hm,fun hne=>?_⟩,fun x hx=>?_⟩
  ·have h0:0<len:=by
    rcases Nat.eq_zero_or_pos len with h0 | h0
    ·subst h0;simp at hne
    ·exact h0
   obtain⟨hc0,hok⟩:=hX 0 h0
   obtain⟨_,_,hcell⟩:=World.cells?_some hc0
   have hl0:=qfm hok
   have h00:=hcell 0 hpos
   simp only[Nat.zero_mul] at h00
   have ha0:(a.add 0).add 0=a:=by simp[Addr.add]
   rw[ha0,y0v (by omega)] at h00
   obtain⟨g,o,sp⟩:=a
   have hsp:sp=none:=by
    cases sp with
    | none=>rfl
    | some s=>simp[World.cell?] at h00;split at h00 <;> simp_all
   subst hsp
   have hblk:∃cs e fz,w.heap[g]?=some (.cells cs e fz):=by
    simp only[World.cell?] at h00
    split at h00
    ·rename_i c e' fz hg;exact⟨c,e',fz,hg⟩
    ·cases h00
   obtain⟨cs,e',fz,hg⟩:=hblk
   refine⟨g,o,cs,e',fz,rfl,hg,fun i x hi=>?_⟩
   have hi':i<len:=by have:=(y0m.1 hi).1;simpa using this
   simp only[y2q,List.getElem?_range hi',y3l,y2k] at hi
   subst hi
   obtain⟨hci,hoki⟩:=hX i hi'
   obtain⟨_,_,hcelli⟩:=World.cells?_some hci
   refine⟨qfm hoki,fun j hj=>?_⟩
   have:=hcelli j hj
   rw[add_mk,add_mk,qcr hg] at this
   rw[←this,y4c]
  ·obtain⟨i,hi,rfl⟩:=y4l.1 hx
   exact (hX i (by simpa using hi)).2
end
theorem qoq {H:Type} {enc:TypeId × Value→H} {P:Program} {w:World} {base b0:Nat} {r:Reach} {spare:Nat→Bool} {held:Bool} {t e:TypeId} {d:Nat} {ks:List CK} {v:Value} {dd:DataW H} {ps:List MemPlace}
  (ht:P.underlying t=some (.slice e)) (hk:qif P d e=some ks) (hc:P.cellsOf e=ks.length) (hpos:0<ks.length) (hv:Value.okWide P w r b0 t v) (h:DataW.Trod enc P w base spare held t v dd ps):
  ∃xs,RdS w v ks.length xs∧∀x∈xs,qbm ks x:=by
 obtain⟨a,len,cap,rfl⟩:=okWide_slice ht hv
 exact qwz ht hk hc hpos h rfl
theorem qmp {H:Type} {enc:TypeId × Value→H} {P:Program} {w:World} {base b0:Nat} {r:Reach} {spare:Nat→Bool} {held:Bool} {t:TypeId} {fs:Array Field} {d:Nat} {ks:List CK} {v:Value} {dd:DataW H} {ps:List MemPlace}
  (ht:P.underlying t=some (.struct fs)) (hk:qif P d t=some ks) (hv:Value.okWide P w r b0 t v) (h:DataW.Trod enc P w base spare held t v dd ps):
  ∃cs,v = .agg cs∧qbm ks cs.toList:=by
 obtain⟨cs,rfl,_⟩:=okWide_struct ht hv
 obtain⟨fuel,h⟩:=h
 exact⟨cs,rfl,qj6 d hk h⟩
theorem qfy {H:Type} {enc:TypeId × Value→H} {P:Program} {w:World} {base:Nat} {spare:Nat→Bool} {held:Bool}:∀(ts:List TypeId) (vs:List Value) (ds:List (DataW H)) (ps:List MemPlace),
  DataW.TrodAll enc P w base spare held ts vs ds ps→vs.length=ts.length∧ds.length=ts.length
 | [],vs,ds,ps,h=>by obtain⟨rfl,rfl,_⟩:=trodAll_nil h;exact⟨rfl,rfl⟩
 | t :: ts,vs,ds,ps,h=>by
  obtain⟨v,vs',d,ds',p,q,rfl,rfl,_,_,h'⟩:=trodAll_cons h
  have:=qfy ts vs' ds' q h'
  simp[this]
theorem qi7 {H:Type} {enc:TypeId × Value→H} {P:Program} {W W':World} (hl:laidOutB P=true) (hb:Below W.heap.size W W'):∀(ts:List TypeId) (vs:List Value) (ds:List (DataW H)) (ps:List MemPlace),
  (∀t∈ts,P.readableRec t=true∧t<P.types.size)→DataW.TrodAll enc P W 0 (fun _=>true) true ts vs ds ps→(∀x∈ps,x.block<W.heap.size)→
  DataW.TrodAll enc P W' 0 (fun b=>decide (b<W.heap.size)) true ts vs ds ps
 | [],vs,ds,ps,_,h,_=>by obtain⟨rfl,rfl,rfl⟩:=trodAll_nil h;exact rfl
 | t :: ts,vs,ds,ps,hr,h,hlt=>by
  obtain⟨v,vs',d,ds',p,q,rfl,rfl,rfl,h0,h'⟩:=trodAll_cons h
  obtain⟨h1,h2⟩:=hr t (by simp)
  exact⟨p,q,Below.trod hl h1 h2 h0 hb (fun x hx=>hlt x (by simp[hx])),qi7 hl hb ts vs' ds' q (fun t ht=>hr t (by simp[ht])) h' (fun x hx=>hlt x (by simp[hx])),rfl⟩
structure zdb {H:Type} (enc:TypeId × Value→H) (P:Program) (fn:Func) (W:World) (args:Array Value) (ds:List (DataW H)) (ps:List MemPlace):Prop where
 trod:DataW.TrodAll enc P W 0 (fun _=>true) true fn.params.toList args.toList ds ps
 wide:∃base,∀(j:Nat) t v,fn.params[j]?=some t→args[j]?=some v→Value.okWide P W .any base t v
 reach:(DataW.weightsEach P fn.params.toList ds).all (· ≤ reachBytes)=true
 lt:∀x∈ps,x.block<W.heap.size
end Go.Proofs.YtcakfaakbpdklaaGreatDoorV
namespace Go.Proofs.YtcakfaakbpdklaaGreatDoorV
open Go Go.RowKit
section
variable {P:Program} {w:World} {t e:TypeId} {sz:Nat}
theorem qhe (a:Addr):a.add 0=a:=by simp[Addr.add]
theorem qzh (A:Option Addr):A.map (·.add 0)=A:=by cases A <;> simp[qhe]
theorem qfx (A:Option Addr) (n c:Nat) (k:IntKind) (m:Int) (hu:P.underlying t=some (.slice e)) (hs:qgd P e=some sz) (h0:0≤m) (h1:m≤(c:Int)):
  (Instr.sliceAt t (.slice A n c) none (some (.int k m)) none).run P w = .ok (.slice A m.toNat c) w:=by
 have hs':(sizeOf e).run P w = .ok sz w:=qb5 hs
 have hz:∀(c:Nat),(if c=0 then A else A.map (·.add (0*sz)))=A:=by intro c;rw[Nat.zero_mul,qzh];split <;> rfl
 simp[Instr.sliceAt,Instr.slice,underlying,hu,Instr.sliceBounds,Instr.sliceBound,asIntOf,h0,h1,hs']
 cases A <;> simp[qhe]
theorem qew (A:Option Addr) (n c:Nat) (k:IntKind) (l:Int) (hu:P.underlying t=some (.slice e)) (hs:qgd P e=some sz) (h0:0≤l) (h1:l≤(n:Int)):
  (Instr.sliceAt t (.slice A n c) (some (.int k l)) none none).run P w = .ok (.slice (if c=l.toNat then A else A.map (·.add (l.toNat*sz))) (n-l.toNat) (c-l.toNat)) w:=by
 have hs':(sizeOf e).run P w = .ok sz w:=qb5 hs
 simp[Instr.sliceAt,Instr.slice,underlying,hu,Instr.sliceBounds,Instr.sliceBound,asIntOf,h0,h1,hs']
end
theorem RdS.drop {w:World} {A:Option Addr} {n c sz:Nat} {xs:List (List Value)} (h:RdS w (.slice A n c) sz xs) (l:Nat) (hl:l≤n):
  RdS w (.slice (if c=l then A else A.map (·.add (l*sz))) (n-l) (c-l)) sz (xs.drop l):=by
 obtain⟨A',c',he,h1,h2,h3⟩:=h
 simp only[y2p] at he
 obtain⟨rfl,rfl,rfl⟩:=he
 have hlen:(xs.drop l).length=xs.length-l:=y3c
 refine⟨_,_,by rw[hlen],by rw[hlen];omega,by omega,fun hne=>?_⟩
 obtain⟨g,o,cs,e,fz,rfl,hg,hc⟩:=h3 (by intro e;rw[e] at hne;simp at hne)
 have hlt:l<xs.length:=by
  rcases Nat.lt_or_ge l xs.length with h | h
  ·exact h
  ·exact absurd (y1e h) hne
 refine⟨g,o+l*sz,cs,e,fz,?_,hg,fun i x hi=>?_⟩
 ·rw[if_neg (by omega)]
  simp[add_mk]
 ·rw[y2h] at hi
  obtain⟨hx,hj⟩:=hc _ _ hi
  refine⟨hx,fun j hjs=>?_⟩
  rw[←hj j hjs]
  congr 1
  rw[y4r]
  omega
theorem qyo {cs:Array Value} {x:List Value} {o sz:Nat} (hl:x.length=sz) (h:∀j,j<sz→cs[o+j]?=x[j]?):(0<sz→o+sz≤cs.size)∧(cs.toList.drop o).take sz=x:=by
 constructor
 ·intro h0
  have:=h (sz-1) (by omega)
  rw[y0v (by omega)] at this
  have:=(y0g.1 this).1
  omega
 ·apply y2r
  intro j
  rw[y2f]
  by_cases hj:j<sz
  ·rw[if_pos hj,y2h, ←h j hj];simp
  ·rw[if_neg hj,y1l (by omega)]
theorem C.b8 {K:VK} {w:World} {g o sz:Nat} {cs:Array Value} {e:TypeId} {fz:Nat × Nat} {x:List Value} (hg:w.heap[g]?=some (.cells cs e fz)) (hl:x.length=sz) (h0:0<sz) (h:∀j,j<sz→cs[o+j]?=x[j]?) (hk:K (.agg x.toArray) w):
  C.an sz (.pointer (some ⟨g,o,none⟩)) w K:=by
 obtain⟨h1,h2⟩:=qyo hl h
 exact C.br hg (h1 h0) h2 hk
theorem C.ca {K:VK} {w:World} {S:World→Prop} {v:Value} {sz:Nat} {xs:List (List Value)} {k:IntKind} {i:Int} (h:∀w',S w'→RdS w' v sz xs) (hS:S w) {x:List Value} (h0:0≤i) (hx:xs[i.toNat]?=some x)
  (hk:∀g o,x.length=sz→(∀w',S w'→∃cs e fz,w'.heap[g]?=some (.cells cs e fz)∧∀j,j<sz→cs[o+j]?=x[j]?)→K (.pointer (some ⟨g,o,none⟩)) w):C.bk sz v (.int k i) w K:=by
 have hlt:i.toNat<xs.length:=(y0m.1 hx).1
 have hne:xs≠[]:=by intro he;rw[he] at hlt;simp at hlt
 obtain⟨A,c,rfl,h1,h2,h3⟩:=h w hS
 obtain⟨g,o,cs,e,fz,rfl,hg,hc⟩:=h3 hne
 rw[C.ck]
 refine⟨⟨h0,by omega⟩,hk g _ (hc _ _ hx).1 fun w' hw'=>?_⟩
 obtain⟨A',c',he,_,_,h3'⟩:=h w' hw'
 simp only[y2p] at he
 obtain⟨rfl,_,rfl⟩:=he
 obtain⟨g',o',cs',e',fz',hA,hg',hc'⟩:=h3' hne
 simp only[y2k,Addr.mk.injEq] at hA
 obtain⟨rfl,rfl,_⟩:=hA
 exact⟨cs',e',fz',hg',fun j hj=>by rw[y4c];exact (hc' _ _ hx).2 j hj⟩
def qad (w:World) (v:Value) (e:TypeId) (sz:Nat) (xs:List (List Value)):Prop:=
 w.ownsRow 0 e sz v xs.length xs.flatten∧∀x∈xs,x.length=sz∧∀u∈x,u.oneCell'=true
theorem qc4 {sz:Nat}:∀(xs:List (List Value)),(∀x∈xs,x.length=sz)→∀(i:Nat) (x:List Value),xs[i]?=some x→∀j,j<sz→xs.flatten[i*sz+j]?=x[j]?
 | [],_,i,x,h,_,_=>by simp at h
 | y :: xs,hl,0,x,h,j,hj=>by
  simp only[y0z,y2k] at h
  subst h
  have:=hl y (by simp)
  simp only[Nat.zero_mul,y4k,y2s]
  rw[y0p (by omega)]
 | y :: xs,hl,i+1,x,h,j,hj=>by
  simp only[y0y] at h
  have hy:=hl y (by simp)
  have ih:=qc4 xs (fun z hz=>hl z (by simp[hz])) i x h j hj
  simp only[y2s]
  rw[List.getElem?_append_right (by rw[hy,y4r];omega),hy, ←ih]
  congr 1
  rw[y4r]
  omega
theorem qc5 {sz:Nat}:∀(xs:List (List Value)),(∀x∈xs,x.length=sz)→xs.flatten.length=xs.length*sz
 | [],_=>by simp
 | y :: xs,hl=>by
  rw[y2s,y2g,hl y (by simp),qc5 xs (fun z hz=>hl z (by simp[hz])),y3a,y4r]
  omega
theorem qad.nil (w:World) (e:TypeId) (sz:Nat):qad w (.slice none 0 0) e sz []:=⟨⟨by simp,.inl ⟨rfl,rfl⟩⟩,by simp⟩
theorem qad.lt {w:World} {v:Value} {e:TypeId} {sz:Nat} {xs:List (List Value)} (h:qad w v e sz xs) {g:Nat} (hg:v.ownBlock=some g):g<w.heap.size:=by
 obtain⟨⟨_,h⟩,_⟩:=h
 rcases h with⟨rfl,_⟩ | ⟨g',cap,cur,rfl,_,hh,_⟩
 ·simp[Value.ownBlock] at hg
 ·simp only[Value.ownBlock,y2k] at hg
  subst hg
  exact qac hh
theorem qad.keep {S:List Nat} {w w':World} {v:Value} {e:TypeId} {sz:Nat} {xs:List (List Value)} (h:qad w v e sz xs) (hf:Fr S w w') (hS:∀g,v.ownBlock=some g→g∉S):qad w' v e sz xs:=by
 obtain⟨⟨h1,h2⟩,h3⟩:=h
 refine⟨⟨h1,?_⟩,h3⟩
 rcases h2 with h2 | ⟨g,cap,cur,rfl,hb,hh,r⟩
 ·exact .inl h2
 ·exact .inr ⟨g,cap,cur,rfl,hb,hf.at_ hh (hS g rfl),r⟩
theorem qad.rd {w:World} {v:Value} {e:TypeId} {sz:Nat} {xs:List (List Value)} (h:qad w v e sz xs):RdS w v sz xs:=by
 obtain⟨⟨h1,h2⟩,h3⟩:=h
 rcases h2 with⟨rfl,h2⟩ | ⟨g,cap,cur,rfl,hb,hh,h4,h5,h6,h7⟩
 ·have:xs=[]:=y0d h2
  subst this
  exact⟨none,0,rfl,by simp,by simp[maxLen],fun h=>absurd rfl h⟩
 ·refine⟨_,cap,rfl,h4,h5,fun _=>⟨g,0,cur,e,(0,0),rfl,hh,fun i x hx=>?_⟩⟩
  have hl:∀x∈xs,x.length=sz:=fun x hx=>(h3 x hx).1
  have hlt:i<xs.length:=(y0m.1 hx).1
  refine⟨hl x (y1r hx),fun j hj=>?_⟩
  have:=qc4 xs hl i x hx j hj
  rw[←this, ←h7,y2f,if_pos]
  ·simp
  ·have:(i+1)*sz≤xs.length*sz:=y1s _ hlt
   rw[y4r] at this
   omega
theorem qad.len {w:World} {v:Value} {e:TypeId} {sz:Nat} {xs:List (List Value)} (h:qad w v e sz xs):∃A c,v = .slice A xs.length c:=by
 obtain⟨⟨_,h⟩,_⟩:=h
 rcases h with⟨rfl,h⟩ | ⟨g,cap,cur,rfl,_⟩
 ·exact⟨none,0,by rw[h]⟩
 ·exact⟨_,cap,rfl⟩
def qaa (v:Value):List Nat:=match v.ownBlock with | some g=>[g] | none=>[]
theorem qam {v:Value} {x:Nat}:x∈qaa v↔v.ownBlock=some x:=by
 unfold qaa
 cases v.ownBlock with
 | none=>simp
 | some g=>simp[eq_comm]
theorem qgc {w w':World} {v:Value} (h:w.grownBy w' v.ownBlock):Fr (qaa v) w w':=
 ⟨h.os,h.tape,h.output,h.size,fun b hb hS=>h.block b hb (fun e=>hS (qam.2 e.symm))⟩
section
variable {P:Program} {K:VK} {w:World}
theorem C.b7 {t ty e:TypeId} {sz bytes:Nat} {z:Value} {v src:Value} {xs ys:List (List Value)} (ht:P.underlying t=some (.slice e))
  (hinfo:(P.info? e).map (fun i=>(i.zero,i.size,i.bytes))=some (some z,sz,bytes)) (hz:z.cells.size=sz) (hsz:0<sz) (hv:qad w v e sz xs) (hs:RdS w src sz ys) (h1:∀y∈ys,∀u∈y,u.oneCell'=true)
  (hb:(xs.length+ys.length)*bytes≤140737488355328) (hm:xs.length+ys.length≤9223372036854775807)
  (hk:∀v' w',qad w' v' e sz (xs ++ ys)→Fr (qaa v) w w'→(v'.ownBlock=v.ownBlock∨∃g,v'.ownBlock=some g∧w.heap.size≤g)→(v' = .slice none 0 0↔v = .slice none 0 0∧ys=[])→K v' w'):
  C.ay P (Builtin.append_ #[t,t] ty #[v,src]) w K:=by
 obtain⟨i0,hi,hzz⟩:=y1d.1 hinfo
 simp only[y4e] at hzz
 obtain⟨hz0,hz1,hz2⟩:=hzz
 obtain⟨A,c,rfl,hlc,hcm,hcell⟩:=hs
 have hyl:∀y∈ys,y.length=sz:=by
  intro y hy
  obtain⟨i,hi',rfl⟩:=y1y hy
  obtain⟨g,o,cs,e',fz,_,_,hc⟩:=hcell (by intro h;rw[h] at hi';simp at hi')
  exact (hc i _ (y0v hi')).1
 cases A with
 | none=>
  have:ys=[]:=by
   apply y0q
   intro hne
   obtain⟨g,o,cs,e',fz,h,_⟩:=hcell hne
   cases h
  subst this
  refine C.a4 (v:=v) (w':=w) ?_ (hk v w (by simpa using hv) (Fr.refl _ _) (.inl rfl) (by simp))
  rcases hv.1.2 with⟨rfl,hn⟩ | ⟨g,cap,cur,rfl,_,_,hnc,_⟩
  ·simp[Builtin.append_,underlying,ht,sizeOf,typeInfo,hi,Builtin.lenOf,Builtin.firstCells]
  ·simp[Builtin.append_,underlying,ht,sizeOf,typeInfo,hi,Builtin.lenOf,Builtin.firstCells,hnc,storeCells]
 | some ad=>
  have hnews:∀j u,ys.flatten[j]?=some u→w.cell? (ad.add j)=some u:=by
   intro j u hj
   have hlt:j<ys.flatten.length:=(y0m.1 hj).1
   rw[qc5 ys hyl] at hlt
   have hne:ys≠[]:=by intro h;rw[h] at hlt;simp at hlt
   obtain⟨g,o,cs,e',fz,hA,hg,hc⟩:=hcell hne
   simp only[y2k] at hA
   subst hA
   have hdiv:j / sz<ys.length:=Nat.div_lt_of_lt_mul (by rwa [y4m])
   have hmod:j % sz<sz:=Nat.mod_lt _ hsz
   have e1:=hc (j / sz) _ (y0v hdiv)
   have e2:=qc4 ys hyl (j / sz) _ (y0v hdiv) (j % sz) hmod
   have hj':j / sz*sz+j % sz=j:=by rw[y4m];exact Nat.div_add_mod j sz
   rw[hj',hj] at e2
   have e3:=e1.2 (j % sz) hmod
   rw[hj', ←e2] at e3
   rw[_root_.Go.Proofs.YtcakfaakbpdklaaGreatDoorV.add_mk,qcr hg,e3]
  obtain⟨v1,w1,hr,hown,hg,hnil,hat⟩:=run_append_own_at (P:=P) (w:=w) 0 t ty e i0 z sz bytes ht hi hz0 hz1 hz2 hz hsz v xs.length xs.flatten hv.1 ad ys.length c ys.flatten (qc5 ys hyl) hnews
   (by intro u hu;obtain⟨y,hy,hu⟩:=List.mem_flatten.1 hu;exact h1 y hy u hu) (by unfold maxLen;omega) hb (Nat.zero_le _)
  refine C.a4 hr (hk v1 w1 ⟨?_,?_⟩ (qgc hg) ?_ ?_)
  ·rw[y2g,List.flatten_append];exact hown
  ·intro x hx
   rcases y3q.1 hx with hx | hx
   ·exact hv.2 x hx
   ·exact⟨hyl x hx,h1 x hx⟩
  ·rcases hat with h | h
   ·exact .inl h
   ·exact .inr ⟨_,h,y4q _⟩
  ·rw[hnil]
   constructor
   ·rintro⟨h1,h2⟩;exact⟨h1,y0d h2⟩
   ·rintro⟨h1,h2⟩;exact⟨h1,by rw[h2];rfl⟩
theorem RdS.of_block {g n c sz:Nat} {e:TypeId} {fz:Nat × Nat} {cs:Array Value} {xs:List (List Value)} (hg:w.heap[g]?=some (.cells cs e fz)) (hn:n=xs.length) (hc:n≤c) (hcm:c≤9223372036854775807) (hl:∀x∈xs,x.length=sz) (hx:cs.toList.take (n*sz)=xs.flatten):
  RdS w (.slice (some ⟨g,0,none⟩) n c) sz xs:=by
 subst hn
 refine⟨_,c,rfl,hc,by unfold maxLen;omega,fun _=>⟨g,0,cs,e,fz,rfl,hg,fun i x hi=>?_⟩⟩
 refine⟨hl x (y1r hi),fun j hj=>?_⟩
 have hlt:i<xs.length:=(y0m.1 hi).1
 rw[←qc4 xs hl i x hi j hj, ←hx,y2f,if_pos]
 ·simp
 ·have:(i+1)*sz≤xs.length*sz:=y1s _ hlt
  rw[y4r] at this
  omega
theorem qad.of_block {g n c sz:Nat} {e:TypeId} {cs:Array Value} {xs:List (List Value)} (hg:w.heap[g]?=some (.cells cs e (0,0))) (hn:n=xs.length) (hc:n≤c) (hcm:c≤9223372036854775807) (hcs:cs.size=c*sz) (hl:∀x∈xs,x.length=sz∧∀u∈x,u.oneCell'=true) (hx:cs.toList.take (n*sz)=xs.flatten):
  qad w (.slice (some ⟨g,0,none⟩) n c) e sz xs:=by
 subst hn
 exact⟨⟨qc5 xs fun x h=>(hl x h).1,.inr ⟨g,c,cs,rfl,Nat.zero_le _,hg,hc,by unfold maxLen;omega,hcs,hx⟩⟩,hl⟩
end
theorem qj1 {T R y:List Value} {o:Nat} (h:o+y.length≤T.length):qa2 (T ++ R) o y=qa2 T o y ++ R:=by
 unfold qa2
 rw[List.take_append_of_le_length (by omega),List.drop_append_of_le_length (by omega)]
 simp
theorem qfb {T y:List Value} {o:Nat} (h:o+y.length≤T.length):(qa2 T o y).length=T.length:=by
 unfold qa2
 simp
 omega
theorem qhr {sz:Nat} {y:List Value} (hy:y.length=sz):∀(xs:List (List Value)),(∀x∈xs,x.length=sz)→∀j,j<xs.length→(xs.set j y).flatten=qa2 xs.flatten (j*sz) y
 | [],_,j,hj=>by simp at hj
 | a :: xs,hl,0,_=>by
  have ha:=hl a (by simp)
  simp only[List.set_cons_zero,y2s,Nat.zero_mul,qa2,List.take_zero,y3o,y4k]
  rw[hy, ←ha,List.drop_left]
 | a :: xs,hl,j+1,hj=>by
  have ha:=hl a (by simp)
  simp only[y3a,Nat.add_lt_add_iff_right] at hj
  have ih:=qhr hy xs (fun x hx=>hl x (by simp[hx])) j hj
  simp only[List.set_cons_succ,y2s,ih]
  unfold qa2
  have e:(j+1)*sz=a.length+j*sz:=by rw[ha,y4r];omega
  rw[e,List.take_length_add_append,y4c,List.drop_length_add_append]
  simp
section
variable {P:Program} {K:World→Prop} {w:World}
theorem C.bz {v x:Value} {e:TypeId} {sz:Nat} {xs:List (List Value)} {k:IntKind} {j:Int} (ho:qad w v e sz xs) (h0:0≤j) (hj:j.toNat<xs.length) (hx:x.cells.size=sz) (h1:∀u∈x.cells.toList,u.oneCell'=true)
  (hk:∀w',qad w' v e sz (xs.set j.toNat x.cells.toList)→Fr (qaa v) w w'→w'.heap.size=w.heap.size→K w'):C.bk sz v (.int k j) w fun p w1=>C.ak sz p x w1 K:=by
 obtain⟨⟨h2,h3⟩,h4⟩:=ho
 rcases h3 with⟨rfl,h3⟩ | ⟨g,cap,cur,rfl,hb,hh,h5,h6,h7,h8⟩
 ·omega
 ·simp only[C.ck]
  have hle:(j.toNat+1)*sz≤cap*sz:=y1s _ (by omega)
  have hle2:(j.toNat+1)*sz≤xs.length*sz:=y1s _ hj
  have hle3:xs.length*sz≤cap*sz:=y1s _ h5
  rw[y4r] at hle hle2
  refine⟨⟨h0,by omega⟩,C.cc hh hx h1 (by omega) fun w' hu=>hk w' ?_ (hu.fr.mono (by simp[qaa,Value.ownBlock])) hu.sz⟩
  have hxl:x.cells.toList.length=sz:=by simpa using hx
  rw[y4k] at hu
  have hsz:(qa2 cur.toList (j.toNat*sz) x.cells.toList).length=cur.toList.length:=qfb (by rw[hxl];simp;omega)
  have ht:(cur.toList.take (xs.length*sz)).length=xs.length*sz:=List.length_take_of_le (by simp;omega)
  refine qad.of_block (n:=xs.length) hu.at_ (by simp) h5 (by unfold maxLen at h6;omega) (by rw[List.size_toArray,hsz];simpa using h7) (fun y hy=>?_) ?_
  ·rcases y0r hy with hy | rfl
   ·exact h4 y hy
   ·exact⟨hxl,h1⟩
  ·rw[qhr hxl xs (fun y hy=>(h4 y hy).1) _ hj, ←h8]
   show (qa2 cur.toList (j.toNat*sz) x.cells.toList).take (xs.length*sz)=qa2 (cur.toList.take (xs.length*sz)) (j.toNat*sz) x.cells.toList
   generalize hT:cur.toList.take (xs.length*sz)=T at *
   have hc:cur.toList=T ++ cur.toList.drop (xs.length*sz):=by rw[←hT];exact (y1k _ _).symm
   rw[hc,qj1 (by rw[hxl,ht];omega)]
   exact List.take_left' (by rw[qfb (by rw[hxl,ht];omega),ht])
end
def qaj (w:World) (v:Value):Prop:=∀g,v.ownBlock=some g→w.heap.size≤g
theorem qaj.mono {w w':World} {v:Value} (h:qaj w' v) (hf:w.heap.size≤w'.heap.size):qaj w v:=fun g hg=>y4i hf (h g hg)
theorem qaj.nil (w:World):qaj w (.slice none 0 0):=fun g hg=>by simp[Value.ownBlock] at hg
theorem qaj.blk {w:World} {v:Value} (h:qaj w v):∀g∈qaa v,w.heap.size≤g:=fun g hg=>h g (qam.1 hg)
theorem qqf {c:Array Value} {sz:Nat} (hc:c.size=sz) (h0:0<sz) (n:Nat):(madeCells c (n*sz)).toList=(List.replicate n c.toList).flatten:=by
 have hl:∀x∈List.replicate n c.toList,x.length=sz:=fun x hx=>by rw[y0w hx];simpa using hc
 apply y2r
 intro k
 by_cases hk:k<n*sz
 ·have hdiv:k / sz<n:=Nat.div_lt_of_lt_mul (by rwa [y4m])
  have hmod:k % sz<sz:=Nat.mod_lt _ h0
  have e2:=qc4 _ hl (k / sz) c.toList (by rw[y1a,if_pos hdiv]) (k % sz) hmod
  have hk':k / sz*sz+k % sz=k:=by rw[y4m];exact Nat.div_add_mod k sz
  rw[hk'] at e2
  rw[e2]
  unfold madeCells
  simp[hk,hc]
  rw[y0n (by omega),getElem!_pos c _ (by omega)]
 ·rw[y1l (by unfold madeCells;simp;omega),y1l (by rw[qc5 _ hl];simp;omega)]
section
variable {P:Program} {K:VK} {w:World}
theorem qad.mem_lt {w:World} {v:Value} {e:TypeId} {sz:Nat} {xs:List (List Value)} (h:qad w v e sz xs):∀g∈qaa v,g<w.heap.size:=fun g hg=>h.lt (qam.1 hg)
theorem qad.keep' {S:List Nat} {w w':World} {v:Value} {e:TypeId} {sz:Nat} {xs:List (List Value)} (h:qad w v e sz xs) (hf:Fr S w w') (hS:∀g∈qaa v,g∉S):qad w' v e sz xs:=h.keep hf fun g hg=>hS g (qam.2 hg)
theorem qad.cap {v:Value} {e:TypeId} {sz:Nat} {xs:List (List Value)} (h:qad w v e sz xs):∃A c,v = .slice A xs.length c∧xs.length≤c∧(A=none→xs=[]):=by
 obtain⟨⟨_,h⟩,_⟩:=h
 rcases h with⟨rfl,h⟩ | ⟨g,cap,cur,rfl,_,_,h1,_⟩
 ·exact⟨none,0,by rw[h],by omega,fun _=>y0d h⟩
 ·exact⟨_,cap,rfl,h1,fun h=>by cases h⟩
theorem qad.one {v:Value} {e:TypeId} {sz:Nat} {xs:List (List Value)} (h:qad w v e sz xs):v.oneCell'=true∧v.cells = #[v]:=by
 obtain⟨A,c,rfl⟩:=h.len
 exact⟨rfl,rfl⟩
theorem qad.take {A:Option Addr} {n c sz:Nat} {e:TypeId} {xs:List (List Value)} (h:qad w (.slice A n c) e sz xs) (m:Nat) (hm:m≤n) (hA:A=none→m=0):qad w (.slice A m c) e sz (xs.take m):=by
 obtain⟨⟨h1,h2⟩,h3⟩:=h
 have h3':∀x∈xs.take m,x.length=sz∧∀u∈x,u.oneCell'=true:=fun x hx=>h3 x (y1t hx)
 rcases h2 with⟨he,hn⟩ | ⟨g,cap,cur,he,hb,hh,r1,r2,r3,r4⟩
 ·simp only[y2p] at he
  obtain⟨rfl,rfl,rfl⟩:=he
  have:m=0:=by omega
  subst this
  simp only[List.take_zero]
  exact qad.nil w e sz
 ·simp only[y2p] at he
  obtain⟨rfl,rfl,rfl⟩:=he
  have hl:(xs.take m).length=m:=by rw[y3b];omega
  have:=qad.of_block (w:=w) (g:=g) (n:=m) (c:=c) (sz:=sz) (e:=e) (cs:=cur) (xs:=xs.take m) hh hl.symm (by omega) (by unfold maxLen at r2;omega) r3 h3' ?_
  ·exact this
  ·have e1:cur.toList.take (m*sz)=(cur.toList.take (xs.length*sz)).take (m*sz):=by rw[List.take_take,Nat.min_eq_left (y1s _ hm)]
   rw[e1,r4]
   have hlen:∀x∈xs,x.length=sz:=fun x hx=>(h3 x hx).1
   have:xs.flatten=(xs.take m).flatten ++ (xs.drop m).flatten:=by rw[←List.flatten_append,y1k]
   rw[this,List.take_left' (by rw[qc5 _ fun x hx=>hlen x (y1t hx),hl])]
theorem C.b6 {t e:TypeId} {sz bytes:Nat} {z:Value} {k k':IntKind} (n:Nat) (ht:P.underlying t=some (.slice e)) (hinfo:(P.info? e).map (fun i=>(i.zero,i.size,i.bytes))=some (some z,sz,bytes)) (hz:z.cells.size=sz) (hsz:0<sz)
  (h1:∀u∈z.cells.toList,u.oneCell'=true) (hb:bytes*n≤281474976710656) (hm:n≤9223372036854775807)
  (hk:∀g w',New w g (.cells (madeCells z.cells (n*sz)) e) w'→qad w' (.slice (some ⟨g,0,none⟩) n n) e sz (List.replicate n z.cells.toList)→K (.slice (some ⟨g,0,none⟩) n n) w'):C.ay P (Instr.makeSlice t (.int k (n:Int)) (.int k' (n:Int))) w K:=by
 obtain⟨i0,hi,hzz⟩:=y1d.1 hinfo
 simp only[y4e] at hzz
 obtain⟨hz0,hz1,hz2⟩:=hzz
 have hr:=run_make (P:=P) w t e i0 z ht hi hz0 k k' (n:Int) (n:Int) (by omega) (y4s _) (by rw[hz2, ←Int.natCast_mul];omega) (by omega)
 simp only[y2t,hz1] at hr
 have hn:=New.mk' w (.cells (madeCells z.cells (n*sz)) e)
 refine C.a4 hr (hk _ _ hn (qad.of_block hn.at_ (by simp) (y4q _) (by omega) (by unfold madeCells;simp) (fun x hx=>?_) ?_))
 ·rw[y0w hx]
  exact⟨by simpa using hz,h1⟩
 ·rw[qqf hz hsz,y1f]
  rw[qc5 (sz:=sz) _ fun x hx=>by rw[y0w hx];simpa using hz]
  simp
theorem qi1 {g:Nat} {e:TypeId} {cs cs':Array Value} (h:w.heap[g]?=some (.cells cs e (0,0))):Upd w g (.cells cs' e (0,0)) (w.setRow g cs'):=by
 refine⟨⟨rfl,rfl,rfl,by simp[World.setRow],fun b _ hb=>?_⟩,setRow_heap w g cs cs' e _ h,by simp[World.setRow]⟩
 simp only[y2d] at hb
 simp[World.setRow,y1j,Ne.symm hb]
end
end Go.Proofs.YtcakfaakbpdklaaGreatDoorV
namespace Go.Proofs.YtcakfaakbpdklaaGreatDoorV
open Go Go.Proofs Go.RowKit
def w64 (n:Int):Int:=IntKind.i64.wrap n
def csz (k:Int):Int:=if k=1 then 2 else if k=2 then 4 else if k=3 then 8 else if k=4 then 16 else 0
def cOf (n:Int):Int:=if n<0∨n>127 then 0 else if n<2 then 1 else if n<4 then 2 else if n<8 then 3 else if n<16 then 4 else 5
def qae (k:Int):Int:=if k=1 then 16 else if k=2 then 8 else if k=3 then 4 else if k=4 then 2 else 0
def qcu (n:Int):Int:=if cOf n=5 then (n+32) / 32 else 0
def qap (a:Int):Int:=if 0≤a∧a<2048 then a / 32 else -1
def gAt (p k i:Int):Int × Bool:=if 0≤p∧p<64∧0≤i∧i<qae k then (p*32+i*csz k,true) else (0,false)
def qcx (k a:Int):Int:=if csz k=0∨qap a<0 then -1 else a-a % csz k
def qfr (k a:Int):Int × Bool:=if qcx k a<0∨qcx k a≠a then (0,false) else (a % 32 / csz k,true)
def qfs (p n:Int):Int × Int × Bool:=if 0≤p∧1≤n∧p<64∧n≤64-p then (p*32,(p+n)*32-1,true) else (0,0,false)
def qem (s n:Int):Int:=if 0≤s∧s<1099511627776∧0≤n∧n≤127 then s*128+n else 0
def qf5 (w:Int):Int × Int:=if 0≤w∧w / 128<1099511627776 then (w / 128,w % 128) else (0,0)
abbrev V2:=Int × Int
def chk (k n:Int):Int:=if k=0 then (if n=0 then 0 else 4) else if k=1 then (if -1099511627776≤n∧n<1099511627776 then 0 else 4) else if k=2 then (if 0≤n∧n<2048 then 0 else 4) else 12
def qlq (k n:Int):Int:=if k=2 then 2*n+2 else if k=1 then 2*n+1 else 0
def rdK (a:Int):Int:=if a % 2=1 then 1 else if a=0 then 0 else 2
def rdN (a:Int):Int:=if a % 2=1 then a / 2 else if a=0 then 0 else a.tdiv 2-1
def vOk (v:V2):Bool:=decide (chk v.1 v.2=0)
def qdh (v:V2):Int:=qlq v.1 v.2
def qgm (w:Int):V2 × Bool:=if chk (rdK w) (rdN w)=0 then ((rdK w,rdN w),true) else ((0,0),false)
def mIn (m:List Int) (a n:Int):Prop:=0≤a∧0≤n∧a≤m.length∧n≤m.length-a
instance (m:List Int) (a n:Int):Decidable (mIn m a n):=by unfold mIn;infer_instance
def qao (m:List Int) (a:Int):Int:=if mIn m a 1 then m.getD a.toNat 0 else 0
def qba (m:List Int) (a n w:Int):List Int:=if mIn m a n then m.take a.toNat ++ List.replicate n.toNat w ++ m.drop (a.toNat+n.toNat) else m
theorem qbs (m:List Int) (a n w:Int):(qba m a n w).length=m.length:=by
 unfold qba
 split
 ·rename_i h
  unfold mIn at h
  simp only[y2g,y3b,y1m,y3c]
  omega
 ·rfl
def qb9 (m:List Int) (a w:Int):List Int:=qba m a 1 w
abbrev Bs:=Nat→Bool
def qd0 (n:Int) (s:Bs) (i:Int):Bool:=decide (0≤i) && decide (i<n) && s i.toNat
def qay (s:Bs) (i:Nat) (b:Bool):Bs:=fun j=>if j=i then b else s j
def qjd (n:Int) (s:Bs) (i:Int):Bs:=if 0≤i∧i<n then qay s i.toNat true else s
def qlb (n:Int) (s:Bs) (i:Int):Bs:=if qd0 n s i then qay s i.toNat false else s
def qgt (n:Int) (s:Bs):List Int:=((List.range n.toNat).filter s).map Int.ofNat
def kAt (ks:List Int) (p:Int):Int:=if 0≤p∧p<ks.length then ks.getD p.toNat 0 else -1
def qeq (ks:List Int) (k:Int):Option Nat:=if csz k=0 then none else ks.findIdx? fun k=>decide (k=0)
def qde (n:Nat):List Int→Nat→Nat→Option Nat
 | [],p,run=>if n≤run then some (p-run) else none
 | k :: ks,p,run=>if k=0 then qde n ks (p+1) (run+1) else if 0<run∧n≤run then some (p-run) else qde n ks (p+1) 0
def qd4 (ks:List Int) (n:Int):Option Nat:=if n<1 then none else qde n.toNat ks 0 0
def qbi (ks:List Int) (p n:Nat) (k:Int):List Int:=ks.take p ++ List.replicate n k ++ ks.drop (p+n)
def qb6:List Int→Nat
 | []=>0
 | k :: ks=>if k=6 then qb6 ks+1 else 0
def qaq (ks:List Int) (p:Int):Nat:=if csz (kAt ks p)>0 then 1 else if kAt ks p=5 then qb6 (ks.drop (p.toNat+1))+1 else 0
def qhl (ks:List Int) (p:Int):List Int:=if qaq ks p=0 then ks else qbi ks p.toNat (qaq ks p) 0
def qcz (ks:List Int):Nat→Int
 | 0=>if kAt ks 0=6 then -1 else 0
 | p+1=>if kAt ks ((p+1:Nat):Int)=6 then qcz ks p else ((p+1:Nat):Int)
def qeb (ks:List Int) (p:Int):Int:=if qaq ks (if 0≤p then qcz ks p.toNat else p)=0 then -1 else if 0≤p then qcz ks p.toNat else p
def qa1 (ks:List Int):Int:=ks.countP fun k=>decide (k=0)
def qd3 (m:List Int) (p k:Int):Prop:=0≤p∧p<64∧0<qae k∧p*32+31<m.length
instance (m:List Int) (p k:Int):Decidable (qd3 m p k):=by unfold qd3;infer_instance
def qe8 (m:List Int) (p k i next:Int):List Int:=qb9 m (gAt p k i).1 (-1-next)
def qcy (m:List Int) (p k:Int):Nat→List Int
 | 0=>m
 | i+1=>qe8 (qcy m p k i) p k i (i+1)
def qb8 (m:List Int) (p k:Int):List Int × (Int × Int):=if qd3 m p k then (qcy (qba m (p*32) 32 0) p k (qae k).toNat,(0,qae k)) else (m,(0,0))
def qkj (m:List Int) (p k i:Int):Option Int:=let w:=qao m (gAt p k i).1;if 0≤w∨w < -1-qae k then none else some (-1-w)
def qch (m:List Int) (p k:Int) (l:Int × Int):Int × (Int × Int):=if qd3 m p k∧1≤l.2∧0≤l.1∧l.1<qae k then (match qkj m p k l.1 with
  | some x=>(l.1,(x,l.2-1))
  | none=>(0,(0,0))) else (0,(0,0))
def qdr (m:List Int) (p k:Int) (l:Int × Int) (i:Int):List Int × (Int × Int):=if qd3 m p k∧0≤i∧i<qae k∧0≤l.2∧l.2<qae k∧0≤l.1∧l.1≤qae k then (qe8 m p k i l.1,(i,l.2+1)) else (m,(0,0))
structure Ce where
 ks:List Int
 m:List Int
 ch:List (Int × Int)
 tk:Bs
def Ce.n (c:Ce):Int:=c.m.length
def Ce.small (c:Ce) (p:Int):Bool:=decide (csz (kAt c.ks p)>0)
def Ce.chain (c:Ce) (p:Int):Int × Int:=c.ch.getD p.toNat (0,0)
def Ce.left (c:Ce) (p:Int):Int:=if c.small p then (c.chain p).2 else 0
def Ce.carve (c:Ce) (k:Int):Ce × Option Nat:=match qeq c.ks k with
 | none=>(c,none)
 | some p=>({ c with ks:=c.ks.set p k,m:=(qb8 c.m p k).1,ch:=c.ch.set p (qb8 c.m p k).2 },some p)
def Ce.take (c:Ce) (p:Int):Ce × Option Int:=if c.left p=0 then (c,none) else
 let k:=kAt c.ks p
 let r:=qch c.m p k (c.chain p)
 let a:=(gAt p k r.1).1
 ({ c with ch:=c.ch.set p.toNat r.2,tk:=qjd c.n c.tk a,m:=qba c.m a (csz k) 0 },some a)
def Ce.large (c:Ce) (n:Int):Ce × Option Int:=match qd4 c.ks n with
 | none=>(c,none)
 | some p=>
  let a:=(qfs p n).1
  ({ c with ks:=(qbi c.ks p n.toNat 6).set p 5,tk:=qjd c.n c.tk a,m:=qba c.m a (n*32) 0 },some a)
def Ce.isIt (c:Ce) (a:Int):Bool:=qd0 c.n c.tk a
def Ce.give (c:Ce) (a:Int):Ce × Bool:=if c.isIt a then
  let t:=qlb c.n c.tk a
  let p:=qap a
  let k:=kAt c.ks p
  if k=5 then ({ c with tk:=t,ks:=qhl c.ks p },true) else
  let r:=qdr c.m p k (c.chain p) (qfr k a).1
  ({ c with tk:=t,m:=r.1,ch:=c.ch.set p.toNat r.2 },true) else (c,false)
def Ce.drop (c:Ce) (p:Int):Ce × Bool:=if c.small p∧qae (kAt c.ks p)≤c.left p then ({ c with ks:=qhl c.ks p },true) else (c,false)
def Ce.base (c:Ce) (a:Int):Int:=
 let p:=qap a
 let b:=qcx (kAt c.ks p) a
 let f:=qeb c.ks p
 let d:=if b<0∧0≤f then (qfs f 1).1 else b
 if c.isIt d then d else -1
def Ce.store (c:Ce) (a w:Int):Ce × Bool:=if 0≤c.base a∧mIn c.m a 1 then ({ c with m:=qb9 c.m a w },true) else (c,false)
abbrev Om:=Int × Int→Option Int
def qev:List (Int × Int):=(List.range 9).flatMap fun t:Nat=>[(Int.ofNat t,1),(Int.ofNat t,2),(Int.ofNat t,3),(Int.ofNat t,4)]
def qdw (f:Om) (a:Int × Int):Int:=(f a).getD (-1)
def qbt (f:Om) (p:Int):Int × Int:=match qev.find? (fun a=>decide (f a=some p)) with
 | some a=>a
 | none=>(-1,0)
def qln (f:Om) (a:Int × Int) (p:Int):Om:=fun b=>if b=a then some p else f b
def qio (f:Om) (t:Int):Om:=fun b=>if b.1=t then none else f b
def qd5 (f:Om) (t:Int):List Int:=([1,2,3,4]:List Int).filterMap fun k=>f (t,k)
structure Cf where
 pages:Int
 threads:Int
 window:Int
 quantum:Int
 target:Int
 cap:Int
 tax:Int
 chunk:Int
 stack:Int
 trigger:Int
structure St where
 c:Ce
 own:Om
 made:Int
def St.begin (s:St) (a n:Int):St:={ s with c:=(s.c.store a (qem s.made n)).1,made:=w64 (s.made+1) }
def St.fast (s:St) (t n:Int):St × Option Int:=if csz (cOf n)=0 then (s,none) else
 match s.c.take (qdw s.own (t,cOf n)) with
 | (_,none)=>(s,none)
 | (c,some a)=>(({ s with c:=c }:St).begin a n,some a)
def qnh (nt:Int) (f:Om) (t k p:Int):Prop:=0≤t∧t<nt∧csz k≠0∧0≤p∧p<64∧(qbt f p).1<0
instance (nt:Int) (f:Om) (t k p:Int):Decidable (qnh nt f t k p):=by unfold qnh;infer_instance
def St.openAt (s:St) (k:Int):Nat→Nat→Option Nat
 | 0,_=>none
 | d+1,p=>if (qbt s.own p).1<0∧kAt s.c.ks p=k∧0<s.c.left p then some p else St.openAt s k d (p+1)
def St.openP (np:Nat) (s:St) (k:Int):St × Option Int:=match s.openAt k np 0 with
 | some p=>(s,some p)
 | none=>({ s with c:=(s.c.carve k).1 },(s.c.carve k).2.map fun p=>(p:Int))
def St.slow (np:Nat) (nt:Int) (s:St) (t n:Int):St × Int × Int:=
 let k:=cOf n
 if k=0∨t<0∨nt≤t then (s,0,4) else
 if k=5 then (match s.c.large (qcu n) with
  | (_,none)=>(s,0,10)
  | (c,some a)=>(({ s with c:=c }:St).begin a n,a,0)) else
 match s.fast t n with
 | (s',some a)=>(s',a,0)
 | (_,none)=>match s.openP np k with
  | (_,none)=>(s,0,10)
  | (s',some p)=>
   let s2:St:=if qnh nt s'.own t k p then { s' with own:=qln s'.own (t,k) p } else s'
   ((s2.fast t n).1,((s2.fast t n).2.getD 0),0)
def St.read (s:St) (a:Int):Int × Int:=if s.c.isIt a then qf5 (qao s.c.m a) else (-1, -1)
def St.fields (s:St) (a:Int):Int:=(s.read a).2
def St.serial (s:St) (a:Int):Int:=(s.read a).1
def St.get (s:St) (a i:Int):V2 × Bool:=if 0≤i∧i<s.fields a then qgm (qao s.c.m (w64 (w64 (a+1)+i))) else ((0,0),false)
def St.set (s:St) (a i:Int) (v:V2):St × Bool:=if vOk v∧0≤i∧i<s.fields a then ({ s with c:=(s.c.store (w64 (w64 (a+1)+i)) (qdh v)).1 },(s.c.store (w64 (w64 (a+1)+i)) (qdh v)).2) else (s,false)
def St.objects (s:St):List Int:=qgt s.c.n s.c.tk
def St.inP (s:St) (p:Int):List Int:=s.objects.filter fun a=>decide (qap a=p)
def St.dropAll (s:St):List Int→St
 | []=>s
 | p :: ps=>St.dropAll { s with c:=(s.c.drop p).1 } ps
def St.quit (s:St) (t:Int):St:=St.dropAll { s with own:=qio s.own t } ((qd5 s.own t).mergeSort fun x y=>decide (x≤y))
def St.trim (s:St) (p:Int):St:=if (qbt s.own p).1<0 then { s with c:=(s.c.drop p).1 } else s
structure Gy where
 l:List (Int × Int)
 over:Bool
 mks:Bs
def Gy.push (room:Int) (g:Gy) (e:Int × Int):Gy:=if (g.l.length:Int)=room then { g with over:=true } else { g with l:=g.l ++ [e] }
def Gy.is (g:Gy) (a:Int):Bool:=qd0 2048 g.mks a
def Gy.black (g:Gy) (a:Int):Gy:=if 0≤a∧a<2048 then { g with mks:=qay g.mks a.toNat true } else g
def Gy.shade (room:Int) (g:Gy) (a:Int):Gy:=if 0≤a∧a<2048∧¬g.is a then (g.black a).push room (a,0) else g
def Gy.shadeAll (room:Int) (g:Gy):List Int→Gy
 | []=>g
 | a :: l=>Gy.shadeAll room (g.shade room a) l
def Gy.clear (g:Gy) (a:Int):Gy:=if g.is a then { g with mks:=qay g.mks a.toNat false } else g
structure Rg where
 ep:Int
 l:List (Bool × Int)
def Rg.live (r:Rg) (t:Int):Bool:=decide (0≤t) && decide (t<r.l.length) && (r.l.getD t.toNat (false,0)).1
def Rg.ofT (r:Rg) (t:Int):Int:=if r.live t then (r.l.getD t.toNat (false,0)).2 else -1
def Rg.agreed (r:Rg):Bool:=r.l.all fun m => !(m.1 && decide (m.2<r.ep))
def Rg.attach (r:Rg) (t:Int):Rg × Bool:=if 0≤t∧t<r.l.length∧¬r.live t then ({ r with l:=r.l.set t.toNat (true,r.ep) },true) else (r,false)
def Rg.detach (r:Rg) (t:Int):Rg:=if r.live t then { r with l:=r.l.set t.toNat (false,0) } else r
def Rg.confirm (r:Rg) (t:Int):Rg × Bool:=if r.live t∧r.ofT t<r.ep then ({ r with l:=r.l.set t.toNat (true,r.ep) },true) else (r,false)
def Rg.raise (r:Rg):Rg:={ r with ep:=w64 (r.ep+1) }
def fOf (b:List (List Int)) (t:Int):List Int:=if 0≤t then b.getD t.toNat [] else[]
def qe7 (b:List (List Int)) (t a:Int):List (List Int):=if 0≤t∧t<b.length∧0≤qap a∧a∉fOf b t then b.set t.toNat (fOf b t ++ [a]) else b
def qb3 (b:List (List Int)) (t:Int):List (List Int):=if 0≤t∧t<b.length then b.set t.toNat [] else b
def qea (b:List (List Int)):Bool:=b.all fun l=>l.isEmpty
structure Co where
 s:St
 g:Gy
 r:Rg
 b:List (List Int)
 tp:Int
 at_:Int
 freed:Int
 th:List (List V2)
 global:Int
 phase:Int
 cycles:Int
 units:Int
section
variable (cf:Cf)
def qc8 (s:St) (a:Int):Nat→Int→Gy→Gy
 | 0,_,g=>g
 | d+1,i,g=>qc8 s a d (i+1) (if (s.get a i).1.1=2 then g.shade cf.stack (s.get a i).1.2 else g)
def qbr (s:St):List Int→Gy→Gy
 | [],g=>g
 | a :: l,g=>qbr s l (if g.is a then qc8 cf s a (s.fields a).toNat 0 g else g)
def Co.look (c:Co):Co:={ c with g:=qbr cf c.s (c.s.inP c.tp) c.g,tp:=if w64 (c.tp+1)=cf.pages then -1 else w64 (c.tp+1) }
def Co.entry (c:Co) (e:Int × Int):Co:=
 let n:=c.s.fields e.1
 if e.2<0∨n≤e.2 then c else
 let to:=min (w64 (e.2+cf.chunk)) n
 let g:=if to<n then c.g.push cf.stack (e.1,to) else c.g
 { c with g:=qc8 cf c.s e.1 (to-e.2).toNat e.2 g }
def Co.tIdle (c:Co):Bool:=c.g.l.isEmpty && decide (c.tp = -1) && !c.g.over
def Co.tUnit (c:Co):Co × Bool:=if c.tIdle then (c,false) else
 match c.g.l.getLast? with
 | some e=>(({ c with g:={ c.g with l:=c.g.l.dropLast } }:Co).entry cf e,true)
 | none=>(if c.tp = -1 then ({ c with g:={ c.g with over:=false },tp:=0 }:Co).look cf else c.look cf,true)
def Co.sweepOne (c:Co) (a:Int):Co:=if c.g.is a then { c with g:=c.g.clear a } else { c with s:={ c.s with c:=(c.s.c.give a).1 },freed:=if (c.s.c.give a).2 then w64 (c.freed+1) else c.freed }
def Co.sweepAll (c:Co):List Int→Co
 | []=>c
 | a :: l=>Co.sweepAll (c.sweepOne a) l
def Co.wUnit (c:Co):Co × Bool:=if cf.pages≤c.at_ then (c,false) else
 let d:=c.sweepAll (c.s.inP c.at_)
 ({ d with s:=d.s.trim d.at_,at_:=w64 (d.at_+1) },true)
def Co.raise (c:Co) (p:Int):Co:={ c with phase:=p,r:=c.r.raise }
def Co.advance:Nat→Co→Co
 | 0,c=>c
 | d+1,c=>if c.r.agreed then
   if c.phase=1 then Co.advance d (({ c with b:=c.b.map fun _=>[],g:=c.g.shade cf.stack c.global }:Co).raise 2)
   else if c.phase=2 then Co.advance d { c with phase:=3 }
   else if c.phase=4∧qea c.b∧c.tIdle then Co.advance d { c with phase:=5,at_:=0,freed:=0 }
   else if c.phase=4 then Co.advance d { c with phase:=3 }
   else c
  else c
def Co.adv (c:Co):Co:=Co.advance cf 4 c
def Co.beginC (c:Co):Co × Bool:=if c.phase=0 then ((({ c with units:=0 }:Co).raise 1).adv cf,true) else (c,false)
def Co.marking (c:Co):Bool:=decide (2≤c.phase) && decide (c.phase≤4)
def Co.attach (c:Co) (t:Int):Co:={ c with r:=(c.r.attach t).1 }
def Co.detach (c:Co) (t:Int):Co:=if c.r.live t then
  let g:=if c.marking then c.g.shadeAll cf.stack (fOf c.b t) else c.g
  ({ c with b:=qb3 c.b t,g:=g,th:=c.th.set t.toNat [],s:=c.s.quit t,r:=c.r.detach t }:Co).adv cf
 else c
def qb4 (l:List V2):List Int:=l.foldl (fun out v=>if v.1=2∧v.2∉out then out ++ [v.2] else out) []
def Co.poll (c:Co) (t:Int):Co:=if (c.r.confirm t).2 then
  let c1:Co:={ c with r:=(c.r.confirm t).1 }
  let c2:Co:=if c.phase=2 then { c1 with g:=c1.g.shadeAll cf.stack (qb4 (c.th.getD t.toNat [])) }
   else if c.phase=4 then { c1 with g:=c1.g.shadeAll cf.stack (fOf c.b t),b:=qb3 c.b t } else c1
  c2.adv cf
 else c
def Co.unit (c:Co):Co × Bool:=
 let r:Co × Bool:=if c.phase=3 then (match c.tUnit cf with
   | (d,true)=>(d,true)
   | (d,false)=>((d.raise 4).adv cf,false))
  else if c.phase=5 then (match c.wUnit cf with
   | (d,did)=>(if cf.pages≤d.at_ then { d with phase:=0,cycles:=w64 (d.cycles+1) } else d,did))
  else (c,false)
 (if r.2 then { r.1 with units:=w64 (r.1.units+1) } else r.1,r.2)
def Co.may (c:Co) (v:V2):Bool:=vOk v && (!decide (v.1=2) || decide (0≤c.s.fields v.2))
def Co.push (c:Co) (t:Int) (v:V2):Co × Bool:=if c.r.live t∧c.may v∧(c.th.getD t.toNat []).length<16 then ({ c with th:=c.th.set t.toNat (c.th.getD t.toNat [] ++ [v]) },true) else (c,false)
def Co.pop (c:Co) (t:Int):Co × Option V2:=if c.r.live t then (match (c.th.getD t.toNat []).getLast? with
  | some v=>({ c with th:=c.th.set t.toNat (c.th.getD t.toNat []).dropLast },some v)
  | none=>(c,none)) else (c,none)
def Co.roots (c:Co) (t:Int):List V2:=if c.r.live t then c.th.getD t.toNat [] else[]
def Co.color (c:Co) (a:Int):Co:=if c.phase=2 then { c with g:=c.g.shade cf.stack a } else if c.phase=3∨c.phase=4∨(c.phase=5∧c.at_≤qap a) then { c with g:=c.g.black a } else c
def Co.fast (c:Co) (t n:Int):Co × Option Int:=if c.r.live t then (match c.s.fast t n with
  | (_,none)=>(c,none)
  | (s,some a)=>(({ c with s:=s }:Co).color cf a,some a)) else (c,none)
def Co.slow (c:Co) (t n:Int):Co × Int × Int:=if c.r.live t then (match c.s.slow cf.pages.toNat (cf.threads+1) t n with
  | (s,a,e)=>(if e=0 then ({ c with s:=s }:Co).color cf a else { c with s:=s },a,e)) else (c,0,4)
def Co.barrier (c:Co) (t:Int):Bool:=c.marking || (decide (c.phase=1) && decide (c.r.ofT t=c.r.ep))
def Co.write (c:Co) (t a i:Int) (v:V2):Co × Bool:=if c.r.live t∧c.may v∧(c.s.get a i).2 then
  let o:=(c.s.get a i).1
  let b:=if o.1=2∧¬c.g.is o.2∧c.barrier t then qe7 c.b t o.2 else c.b
  ({ c with b:=b,s:=(c.s.set a i v).1 },(c.s.set a i v).2)
 else (c,false)
end
def upd {α : Type} (f:Nat → α) (t:Nat) (x : α):Nat → α := fun u=>if u=t then x else f u
def cnt (l:List Bool):Nat:=l.count true
def qe9 (k:Nat) (l:List Bool):List Bool:=l.drop (l.length-k)
def qdy (win most n:Int) (l:List Bool):Bool:=decide (0≤n∧n≤most∧(cnt (l.drop ((l.length:Int)+n-win).toNat):Int)+n≤most)
structure Stp where
 kd:Int
 t:Int
 i:Int
 f:Int
 j:Int
 cost:Int
 n:Int
deriving DecidableEq
structure Ans where
 code:Int
 kd:Int
 n:Int
 done:Int
 credit:Int
deriving DecidableEq
def Ans.ok:Ans:=⟨0,0,0,0,0⟩
def Ans.err (e:Int):Ans:=⟨e,0,0,0,0⟩
structure Ma where
 co:Co
 lg:Nat→List Bool
 bi:Int
 bo:Int
 bl:Int
def qa8 (k:Int):List Bool:=
 if k=1∨k=2∨k=5∨k=6∨k=8∨k=14 then[true,false,false,false,false,false] else
 if k=3∨k=15 then[true,false,false,false,true,true] else
 if k=4∨k=13 then[true,false,false,false,false,true] else
 if k=7∨k=12 then[true,true,false,false,false,false] else
 if k=9 then[true,true,true,false,false,false] else
 if k=10 then[true,true,true,true,false,false] else
 if k=11 then[true,true,false,true,false,false] else
 if k=16 then[false,false,false,false,false,true] else[false,false,false,false,false,false]
def Stp.small (x:Stp):List Int:=[x.t,x.i,x.f,x.j,x.cost]
def Stp.check (x:Stp):Int:=
 if x.kd<1∨17<x.kd then 12 else
 if x.small.any (fun n=>decide (n<0) || decide (255<n)) then 4 else
 if (x.small.zip (qa8 x.kd)).any (fun y=>decide (y.1≠0) && !y.2) then 16 else
 if x.n≠0∧(qa8 x.kd).getD 5 false=false then 16 else 0
section
variable (cf:Cf)
def Cf.most:Int:=(cf.window*(1000-cf.target)).tdiv 1000
def Ma.ownT (m:Ma) (t n:Int):Ma:={ m with lg:=upd m.lg t.toNat (qe9 cf.window.toNat (m.lg t.toNat ++ List.replicate (min n cf.window).toNat false)) }
def Ma.admt (m:Ma) (t n:Int):Bool:=qdy cf.window cf.most n (m.lg t.toNat)
def Ma.charge (m:Ma) (t n:Int):Ma:=if m.admt cf t n then { m with lg:=upd m.lg t.toNat (qe9 cf.window.toNat (m.lg t.toNat ++ List.replicate (min n cf.window).toNat true)) } else m
def Co.workN:Nat→Co→Co × Nat
 | 0,c=>(c,0)
 | d+1,c=>match c.unit cf with
  | (c',false)=>(c',0)
  | (c',true)=>((Co.workN d c').1,(Co.workN d c').2+1)
def Ma.put (m:Ma) (n:Int):Ma:=let kept:=min n (cf.cap-(m.bi-m.bo)); { m with bi:=m.bi+kept,bl:=m.bl+(n-kept) }
def Ma.ahead (m:Ma) (n:Int):Ma × Ans:=let r:=m.co.workN cf n.toNat; (({ m with co:=r.1 }:Ma).put cf r.2,⟨0,0,0,r.2,0⟩)
def Ma.told (m:Ma) (v:V2):Int × Int:=(v.1,if v.1=2 then m.co.s.serial v.2 else v.2)
def Ma.who (m:Ma) (x:Stp):Int:=if 16≤x.kd then 0 else if cf.threads≤x.t then 4 else if x.kd=1∧m.co.r.live x.t then 9 else if x.kd≠1∧¬m.co.r.live x.t then 14 else 0
def Ma.tax (m:Ma) (x:Stp):Ma × Ans:=if m.co.phase≠3∧m.co.phase≠5 then (m,Ans.ok) else
 let credit:=min (m.bi-m.bo) cf.tax
 let rest:=cf.tax-credit
 if ¬m.admt cf x.t (rest*x.cost) then (m,Ans.err 21) else
 let m1:Ma:={ m with bo:=m.bo+credit }
 let r:=m1.co.workN cf rest.toNat
 (({ m1 with co:=r.1 }:Ma).charge cf x.t (r.2*x.cost),⟨0,0,0,r.2,credit⟩)
def Ma.slow (m:Ma) (x:Stp):Ma × Int × Ans:=
 let m1:Ma:=if m.co.phase=0∧qa1 m.co.s.c.ks<cf.trigger then { m with co:=(m.co.beginC cf).1 } else m
 let r:=m1.tax cf x
 if r.2.code≠0 then (r.1,0,r.2) else
 let q:=r.1.co.slow cf x.t x.n
 ({ r.1 with co:=q.1 },q.2.1,{ r.2 with code:=q.2.2 })
def qdx (a:Int):V2:=if 0≤a∧a<2048 then (2,a) else (0,0)
def Ma.got (m:Ma) (x:Stp) (a:Int) (y:Ans):Ma × Ans:=
 let m1:Ma:={ m with co:=(m.co.push x.t (qdx a)).1 }
 (m1,{ y with kd:=(m1.told (qdx a)).1,n:=(m1.told (qdx a)).2 })
def Ma.alloc (m:Ma) (x:Stp):Ma × Ans:=
 if x.n<0∨127<x.n∨x.cost<1∨cf.quantum<x.cost then (m,Ans.err 4) else
 if (m.co.roots x.t).length=16 then (m,Ans.err 3) else
 match m.co.fast cf x.t x.n with
 | (c,some a)=>({ m with co:=c }:Ma).got x a Ans.ok
 | (_,none)=>
  let r:=m.slow cf x
  if r.2.2.code≠0 then (r.1,r.2.2) else r.1.got x r.2.1 r.2.2
def Ma.root (m:Ma) (t i:Int):Option V2:=(m.co.roots t)[i.toNat]?
def Ma.object (m:Ma) (x:Stp):Int × Int:=match m.root x.t x.i with
 | none=>(0,4)
 | some v=>if v.1≠2 then (0,12) else (v.2,0)
def Ma.value (m:Ma) (x:Stp):V2 × Int:=
 if x.kd=4 then (if chk 1 x.n=0 then ((1,x.n),0) else ((0,0),4)) else
 if x.kd=6 then (qdx m.co.global,0) else
 if x.kd=7 then (match m.root x.t x.i with | some v=>(v,0) | none=>((0,0),4)) else
 if x.kd=9 then (if (m.object x).2≠0 then ((0,0),(m.object x).2) else if (m.co.s.get (m.object x).1 x.f).2 then ((m.co.s.get (m.object x).1 x.f).1,0) else ((0,0),4)) else ((0,0),0)
def Ma.pushS (m:Ma) (x:Stp):Ma × Ans:=
 if (m.value x).2≠0 then (m,Ans.err (m.value x).2) else
 match m.co.push x.t (m.value x).1 with
 | (_,false)=>(m,Ans.err 3)
 | (c,true)=>let m1:Ma:={ m with co:=c }; (m1,⟨0,(m1.told (m.value x).1).1,(m1.told (m.value x).1).2,0,0⟩)
def Ma.writeS (m:Ma) (x:Stp):Ma × Ans:=
 if (m.object x).2≠0 then (m,Ans.err (m.object x).2) else
 match m.root x.t x.j with
 | none=>(m,Ans.err 4)
 | some v=>let r:=m.co.write x.t (m.object x).1 x.f v; ({ m with co:=r.1 },if r.2 then Ans.ok else Ans.err 4)
def Ma.ask (m:Ma) (x:Stp):Ans:=match m.root x.t x.i with
 | none=>Ans.err 4
 | some v=>if x.kd=11∧m.root x.t x.j=none then Ans.err 4 else
  if x.kd=12∧v.1≠2 then Ans.err 12 else
  if x.kd=12 then⟨0,1,m.co.s.fields v.2,0,0⟩ else
  if v=(m.root x.t x.j).getD (0,0) then⟨0,1,1,0,0⟩ else⟨0,1,0,0,0⟩
def Ma.spend (m:Ma) (x:Stp):Ma × Ans:=
 if x.kd=17 then (if (m.co.beginC cf).2 then ({ m with co:=(m.co.beginC cf).1 },Ans.ok) else (m,Ans.err 9)) else
 if x.n<1∨64<x.n then (m,Ans.err 4) else
 if x.kd=13 then (m.ownT cf x.t x.n,Ans.ok) else
 if x.kd=16 then m.ahead cf x.n else
 if x.cost<1∨cf.quantum<x.cost then (m,Ans.err 4) else
 if ¬m.admt cf x.t (x.n*x.cost) then (m,Ans.err 21) else
 let r:=m.ahead cf x.n
 (r.1.charge cf x.t (r.2.done*x.cost),r.2)
def Ma.doS (m:Ma) (x:Stp):Ma × Ans:=
 if x.kd=1 then ({ m with co:=m.co.attach x.t },Ans.ok) else
 if x.kd=2 then ({ m with co:=m.co.detach cf x.t },Ans.ok) else
 if x.kd=3 then m.alloc cf x else
 if x.kd=4∨x.kd=5∨x.kd=6∨x.kd=7∨x.kd=9 then m.pushS x else
 if x.kd=8 then (match m.co.pop x.t with
  | (_,none)=>(m,Ans.err 4)
  | (c,some v)=>let m1:Ma:={ m with co:=c }; (m1,⟨0,(m1.told v).1,(m1.told v).2,0,0⟩)) else
 if x.kd=10 then m.writeS x else
 if x.kd=11∨x.kd=12 then (m,m.ask x) else
 if x.kd=14 then ({ m with co:=m.co.poll cf x.t },Ans.ok) else m.spend cf x
def Ma.step (m:Ma) (x:Stp):Ma × Ans:=
 if x.check≠0 then (m,Ans.err x.check) else
 if m.who cf x≠0 then (m,Ans.err (m.who cf x)) else
 let r:=m.doS cf x
 (if 3≤x.kd∧x.kd≤12∧r.2.code=0 then r.1.ownT cf x.t 1 else r.1,r.2)
def Ce.new (n:Int):Ce:=⟨List.replicate n.toNat 0,List.replicate (n.toNat*32) 0,List.replicate 64 (0,0),fun _=>false⟩
def Co.new:Co:=
 let s:St:=⟨Ce.new cf.pages,fun _=>none,0⟩
 let r:=s.slow cf.pages.toNat (cf.threads+1) cf.threads 4
 ⟨r.1,⟨[],false,fun _=>false⟩,⟨0,List.replicate cf.threads.toNat (false,0)⟩,List.replicate cf.threads.toNat [], -1,cf.pages,0,List.replicate 8 [],r.2.1,0,0,0⟩
def Ma.new:Ma:=⟨Co.new cf,fun _=>[],0,0,0⟩
end
theorem qcb {α : Type} {l:List α} {i:Nat} {d : α} (h:i<l.length):l.getD i d=l[i]:=by
 simp[y0h,y0v h]
theorem qzg {m:List Int} {a:Nat} (h:a<m.length):qao m (a:Int)=m[a]:=by
 unfold qao
 rw[if_pos (by unfold mIn;omega),y2t,qcb h]
theorem qsu {m:List Int} {b:Nat} (h:b<m.length):qao m (b:Int)=(m[b]?).getD 0:=by
 rw[qzg h,y0v h];rfl
theorem qkl {α : Type} {l:List α} {a n:Nat} {x : α} (h:a+n≤l.length) (b:Nat):(l.take a ++ List.replicate n x ++ l.drop (a+n))[b]?=if a≤b∧b<a+n then some x else l[b]?:=by
 have e1:(l.take a).length=a:=by rw[y3b];omega
 have e2:(l.take a ++ List.replicate n x).length=a+n:=by rw[y2g,e1,y1m]
 rw[y1u,e2]
 by_cases c1:b<a+n
 ·rw[if_pos c1,y1u,e1]
  by_cases c2:a≤b
  ·rw[if_neg (by omega),y1a,if_pos (by omega),if_pos ⟨c2,c1⟩]
  ·rw[if_pos (by omega),y2f,if_pos (by omega),if_neg (by omega)]
 ·rw[if_neg c1,if_neg (by omega),y2h]
  congr 1
  omega
theorem qgj {m:List Int} {a n w b:Int} (h:mIn m a n) (hb:0≤b) (hl:b<m.length):qao (qba m a n w) b=if a≤b∧b<a+n then w else qao m b:=by
 have hlen:=qbs m a n w
 obtain⟨b,rfl⟩:=y1b hb
 have hb':b<m.length:=by omega
 rw[qsu (by omega),qsu hb']
 have h':=h
 unfold mIn at h'
 obtain⟨a,rfl⟩:=y1b h'.1
 obtain⟨n,rfl⟩:=y1b h'.2.1
 unfold qba
 rw[if_pos h,y2t,y2t,qkl (by omega)]
 by_cases c:a≤b∧b<a+n
 ·rw[if_pos c,if_pos (by omega)];rfl
 ·rw[if_neg c,if_neg (by omega)]
theorem qft {m:List Int} {a w b:Int} (h0:0≤a) (h1:a<m.length) (hb:0≤b) (hl:b<m.length):qao (qb9 m a w) b=if b=a then w else qao m b:=by
 unfold qb9
 rw[qgj (by unfold mIn;omega) hb hl]
 by_cases c:b=a
 ·rw[if_pos (by omega),if_pos c]
 ·rw[if_neg (by omega),if_neg c]
theorem qc0 (m:List Int) (a w:Int):(qb9 m a w).length=m.length:=qbs _ _ _ _
theorem qcw (k:Int):(k=1∧csz k=2∧qae k=16)∨(k=2∧csz k=4∧qae k=8)∨(k=3∧csz k=8∧qae k=4)∨(k=4∧csz k=16∧qae k=2)∨((k<1∨4<k)∧csz k=0∧qae k=0):=by
 by_cases h1:k=1
 ·subst h1;exact .inl ⟨rfl,rfl,rfl⟩
 by_cases h2:k=2
 ·subst h2;exact .inr (.inl ⟨rfl,rfl,rfl⟩)
 by_cases h3:k=3
 ·subst h3;exact .inr (.inr (.inl ⟨rfl,rfl,rfl⟩))
 by_cases h4:k=4
 ·subst h4;exact .inr (.inr (.inr (.inl ⟨rfl,rfl,rfl⟩)))
 refine .inr (.inr (.inr (.inr ⟨by omega,?_,?_⟩)))
 ·unfold csz;rw[if_neg h1,if_neg h2,if_neg h3,if_neg h4]
 ·unfold qae;rw[if_neg h1,if_neg h2,if_neg h3,if_neg h4]
theorem qet {ks:List Int} {p:Nat} (h:p<ks.length):kAt ks (p:Int)=ks[p]:=by
 unfold kAt
 rw[if_pos (by omega),y2t,qcb h]
theorem qck {ks:List Int} {p:Int} (h:¬(0≤p∧p<ks.length)):kAt ks p = -1:=by
 unfold kAt
 rw[if_neg h]
theorem qnb {ks:List Int} {p:Nat} {k:Int} (q:Nat) (h:p<ks.length):kAt (ks.set p k) (q:Int)=if q=p then k else kAt ks (q:Int):=by
 by_cases hq:q<ks.length
 ·rw[qet (by simpa using hq),qet hq,y3d]
  by_cases c:p=q
  ·subst c;simp
  ·rw[if_neg c,if_neg (Ne.symm c)]
 ·rw[qck (by simp;omega),qck (by omega),if_neg (by omega)]
theorem qbx {ks:List Int} {p n:Nat} {k:Int} (h:p+n≤ks.length):(qbi ks p n k).length=ks.length:=by
 unfold qbi
 simp only[y2g,y3b,y1m,y3c]
 omega
theorem qii {ks:List Int} (p:Nat):kAt ks (p:Int)=(ks[p]?).getD (-1):=by
 by_cases h:p<ks.length
 ·rw[qet h,y0v h];rfl
 ·rw[qck (by omega),y1l (by omega)];rfl
theorem qna {ks:List Int} {p n:Nat} {k:Int} (q:Nat) (h:p+n≤ks.length):kAt (qbi ks p n k) (q:Int)=if p≤q∧q<p+n then k else kAt ks (q:Int):=by
 rw[qii,qii]
 unfold qbi
 rw[qkl h]
 by_cases c:p≤q∧q<p+n
 ·rw[if_pos c,if_pos c];rfl
 ·rw[if_neg c,if_neg c]
theorem qgh:∀(ks:List Int),qb6 ks≤ks.length∧(∀(i:Nat),i<qb6 ks→ks[i]?=some 6)∧ks[qb6 ks]?≠some 6
 | []=>⟨by simp[qb6],by simp[qb6],by simp⟩
 | k :: ks=>by
  obtain⟨h1,h2,h3⟩:=qgh ks
  have e:qb6 (k :: ks)=if k=6 then qb6 ks+1 else 0:=rfl
  by_cases c:k=6
  ·rw[if_pos c] at e
   rw[e]
   refine⟨by simp;omega,fun i hi=>?_,by simpa using h3⟩
   cases i with
   | zero=>simpa using c
   | succ i=>simpa using h2 i (by omega)
  ·rw[if_neg c] at e
   rw[e]
   exact⟨by simp,fun i hi=>by omega,by simpa using c⟩
theorem qy8 (ks:List Int) (n:Nat) (h2:∀i,i<n→ks[i]?=some 6) (h3:ks[n]?≠some 6):qb6 ks=n:=by
 obtain⟨g1,g2,g3⟩:=qgh ks
 rcases Nat.lt_trichotomy (qb6 ks) n with c | c | c
 ·exact absurd (h2 _ c) g3
 ·exact c
 ·exact absurd (g2 n c) h3
def qf0 (m:List Int) (p:Nat) (k:Int):Int→List Nat→Prop
 | f,[]=>f=qae k
 | f,i :: L=>f=i∧∃x,qao m (32*p+i*csz k) = -1-x∧qf0 m p k x L
theorem qf0.keep {m m':List Int} {p:Nat} {k:Int}:∀ {f:Int} {L:List Nat},qf0 m p k f L→(∀i∈L,qao m' (32*p+i*csz k)=qao m (32*p+i*csz k))→qf0 m' p k f L
 | _,[],h,_=>h
 | _,i :: L,⟨h1,x,h2,h3⟩,h=>⟨h1,x,by rw[h i (by simp),h2],qf0.keep h3 fun j hj=>h j (by simp[hj])⟩
structure qlz (c:Ce) (p:Nat) (k:Int) (L:List Nat):Prop where
 nd:L.Nodup
 mem:∀i:Nat,i∈L↔(i:Int)<qae k∧c.tk (32*p+i*(csz k).toNat)=false
 ch:qf0 c.m p k (c.chain p).1 L
 n:(c.chain p).2=L.length
structure CI (c:Ce):Prop where
 np:c.ks.length≤64
 ml:c.m.length=c.ks.length*32
 cl:c.ch.length=64
 tk:∀a:Nat,c.tk a=true→a / 32<c.ks.length∧((0<csz (kAt c.ks ((a / 32:Nat):Int))∧(a:Int) % csz (kAt c.ks ((a / 32:Nat):Int))=0)∨(kAt c.ks ((a / 32:Nat):Int)=5∧a % 32=0))
 six:∀p:Nat,kAt c.ks (p:Int)=6→1≤p∧(kAt c.ks ((p-1:Nat):Int)=5∨kAt c.ks ((p-1:Nat):Int)=6)
 fr:∀p:Nat,0<csz (kAt c.ks (p:Int))→∃L,qlz c p (kAt c.ks (p:Int)) L
theorem qij (ks:List Int):∀(p:Nat),(kAt ks (p:Int)≠6→qcz ks p=p)∧(kAt ks ((p+1:Nat):Int)=6→qcz ks (p+1)=qcz ks p)
 | 0=>⟨fun h=>by unfold qcz;rw[if_neg (by simpa using h)];rfl,fun h=>by
  show (if kAt ks ((0+1:Nat):Int)=6 then qcz ks 0 else _)=qcz ks 0
  rw[if_pos h]⟩
 | p+1=>⟨fun h=>by rw[qcz,if_neg h],fun h=>by rw[qcz,if_pos h]⟩
theorem qjl {ks:List Int} {p:Nat} (h:kAt ks (p:Int)≠6):∀(d:Nat),(∀i,i<d→kAt ks ((p+1+i:Nat):Int)=6)→qcz ks (p+d)=p
 | 0,_=>(qij ks p).1 h
 | d+1,hd=>by
  have:=(qij ks (p+d)).2 (by have:=hd d (by omega);rwa [show p+1+d=p+d+1 by omega] at this)
  rw[show p+(d+1)=p+d+1 by omega,this]
  exact qjl h d fun i hi=>hd i (by omega)
theorem qg0 {ks:List Int} {p:Nat} (h:kAt ks (p:Int) ≠ -1):p<ks.length:=by
 apply y0q
 intro hc
 exact h (qck (by omega))
theorem qcj {ks:List Int} {p:Nat} (h:kAt ks (p:Int)=5):1≤qaq ks p∧p+qaq ks p≤ks.length∧(∀i,i+1<qaq ks p→kAt ks ((p+1+i:Nat):Int)=6)∧kAt ks ((p+qaq ks p:Nat):Int)≠6:=by
 have hp:=qg0 (ks:=ks) (p:=p) (by rw[h];decide)
 have e:qaq ks p=qb6 (ks.drop (p+1))+1:=by
  unfold qaq
  rw[h,if_neg (by decide),if_pos rfl,y2t]
 obtain⟨h1,h2,h3⟩:=qgh (ks.drop (p+1))
 rw[y3c] at h1
 rw[e]
 refine⟨by omega,by omega,fun i hi=>?_,?_⟩
 ·have:=h2 i (by omega)
  rw[y2h] at this
  rw[qii,this]
  rfl
 ·rw[y2h] at h3
  rw[qii]
  intro hc
  rw[show p+(qb6 (ks.drop (p+1))+1)=p+1+qb6 (ks.drop (p+1)) by omega] at hc
  cases hx:ks[p+1+qb6 (ks.drop (p+1))]? with
  | none=>rw[hx] at hc;simp at hc
  | some x=>rw[hx] at hc h3;simp at hc;subst hc;exact h3 rfl
theorem qrn {ks:List Int} {p:Nat} (h:0<csz (kAt ks (p:Int))):qaq ks p=1:=by
 unfold qaq
 rw[if_pos h]
theorem qid:csz 5=0:=rfl
theorem zga:csz 6=0:=rfl
def Ce.rsz (c:Ce) (a:Nat):Nat:=if kAt c.ks ((a / 32:Nat):Int)=5 then 32*qaq c.ks ((a / 32:Nat):Int) else (csz (kAt c.ks ((a / 32:Nat):Int))).toNat
def qp6 (ks:List Int) (x:Nat):Int:=let q:=qcz ks (x / 32);if kAt ks q=5 then 32*q else x-x % csz (kAt ks q)
theorem qih {ks:List Int} {x:Nat} (h:0<csz (kAt ks ((x / 32:Nat):Int))):qp6 ks x=x-x % csz (kAt ks ((x / 32:Nat):Int)):=by
 have h6:kAt ks ((x / 32:Nat):Int)≠6:=fun e=>by rw[e,zga] at h;omega
 have h5:kAt ks ((x / 32:Nat):Int)≠5:=fun e=>by rw[e,qid] at h;omega
 unfold qp6
 simp only[(qij ks (x / 32)).1 h6,if_neg h5]
section
variable {c:Ce}
theorem qgz {k:Int} {a x:Nat} (hk:0<csz k) (ha:(a:Int) % csz k=0) (h1:a≤x) (h2:x<a+(csz k).toNat):x / 32=a / 32∧(x:Int)-x % csz k=a:=by
 rcases qcw k with⟨_,e,_⟩ | ⟨_,e,_⟩ | ⟨_,e,_⟩ | ⟨_,e,_⟩ | ⟨_,e,_⟩ <;> rw[e] at hk ha h2 ⊢ <;> omega
theorem CI.home_in (h:CI c) {a x:Nat} (ha:c.tk a=true) (h1:a≤x) (h2:x<a+c.rsz a):qp6 c.ks x=a:=by
 obtain⟨hp,hk⟩:=h.tk a ha
 unfold Ce.rsz at h2
 rcases hk with⟨hk,hm⟩ | ⟨hk,hm⟩
 ·have h5:kAt c.ks ((a / 32:Nat):Int)≠5:=fun e=>by rw[e,qid] at hk;omega
  rw[if_neg h5] at h2
  obtain⟨e1,e2⟩:=qgz hk hm h1 h2
  rw[qih (by rw[e1];exact hk),e1,e2]
 ·rw[if_pos hk] at h2
  obtain⟨s1,s2,s3,s4⟩:=qcj hk
  generalize hs:qaq c.ks ((a / 32:Nat):Int)=z at *
  have hd:x / 32=a / 32+(x / 32-a / 32):=by omega
  have:=qjl (ks:=c.ks) (p:=a / 32) (by rw[hk];decide) (x / 32-a / 32) fun i hi=>s3 i (by omega)
  unfold qp6
  rw[hd,this]
  simp only[hk,if_true]
  omega
theorem CI.apart (h:CI c) {a b x:Nat} (ha:c.tk a=true) (hb:c.tk b=true) (h1:a≤x) (h2:x<a+c.rsz a) (h3:b≤x) (h4:x<b+c.rsz b):a=b:=by
 have:=h.home_in ha h1 h2
 have:=h.home_in hb h3 h4
 omega
theorem CI.rsz_pos (h:CI c) {a:Nat} (ha:c.tk a=true):1≤c.rsz a∧a+c.rsz a≤c.m.length:=by
 obtain⟨hp,hk⟩:=h.tk a ha
 have hml:=h.ml
 unfold Ce.rsz
 rcases hk with⟨hk,hm⟩ | ⟨hk,hm⟩
 ·have h5:kAt c.ks ((a / 32:Nat):Int)≠5:=fun e=>by rw[e,qid] at hk;omega
  rw[if_neg h5]
  generalize kAt c.ks ((a / 32:Nat):Int)=k at *
  rcases qcw k with⟨_,e,_⟩ | ⟨_,e,_⟩ | ⟨_,e,_⟩ | ⟨_,e,_⟩ | ⟨_,e,_⟩ <;> rw[e] at hk hm ⊢ <;> omega
 ·rw[if_pos hk]
  obtain⟨s1,s2,s3,s4⟩:=qcj hk
  omega
theorem qaz {ks:List Int} {p i:Nat} {k:Int} (hk:kAt ks (p:Int)=k) (h0:0<csz k) (hi:(i:Int)<qae k):
  (32*p+i*(csz k).toNat) / 32=p∧((32*p+i*(csz k).toNat:Nat):Int) % csz k=0∧qp6 ks (32*p+i*(csz k).toNat)=((32*p+i*(csz k).toNat:Nat):Int)∧((32*p+i*(csz k).toNat:Nat):Int)=32*p+i*csz k∧32*p+i*(csz k).toNat+(csz k).toNat≤32*p+32:=by
 have key:(32*p+i*(csz k).toNat) / 32=p∧((32*p+i*(csz k).toNat:Nat):Int) % csz k=0∧((32*p+i*(csz k).toNat:Nat):Int)=32*p+i*csz k∧32*p+i*(csz k).toNat+(csz k).toNat≤32*p+32:=by
  rcases qcw k with⟨_,e,f⟩ | ⟨_,e,f⟩ | ⟨_,e,f⟩ | ⟨_,e,f⟩ | ⟨_,e,f⟩ <;> rw[e] at h0 ⊢ <;> rw[f] at hi <;> simp only[Int.reduceToNat] <;> omega
 obtain⟨k1,k2,k3,k4⟩:=key
 refine⟨k1,k2,?_,k3,k4⟩
 rw[qih (by rw[k1,hk];exact h0),k1,hk,k2]
 omega
theorem CI.free_apart (h:CI c) {a x p i:Nat} {k:Int} (ha:c.tk a=true) (h1:a≤x) (h2:x<a+c.rsz a) (hk:kAt c.ks (p:Int)=k) (h0:0<csz k) (hi:(i:Int)<qae k) (hf:c.tk (32*p+i*(csz k).toNat)=false):(x:Int)≠32*p+i*csz k:=by
 obtain⟨_,_,e,e2,_⟩:=qaz hk h0 hi
 intro hx
 have:x=32*p+i*(csz k).toNat:=by omega
 subst this
 have:=h.home_in ha h1 h2
 rw[e] at this
 have:32*p+i*(csz k).toNat=a:=by omega
 rw[this,ha] at hf
 cases hf
theorem CI.words (h:CI c) {m':List Int} (hl:m'.length=c.m.length) (hw:∀x:Nat,x<c.m.length→qao m' (x:Int)≠qao c.m (x:Int)→∃a,c.tk a=true∧a≤x∧x<a+c.rsz a):CI { c with m:=m' }:=by
 refine⟨h.np,by simp only;rw[hl];exact h.ml,h.cl,h.tk,h.six,fun p hp=>?_⟩
 obtain⟨L,hL⟩:=h.fr p hp
 refine⟨L,hL.nd,hL.mem,hL.ch.keep fun i hi=>?_,hL.n⟩
 obtain⟨q1,q2⟩:=(hL.mem i).1 hi
 obtain⟨e1,_,_,e4,e5⟩:=qaz (ks:=c.ks) (p:=p) (i:=i) rfl hp q1
 have hpl:=qg0 (ks:=c.ks) (p:=p) (by intro e;rw[e] at hp;revert hp;decide)
 have hml:=h.ml
 rw[←e4]
 apply y0q
 intro hne
 obtain⟨a,ha,h1,h2⟩:=hw _ (by omega) hne
 exact h.free_apart ha h1 h2 rfl hp q1 q2 e4
end
structure qa3 (c:Ce) (a:Nat) (ser:Int) (fs:List V2):Prop where
 tk:c.tk a=true
 head:qao c.m (a:Int)=ser*128+fs.length
 ser:0≤ser∧ser<1099511627776
 len:fs.length≤127∧fs.length+1≤c.rsz a
 fld:∀(i:Nat) (h:i<fs.length),vOk fs[i]=true∧qao c.m ((a+1+i:Nat):Int)=qdh fs[i]
structure HI (c:Ce) (made:Int):Prop where
 ci:CI c
 obj:∀a,c.tk a=true→∃ser fs,qa3 c a ser fs∧ser<made
 one:∀a b ser fs gs,qa3 c a ser fs→qa3 c b ser gs→a=b
theorem qhg {k n:Int} (h:chk k n=0):(k=0∧n=0)∨(k=1 ∧ -1099511627776≤n∧n<1099511627776)∨(k=2∧0≤n∧n<2048):=by
 unfold chk at h
 by_cases h0:k=0
 ·rw[if_pos h0] at h
  by_cases h1:n=0
  ·exact .inl ⟨h0,h1⟩
  ·rw[if_neg h1] at h;cases h
 ·rw[if_neg h0] at h
  by_cases h1:k=1
  ·rw[if_pos h1] at h
   by_cases h2 : -1099511627776≤n∧n<1099511627776
   ·exact .inr (.inl ⟨h1,h2⟩)
   ·rw[if_neg h2] at h;cases h
  ·rw[if_neg h1] at h
   by_cases h2:k=2
   ·rw[if_pos h2] at h
    by_cases h3:0≤n∧n<2048
    ·exact .inr (.inr ⟨h2,h3⟩)
    ·rw[if_neg h3] at h;cases h
   ·rw[if_neg h2] at h;cases h
theorem qj7 {v:V2} (h:vOk v=true):qgm (qdh v)=(v,true):=by
 obtain⟨k,n⟩:=v
 have hc:chk k n=0:=by simpa[vOk] using h
 have key:rdK (qdh (k,n))=k∧rdN (qdh (k,n))=n:=by
  rcases qhg hc with⟨rfl,rfl⟩ | ⟨rfl,h1,h2⟩ | ⟨rfl,h1,h2⟩
  ·exact⟨by decide,by decide⟩
  ·simp only[qdh,qlq,rdK,rdN,show ¬((1:Int)=2) by decide,if_false,if_true]
   rw[if_pos (by omega),if_pos (by omega)]
   exact⟨rfl,by omega⟩
  ·simp only[qdh,qlq,rdK,rdN,if_true]
   rw[if_neg (by omega),if_neg (by omega),if_neg (by omega),if_neg (by omega)]
   refine⟨rfl,?_⟩
   rw[y0i (by omega)]
   omega
 unfold qgm
 rw[key.1,key.2,if_pos hc]
theorem zab:qdh (0,0)=0:=by decide
theorem qs8:vOk (0,0)=true:=by decide
section
variable {c:Ce} {a:Nat} {ser:Int} {fs:List V2}
theorem qeg {n:Int} (h : -9223372036854775808≤n∧n≤9223372036854775807):w64 n=n:=by
 unfold w64
 exact qab h
theorem CI.small_n (h:CI c):c.m.length≤2048:=by have:=h.np;have:=h.ml;omega
theorem CI.tk_lt (h:CI c) (ha:c.tk a=true):a<c.m.length:=by have:=h.rsz_pos ha;omega
theorem CI.isIt (h:CI c) (ha:c.tk a=true):c.isIt (a:Int)=true:=by
 have:=h.tk_lt ha
 simp[Ce.isIt,qd0,Ce.n,ha,this]
theorem qlf (h:CI c) {x:Int}:c.isIt x=true↔∃a:Nat,x=a∧c.tk a=true:=by
 constructor
 ·intro hx
  simp only[Ce.isIt,qd0,y2y,decide_eq_true_eq] at hx
  exact⟨x.toNat,by omega,hx.2⟩
 ·rintro⟨a,rfl,ha⟩
  exact h.isIt ha
theorem qa3.split (h:qa3 c a ser fs):qf5 (qao c.m (a:Int))=(ser,(fs.length:Int)):=by
 have h1:=h.ser
 have h2:=h.len
 unfold qf5
 rw[h.head]
 have e1:(ser*128+(fs.length:Int)) / 128=ser:=by omega
 have e2:(ser*128+(fs.length:Int)) % 128=fs.length:=by omega
 rw[e1,e2,if_pos (by omega)]
theorem qa3.same {ser':Int} {gs:List V2} (h:qa3 c a ser fs) (h':qa3 c a ser' gs):ser=ser'∧fs=gs:=by
 have h1:=h.split
 rw[h'.split,y4e] at h1
 have hl:gs.length=fs.length:=by omega
 refine⟨h1.1.symm,y3e hl.symm fun i p q=>?_⟩
 have e1:=(h.fld i p).2
 have e2:=(h'.fld i q).2
 rw[e1] at e2
 have f1:=qj7 (h.fld i p).1
 have f2:=qj7 (h'.fld i q).1
 rw[e2,f2] at f1
 exact (Prod.mk.inj f1).1.symm
theorem St.read_obj {s:St} (hc:CI s.c) (h:qa3 s.c a ser fs):s.fields (a:Int)=fs.length∧s.serial (a:Int)=ser:=by
 unfold St.fields St.serial St.read
 rw[if_pos (hc.isIt h.tk),h.split]
 exact⟨rfl,rfl⟩
theorem St.get_obj {s:St} (hc:CI s.c) (h:qa3 s.c a ser fs) (x:Int):s.get (a:Int) x=match (if 0≤x then fs[x.toNat]? else none) with
  | some v=>(v,true)
  | none=>((0,0),false):=by
 unfold St.get
 rw[(St.read_obj hc h).1]
 have hb:=hc.tk_lt h.tk
 have hn:=hc.small_n
 have hl:=h.len
 by_cases c1:0≤x∧x<fs.length
 ·obtain⟨i,rfl⟩:=y1b c1.1
  have hi:i<fs.length:=by omega
  rw[if_pos c1,if_pos c1.1,y2t,y0v hi]
  rw[qeg (n:=(a:Int)+1) (by omega),qeg (by omega),show (a:Int)+1+i=((a+1+i:Nat):Int) by omega,(h.fld i hi).2,qj7 (h.fld i hi).1]
 ·rw[if_neg c1]
  by_cases c2:0≤x
  ·rw[if_pos c2,y1l (by omega)]
  ·rw[if_neg c2]
theorem CI.base (h:CI c) {x:Nat} (ha:c.tk a=true) (h1:a≤x) (h2:x<a+c.rsz a):c.base (x:Int)=a:=by
 obtain⟨hp,hk⟩:=h.tk a ha
 have hr:=h.rsz_pos ha
 have hn:=h.small_n
 have hpg:qap (x:Int)=((x / 32:Nat):Int):=by unfold qap;rw[if_pos (by omega)];omega
 have hit:=h.isIt ha
 unfold Ce.base
 simp only[hpg]
 unfold Ce.rsz at h2
 rcases hk with⟨hk,hm⟩ | ⟨hk,hm⟩
 ·have h5:kAt c.ks ((a / 32:Nat):Int)≠5:=fun e=>by rw[e,qid] at hk;omega
  rw[if_neg h5] at h2
  obtain⟨e1,e2⟩:=qgz hk hm h1 h2
  have hb:qcx (kAt c.ks ((x / 32:Nat):Int)) (x:Int)=a:=by
   unfold qcx
   rw[e1,hpg,if_neg (by omega),e2]
  simp only[hb,show ¬((a:Int)<0) by omega,false_and,if_false,hit,if_true]
 ·rw[if_pos hk] at h2
  obtain⟨s1,s2,s3,s4⟩:=qcj hk
  generalize hs:qaq c.ks ((a / 32:Nat):Int)=z at *
  have hd:x / 32=a / 32+(x / 32-a / 32):=by omega
  have hdn:=qjl (ks:=c.ks) (p:=a / 32) (by rw[hk];decide) (x / 32-a / 32) fun i hi=>s3 i (by omega)
  rw[←hd] at hdn
  have hkx:csz (kAt c.ks ((x / 32:Nat):Int))=0:=by
   by_cases e:x / 32=a / 32
   ·rw[e,hk];rfl
   ·have:=s3 (x / 32-a / 32-1) (by omega)
    rw[show a / 32+1+(x / 32-a / 32-1)=x / 32 by omega] at this
    rw[this];rfl
  have hb:qcx (kAt c.ks ((x / 32:Nat):Int)) (x:Int) = -1:=by unfold qcx;rw[if_pos (.inl hkx)]
  have hf:qeb c.ks ((x / 32:Nat):Int)=((a / 32:Nat):Int):=by
   unfold qeb
   have h0:(0:Int)≤((x / 32:Nat):Int):=by omega
   simp only[h0,if_true,y2t,hdn,hs,show ¬(z=0) by omega,if_false]
  have hnp:=h.np
  have he:(qfs ((a / 32:Nat):Int) 1).1=a:=by unfold qfs;rw[if_pos (by omega)];simp only;omega
  simp only[hb,hf,show (-1:Int)<0 by decide,show (0:Int)≤((a / 32:Nat):Int) by omega,and_self,if_true,he,hit]
theorem CI.store_in (h:CI c) {x:Nat} {w:Int} (ha:c.tk a=true) (h1:a≤x) (h2:x<a+c.rsz a):c.store (x:Int) w=({ c with m:=qb9 c.m x w },true):=by
 have hr:=h.rsz_pos ha
 unfold Ce.store
 rw[h.base ha h1 h2,if_pos ⟨by omega,by unfold mIn;omega⟩]
theorem CI.stored (h:CI c) {x:Nat} {w:Int} (ha:c.tk a=true) (h1:a≤x) (h2:x<a+c.rsz a):CI { c with m:=qb9 c.m x w }:=by
 have hr:=h.rsz_pos ha
 refine h.words (qc0 _ _ _) fun y hy hne=>⟨a,ha,?_⟩
 rw[qft (by omega) (by omega) (by omega) (by omega)] at hne
 by_cases e:(y:Int)=x
 ·have:y=x:=by omega
  subst this;exact⟨h1,h2⟩
 ·rw[if_neg e] at hne;exact absurd rfl hne
end
end Go.Proofs.YtcakfaakbpdklaaGreatDoorV
