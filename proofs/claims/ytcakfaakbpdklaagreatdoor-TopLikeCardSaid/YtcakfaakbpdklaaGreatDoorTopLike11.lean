/- Part 11 of what the law needs: own lemmas, in the order in which they build. -/
import Derived.LaidMore
import Derived.OpenShut
import Derived.Stop.Joined
import Derived.Test.YtcakfaakbpdklaaGreatDoorProg
import Derived.Test.YtcakfaakbpdklaaGreatDoorRows
import Derived.Test.YtcakfaakbpdklaaGreatDoorTopLike10
set_option linter.defProp false
set_option linter.unusedSimpArgs false
set_option linter.unusedVariables false
set_option maxRecDepth 100000
namespace Go.Proofs.QV
open Go Go.Proofs
section
open Go.RowKit
structure Mr(g:BR)(met:List Bool)(next:List Int)(at_:Nat):Prop where
 len:met.length=g.nd.length
 snd:∀n∈next,GR g n
 rng:∀n∈next,0<=n/\n.toNat<g.nd.length
 old:∀i:Nat,met[i]?=some true->∃j,j<at_/\next[j]?=some (i:Int)
 fst:∀j:Nat,j<at_->∀n,next[j]?=some n->met[n.toNat]?=some true
 cl:∀i:Nat,met[i]?=some true->∀s∈Ds (g.node (i:Int)),s∈next
 sd:(0:Int)∈next/\∀r∈g.th,∀s∈Ds r.2,s∈next
open Classical in
noncomputable def Hn(g:BR):List Bool:=(List.range g.nd.length).map λn:Nat=>decide (GR g (n:Int))
section
variable{g:BR}
def C8.refs(ok:C8 g){l:List V2}(h:∀v∈l,DM g.nd.length v){s:Int}(hs:s∈Ds l):0<=s/\s.toNat<g.nd.length:=h _ (G5.1 hs) rfl
open Classical in
def Mr.end_{met:List Bool}{next:List Int}{a:Nat}(h:Mr g met next a)(ha:next.length<=a)(hlen:∀n∈next,0<=n):met=Hn g:=by
 have hall:∀n∈next,met[n.toNat]?=some true:=λn hn=>by
  obtain⟨j,hj,e⟩:=List.getElem_of_mem hn;exact h.fst j (by omega) n (by rw[List.getElem?_eq_getElem hj,e])
 have key:∀n,GR g n->n∈next:=λn hn=>by
  induction hn with
  | zero=>exact h.sd.1
  | held h1 h2=>exact h.sd.2 _ h1 _ h2
  | @step n s h1 h2 ih=>
   have h0:=hlen n ih;refine h.cl n.toNat (hall n ih) s ?_;rw[Int.toNat_of_nonneg h0];exact h2
 apply List.ext_getElem?;intro i;unfold Hn;rw[List.getElem?_map];by_cases hi:i<g.nd.length
 ·rw[List.getElem?_range hi];simp only[Option.map_some];have him:i<met.length:=by rw[h.len];exact hi
  by_cases hr:GR g (i:Int)
  ·have:=hall _ (key _ hr);rw[Int.toNat_natCast]at this;rw[this,decide_eq_true hr]
  ·rw[decide_eq_false hr,List.getElem?_eq_getElem him];congr 1;cases hm:met[i] with
   | false=>rfl
   | true=>
    obtain⟨j,_,e⟩:=h.old i (by rw[List.getElem?_eq_getElem him,hm]);exact absurd (h.snd _ (List.mem_of_getElem? e)) hr
 ·rw[List.getElem?_eq_none (by rw[h.len];omega),List.getElem?_eq_none (by simp;omega)];rfl
def KH{l:List V2}{i:Nat}(h:i<l.length):Ds (l.take (i+1))=Ds (l.take i)++if l[i].1=2 then[l[i].2] else[]:=by
 unfold Ds;rw[List.take_add_one,List.getElem?_eq_getElem h,List.filter_append,List.map_append];congr 1;by_cases c:l[i].1=2
 ·rw[if_pos c];simp[c]
 ·rw[if_neg c];simp[c]
def HA(l:List V2):(Ds l).length<=l.length:=by unfold Ds;rw[List.length_map];exact List.length_filter_le _ _
end
structure Rs(w0 w:World)(mv xv:Value)(met:List Bool)(next:List Int):Prop where
 fr:Fr [] w0 w
 nm:Cc w0 mv
 om:BO w mv 4 1 (CA met)
 nx:Cc w0 xv
 ox:BO w xv 2 1 (Ca next)
section
variable{K:VK}{w0 w:World}{cf:Cf}{lo p:Nat}{tv nv mv xv hv:Value}{hs ns:List Value}{g:BR}{met:List Bool}{next:List Int}
def Rs.app(h:Rs w0 w mv xv met next)(n:Int)(hl:next.length<=100000000)(hk:∀v' w',Rs w0 w' mv v' met (next++[n])->K v' w'):
  Am Tryz.prog (Instr.buildSlice 52 1 #[(0,.int .i64 n)]) w λx w1=>Am Tryz.prog (Builtin.append_ #[52,52] 52 #[xv,x]) w1 K:=
 BJ h.fr h.nx h.ox (by omega) λv' w' a b c d e=>hk v' w' ⟨a,h.nm,h.om.keep' d (h.om.ne h.ox (by decide)),b,c⟩
def WY{t:Nat}{l:List V2}{X:List Int}(hl:Cq w0 hv 2 (Ck l))(hX:X.length+l.length<=100000000)(hk:∀xv' w',Rs w0 w' mv xv' met (X++Ds l)->F40.k5 K (.pointer (some ⟨p,0,none⟩)) mv xv' (.int .i64 (t:Int)) w'):
  ∀(d i:Nat) (xv:Value) (w:World),l.length=i+d->Rs w0 w mv xv met (X++Ds (l.take i))->F40.l8 K (.pointer (some ⟨p,0,none⟩)) mv xv (.int .i64 (t:Int)) hv (.int .i64 (i:Int)) w:=by
 intro d;induction d with
 | zero=>
  intro i xv w hi h;refine F40.l8.to (AK (hl.keep h.fr) ?_);rw[Cr];simp only[zv,show ¬((i:Int)<(l.length:Int)) by omega];rw[List.take_of_length_le (by omega)]at h;exact hk xv w h
 | succ d ih=>
  intro i xv w hi h;have hil:i<l.length:=by omega
  have hsucc:=KH hil;have hlen:=HA (l.take i);rw[List.length_take]at hlen;refine F40.l8.to (AK (hl.keep h.fr) ?_);rw[Cr];simp only[zv,show ((i:Int)<(l.length:Int)) by omega];have next:∀xv' w',Rs w0 w' mv xv' met (X++Ds (l.take (i+1)))->F40.k9 K (.pointer (some ⟨p,0,none⟩)) mv xv' (.int .i64 (t:Int)) hv (.int .i64 (i:Int)) w':=λxv' w' h'=>by
   refine F40.k9.to ?_;simp only[AC];rw[BN (n:=(i:Int)+1) (by omega),show (i:Int)+1=((i+1:Nat):Int) by omega];exact ih (i+1) xv' w' (by omega) h'
  refine F40.k10.to (AS (hl.keep h.fr) (by omega) (by rw[Int.toNat_natCast];exact Dr hil) λg3 o3 cs3 e3 fz3 hg3 hl3 hs3=>?_)
  try simp only[Ah]
  refine Ac (v := .int .i64 l[i].1) hg3 (by simpa using hs3 0 (by decide)) ?_;by_cases c:l[i].1=2
  ·rw[if_pos c]at hsucc;simp only[zv,eq_self,c];refine AS (hl.keep h.fr) (by omega) (by rw[Int.toNat_natCast];exact Dr hil) λg4 o4 cs4 e4 fz4 hg4 hl4 hs4=>?_
   try simp only[Ah]
   refine Ac (v := .int .i64 l[i].2) hg4 (by simpa using hs4 1 (by decide)) ?_;refine h.app _ (by rw[List.length_append];omega) λv' w' h'=>next v' w' ?_
   rw[hsucc, <-List.append_assoc];exact h'
  ·rw[if_neg c,List.append_nil]at hsucc;simp only[zv,c];exact next xv w (by rw[hsucc];exact h)
def VL{a:Nat}{l:List V2}{X:List Int}(hl:Cq w0 hv 2 (Ck l))(hX:X.length+l.length<=100000000)(hk:∀xv' w',Rs w0 w' mv xv' met (X++Ds l)->F40.k14 K (.pointer (some ⟨p,0,none⟩)) mv xv' (.int .i64 (a:Int)) w'):
  ∀(d i:Nat) (xv:Value) (w:World),l.length=i+d->Rs w0 w mv xv met (X++Ds (l.take i))->F40.l20 K (.pointer (some ⟨p,0,none⟩)) mv xv (.int .i64 (a:Int)) hv (.int .i64 (i:Int)) w:=by
 intro d;induction d with
 | zero=>
  intro i xv w hi h;refine F40.l20.to (AK (hl.keep h.fr) ?_);rw[Cr];simp only[zv,show ¬((i:Int)<(l.length:Int)) by omega];rw[List.take_of_length_le (by omega)]at h;exact hk xv w h
 | succ d ih=>
  intro i xv w hi h;have hil:i<l.length:=by omega
  have hsucc:=KH hil;have hlen:=HA (l.take i);rw[List.length_take]at hlen;refine F40.l20.to (AK (hl.keep h.fr) ?_);rw[Cr];simp only[zv,show ((i:Int)<(l.length:Int)) by omega];have next:∀xv' w',Rs w0 w' mv xv' met (X++Ds (l.take (i+1)))->F40.k21 K (.pointer (some ⟨p,0,none⟩)) mv xv' (.int .i64 (a:Int)) hv (.int .i64 (i:Int)) w':=λxv' w' h'=>by
   refine F40.k21.to ?_;simp only[AC];rw[BN (n:=(i:Int)+1) (by omega),show (i:Int)+1=((i+1:Nat):Int) by omega];exact ih (i+1) xv' w' (by omega) h'
  refine F40.k22.to (AS (hl.keep h.fr) (by omega) (by rw[Int.toNat_natCast];exact Dr hil) λg3 o3 cs3 e3 fz3 hg3 hl3 hs3=>?_)
  try simp only[Ah]
  refine Ac (v := .int .i64 l[i].1) hg3 (by simpa using hs3 0 (by decide)) ?_;by_cases c:l[i].1=2
  ·rw[if_pos c]at hsucc;simp only[zv,eq_self,c];refine AS (hl.keep h.fr) (by omega) (by rw[Int.toNat_natCast];exact Dr hil) λg4 o4 cs4 e4 fz4 hg4 hl4 hs4=>?_
   try simp only[Ah]
   refine Ac (v := .int .i64 l[i].2) hg4 (by simpa using hs4 1 (by decide)) ?_;refine h.app _ (by rw[List.length_append];omega) λv' w' h'=>next v' w' ?_
   rw[hsucc, <-List.append_assoc];exact h'
  ·rw[if_neg c,List.append_nil]at hsucc;simp only[zv,c];exact next xv w (by rw[hsucc];exact h)
def QM{l:List Bool}{i:Nat}(h:i<l.length)(hf:l[i]=false):(l.set i true).count false+1=l.count false:=by
 induction l generalizing i with
 | nil=>simp at h
 | cons a l ih=>
  cases i with
  | zero=>
   have:a=false:=hf;subst this;simp
  | succ i=>
   have:=ih (i:=i) (by simpa using h) (by simpa using hf);simp only[List.set_cons_succ,List.count_cons];omega
def VJ(hg:CE lo w0 cf p tv nv hs ns g)(ok:C8 g)(hk:∀w',Fr [] w0 w'->BO w' mv 4 1 (CA (Hn g))->K mv w'):
  ∀(N a:Nat) (xv:Value) (w:World) (met:List Bool) (next:List Int),(next.length-a)+128*met.count false<=N->next.length+127*met.count false<=90000000->a<=next.length->Rs w0 w mv xv met next->Mr g met next a->
   F40.l13 K (.pointer (some ⟨p,0,none⟩)) mv xv (.int .i64 (a:Int)) w:=by
 have hlens:=hg.lens;intro N;induction N with
 | zero=>
  intro a xv w met next hN hB ha h hm
  refine F40.l13.to (AK h.ox.rd ?_);rw[Cm];simp only[zv,show ¬((a:Int)<(next.length:Int)) by omega];have e:=hm.end_ (by omega) λn hn=>(hm.rng n hn).1;refine F40.k24.to (hk w h.fr ?_);rw[<-e];exact h.om
 | succ N ih=>
  intro a xv w met next hN hB ha h hm
  refine F40.l13.to (AK h.ox.rd ?_);rw[Cm];by_cases hlt:a<next.length
  rotate_left
  ·simp only[zv,show ¬((a:Int)<(next.length:Int)) by omega];have e:=hm.end_ (by omega) λn hn=>(hm.rng n hn).1;refine F40.k24.to (hk w h.fr ?_);rw[<-e];exact h.om
  simp only[zv,show ((a:Int)<(next.length:Int)) by omega];obtain⟨n0,n1⟩:=hm.rng next[a] (List.getElem_mem hlt)
  have hna:next[a]?=some next[a]:=List.getElem?_eq_getElem hlt
  have lm:next[a].toNat<met.length:=by rw[hm.len];exact n1
  refine F40.k15.to (AS h.ox.rd (by omega) (by rw[Int.toNat_natCast];exact MT hlt) λg1 o1 cs1 e1 fz1 hg1 _ hs1=>Ac (v := .int .i64 next[a]) hg1 (by simpa using hs1 0 (by decide)) ?_);refine AS h.om.rd n0 (IK lm) λg2 o2 cs2 e2 fz2 hg2 _ hs2=>Ac (v := .bool met[next[a].toNat]) hg2 (by simpa using hs2 0 (by decide)) ?_
  have go:∀xv' w' met' next',(next'.length-(a+1))+128*met'.count false<=N->next'.length+127*met'.count false<=90000000->a+1<=next'.length->Rs w0 w' mv xv' met' next'->Mr g met' next' (a+1)->F40.k14 K (.pointer (some ⟨p,0,none⟩)) mv xv' (.int .i64 (a:Int)) w':=λxv' w' met' next' a1 a2 a3 a4 a5=>by
   refine F40.k14.to ?_;simp only[AC];rw[BN (n:=(a:Int)+1) (by omega),show (a:Int)+1=((a+1:Nat):Int) by omega];exact ih (a+1) xv' w' met' next' a1 a2 a3 a4 a5
  cases hmt:met[next[a].toNat] with
  | true=>
   simp only[Ai];refine go xv w met next (by omega) hB (by omega) h ⟨hm.len,hm.snd,hm.rng,λi hi=>?_,λj hj n hn=>?_,hm.cl,hm.sd⟩
   ·obtain⟨j,h1,h2⟩:=hm.old i hi;exact⟨j,by omega,h2⟩
   ·by_cases e:j=a
    ·subst e;rw[hna]at hn;obtain rfl:=Option.some.inj hn;rw[List.getElem?_eq_getElem lm,hmt]
    ·exact hm.fst j (by omega) n hn
  | false=>
   have hcnt:=QM lm hmt;have hnd:=ok.node next[a]
   have hrl:=HA (g.node next[a]);have hnn:next[a].toNat<ns.length:=by omega
   simp only[Ae];refine F40.k17.to (Bi (x := .bool true) h.om n0 (by rw[Db];exact lm) rfl (by simp[Value.cells,Value.oneCell']) λw2 ho2 hf2 hz2=>?_);have eb:(CA met).set next[a].toNat (Value.cells (.bool true)).toList=CA (met.set next[a].toNat true):=by rw[<-QC];rfl
   rw[eb]at ho2;have hf02:Fr [] w0 w2:=h.fr.then hf2 λy hy => .inr (h.nm.blk y hy);have h2:Rs w0 w2 mv xv (met.set next[a].toNat true) next:=⟨hf02,h.nm,ho2,h.nx,h.ox.keep' hf2 (h.ox.ne h.om (by decide))⟩
   have hg2:=hg.keep0 hf02
   try simp only[zv]
   refine hg2.l11 ?_;refine hg2.idxN (Fr.refl _ _) n0 hnn λg3 o3 hs3=>?_;obtain⟨cs,e,fz,a1,a2⟩:=hs3 w2 (Fr.refl _ _);refine Ac (v:=ns[next[a].toNat]) a1 a2 ?_;have hrd:=(hg.nodeO n1 hnn).rd;rw[<-BR.node_eq n1]at hrd;refine VL (w0:=w0) (met:=met.set next[a].toNat true) (X:=next) (l:=g.node next[a]) hrd (by omega) (λxv' w' h'=>?_) (g.node next[a]).length 0 xv w2 (by omega) (by simpa[Ds] using h2)
   refine go xv' w' _ _ (by rw[List.length_append];omega) (by rw[List.length_append];omega) (by rw[List.length_append];omega) h' ⟨by rw[List.length_set];exact hm.len,λn hn=>?_,λn hn=>?_,λi hi=>?_,λj hj n hn=>?_,λi hi s hs=>?_,⟨List.mem_append_left _ hm.sd.1,λr hr s hs=>List.mem_append_left _ (hm.sd.2 r hr s hs)⟩⟩
   ·rcases List.mem_append.1 hn with c|c
    ·exact hm.snd n c
    ·exact .step (hm.snd _ (List.getElem_mem hlt)) c
   ·rcases List.mem_append.1 hn with c|c
    ·exact hm.rng n c
    ·exact ok.refs hnd.2 c
   ·rw[List.getElem?_set]at hi;by_cases e:next[a].toNat=i
    ·refine⟨a,by omega,?_⟩;rw[List.getElem?_append_left hlt,hna, <-e,Int.toNat_of_nonneg n0]
    ·rw[if_neg e]at hi;obtain⟨j,h1,h2⟩:=hm.old i hi;exact⟨j,by omega,by rw[List.getElem?_append_left (by omega)];exact h2⟩
   ·rw[List.getElem?_append_left (by omega)]at hn;rw[List.getElem?_set];by_cases e:next[a].toNat=n.toNat
    ·rw[if_pos e,if_pos lm]
    ·rw[if_neg e];by_cases ej:j=a
     ·subst ej;rw[hna]at hn;obtain rfl:=Option.some.inj hn;exact absurd rfl e
     ·exact hm.fst j (by omega) n hn
   ·rw[List.getElem?_set]at hi;by_cases e:next[a].toNat=i
    ·have:(i:Int)=next[a]:=by omega
     rw[this]at hs;exact List.mem_append_right _ hs
    ·rw[if_neg e]at hi;exact List.mem_append_left _ (hm.cl i hi s hs)
def GD(g:BR)(t:Nat):List Int:=0::(g.th.take t).flatMap λr=>Ds r.2
def Nr{t:Nat}(h:t<g.th.length):GD g (t+1)=GD g t++Ds g.th[t].2:=by unfold GD;rw[List.take_add_one,List.getElem?_eq_getElem h,List.flatMap_append];simp
theorem Ls(ok:C8 g):∀t:Nat,(GD g t).length<=1+16*t
 | 0=>by simp[GD]
 | t+1=>by
  have ih:=Ls ok t;by_cases h:t<g.th.length
  ·rw[Nr h,List.length_append];have:=HA g.th[t].2;have:=(ok.th _ (List.getElem_mem h)).1;omega
  ·have:GD g (t+1)=GD g t:=by unfold GD;rw[List.take_of_length_le (by omega),List.take_of_length_le (by omega)]
   rw[this];omega
def WX(hg:CE lo w0 cf p tv nv hs ns g)(ok:C8 g)(hT:g.th.length<=1000)(hk:∀xv' w',Rs w0 w' mv xv' met (GD g g.th.length)->F40.k12 K (.pointer (some ⟨p,0,none⟩)) mv xv' w'):
  ∀(d t:Nat) (xv:Value) (w:World),g.th.length=t+d->Rs w0 w mv xv met (GD g t)->F40.l4 K (.pointer (some ⟨p,0,none⟩)) mv xv (.int .i64 (t:Int)) w:=by
 have hlens:=hg.lens;intro d;induction d with
 | zero=>
  intro t xv w ht h;have hg1:=hg.keep0 h.fr;refine F40.l4.to ?_;simp only[zv];refine hg1.l10 (AK hg1.th.rd ?_);rw[GX hlens.1];simp only[zv,show ¬((t:Int)<(g.th.length:Int)) by omega];have:t=g.th.length:=by omega
  subst this;exact hk xv w h
 | succ d ih=>
  intro t xv w ht h;have htl:t<g.th.length:=by omega
  have hg1:=hg.keep0 h.fr;have hsl:=Ls ok t;have hl16:=(ok.th _ (List.getElem_mem htl)).1;refine F40.l4.to ?_;simp only[zv];refine hg1.l10 (AK hg1.th.rd ?_);rw[GX hlens.1];simp only[zv,show ((t:Int)<(g.th.length:Int)) by omega];refine F40.k6.to ?_;simp only[zv];refine hg1.l10 ?_;refine hg1.idxT (Fr.refl _ _) htl (by omega) λb' o' hr=>?_;obtain⟨cs,e,fz,a1,a2,a3⟩:=hr w (Fr.refl _ _)
  try simp only[Ah]
  refine Ac (v:=hs[t]) a1 a3 ?_;refine WY (w0:=w0) (X:=GD g t) (l:=g.th[t].2) (hg.heldO htl (by omega)).rd (by omega) (λxv' w' h'=>?_) g.th[t].2.length 0 xv w (by omega) (by simpa[Ds] using h);refine F40.k5.to ?_;simp only[AC];rw[BN (n:=(t:Int)+1) (by omega),show (t:Int)+1=((t+1:Nat):Int) by omega];exact ih (t+1) xv' w' (by omega) (by rw[Nr htl];exact h')
def Pe(hg:CE lo w cf p tv nv hs ns g)(ok:C8 g)(hn:g.nd.length<=90000)(hT:g.th.length<=1000)(hk:∀v w',Fr [] w w'->Cc w v->BO w' v 4 1 (CA (Hn g))->K v w'):
  I Tryz.prog 40 #[.pointer (some ⟨p,0,none⟩)] w K:=by
 have hlens:=hg.lens;refine F40.sh ?_;simp only[zv];refine hg.l11 (AK hg.nd.rd ?_);rw[Gc,hlens.2];refine Be (t:=84) (e:=4) (sz:=1) (bytes:=1) (z := .bool false) g.nd.length Tryz.underlying84 (by kernel_rfl) rfl (by decide) (by simp[Value.cells,Value.oneCell']) (by omega) (by omega) λq w1 hn1 ho1=>?_;have l1:=hn1.is;refine A7 (X2 0) ?_;have hw2:=Dz.mk' w1 (.cells #[.int .i64 0] 2)
 have ho2:BO (w1.alloc (.cells #[.int .i64 0] 2)) (.slice (some ⟨w1.heap.size,0,none⟩) 1 1) 2 1 (Ca [0]):=BO.of_block hw2.at_ rfl (by decide) (by decide) (by decide) (by simp[Ca,Value.oneCell']) rfl;have e1:List.replicate g.nd.length (Value.cells (.bool false)).toList=CA (List.replicate g.nd.length false):=by rw[LG];rfl
 rw[e1]at ho1;have s1:=hn1.fr.size;have h0:Rs w (w1.alloc (.cells #[.int .i64 0] 2)) (.slice (some ⟨q,0,none⟩) g.nd.length g.nd.length) (.slice (some ⟨w1.heap.size,0,none⟩) 1 1) (List.replicate g.nd.length false) (GD g 0):=
  ⟨hn1.fr.trans hw2.fr,λy hy=>by simp[Value.ownBlock]at hy;omega,ho1.keep hw2.fr (by simp),λy hy=>by simp[Value.ownBlock]at hy;omega,ho2⟩
 refine WX hg ok hT (λxv' w' h'=>?_) g.th.length 0 _ _ (by omega) h0;have hsl:=Ls ok g.th.length;have hcf:(List.replicate g.nd.length false).count false=g.nd.length:=by simp
 refine F40.k12.to ?_;refine VJ (w0:=w) hg ok (λw'' a b=>hk _ w'' a h'.nm b) _ 0 xv' w' _ _ (Nat.le_refl _) (by rw[hcf];omega) (by omega) h' ⟨by simp,λn hn=>?_,λn hn=>?_,λi hi=>?_,λj hj=>absurd hj (by omega),λi hi=>?_,⟨by simp[GD],λr hr s hs=>?_⟩⟩
 ·unfold GD at hn;rcases List.mem_cons.1 hn with rfl|c
  ·exact .zero
  ·obtain⟨r,hr,hs⟩:=List.mem_flatMap.1 c;exact .held (List.mem_of_mem_take hr) hs
 ·unfold GD at hn;rcases List.mem_cons.1 hn with rfl|c
  ·exact⟨by omega,by have:=ok.ne;simp;omega⟩
  ·obtain⟨r,hr,hs⟩:=List.mem_flatMap.1 c;exact ok.refs (ok.th r (List.mem_of_mem_take hr)).2 hs
 ·have:=List.mem_of_getElem? hi;have:=List.eq_of_mem_replicate this;cases this
 ·have:=List.mem_of_getElem? hi;have:=List.eq_of_mem_replicate this;cases this
 ·unfold GD;refine List.mem_cons.2 (.inr (List.mem_flatMap.2 ⟨r,?_,hs⟩));rw[List.take_of_length_le (Nat.le_refl _)];exact hr
end
section
variable{P:Program}{w:World}
def Am.mono{s:Sem Value}{K K':VK}(h:Am P s w K)(hk:∀v w',K v w'->K' v w'):Am P s w K':=by obtain⟨v,w',a,b⟩:=h;exact⟨v,w',a,hk v w' b⟩
theorem Fy.mono{K K':World->Prop}(hk:∀w',K w'->K' w'):∀(l:List Value) (i:Nat) (a:Addr) (w:World),Fy l i a w K->Fy l i a w K'
 | [],_,_,_,h=>hk _ h
 | v::r,i,a,w,h=>⟨h.1,h.2.1,h.2.2.1,Fy.mono hk r _ _ _ h.2.2.2⟩
def Aj.mono{n:Nat}{p x:Value}{K K':World->Prop}(h:Aj n p x w K)(hk:∀w',K w'->K' w'):Aj n p x w K':=by obtain⟨a,h1,h2,h3⟩:=h;exact⟨a,h1,h2,Fy.mono hk _ _ _ _ h3⟩
end
section
variable{K:VK}{W w:World}{cf:Cf}{lo p:Nat}{tv nv rv u:Value}{hs ns vs fs:List Value}{g:BR}{yb y2:Nat}{L:List (List Va)}{N:List Nd}{l:List Va}{nd:Nd}{X:World->Prop}
def Uw(h:J6 W yb rv nv vs fs L N w)(hL:L.length<=100000)(hu:BO w u 60 2 (Ck l))(hul:Cc W u)(hk:∀w',EA W yb (L++[l]) N w'->X w'):
  Am Tryz.prog (Instr.buildSlice 43 1 #[(0,u)]) w λs w0=>Am Tryz.prog (Builtin.append_ #[43,43] 43 #[rv,s]) w0 λx w1=>Aj 1 (.pointer (some ⟨yb,0,none⟩)) x w1 X:=
 (Kq h hL hu hul hk).mono λ_ _ a=>a.2.1.mono λ_ _ b=>b.2.1.mono λ_ c=>c.2
def Sf(h:J6 W yb rv nv vs fs L N w)(hL:N.length<=100000)(hu:BO w u 60 2 (Ck nd.2))(hul:Cc W u)(hk:∀w',EA W yb L (N++[nd]) w'->Fr (yb::BM nv) w w'->X w'):
  Am Tryz.prog (Instr.buildSlice 44 1 #[(0,.agg #[.int .i64 nd.1,u])]) w λs w0=>Am Tryz.prog (Builtin.append_ #[44,44] 44 #[nv,s]) w0 λx w1=>Aj 1 (.pointer (some ⟨yb,1,none⟩)) x w1 X:=
 (HL h hL hu hul hk).mono λ_ _ a=>a.2.1.mono λ_ _ b=>b.2.1.mono λ_ c=>c.2
def Sj(h0:CE lo W cf p tv nv hs ns g)(ok:C8 g)(hT:g.th.length<=1000)(hk:∀w',EA W yb (g.th.map Prod.snd) [] w'->F15.k8 K (.pointer (some ⟨p,0,none⟩)) (.pointer (some ⟨y2,0,none⟩)) (.pointer (some ⟨yb,0,none⟩)) w'):
  ∀(d t:Nat) (w:World),t+d=g.th.length->EA W yb ((g.th.take t).map Prod.snd) [] w->F15.l3 K (.pointer (some ⟨p,0,none⟩)) (.pointer (some ⟨y2,0,none⟩)) (.pointer (some ⟨yb,0,none⟩)) (.int .i64 (t:Int)) w:=by
 have hlens:=h0.lens;intro d;induction d with
 | zero=>
  intro t w ht hs1;have h:=h0.keep0 hs1.fr;refine F15.l3.to ?_;simp only[zv];refine h.l10 (AK h.th.rd ?_);rw[GX hlens.1];simp only[zv,show ¬((t:Int)<(g.th.length:Int)) by omega];rw[List.take_of_length_le (by omega)]at hs1;exact hk w hs1
 | succ d ih=>
  intro t w ht hs1;have htl:t<g.th.length:=by omega
  have h:=h0.keep0 hs1.fr;have hl16:=(ok.th _ (List.getElem_mem htl)).1;refine F15.l3.to ?_;simp only[zv];refine h.l10 (AK h.th.rd ?_);rw[GX hlens.1];simp only[zv,show ((t:Int)<(g.th.length:Int)) by omega];refine F15.k5.to ?_;simp only[zv];refine h.l10 ?_;refine h.idxT (Fr.refl _ _) htl (by omega) λb' o' hr=>?_;obtain⟨cs,e,fz,a1,a2,a3⟩:=hr w (Fr.refl _ _)
  try simp only[Ah]
  refine Ac (v:=hs[t]) a1 a3 (B2 (h.heldO htl (by omega)).rd (by omega) λv1 w1 hf1 hn1 ho1=>?_);obtain⟨rv,nv',vs,fs,hx⟩:=(hs1.keep hf1).spec;refine Ac (v:=rv) hx.hb rfl ?_;refine Uw hx (by rw[List.length_map,List.length_take];omega) ho1 (hn1.mono hs1.fr.size) λw2 hs2=>?_;refine F15.k4.to ?_;simp only[AC];rw[BN (n:=(t:Int)+1) (by omega),show (t:Int)+1=((t+1:Nat):Int) by omega];refine ih (t+1) w2 (by omega) ?_
  rw[List.take_add_one,List.getElem?_eq_getElem htl,List.map_append];exact hs2
open Classical in
noncomputable def Ip(g:BR)(n:Nat):List Nd:=((List.range n).filter λn:Nat=>decide (GR g (n:Int))).map λn:Nat=>((n:Int),g.node (n:Int))
open Classical in
def Rq(g:BR)(n:Nat):Ip g (n+1)=Ip g n++if GR g (n:Int) then[((n:Int),g.node (n:Int))] else[]:=by
 unfold Ip;rw[List.range_succ,List.filter_append,List.map_append];congr 1;by_cases c:GR g (n:Int)
 ·rw[if_pos c];simp[c]
 ·rw[if_neg c];simp[c]
def Tg(g:BR)(n:Nat):(Ip g n).length<=n:=by unfold Ip;rw[List.length_map];refine Nat.le_trans (List.length_filter_le _ _) (by simp)
open Classical in
def Qp(h0:CE lo W cf p tv nv hs ns g)(ok:C8 g)(hn:g.nd.length<=90000){mv:Value}(hnm:Cc W mv)(hk:∀w',EA W yb L (Ip g g.nd.length) w'->F15.k16 K (.pointer (some ⟨y2,0,none⟩)) (.pointer (some ⟨yb,0,none⟩)) w'):
  ∀(d n:Nat) (w:World),n+d=g.nd.length->EA W yb L (Ip g n) w->BO w mv 4 1 (CA (Hn g))->F15.l10 K (.pointer (some ⟨p,0,none⟩)) (.pointer (some ⟨y2,0,none⟩)) (.pointer (some ⟨yb,0,none⟩)) mv (.int .i64 (n:Int)) w:=by
 have hlens:=h0.lens;have hml:(Hn g).length=g.nd.length:=by simp[Hn]
 intro d;induction d with
 | zero=>
  intro n w he hs1 hm;refine F15.l10.to (AK hm.rd ?_);rw[Db,hml];simp only[zv,show ¬((n:Int)<(g.nd.length:Int)) by omega];have:n=g.nd.length:=by omega
  subst this;exact hk w hs1
 | succ d ih=>
  intro n w he hs1 hm;have hnl:n<g.nd.length:=by omega
  have hsucc:=Rq g n;have hgt:(Hn g)[n]'(by omega)=decide (GR g (n:Int)):=by simp[Hn]
  refine F15.l10.to (AK hm.rd ?_);rw[Db,hml];simp only[zv,show ((n:Int)<(g.nd.length:Int)) by omega];refine F15.k12.to (AS hm.rd (by omega) (by rw[Int.toNat_natCast];exact IK (by omega)) λg1 o1 cs1 e1 fz1 hg1 _ hs1'=>Ac (v := .bool ((Hn g)[n]'(by omega))) hg1 (by simpa using hs1' 0 (by decide)) ?_);rw[hgt]
  have go:∀w',EA W yb L (Ip g (n+1)) w'->BO w' mv 4 1 (CA (Hn g))->F15.k11 K (.pointer (some ⟨p,0,none⟩)) (.pointer (some ⟨y2,0,none⟩)) (.pointer (some ⟨yb,0,none⟩)) mv (.int .i64 (n:Int)) w':=λw' a b=>by
   refine F15.k11.to ?_;simp only[AC];rw[BN (n:=(n:Int)+1) (by omega),show (n:Int)+1=((n+1:Nat):Int) by omega];exact ih (n+1) w' (by omega) a b
  by_cases hr:GR g (n:Int)
  rotate_left
  ·rw[if_neg hr,List.append_nil]at hsucc;rw[decide_eq_false hr];simp only[zv];exact go w (by rw[hsucc];exact hs1) hm
  rw[if_pos hr]at hsucc;rw[decide_eq_true hr];have h:=h0.keep0 hs1.fr;have hn':((n:Int)).toNat<ns.length:=by rw[Int.toNat_natCast];omega
  have hnd:=(ok.nd _ (List.getElem_mem hnl)).1;have hno:=h.nodeO hnl (by omega);have enode:g.node (n:Int)=g.nd[n]:=by rw[BR.node_eq (by rw[Int.toNat_natCast];exact hnl)];simp
  simp only[zv];refine h.l11 (h.idxN (Fr.refl _ _) (by omega) hn' λg3 o3 hs3=>?_);obtain⟨cs,e,fz,a1,a2⟩:=hs3 w (Fr.refl _ _);have a2':cs[o3]?=some ns[n]:=by simpa using a2
  refine Ac (v:=ns[n]) a1 a2' (B2 hno.rd (by omega) λv1 w1 hf1 hn1 ho1=>?_);obtain⟨rv,nv',vs,fs,hx⟩:=(hs1.keep hf1).spec;refine Ac (v:=nv') hx.hb rfl ?_;obtain⟨A',c',e'⟩:=ho1.len;refine A7 (Wh (n:Int) e') ?_;have hm1:=hm.keep hf1 (by simp);have hnlen:=Tg g n;refine Sf (nd:=((n:Int),g.node (n:Int))) hx (by omega) (by simp only;rw[enode];exact ho1) (hn1.mono hs1.fr.size) λw2 hs2 hfv=>?_
  refine go w2 (by rw[hsucc];exact hs2) (hm1.keep' hfv λq hq c=>?_);rcases List.mem_cons.1 c with rfl|c
  ·exact hm1.nb hx.hb (by decide) hq
  ·exact hm1.ne hx.hN.sp (by decide) q hq c
def Ut(h:CE lo w cf p tv nv hs ns g)(ok:C8 g)(hn:g.nd.length<=90000)(hT:g.th.length<=1000)(hk:∀rv nv w',Fr [] w w'->E9 w' rv nv g.view->K (.agg #[rv,nv]) w'):I Tryz.prog 15 #[.pointer (some ⟨p,0,none⟩)] w K:=by
 refine F15.sh (Ay λy2 w1 hn1=>Ay λyb w2 hn2=>?_);have l1:=hn1.is;have l2:=hn2.is;have h1:=h.keep0 hn1.fr;have hs2:EA w1 yb ((g.th.take 0).map Prod.snd) [] w2:=⟨hn2.fr,by omega,.slice none 0 0,.slice none 0 0,[],[],hn2.at_,⟨BO.nil _ _ _,by simp[BM,Value.ownBlock],rfl,λi a=>by simp at a⟩,⟨rfl,BO.nil _ _ _,by simp[BM,Value.ownBlock],λi a=>by simp at a⟩⟩
 refine Sj (W:=w1) (yb:=yb) (y2:=y2) h1 ok hT (λw3 hs3=>?_) g.th.length 0 w2 (by omega) hs2;refine F15.k8.to (Pe (h1.keep0 hs3.fr) ok hn hT λmv w4 hf4 hn4 ho4=>?_);refine Qp (W:=w1) (yb:=yb) (y2:=y2) (L:=g.th.map Prod.snd) h1 ok hn (hn4.mono hs3.fr.size) (λw5 hs5=>?_) g.nd.length 0 w4 (by omega) (by simpa[Ip] using hs3.keep hf4) ho4;obtain⟨rv,nv',vs,fs,e1,e2,e3⟩:=hs5.ex
 have b2:w5.heap[y2]?=some (.cells #[.slice none 0 0,.slice none 0 0] 46 (0,0)):=hs5.fr.at_ hn1.at_ (by simp);have hV:E9 w5 rv nv' g.view:=⟨e2.rd,e3.rd⟩;refine F15.k16.to (A5 e1 rfl (AB (x := .agg #[rv,nv']) b2 (by rw[hV.cells];rfl) hV.ones rfl λw6 hu6=>?_));rw[hV.cells]at hu6;have y2l:y2<w1.heap.size:=(Array.getElem?_eq_some_iff.1 hn1.at_).1
 refine A5 hu6.at_ rfl (hk rv nv' w6 ((hn1.fr.trans hs5.fr).then hu6.fr λq hq => .inr (by simp only[List.mem_singleton]at hq;omega)) ⟨?_,?_⟩)
 ·exact (e2.keep hu6.fr λq hq => .inl (by simp only[List.mem_singleton]at hq;omega)).rd
 ·exact (e3.keep hu6.fr λq hq => .inl (by simp only[List.mem_singleton]at hq;omega)).rd
end
section
variable{cf:Cf}{E:Int}{c d:Co}{m:Ma}{g:BR}
def VI.rin{x:Ma}(h:VI x.co):EV x:=λt v hv h2=>by
 unfold Co.roots at hv;split at hv
 ·have hk:=h.row t.toNat v hv;unfold Dk D8 at hk;rw[h2,if_neg (by decide),if_neg (by decide),if_pos rfl]at hk;by_cases hr:0<=v.2/\v.2<2048
  ·exact hr
  ·rw[if_neg hr]at hk;cases hk
 ·cases hv
end
section
variable{K:VK}{w:World}{cf:Cf}
def Yk(x y:Operand)(a b:BZ):(do eqGuard .neq 38 x y (Cg a) (Cg b);binOp .neq 38 (Cg a) (Cg b):Sem Value).run Tryz.prog w=.ok (.bool (!([a.code,a.kd,a.n,a.done,a.credit] == [b.code,b.kd,b.n,b.done,b.credit]))) w:=
 Nf (ks:=[.i64,.i64,.i64,.i64,.i64]) x y Tryz.underlying38 (by kernel_rfl) (by kernel_rfl) (by kernel_rfl) [a.code,a.kd,a.n,a.done,a.credit] [b.code,b.kd,b.n,b.done,b.credit] rfl rfl
def WR{W:World}{u:Value}{l:List BY}(hu:Cq W u 7 (En l))(hf:Fr [] W w)(hk:∀u',Cq W u' 7 (En (l.take 70))->K u' w):I Tryz.prog 8 #[u] w K:=by
 refine F8.sh (AK (hu.keep hf) ?_);rw[E6];by_cases h:70<l.length
 ·simp only[zv,show (70:Int)<(l.length:Int) by omega];obtain⟨A,c,rfl,h1,h2,h3⟩:=id hu;rw[E6]at h1 ⊢;have run:∀w':World,(Instr.sliceAt 24 (.slice A l.length c) none (some (.int .i64 70)) none).run Tryz.prog w'=.ok (.slice A 70 c) w':=λw'=>by
   have:=F4 (P:=Tryz.prog) (w:=w') (t:=24) (e:=40) (sz:=7) A l.length c .i64 70 Tryz.underlying24 (by kernel_rfl) (by omega) (by omega);exact this
  have ht:=Cq.take hu 70 (by rw[E6];omega);refine A7 (run w) (hk _ ?_);have e:En (l.take 70)=(En l).take 70:=by simp[En,List.map_take]
  rw[e];exact ht
 ·simp only[zv,show ¬(70:Int)<(l.length:Int) by omega];refine F8.k3.to (hk u ?_);rw[List.take_of_length_le (by omega)];exact hu
variable{A A':Ci}{g g':Gw}{B B':Int}{x:Ma}
end
def Kp(lo:Nat)(X:List Nat)(w0 w:World):Prop:=(∃S:List Nat,Fr S w0 w/\∀s∈S,s<lo)/\∀q∈X,q<lo∨w0.heap.size<=q
section
variable{lo:Nat}{X X':List Nat}{w0 w w':World}
def Kp.new(h:∀q∈X,q<lo∨w.heap.size<=q):Kp lo X w w:=⟨⟨[],Fr.refl _ _,by simp⟩,h⟩
def Kp.go{S':List Nat}(h:Kp lo X w0 w)(hf:Fr S' w w')(h1:∀s∈S',s∈X∨w.heap.size<=s)(h2:∀q∈X',q∈X∨w.heap.size<=q):Kp lo X' w0 w':=by
 obtain⟨⟨S,f,hS⟩,hX⟩:=h;have sz:=f.size;refine⟨⟨S++S'.filter (λs=>decide (s<lo)),(f.mono λx hx=>List.mem_append_left _ hx).then hf λs hs=>?_,λs hs=>?_⟩,λq hq=>?_⟩
 ·rcases h1 s hs with c|c
  ·rcases hX s c with d|d
   ·exact .inl (List.mem_append_right _ (List.mem_filter.2 ⟨hs,by simpa using d⟩))
   ·exact .inr d
  ·exact .inr (by omega)
 ·rcases List.mem_append.1 hs with c|c
  ·exact hS s c
  ·simpa using (List.mem_filter.1 c).2
 ·rcases h2 q hq with c|c
  ·exact hX q c
  ·exact .inr (by omega)
def Kp.view(h:Kp lo X w0 w){rv nv:Value}{V:Vw}{vs fs:List Value}{l0:Nat}(hl:lo<=l0)(hR:CX l0 w0 rv V.1 vs)(hN:CP l0 w0 nv V.2 fs):E9 w rv nv V:=by obtain⟨⟨S,f,hS⟩,_⟩:=h;exact⟨(hR.keep f λg hg => .inl (by have:=hS g hg;omega)).rd,(hN.keep f λg hg => .inl (by have:=hS g hg;omega)).rd⟩
end
section
variable{K:VK}{A:Ci}{g:Gw}{cf:Cf}{B:Int}{x:Ma}{w:World}
def BU.inA{T:Nat}{g g':Gw}{w w':World}(h:BU A T g w g' w'){y:Nat}(hy:y∈A.all T g'):y∈A.all T g∨w.heap.size<=y:=by
 unfold Ci.all at hy ⊢;simp only[List.mem_append]at hy ⊢;rcases hy with c|c|c
 ·exact .inl (.inl c)
 ·exact .inl (.inr (.inl c))
 ·rcases h.gr y c with d|d
  ·exact .inl (.inr (.inr d))
  ·exact .inr d
def BU.own{T:Nat}{g g':Gw}{w w':World}{v:Value}{e:TypeId}{sz:Nat}{xs:List (List Value)}(h:BU A T g w g' w')(hv:BO w v e sz xs)(hd:∀q∈BM v,q∉A.all T g):BO w' v e sz xs/\∀q∈BM v,q∉A.all T g':=
 ⟨hv.keep' h.fr λq hq c=>hd q hq (Ci.subS c),λq hq c=>by
  rcases h.inA c with d|d
  ·exact hd q hq d
  ·have:=hv.mem_lt q hq;omega⟩
end
section
variable{K:VK}{Z:ZT}{W w:World}{cf:Cf}
def Yt(A A':Option Addr)(n c n' c':Nat):(Instr.build 79 #[(0,.agg (C9 cf).toArray),(1,.slice A n c),(2,.slice A' n' c')]).run Tryz.prog w=.ok (.agg (C9 cf++[Value.slice A n c,Value.slice A' n' c']).toArray) w:=by kernel_rfl
def UL(A A':Option Addr)(n c n' c':Nat):Value.cells (.agg (C9 cf++[Value.slice A n c,Value.slice A' n' c']).toArray)=(C9 cf++[Value.slice A n c,Value.slice A' n' c']).toArray:=by simp[C9,Value.cells]
def Te{m:Nat}(hm:m<=1000)(hk:∀q w',Fr [] w w'->w.heap.size<=q->BO w' (.slice (some ⟨q,0,none⟩) m m) 83 2 (FU (List.replicate m (false,[])) (List.replicate m (.slice none 0 0)))->K (.slice (some ⟨q,0,none⟩) m m) w'):
  Am Tryz.prog (Instr.makeSlice 77 (.int .i64 (m:Int)) (.int .i64 (m:Int))) w K:=by
 refine Be (P:=Tryz.prog) (e:=83) (sz:=2) (bytes:=32) (z := .agg #[.bool false,.slice none 0 0]) m Tryz.underlying77 (by kernel_rfl) rfl (by decide) (by simp[Value.cells,Value.oneCell']) (by omega) (by omega) λq w1 hn ho=>?_;refine hk q w1 hn.fr (by have:=hn.is;omega) ?_
 have e:List.replicate m (Value.cells (.agg #[.bool false,.slice none 0 0])).toList=FU (List.replicate m (false,[])) (List.replicate m (.slice none 0 0)):=by unfold FU;rw[List.zipWith_replicate'];rfl
 rw[e]at ho;exact ho
def Lb{A:Option Addr}{n c:Nat}(hk:∀q w',Fr [] w w'->w.heap.size<=q->BO w' (.slice (some ⟨q,0,none⟩) 1 1) 56 1 (E5 [.slice A n c])->K (.slice (some ⟨q,0,none⟩) 1 1) w'):Am Tryz.prog (Instr.buildSlice 43 1 #[(0,.slice A n c)]) w K:=by have hn:=Dz.mk' w (.cells #[.slice A n c] 56);refine A7 (TH A n c) (hk _ _ hn.fr (Nat.le_refl _) ?_);exact BO.of_block hn.at_ rfl (by decide) (by decide) rfl (by simp[E5,Value.oneCell']) rfl
def VC(hT:0<=cf.threads/\cf.threads<=1000)(hk:∀p w',CT (λ_ _=>False) w w' cf p (BR.new cf)->K (.pointer (some ⟨p,0,none⟩)) w'):I Tryz.prog 12 #[.agg (C9 cf).toArray] w K:=by
 obtain⟨m,hm⟩:=Int.eq_ofNat_of_zero_le hT.1;have hm1:m<=1000:=by omega
 refine F12.sh (Ay λb w1 hn1=>A8 (λw'=>Fr [] w1 w') λw2 hf2 _=>⟨hf2,?_⟩);have l1:=hn1.is;have s1:=hn1.fr.size;simp only[Ah,Nat.zero_add,and_true];refine Bc (x:=C9 cf) rfl (by decide) (λw' hw=>⟨_,_,_,hw.at_ hn1.at_ (by simp),λj hj=>?_⟩) ?_
 ·have:j=0∨j=1∨j=2∨j=3∨j=4∨j=5∨j=6∨j=7∨j=8∨j=9:=by omega
  rcases this with rfl|rfl|rfl|rfl|rfl|rfl|rfl|rfl|rfl|rfl<;>rfl
 refine Aq (v := .int .i64 cf.threads) (λw' hw=>⟨_,_,_,hw.at_ hn1.at_ (by simp),rfl⟩) ?_;rw[hm];have f2:=hn1.fr.trans hf2;have tail:∀(w5:World) (q1 q2 q3:Nat),Fr [] w2 w5->w2.heap.size<=q1->w2.heap.size<=q2->w2.heap.size<=q3->
   BO w5 (.slice (some ⟨q1,0,none⟩) m m) 83 2 (FU (List.replicate m (false,[])) (List.replicate m (.slice none 0 0)))->BO w5 (.slice (some ⟨q2,0,none⟩) 4 4) 60 2 (Ck (List.replicate 4 (0,0)))->BO w5 (.slice (some ⟨q3,0,none⟩) 1 1) 56 1 (E5 [.slice (some ⟨q2,0,none⟩) 4 4])->
   ∃x9,(∀w',Fr [] w1 w'->(Instr.build 79 #[(0,.agg (C9 cf).toArray),(1,.slice (some ⟨q1,0,none⟩) m m),(2,.slice (some ⟨q3,0,none⟩) 1 1)]).run Tryz.prog w'=.ok x9 w')/\(Aw (.cells (Value.cells x9) 79) w5 λx10 w19=>(Fr [] w1 w19/\K x10 w19)):=λw5 q1 q2 q3 h5 h1 h2 h3 o1 o2 o3=>by
  refine⟨_,λw' _=>Yt _ _ _ _ _ _,Ay λp w6 hn6=>⟨(hf2.trans h5).trans hn6.fr,hk p w6 ⟨⟨(f2.trans h5).trans hn6.fr,λq Q hq=>hq.elim⟩,.slice (some ⟨q1,0,none⟩) m m,.slice (some ⟨q3,0,none⟩) 1 1,List.replicate m (.slice none 0 0),[.slice (some ⟨q2,0,none⟩) 4 4],?_⟩⟩⟩;have l6:=hn6.is;have a6:=hn6.at_;rw[UL]at a6;have s2:=f2.size;have s5:=h5.size
  have nbs:∀y,y∉CM (List.replicate m (Value.slice none 0 0)):=λy hy=>by
   obtain⟨v,hv,hy'⟩:=CR.1 hy;rw[List.eq_of_mem_replicate hv]at hy';simp[BM,Value.ownBlock]at hy'
  have eth:(BR.new cf).th=List.replicate m (false,[]):=by unfold BR.new;rw[hm,Int.toNat_natCast]
  have end_:(BR.new cf).nd=[List.replicate 4 (0,0)]:=rfl;refine⟨a6,?_,o3.keep hn6.fr (by simp),?_,?_,λy hy=>absurd hy (nbs y),by omega,λy hy=>?_,λy hy=>?_,λy hy=>absurd hy (nbs y),λy hy=>?_⟩
  ·rw[eth];exact o1.keep hn6.fr (by simp)
  ·rw[eth];refine⟨by simp[I7],λi h1 h2=>?_,λi j h1 h2 hne y hy=>?_⟩
   ·have e1:(List.replicate m (Value.slice none 0 0))[i]=.slice none 0 0:=by simp
    have e2:(I7 (List.replicate m (false,[])))[i]=[]:=by simp[I7,Ck]
    rw[e1,e2];exact BO.nil _ _ _
   ·exact absurd (CH h1 hy) (nbs y)
  ·rw[end_];refine⟨rfl,λi h1 h2=>?_,λi j h1 h2 hne=>?_⟩
   ·have:i=0:=by simp at h1;omega
    subst this;exact o2.keep hn6.fr (by simp)
   ·simp at h1 h2;omega
  ·simp[BM,Value.ownBlock]at hy;omega
  ·simp[BM,Value.ownBlock]at hy;omega
  ·obtain⟨v,hv,hy'⟩:=CR.1 hy;rw[List.mem_singleton.1 hv]at hy';simp[BM,Value.ownBlock]at hy';omega
 refine⟨Te hm1 λq1 w3 hf3 hq1 ho1=>⟨hf2.trans hf3,K7 (m:=4) (by omega) λq2 w4 hf4 hq2 ho2=>⟨(hf2.trans hf3).trans hf4,Lb λq3 w5 hf5 hq3 ho3=>⟨((hf2.trans hf3).trans hf4).trans hf5,?_⟩⟩⟩,
  K7 (m:=4) (by omega) λq2 w3 hf3 hq2 ho2=>⟨hf2.trans hf3,Te hm1 λq1 w4 hf4 hq1 ho1=>⟨(hf2.trans hf3).trans hf4,Lb λq3 w5 hf5 hq3 ho3=>⟨((hf2.trans hf3).trans hf4).trans hf5,?_⟩⟩,Lb λq3 w4 hf4 hq3 ho3=>⟨(hf2.trans hf3).trans hf4,Te hm1 λq1 w5 hf5 hq1 ho1=>⟨((hf2.trans hf3).trans hf4).trans hf5,?_⟩⟩⟩⟩
 ·have a:=hf3.size;have a':=hf4.size;exact tail w5 q1 q2 q3 ((hf3.trans hf4).trans hf5) hq1 (by omega) (by omega) ((ho1.keep hf4 (by simp)).keep hf5 (by simp)) (ho2.keep hf5 (by simp)) ho3
 ·have a:=hf3.size;have a':=hf4.size;exact tail w5 q1 q2 q3 ((hf3.trans hf4).trans hf5) (by omega) hq2 (by omega) (ho1.keep hf5 (by simp)) ((ho2.keep hf4 (by simp)).keep hf5 (by simp)) ho3
 ·have a:=hf3.size;have a':=hf4.size;exact tail w5 q1 q2 q3 ((hf3.trans hf4).trans hf5) (by omega) hq2 (by omega) ho1 ((ho2.keep hf4 (by simp)).keep hf5 (by simp)) (ho3.keep hf5 (by simp))
end
def Ma.vws(cf:Cf):Ma->List BY->List Vw
 | _,[]=>[]
 | m,s::l=>(m.step cf s).1.view cf::Ma.vws cf (m.step cf s).1 l
theorem OT(cf:Cf):∀(l:List BY) (m:Ma),(m.vws cf l).length=l.length
 | [],m=>rfl
 | s::l,m=>by unfold Ma.vws;rw[List.length_cons,OT cf l,List.length_cons]
def I9(ps:List (Value × Value)):List (List Value):=ps.map λp=>[p.1,p.2]
def Lq(ps:List (Value × Value)):(I9 ps).length=ps.length:=by simp[I9]
def UX{ps:List (Value × Value)}{i:Nat}(h:i<ps.length):(I9 ps)[i]?=some [ps[i].1,ps[i].2]:=by simp[I9,h]
def UW(a b:List (Value × Value)):I9 (a++b)=I9 a++I9 b:=by simp[I9]
def M6(w:World)(v:Value)(Vs:List Vw):Prop:=∃ps:List (Value × Value),ps.length=Vs.length/\Cq w v 2 (I9 ps)/\∀(i:Nat) (h:i<ps.length) (h':i<Vs.length),E9 w ps[i].1 ps[i].2 Vs[i]
def M6.keep{w w':World}{v:Value}{Vs:List Vw}(h:M6 w v Vs)(hf:Fr [] w w'):M6 w' v Vs:=by obtain⟨ps,h1,h2,h3⟩:=h;exact⟨ps,h1,h2.keep hf,λi a b=>(h3 i a b).keep hf⟩
def L7(X:List Nat)(w:World)(p:Value × Value)(V:Vw):Prop:=∃lo w0 vs fs,Kp lo X w0 w/\CX lo w0 p.1 V.1 vs/\CP lo w0 p.2 V.2 fs
def L7.go{X X' S':List Nat}{w w':World}{p:Value × Value}{V:Vw}(h:L7 X w p V)(hf:Fr S' w w')(h1:∀s∈S',s∈X∨w.heap.size<=s)(h2:∀q∈X',q∈X∨w.heap.size<=q):L7 X' w' p V:=by obtain⟨lo,w0,vs,fs,a,b,c⟩:=h;exact⟨lo,w0,vs,fs,a.go hf h1 h2,b,c⟩
def L7.isV{X:List Nat}{w:World}{p:Value × Value}{V:Vw}(h:L7 X w p V):E9 w p.1 p.2 V:=by obtain⟨lo,w0,vs,fs,a,b,c⟩:=h;exact a.view (Nat.le_refl _) b c
def Sx:DX Tryz.prog 35=true:=by kernel_rfl
section
variable{K:VK}{A:Ci}{g:Gw}{cf:Cf}{B:Int}{x:Ma}{w:World}
def XN(A A':Option Addr)(n c n' c':Nat):(Instr.buildSlice 31 1 #[(0,.agg #[.slice A n c,.slice A' n' c'])]).run Tryz.prog w=.ok (.slice (some ⟨w.heap.size,0,none⟩) 1 1) (w.alloc (.cells #[.slice A n c,.slice A' n' c'] 46)):=by kernel_rfl
def Uy{a:BZ}(h:BV A g cf B w x)(hr:EV x)(hk:∀rv nv lo w0 vs fs w',Fr [] w w'->w.heap.size<=lo->Fr [] w w0->CX lo w0 rv (x.view cf).1 vs->CP lo w0 nv (x.view cf).2 fs->Kp lo (A.all cf.threads.toNat g) w0 w'->K (.agg #[rv,nv]) w'):
  DK Tryz.prog (.func (.func 35) #[] #[]) [.pointer (some ⟨A.ma,0,none⟩),Cg a] w K:=by
 refine I1 Sx (F35.sh (Ay λb w1 hn1=>Ay λb2 w2 hn2=>?_));have l1:=hn1.is;have l2:=hn2.is;have f2:=hn1.fr.trans hn2.fr;have h2:=h.keep0 f2;refine Uf h2 hr λrv nv vs fs w3 hf3 hR3 hN3=>?_;have hV:E9 w3 rv nv (x.view cf):=⟨hR3.rd,hN3.rd⟩;have hb2:=hf3.at_ hn2.at_ (by simp);have s1:=hn1.fr.size;have s2:=f2.size;have lb2:=BP hn2.at_;refine AB (x := .agg #[rv,nv]) hb2 (by rw[hV.cells];rfl) hV.ones rfl λw4 hu4=>?_
 rw[hV.cells]at hu4;have hk0:Kp w2.heap.size (A.all cf.threads.toNat g) w3 w3:=Kp.new λq hq => .inl (h2.ltA q hq);refine A5 hu4.at_ rfl (hk rv nv w2.heap.size w3 vs fs w4 ((f2.trans hf3).then hu4.fr (by simp;omega)) s2 (f2.trans hf3) hR3 hN3 ?_);have hkb:Kp w2.heap.size (b2::A.all cf.threads.toNat g) w3 w3:=Kp.new λq hq => .inl (by
  rcases List.mem_cons.1 hq with rfl|c
  ·exact lb2
  ·exact h2.ltA q c)
 exact hkb.go hu4.fr (λs hs => .inl (by rw[List.mem_singleton.1 hs];simp)) λq hq => .inl (List.mem_cons_of_mem _ hq)
def Ph{W:World}{u:Value}{l:List BY}(hl:l.length<=256)(hu:Cq W u 7 (En l))(hk:∀v w',Fr [] W w'->M6 w' v (x.vws cf l)->K (.tuple #[v,.int .i64 0]) w'):
  ∀(d i:Nat) (w:World) (v:Value) (g:Gw) (B:Int) (y:Ma) (ps:List (Value × Value)) (Vs:List Vw),i+d=l.length->Fr [] W w->BV A g cf B w y->Fs W A cf.threads.toNat g->B<=64*i->VI y.co->Cc W v->BO w v 46 2 (I9 ps)->ps.length=i->Vs.length=i->Vs++y.vws cf (l.drop i)=x.vws cf l->
   (∀(k:Nat) (h:k<ps.length) (h':k<Vs.length),L7 (A.all cf.threads.toNat g++BM v) w ps[k] Vs[k])->(∀q∈BM v,q∉A.all cf.threads.toNat g)->
   F34.l8 K (.func (.func 35) #[] #[]) (.pointer (some ⟨A.ma,0,none⟩)) v u (.int .i64 (l.length:Int)) (.int .i64 (i:Int)) w:=by
 intro d;induction d with
 | zero=>
  intro i w v g B y ps Vs hi hf hm hs hB hV hn hv hp hVs he hall hd;have e:i=l.length:=by omega
  subst e;refine F34.l8.to ?_;simp only[zv,show ¬((l.length:Int)<(l.length:Int)) by omega];rw[List.drop_length]at he;simp only[Ma.vws,List.append_nil]at he;rw[<-he]at hk;exact F34.k13.to (hk v w hf ⟨ps,by omega,hv.rd,λi a b=>(hall i a b).isV⟩)
 | succ d ih=>
  intro i w v g B y ps Vs hi hf hm hs hB hV hn hv hp hVs he hall hd;have hlt:i<l.length:=by omega
  refine F34.l8.to ?_;simp only[zv,show (i:Int)<(l.length:Int) by omega];refine F34.k9.to (BA (hu.keep hf) hlt ?_);generalize hgs:l[i]=s;refine Ay λb w1 hn1=>AB (x:=C5 s) hn1.at_ rfl Nx rfl λw2 hu2=>A5 hu2.at_ rfl ?_;have l1:=hn1.is;have s1:=hn1.fr.size;have f2:Fr [] w w2:=hn1.fr.then hu2.fr (by simp;omega);have hm2:=hm.keep0 f2;refine Qv hm2 (by omega) λg3 w3 hT3 hm3=>?_;have hF3:=hs.fr (hf.trans f2) hT3
  have s2:=f2.size;obtain⟨hv3,hd3⟩:=hT3.own (hv.keep f2 (by simp)) hd;have hV1:=VI.step cf hV s;refine Ay λb4 w4 hn4=>AB (x:=Cg (y.step cf s).2) hn4.at_ rfl CU rfl λw5 hu5=>A5 hu5.at_ rfl ?_;have l4:=hn4.is;have s4:=hn4.fr.size;have f5:Fr [] w3 w5:=hn4.fr.then hu5.fr (by simp;omega);have hm5:=hm3.keep0 f5;refine Uy hm5 hV1.rin λrv nv lo w0 vs fs w6 hf6 hlo hf0 hR hN hKp=>?_;have f6:=f5.trans hf6
  have hv6:=hv3.keep f6 (by simp);have hm6:=hm3.keep0 f6;have hVw:E9 w6 rv nv ((y.step cf s).1.view cf):=hKp.view (Nat.le_refl _) hR hN;have hold:∀(k:Nat) (h:k<ps.length) (h':k<Vs.length),L7 (A.all cf.threads.toNat g3++BM v) w6 ps[k] Vs[k]:=λk h h'=>by
   have h0:=(hall k h h').go (X':=A.all cf.threads.toNat g++BM v) f2 (by simp) λq hq => .inl hq;have h1:=h0.go (X':=A.all cf.threads.toNat g3++BM v) hT3.fr (λs hs => .inl (List.mem_append_left _ (Ci.subS hs))) λq hq=>by
    rcases List.mem_append.1 hq with c|c
    ·exact (hT3.inA c).imp (List.mem_append_left _) id
    ·exact .inl (List.mem_append_right _ c)
   exact h1.go f6 (by simp) λq hq => .inl hq
  have hnew:L7 (A.all cf.threads.toNat g3++BM v) w6 (rv,nv) ((y.step cf s).1.view cf):=by
   obtain⟨k1,k2⟩:=hKp;refine⟨lo,w0,vs,fs,⟨k1,λq hq=>?_⟩,hR,hN⟩;rcases List.mem_append.1 hq with c|c
   ·exact k2 q c
   ·have:=hv3.mem_lt q c;have:=f5.size;exact .inl (by omega)
  obtain⟨A1,c1,e1⟩:=hR.sp.len;obtain⟨A2,c2,e2⟩:=hN.sp.len;have hbs:=XN (w:=w6) A1 A2 (E5 vs).length c1 (I8 ((y.step cf s).1.view cf).2 fs).length c2;rw[<-e1, <-e2]at hbs;refine Bm (W0:=W) (x:=[rv,nv]) (e:=46) (sz:=2) (bytes:=48) (z := .agg #[.slice none 0 0,.slice none 0 0]) Tryz.underlying31 (by kernel_rfl) rfl (by decide) hbs rfl (by
   intro z hz;simp only[List.mem_cons,List.not_mem_nil,or_false]at hz;rcases hz with rfl|rfl
   ·exact hR.sp.one.1
   ·exact hN.sp.one.1) (hF3.trans f6) hn hv6 (by rw[Lq];omega) (by rw[Lq];omega) λv' w7 hf7 hn7 ho7 hf7' hg7=>?_
  refine F34.k12.to ?_
  try simp only[AC]
  rw[BN (n:=(i:Int)+1) (by omega),show (i:Int)+1=((i+1:Nat):Int) by omega];have hX:∀q∈A.all cf.threads.toNat g3++BM v',q∈A.all cf.threads.toNat g3++BM v∨w6.heap.size<=q:=λq hq=>by
   rcases List.mem_append.1 hq with c|c
   ·exact .inl (List.mem_append_left _ c)
   ·exact (hg7 q c).imp (List.mem_append_right _) id
  refine ih (i+1) w7 v' g3 (B+64) (y.step cf s).1 (ps++[(rv,nv)]) (Vs++[(y.step cf s).1.view cf]) (by omega) hf7 (hm6.keep hf7' λq hq c=>hd3 q c hq) (hs.step hT3 (hf.trans f2).size) (by omega) hV1 hn7 (by rw[UW];exact ho7) (by simp[hp]) (by simp[hVs]) ?_ (λk h h'=>?_) λq hq c=>?_
  ·rw[<-he,List.drop_eq_getElem_cons hlt,hgs];simp[Ma.vws]
  ·by_cases e:k<ps.length
   ·have e':k<Vs.length:=by omega
    rw[List.getElem_append_left e,List.getElem_append_left e'];exact (hold k e e').go hf7' (λs hs => .inl (List.mem_append_right _ hs)) hX
   ·have ek:k=ps.length:=by simp at h;omega
    have ek':k=Vs.length:=by omega
    have a1:(ps++[(rv,nv)])[k]=(rv,nv):=by subst ek;simp
    have a2:(Vs++[(y.step cf s).1.view cf])[k]=(y.step cf s).1.view cf:=by rw[List.getElem_append_right (by omega)];simp
    rw[a1,a2];exact hnew.go hf7' (λs hs => .inl (List.mem_append_right _ hs)) hX
  ·rcases hg7 q hq with d|d
   ·exact hd3 q d c
   ·have:=hm6.ltA q c;omega
def U6{u:Value}{l:List BY}(L:cf.Legal)(hT:F0 w)(hz:0<w.heap.size)(hl:l.length<=256)(hu:Cq w u 7 (En l))(hk:∀v w',Fr [] w w'->M6 w' v ((Ma.new cf).vws cf l)->K (.tuple #[v,.int .i64 0]) w'):
  I Tryz.prog 10 #[.agg (C9 cf).toArray,u] w K:=by
 refine F10.sh (Ay λb w1 hn1=>A5 hn1.at_ rfl (F34.sh (Ay λb2 w2 hn2=>A5 hn2.at_ rfl ?_)));have f2:=hn1.fr.trans hn2.fr;refine Jo (hT.keep f2 (by simp)) (Nat.lt_of_lt_of_le hz f2.size) (λL'=>absurd L L') λ_ A g w3 hf3 hg3 hn3 hm3=>?_;have f3:=f2.trans hf3;simp only[zv,eq_self,ne_eq,not_true_eq_false];refine AK (hu.keep f3) ?_;rw[E6];simp only[zv,show ¬((256:Int)<(l.length:Int)) by omega]
 refine F34.k6.to (AK (hu.keep f3) ?_);rw[E6];have hs3:Fs w A cf.threads.toNat g:=Fs.of hm3 λy hy=>(hn3 y hy).imp id λh=>Nat.le_trans f2.size h;refine Ph (W:=w) (x:=Ma.new cf) hl hu (λv w4 hf4 h4=>?_) l.length 0 w3 _ g 0 (Ma.new cf) [] [] (by omega) f3 hm3 hs3 (by omega) (VI.new cf) (Cc.nil _) (BO.nil _ _ _) rfl rfl (by simp) (λk h=>by simp at h) (by simp[BM,Value.ownBlock]);simp only[zv];exact hk v w4 hf4 h4
def Sp{u:Value}(L:¬cf.Legal)(hT:F0 w)(hz:0<w.heap.size)(hk:∀w',Fr [] w w'->K (.tuple #[.slice none 0 0,.int .i64 6]) w'):I Tryz.prog 10 #[.agg (C9 cf).toArray,u] w K:=by refine F10.sh (Ay λb w1 hn1=>A5 hn1.at_ rfl (F34.sh (Ay λb2 w2 hn2=>A5 hn2.at_ rfl ?_)));have f2:=hn1.fr.trans hn2.fr;refine Jo (hT.keep f2 (by simp)) (Nat.lt_of_lt_of_le hz f2.size) (λ_ w3 hf3=>?_) λL'=>absurd L' L;simp only[zv,ne_eq,show ¬((6:Int)=0) by decide,not_false_eq_true];exact hk w3 (f2.trans hf3)
def VO{u:Value}(L:¬cf.Legal)(hT:F0 w)(hz:0<w.heap.size)(hk:∀w',Fr [] w w'->K (.tuple #[.slice none 0 0,.int .i64 6]) w'):I Tryz.prog 9 #[.agg (C9 cf).toArray,u] w K:=by refine F9.sh (Ay λb w1 hn1=>A5 hn1.at_ rfl (F32.sh (Ay λb2 w2 hn2=>A5 hn2.at_ rfl ?_)));have f2:=hn1.fr.trans hn2.fr;refine Jo (hT.keep f2 (by simp)) (Nat.lt_of_lt_of_le hz f2.size) (λ_ w3 hf3=>?_) λL'=>absurd L' L;simp only[zv,ne_eq,show ¬((6:Int)=0) by decide,not_false_eq_true];exact hk w3 (f2.trans hf3)
end
def D1.of{cf:Cf}(L:cf.Legal):D1 cf:=by have h:=L.1;have g:∀i:Nat,i<10->(GE.getD i (0,0)).1<=(H3 cf).getD i 0/\(H3 cf).getD i 0<=(GE.getD i (0,0)).2:=h;have h0:=g 0 (by decide);have h6:=g 6 (by decide);have h7:=g 7 (by decide);simp[GE,H3]at h0 h6 h7;exact⟨by omega,by omega,by omega⟩
def Legal.t8{cf:Cf}(L:cf.Legal):0<=cf.threads/\cf.threads<=8/\0<=cf.cap:=by have g:∀i:Nat,i<10->(GE.getD i (0,0)).1<=(H3 cf).getD i 0/\(H3 cf).getD i 0<=(GE.getD i (0,0)).2:=L.1;have h1:=g 1 (by decide);have h5:=g 5 (by decide);simp[GE,H3]at h1 h5;omega
section
variable{K:VK}{w:World}{cf:Cf}{A:Ci}
end
end
noncomputable section
variable{K:VK}{w:World}{x0 x1 y1 y2 y5 y6 y7 y8 y9 y10 y11:Value}
namespace F3
def ann:Cd:=⟨[(3,[1,2]),(8,[1,2,5,6,7,8]),(11,[1,5,7,9]),(13,[1,5,7,9,10]),(14,[1,5,7,9,10]),(19,[1,5,7,9,10,11]),(21,[])],[(12,[1,5,7,9,10])],[],[(19,(tk [1,2,3,4,6,7,8,9,0,5,10] (.go 11 (tk [12,13,14,15,16,18,17] (.go 19 (.go 20 (tk [21,22] .fin) .fin) .fin)) .fin)))],none⟩
def code:=cd Tryz.f3
def BL:=tp Tryz.f3
variable(K:VK)(y1 y2 y5 y6 y7 y8 y9 y10 y11:Value)(w:World)
def k3:=nk ann 119 [(1,y1),(2,y2)] w [1,1] code (BL K)
def k8:=nk ann 119 [(1,y1),(2,y2),(5,y5),(6,y6),(7,y7),(8,y8)] w [1,1,1,1,1,1] code (BL K)
def k11:=nk ann 119 [(1,y1),(5,y5),(7,y7),(9,y9)] w [1,1,1,1,1,1,1,1] code (BL K)
def k21:=nk ann 119 [] w [1,1,1,1,1,1,1,1,1] code (BL K)
def l12:=nl ann 119 [(1,y1),(5,y5),(7,y7),(9,y9),(10,y10)] w [1,1,1,1,1,1,1,1,0,1,0] code (BL K)
def k14:=nk ann 119 [(1,y1),(5,y5),(7,y7),(9,y9),(10,y10)] w [1,1,1,1,1,1,1,1,0,1,0,0,1] code (BL K)
def k13:=nk ann 119 [(1,y1),(5,y5),(7,y7),(9,y9),(10,y10)] w [1,1,1,1,1,1,1,1,0,1,0,0,1,1] code (BL K)
def k19:=nk ann 119 [(1,y1),(5,y5),(7,y7),(9,y9),(10,y10),(11,y11)] w [1,1,1,1,1,1,1,1,0,1,0,0,1,0,0,1,1,1,1] code (BL K)
attribute [irreducible] k3 k8 k11 k21 l12 k14 k13 k19
end F3
def F3.k3.to(h:(I Tryz.prog 8 #[y1] w λa b=>Ak 10 y2 b λc d=>I Tryz.prog 9 #[c,a] d λf g=>Av 0 f g λi j=>Av 1 f j λk m=>Ak 10 y2 m λo p=>I Tryz.prog 10 #[o,a] p λq r=>Av 0 q r λs t=>Av 1 q t λu v=>Ak 10 y2 v λx y=>I Tryz.prog 11 #[x] y λz aa=>U .neq z (.int .i64 0) aa λab ac=>Af ab (U .eql k (.int .i64 6) ac λad ae=>Aa true ad (λK=>K u ae) ae λaf ag=>Aa true ad (λK=>K k ag) ag λah ai=>Aa true ad (U .eql af ah ai) ai λaj ak=>Ar (some ad) (some aj) (some (.bool false)) ak λal am=>K al am) (F3.k8 K a y2 i k s u ac))):F3.k3 K y1 y2 w:=qq h
def F3.k8.to(h:(Ak 10 y2 w λa b=>I Tryz.prog 12 #[a] b λc d=>U .neq y6 (.int .i64 0) d λf g=>Aa false f (λK=>K y8 g) g λi j=>Aa false f (U .neq i (.int .i64 0) j) j λk m=>Ar (some f) (some (.bool true)) (some k) m λo p=>Aa false o (λK=>K y5 p) p λq r=>Aa false o (AH q r) r λs t=>Aa false o (λK=>K y1 t) t λu v=>Aa false o (AH u v) v λx y=>Aa false o (U .neq s x y) y λz aa=>Ar (some o) (some (.bool true)) (some z) aa λab ac=>Aa false ab (λK=>K y7 ac) ac λad ae=>Aa false ab (AH ad ae) ae λaf ag=>Aa false ab (λK=>K y1 ag) ag λah ai=>Aa false ab (AH ah ai) ai λaj ak=>Aa false ab (U .neq af aj ak) ak λal am=>Ar (some ab) (some (.bool true)) (some al) am λan ao=>Af an (K (.bool false) ao) (F3.k11 K y1 y5 y7 c ao))):F3.k8 K y1 y2 y5 y6 y7 y8 w:=qq h
def F3.k11.to(h:(F3.l12 K y1 y5 y7 y9 (.int .i64 0) w)):F3.k11 K y1 y5 y7 y9 w:=qq h
def F3.k21.to(h:(K (.bool true) w)):F3.k21 K w:=qq h
def F3.l12.to(h:(AH y1 w λa b=>U .lss y10 a b λc d=>Af c (F3.k14 K y1 y5 y7 y9 y10 d) (F3.k21 K d))):F3.l12 K y1 y5 y7 y9 y10 w:=by unfold F3.l12 nl;exact BW (qq h)
def F3.k14.to(h:(A6 5 y5 y10 w λa b=>Ak 5 a b λc d=>Aw (.cells #[.int .i64 0,.int .i64 0,.int .i64 0,.int .i64 0,.int .i64 0] 38) d λf g=>Aj 5 f c g λi=>Ab 3 f i λj k=>Aj 1 j (.int .i64 0) k λm=>Ab 4 f m λo p=>Aj 1 o (.int .i64 0) p λq=>Ab 0 f q λr s=>Ad r s λt u=>U .eql t (.int .i64 10) u λv x=>Aa false v (Ab 0 f x) x λy z=>Aa false v (Ad y z) z λaa ab=>Aa false v (U .eql aa (.int .i64 21) ab) ab λac ad=>Ar (some v) (some (.bool true)) (some ac) ad λae af=>Aa true ae (λK=>K y1 af) af λag ah=>Aa true ae (λK=>K y10 ah) ah λai aj=>Aa true ae (A6 7 ag ai aj) aj λak al=>Aa true ae (Ab 0 ak al) al λam an=>Aa true ae (Ad am an) an λao ap=>Aa true ae (U .neq ao (.int .i64 3) ap) ap λaq ar=>Ar (some ae) (some aq) (some (.bool false)) ar λau av=>Aa true au (λK=>K y1 av) av λaw ax=>Aa true au (λK=>K y10 ax) ax λay az=>Aa true au (A6 7 aw ay az) az λba bb=>Aa true au (Ab 0 ba bb) bb λbc bd=>
 Aa true au (Ad bc bd) bd λbe bf=>Aa true au (U .neq be (.int .i64 15) bf) bf λbg bh=>Ar (some au) (some bg) (some (.bool false)) bh λbi bj=>Af bi (K (.bool false) bj) (F3.k19 K y1 y5 y7 y9 y10 f bj))):F3.k14 K y1 y5 y7 y9 y10 w:=qq h
def F3.k13.to(h:(U .add y10 (.int .i64 1) w λa b=>F3.l12 K y1 y5 y7 y9 a b)):F3.k13 K y1 y5 y7 y9 y10 w:=qq h
def F3.k19.to(h:(A4 w λS a=>A6 7 y1 y10 a λb c=>A6 5 y5 y10 c λd f=>Ab 0 d f λg i=>AN S 5 y11 i λj k=>AN S 7 b k λm o=>Al S g o λp q=>(I Tryz.prog 13 #[y9,m,p] q λr s=>(S s/\
 ∃t,(∀w',S w'->((do eqGuard .neq 38 (.tmp 96) (.tmp 107) j r;binOp .neq 38 j r:Sem Value)).run Tryz.prog w'=.ok t w')/\(Aa false t (λK=>K y7 s) s λu v=>Aa false t (λK=>K y10 v) v λx y=>Aa false t (A6 2 u x y) y λz aa=>Aa false t (λK=>K y9 aa) aa λab ac=>Aa false t (AN S 2 z ac) ac λad ae=>(Aa false t (λK=>I Tryz.prog 15 #[ab] ae K) ae λaf ag=>(S ag/\
 (Aa false t (λK=>I Tryz.prog 14 #[ad,af] ag K) ag λah ai=>(S ai/\
 Aa false t (AE ah ai) ai λaj ak=>Ar (some t) (some (.bool true)) (some aj) ak λal am=>Af al (K (.bool false) am) (F3.k13 K y1 y5 y7 y9 y10 am)))/\True))/\True)))/\True)):F3.k19 K y1 y5 y7 y9 y10 y11 w:=qq h
def F3.sh(h:(Aw (.cells (Value.cells x0) 23) w λa b=>I Tryz.prog 7 #[] b λc d=>AE c d λf g=>Af f (K (.bool false) g) (F3.k3 K x1 a g))):I Tryz.prog 3 #[x0,x1] w K:=BK (A:=F3.ann) (args:=[x0,x1]) (qq h)
end
section
open Go.RowKit
def LH{α : Type}{L:List α}{i:Nat}{a : α}{r:List α}(h:L.drop i=a::r):∃hi:i<L.length,L[i]=a/\L.drop (i+1)=r:=by
 by_cases hi:i<L.length
 ·rw[List.drop_eq_getElem_cons hi]at h;exact⟨hi,(List.cons.inj h).1,(List.cons.inj h).2⟩
 ·rw[List.drop_of_length_le (by omega)]at h;cases h
theorem Ow(cf:Cf):∀(l:List BY) (m:Ma),(Ma.ans cf m l).length=l.length
 | [],m=>rfl
 | s::l,m=>by unfold Ma.ans;rw[List.length_cons,Ow cf l,List.length_cons]
def BZ.cut(a:BZ):BZ:=⟨a.code,a.kd,a.n,0,0⟩
section
variable{K:VK}{w:World}{cf:Cf}
def Sa{u av vv gv:Value}{l:List BY}{L:List BZ}{i:Nat}(hu:Cq w u 7 (En l))(ha:Cq w av 5 (Gt L))(hi:i<l.length)(hi':i<L.length)(h3:(L[i].code=10∨L[i].code=21)->l[i].kd=3∨l[i].kd=15)(hk:∀b w',Fr [] w w'->w'.heap[b]?=some (.cells (Cg L[i].cut).cells 38 (0,0))->F3.k19 K u av vv gv (.int .i64 (i:Int)) (.pointer (some ⟨b,0,none⟩)) w'):
  F3.k14 K u av vv gv (.int .i64 (i:Int)) w:=by
 refine F3.k14.to (AS ha (by omega) (by rw[Int.toNat_natCast];exact Ov hi') λgg o cs e fz hg hl hs=>Bt (x:=[.int .i64 L[i].code,.int .i64 L[i].kd,.int .i64 L[i].n,.int .i64 L[i].done,.int .i64 L[i].credit]) hg rfl (by omega) hs (Ay λb w1 hn1=>?_));have l1:=hn1.is;refine AB (x:=Cg L[i]) hn1.at_ rfl CU rfl λw2 hu2=>?_;simp only[Ah,Nat.zero_add];refine AM hu2.at_ rfl rfl (by simp[Cg,Value.cells]) λw3 hu3=>?_
 refine AM hu3.at_ rfl rfl (by simp[Cg,Value.cells]) λw4 hu4=>?_;have hb:w4.heap[b]?=some (.cells (Cg L[i].cut).cells 38 (0,0)):=hu4.at_;have f2:Fr [] w w2:=hn1.fr.then hu2.fr (by simp;omega);have f3:Fr [] w w3:=f2.then hu3.fr (by simp;omega);have f4:Fr [] w w4:=f3.then hu4.fr (by simp;omega);replace hk:=hk b w4 f4 hb;have hus:=hu.keep f4;generalize L[i]=a at *;refine Ac (v := .int .i64 a.code) hb rfl ?_
 by_cases hc:a.code=10∨a.code=21
 ·have h:=h3 hc;rcases hc with c|c
  ·simp only[zv,eq_self,c];refine AS hus (by omega) (by rw[Int.toNat_natCast];exact GW hi) λg2 o2 cs2 e2 fz2 hg2 hl2 hs2=>?_;simp only[Ah];refine Ac (v := .int .i64 l[i].kd) hg2 (hs2 0 (by decide)) ?_;rcases h with h|h
   ·simp only[zv,eq_self,h,ne_eq,not_true_eq_false];exact hk
   ·simp only[zv,h,ne_eq,show ¬((15:Int)=3) by decide,not_false_eq_true];refine AS hus (by omega) (by rw[Int.toNat_natCast];exact GW hi) λg2 o2 cs2 e2 fz2 hg2 hl2 hs2=>?_;simp only[Ah];refine Ac (v := .int .i64 l[i].kd) hg2 (hs2 0 (by decide)) ?_;simp only[zv,eq_self,h,ne_eq,not_true_eq_false];exact hk
  ·simp only[zv,c,show ¬((21:Int)=10) by decide];refine Ac (v := .int .i64 a.code) hb rfl ?_;simp only[zv,eq_self,c];refine AS hus (by omega) (by rw[Int.toNat_natCast];exact GW hi) λg2 o2 cs2 e2 fz2 hg2 hl2 hs2=>?_;simp only[Ah];refine Ac (v := .int .i64 l[i].kd) hg2 (hs2 0 (by decide)) ?_;rcases h with h|h
   ·simp only[zv,eq_self,h,ne_eq,not_true_eq_false];exact hk
   ·simp only[zv,h,ne_eq,show ¬((15:Int)=3) by decide,not_false_eq_true];refine AS hus (by omega) (by rw[Int.toNat_natCast];exact GW hi) λg2 o2 cs2 e2 fz2 hg2 hl2 hs2=>?_;simp only[Ah];refine Ac (v := .int .i64 l[i].kd) hg2 (hs2 0 (by decide)) ?_;simp only[zv,eq_self,h,ne_eq,not_true_eq_false];exact hk
 ·have c1:¬a.code=10:=λc=>hc (.inl c);have c2:¬a.code=21:=λc=>hc (.inr c);simp only[zv,c1];refine Ac (v := .int .i64 a.code) hb rfl ?_;simp only[zv,c2];exact hk
def Sb{W0:World}{u av vv:Value}{l:List BY}{L:List BZ}{ps:List (Value × Value)}{i b p:Nat}{g g1:BR}(hu:Cq W0 u 7 (En l))(ha:Cq W0 av 5 (Gt L))(hp:Cq W0 vv 2 (I9 ps))(hi:i<l.length)(hi':i<L.length)(hi2:i<ps.length)(hA:CT (λ_ _=>False) W0 w cf p g)(hb:w.heap[b]?=some (.cells (Cg L[i].cut).cells 38 (0,0)))(ok:C8 g)(hn:g.nd.length<=90000)(he:g.step cf l[i] L[i].code=(g1,L[i].cut))(OB:C8 g1)(hn1:g1.nd.length<=90000)(hT:g1.th.length<=1000)(hV:E9 W0 ps[i].1 ps[i].2 g1.view)(hk:∀w',CT (λ_ _=>False) W0 w' cf p g1->F3.k13 K u av vv (.pointer (some ⟨p,0,none⟩)) (.int .i64 (i:Int)) w'):
  F3.k19 K u av vv (.pointer (some ⟨p,0,none⟩)) (.int .i64 (i:Int)) (.pointer (some ⟨b,0,none⟩)) w:=by
 refine F3.k19.to (A8 (λw'=>Fr [] W0 w'/\w'.heap[b]?=some (.cells (Cg L[i].cut).cells 38 (0,0))) λw1 hf1 _=>⟨⟨hA.1.fr.trans hf1,hf1.at_ hb (by simp)⟩,?_⟩);have hA1:=hA.keep0 hf1;have hb1:=hf1.at_ hb (by simp);have S1:Fr [] W0 w1/\w1.heap[b]?=some (.cells (Cg L[i].cut).cells 38 (0,0)):=⟨hA1.1.fr,hb1⟩
 refine AV (S:=λw'=>Fr [] W0 w'/\w'.heap[b]?=some (.cells (Cg L[i].cut).cells 38 (0,0))) (λw' hw=>hu.keep hw.1) S1 (by omega) (by rw[Int.toNat_natCast];exact GW hi) λg1 o1 hl1 hs1=>?_;refine AV (S:=λw'=>Fr [] W0 w'/\w'.heap[b]?=some (.cells (Cg L[i].cut).cells 38 (0,0))) (λw' hw=>ha.keep hw.1) S1 (by omega) (by rw[Int.toNat_natCast];exact Ov hi') λg2 o2 hl2 hs2=>?_;simp only[Ah]
 refine Bc (x:=[.int .i64 L[i].cut.code,.int .i64 L[i].cut.kd,.int .i64 L[i].cut.n,.int .i64 L[i].cut.done,.int .i64 L[i].cut.credit]) rfl (by decide) (λw' hw=>⟨_,_,_,hw.2,λj hj=>?_⟩) ?_
 ·have:j=0∨j=1∨j=2∨j=3∨j=4:=by omega
  rcases this with rfl|rfl|rfl|rfl|rfl<;>rfl
 refine Bc hl1 (by decide) hs1 ?_;refine Aq (v := .int .i64 L[i].code) (λw' hw=>by obtain⟨cs,e,fz,h1,h2⟩:=hs2 w' hw;exact⟨cs,e,fz,h1,h2 0 (by decide)⟩) ?_;have hA1':CT (λq Q=>q=b/\Q=λo=>o=(Cg L[i].cut).cells) W0 w1 cf p g:=⟨⟨hA1.1.fr,λq Q hq=>by rw[hq.1,hq.2];exact⟨_,hb1,rfl,rfl⟩⟩,hA1.2⟩;refine⟨Us (x:=l[i]) hA1' ok hn L[i].code λw2 hA2=>?_,trivial⟩;rw[he]at hA2 ⊢
 obtain⟨cs,hb2,_,ec⟩:=hA2.1.z b _ ⟨rfl,rfl⟩;rw[ec]at hb2;have S2:Fr [] W0 w2/\w2.heap[b]?=some (.cells (Cg L[i].cut).cells 38 (0,0)):=⟨hA2.1.fr,hb2⟩;refine⟨S2,_,λw' _=>Yk _ _ L[i].cut L[i].cut,?_⟩;simp only[beq_self_eq_true,Bool.not_true];simp only[zv]
 refine AV (S:=λw'=>Fr [] W0 w'/\w'.heap[b]?=some (.cells (Cg L[i].cut).cells 38 (0,0))) (λw' hw=>hp.keep hw.1) S2 (by omega) (by rw[Int.toNat_natCast];exact UX hi2) λg3 o3 hl3 hs3=>?_;refine Bc hl3 (by decide) hs3 ?_;have hA2':CT (λ_ _=>False) W0 w2 cf p _:=⟨⟨hA2.1.fr,λq Q hq=>hq.elim⟩,hA2.2⟩;obtain⟨f2,tv,nv,hs,ns,hg2⟩:=id hA2
 refine⟨Ut hg2 OB hn1 hT λrv nv' w3 hf3 hV3=>⟨⟨hA2.1.fr.trans hf3,hf3.at_ hb2 (by simp)⟩,?_⟩,trivial⟩;have f3:=hA2.1.fr.trans hf3;have b3:=hf3.at_ hb2 (by simp);refine⟨Wb (hV.keep f3) hV3 λw4 hf4=>⟨⟨f3.trans hf4,hf4.at_ b3 (by simp)⟩,?_⟩,trivial⟩;rw[decide_eq_true rfl]
 try simp only[zv]
 exact hk w4 (hA2'.keep0 (hf3.trans hf4))
def PV(L1:D1 cf)(L8:cf.threads<=8){W0:World}{u av vv:Value}{p:Nat}{l:List BY}{L:List BZ}{Vs:List Vw}{ps:List (Value × Value)}(hl:l.length<=70)(hu:Cq W0 u 7 (En l))(ha:Cq W0 av 5 (Gt L))(hp:Cq W0 vv 2 (I9 ps))(hpl:ps.length=Vs.length)(hV:∀(i:Nat) (h:i<ps.length) (h':i<Vs.length),E9 W0 ps[i].1 ps[i].2 Vs[i])(hk:∀w',Fr [] W0 w'->K (.bool true) w'):
  ∀(d i:Nat) (w:World) (y:Ma) (g:BR),i+d=l.length->CT (λ_ _=>False) W0 w cf p g->C8 g->Cx cf y.co g->MJ cf (1+330*(i:Int)) y->GZ y.co->VI y.co->L.drop i=Ma.ans cf y (l.drop i)->Vs.drop i=Ma.vws cf y (l.drop i)->
   F3.l12 K u av vv (.pointer (some ⟨p,0,none⟩)) (.int .i64 (i:Int)) w:=by
 intro d;induction d with
 | zero=>
  intro i w y g hi hA ok hs hJ hZ hI e1 e2;refine F3.l12.to (AK hu ?_);rw[E6];simp only[zv,show ¬((i:Int)<(l.length:Int)) by omega];exact F3.k21.to (hk w hA.1.fr)
 | succ d ih=>
  intro i w y g hi hA ok hs hJ hZ hI e1 e2;have hlt:i<l.length:=by omega
  refine F3.l12.to (AK hu ?_);rw[E6];simp only[zv,show (i:Int)<(l.length:Int) by omega];rw[List.drop_eq_getElem_cons hlt]at e1 e2;simp only[Ma.ans,Ma.vws]at e1 e2;obtain⟨hi1,a1,a2⟩:=LH e1;obtain⟨hi2,v1,v2⟩:=LH e2;obtain⟨q1,q2,q3⟩:=hs.step L1 hJ hZ l[i] (by omega);have hJ1:=hJ.step L1 l[i] (by omega);have hZ1:=hJ.stepZ L1 hZ l[i] (by omega);have hI1:=VI.step cf hI l[i]
  have OB:=ok.step (cf:=cf) (x:=l[i]) (y.step cf l[i]).2.code;have hview:=q1.view hJ1 hZ1 hI1.rin;have e3:1+330*(i:Int)+330=1+330*((i+1:Nat):Int):=by omega
  rw[e3]at hJ1;have m0:=hJ.c.md;have m1:=hJ1.c.md;have n0:=hs.nl;have n1:=q1.nl;have t1:=q1.tl;generalize hy1:(y.step cf l[i]).1=y1 at *;rw[<-a1]at q1 q2 q3 OB n1 t1 hview;have he:g.step cf l[i] L[i].code=((g.step cf l[i] L[i].code).1,L[i].cut):=Prod.ext rfl q2.symm;generalize (g.step cf l[i] L[i].code).1=g1 at *;refine Sa (hu.keep hA.1.fr) (ha.keep hA.1.fr) hlt hi1 q3 λb w1 hf1 hb=>?_;have hv1:=hV i (by omega) hi2
  rw[v1,hview]at hv1;refine Sb hu ha hp hlt hi1 (by omega) (hA.keep0 hf1) hb ok (by omega) he OB (by omega) (by omega) hv1 λw2 hA2=>?_;refine F3.k13.to ?_
  try simp only[AC]
  rw[BN (n:=(i:Int)+1) (by omega),show (i:Int)+1=((i+1:Nat):Int) by omega];exact ih (i+1) w2 y1 g1 (by omega) hA2 OB q1 hJ1 hZ1 hI1 a2 v2
def Qw{u:Value}{l:List BY}(hT:F0 w)(hz:0<w.heap.size)(hu:Cq w u 7 (En l))(hk:∀w',Fr [] w w'->K (.bool true) w'):I Tryz.prog 3 #[.agg (C9 cf).toArray,u] w K:=by
 refine F3.sh (Ay λb w1 hn1=>TO (hT.keep hn1.fr (by simp)) (Nat.lt_of_lt_of_le hz hn1.fr.size) λw2 hf2=>?_);have f2:=hn1.fr.trans hf2;have hb2:=hf2.at_ hn1.at_ (by simp);simp only[zv];have z2:∀ {w':World},Fr [] w w'->0<w'.heap.size:=λf=>Nat.lt_of_lt_of_le hz f.size;have T2:∀ {w':World},Fr [] w w'->F0 w':=λf=>hT.keep f (by simp);refine F3.k3.to (WR hu f2 λu' hu'=>A5 hb2 rfl ?_)
 have hl:(l.take 70).length<=70:=by rw[List.length_take];omega
 generalize l.take 70=l' at *;by_cases L:cf.Legal
 ·refine TF L (T2 f2) (z2 f2) (by omega) (hu'.keep f2) λav w3 hf3 hn3 ho3=>?_;have f3:=f2.trans hf3;have hb3:=hf3.at_ hb2 (by simp)
  try simp only[zv]
  refine A5 hb3 rfl (U6 L (T2 f3) (z2 f3) (by omega) (hu'.keep f3) λvv w4 hf4 hv4=>?_);have f4:=f3.trans hf4;have hb4:=hf4.at_ hb3 (by simp)
  try simp only[zv]
  refine A5 hb4 rfl (IC (λ_=>?_) λL'=>absurd L L');intro w5 hf5;have f5:=f4.trans hf5;have hb5:=hf5.at_ hb4 (by simp);simp only[zv,eq_self,ne_eq,not_true_eq_false];have L1:=D1.of L;have L8:=Legal.t8 L;refine F3.k8.to (A5 hb5 rfl (VC ⟨L8.1,by omega⟩ λp w6 hA=>?_));have ha5:=ho3.rd.keep (hf4.trans hf5);obtain⟨ps,p1,p2,p3⟩:=hv4.keep hf5;have pl:=OT cf l' (Ma.new cf)
  have al:(Ma.ans cf (Ma.new cf) l').length=l'.length:=Ow cf l' (Ma.new cf);simp only[zv,eq_self,ne_eq,not_true_eq_false];refine AK ha5 (AK hu' ?_);rw[KZ,E6,al];simp only[zv,eq_self,ne_eq,not_true_eq_false];refine AK p2 (AK hu' ?_);rw[Lq,E6,p1,pl];simp only[zv,eq_self,ne_eq,not_true_eq_false];refine F3.k11.to ?_
  exact PV L1 L8.2.1 hl (hu'.keep f5) ha5 p2 p1 p3 (λw' hf=>hk w' (f5.trans hf)) l'.length 0 w6 (Ma.new cf) (BR.new cf) (by omega) hA (C8.new cf) (Cx.new L1.pg ⟨L8.1,L8.2.1⟩) (MJ.new cf L1.pg ⟨L8.1,L8.2.1⟩ L8.2.2) (GZ.new L1.pg ⟨L8.1,L8.2.1⟩) (VI.new cf) rfl rfl
 ·refine VO L (T2 f2) (z2 f2) λw3 hf3=>?_;have f3:=f2.trans hf3;have hb3:=hf3.at_ hb2 (by simp)
  try simp only[zv,eq_self]
  refine A5 hb3 rfl (Sp L (T2 f3) (z2 f3) λw4 hf4=>?_);have f4:=f3.trans hf4;have hb4:=hf4.at_ hb3 (by simp)
  try simp only[zv,eq_self]
  refine A5 hb4 rfl (IC (λL'=>absurd L' L) λ_ w5 hf5=>?_);simp only[zv,ne_eq,show ¬((6:Int)=0) by decide,not_false_eq_true];exact hk w5 (f4.trans hf5)
end
end
section
open Go.RowKit Go.ChangeShapes Go.WideShapes Go.ChangeAt
def SX{M:Checked}{os:Os}{f:FuncId}{fn:Func}{s:ChangeSpec}{H:Type}{enc:TypeId × Value->H}{LD:List (String × DataW Unit)}(own:ownKnob M.prog.godebug=none)(started:os.Started)(noInit:M.prog.inits.idxOf? f=none)(hfn:M.prog.funcs[f]?=some fn)(witness:∃(w:World) (tape:Tape) (i:Input),w.os=os/\(w.forCall tape i).Shaped M.prog/\i.vars=[]/\Input.okWide M.prog (w.forCall tape i) .any w.heap.size f i/\
   ((s.pre enc M.prog fn [] false (w.forCall tape i).memory i.args/\laidMetH M.prog LD (w.forCall tape i).memory)/\sizedMet enc M.prog fn (OpenSpec.ofChange s) false (w.forCall tape i).memory i.args)/\({}:Assume).holds M.prog (lone (Frame.enter M.prog f i.args .normal) [] (w.forCall tape i)))(hvars:s.vars=[])(hpv:s.plain.varTypes M.prog=[])(hlaid:laidOutB M.prog=true)(hread:(fn.params.toList.all λt=>M.prog.readableRec t && Nat.blt t M.prog.types.size)=true){tb:TypeId}(hres:fn.resultTypes = #[tb])(hub:M.prog.underlying tb=some .bool)(hspec:∀ds:List (DataW H),ds.length=fn.params.toList.length->s.fn H ds={ results:=[.lit (.bool true)],args:=ds })(contract:∀(W:World) (args:Array Value) (ds:List (DataW H)) (ps:List MemPlace),Vj enc M.prog fn W args ds ps->laidMetH M.prog LD W->I M.prog f args W λv W'=>v=.bool true/\Fr [] W W'):
  ReturnsInHanded {} M os f .any (λw args=>(s.pre enc M.prog fn [] false w args/\laidMetH M.prog LD w)/\sizedMet enc M.prog fn (OpenSpec.ofChange s) false w args) (s.post enc M.prog fn false true false false):=by
 refine returnsInHanded_of_change_and (X:=λw _=>laidMetH M.prog LD w) (λ_ _ _ hh h=>h.of_heap hh) own started noInit hfn witness ?_;intro W base args ds gs before hval hW hcnd hsz hL _;have hW':=hW;obtain⟨p,q,hA,hV,rfl,hfz,hnd⟩:=hW;rw[hvars]at hV;obtain⟨rfl,rfl⟩:=trodVars_none hV;simp only[List.append_nil] at *;have hlt:∀x∈p,x.block<W.heap.size:=λx hx=>hW'.lt x hx;rw[hpv,List.append_nil]at hsz
 refine Calls.mono (contract W args ds p ⟨hA,⟨base,hval⟩,hsz,hlt⟩ hL) ?_;rintro e W' ⟨v,rfl,rfl,hf⟩;refine⟨_,rfl,ds,[],p,[],p,[],hW',?_,?_,?_,hf.below.frame _,λh=>by cases h⟩
 ·rw[List.append_nil,hspec ds (Gm _ _ _ _ hA).2,hres];exact trodAll_mk1 (shut_bool hub _)
 ·rw[List.append_nil,hspec ds (Gm _ _ _ _ hA).2];refine IB hlaid hf.below _ _ _ _ (λt ht=>?_) hA hlt;have:=List.all_eq_true.1 hread t ht;simp only[Bool.and_eq_true]at this;exact⟨this.1,by simpa[Nat.blt_eq] using this.2⟩
 ·rw[List.append_nil,hspec ds (Gm _ _ _ _ hA).2,hvars];rfl
abbrev LD : List (String × DataW Unit) := [("math/bits.deBruijn64tab", Go.Proofs.YtcakfaakbpdklaaGreatDoor.Rows.laid_math_bits_deBruijn64tab)]
def XP : Tryz.prog.globalNamed "math/bits.deBruijn64tab" = some 0 := by kernel_rfl
def Yn:(Tryz.prog.globals[0]?).map (·.type)=some 334:=by kernel_rfl
def SD(os:Os)(args:Array Value):laidMetH Tryz.prog LD ((World.doorLaid Tryz.prog 400 os).forCall (λ_ _=>0) ⟨#[],args,[]⟩).memory:=
 laidMetH_of_parts3 (fuel:=8) (laidMet_of_run' 8 (by kernel_rfl) (by kernel_rfl)) (by kernel_rfl) (by kernel_rfl)
def WH:∀(n:Nat) (L:List Nat) (xs:List (DataW Unit × List MemPlace)) (l:List Value) (sp:Nat->Bool) (hd:Bool) (m:Nat) (W:World),xs.map (·.1)=L.map (λk:Nat=>DataW.lit (.int .u8 (k:Int)))->(∀i,i<L.length->DataW.trod (λ_:TypeId × Value=>()) Tryz.prog W n sp hd m 5 ((l.drop (i*1)).take 1)=xs[i]?)->∀j,j<L.length->l[j]?=some (.int .u8 (L.getD j 0:Nat)):=by
 intro n L xs l sp hd m W hm hel j hj;have hlen:xs.length=L.length:=by have:=congrArg List.length hm;simpa using this
 have h0:=hel j hj;rw[List.getElem?_eq_getElem (by omega)]at h0;obtain⟨k,e1,e2,_⟩:=DataW.trod_int Tryz.underlying5 h0;have e3:(xs.map (·.1))[j]?=(L.map λk:Nat=>DataW.lit (.int .u8 (k:Int)))[j]?:=by rw[hm]
 rw[List.getElem?_map,List.getElem?_map,List.getElem?_eq_getElem (by omega),List.getElem?_eq_getElem hj]at e3;simp only[Option.map_some,Option.some.injEq]at e3;rw[e2]at e3;have hk:k=(L[j]:Nat):=by simpa using e3
 rw[Nat.mul_one]at e1;have e4:(l.drop j)[0]?=some (.int .u8 k):=by
  have:((l.drop j).take 1)[0]?=some (.int .u8 k):=by rw[e1];rfl
  rwa [List.getElem?_take_of_lt (by decide)]at this
 rw[List.getElem?_drop,Nat.add_zero]at e4;have hg:L.getD j 0=L[j]:=by simp[List.getD_eq_getElem?_getD,List.getElem?_eq_getElem hj]
 rw[e4,hk,hg]
def UR{W:World}(h:laidMetH Tryz.prog LD W):F0 W/\0<W.heap.size:=by
 rw[MakeChecks.laidMetH_plain _ _ _ (by kernel_rfl)]at h;obtain⟨ps,⟨g0,t0,cs0,f0,p0,q0,hg0,ht0,hv0,hd0,_,_⟩,_,_⟩:=h;obtain rfl:=Option.some.inj (XP.symm.trans hg0);obtain rfl:=Option.some.inj (Yn.symm.trans ht0);obtain⟨xs,m,rfl,hx,hl,hn,hel⟩:=DataW.trod_array Tryz.underlying334 hd0;simp only[Prod.mk.injEq]at hx;have c5:Tryz.prog.cellsOf 5=1:=by kernel_rfl
 rw[c5]at hel;have hcell:∀j,j<64->W.cell? ⟨0,j,none⟩=some (.int .u8 (Lib.deBruijn64tab.getD j 0:Nat)):=λj hj=>by
  have hj':j<Lib.deBruijn64tab.length:=hj;rw[World.var?_cell hg0 hv0 j];have hx1:xs.map (·.1)=Lib.deBruijn64tab.map (λk:Nat=>DataW.lit (.int .u8 (k:Int))):=by
   have h1:=hx.1;have h2:(Go.Proofs.YtcakfaakbpdklaaGreatDoor.Rows.laid_math_bits_deBruijn64tab:DataW Unit)=.agg (Lib.deBruijn64tab.map λk:Nat=>DataW.lit (.int .u8 (k:Int))):=by kernel_rfl
   rw[h2]at h1;simpa using h1.symm
  have:=WH _ Lib.deBruijn64tab xs cs0.toList _ _ m W hx1 (λi hi=>hel i hi) j hj';simpa using this
 have h0:=hcell 0 (by decide);cases hb:W.heap[0]? with
 | none=>simp[World.cell?,hb]at h0
 | some o=>
  cases o with
  | cells cs e fz=>
   refine⟨⟨cs,e,fz,hb,λj hj=>?_⟩,(Array.getElem?_eq_some_iff.1 hb).1⟩;have:=hcell j hj;simpa[World.cell?,hb] using this
  | _=>simp[World.cell?,hb]at h0
end
section
open Go.RowKit
def Dp{k:IntKind}{ks:List CK}{x:List Value}(h:Dh (.int k::ks) x):∃n y,x=.int k n::y/\Dh ks y:=by
 cases x with
 | nil=>exact h.elim
 | cons a y=>
  obtain⟨⟨n,ha,_⟩,hy⟩:=h;exact⟨n,y,by rw[ha],hy⟩
def Ru{x:List Value}(h:Dh [] x):x=[]:=by
 cases x with
 | nil=>rfl
 | cons a y=>exact h.elim
def Xp{x:List Value}(h:Dh [.int .i64,.int .i64,.int .i64,.int .i64,.int .i64,.int .i64,.int .i64,.int .i64,.int .i64,.int .i64] x):∃cf:Cf,x=C9 cf:=by obtain⟨a,x1,e1,h1⟩:=Dp h;obtain⟨b,x2,e2,h2⟩:=Dp h1;obtain⟨c,x3,e3,h3⟩:=Dp h2;obtain⟨d,x4,e4,h4⟩:=Dp h3;obtain⟨e,x5,e5,h5⟩:=Dp h4;obtain⟨f,x6,e6,h6⟩:=Dp h5;obtain⟨g,x7,e7,h7⟩:=Dp h6;obtain⟨i,x8,e8,h8⟩:=Dp h7;obtain⟨j,x9,e9,h9⟩:=Dp h8;obtain⟨k,x10,e10,h10⟩:=Dp h9;have e0:=Ru h10;rw[e1,e2,e3,e4,e5,e6,e7,e8,e9,e10,e0];exact⟨⟨a,b,c,d,e,f,g,i,j,k⟩,rfl⟩
def Xq{x:List Value}(h:Dh [.int .i64,.int .i64,.int .i64,.int .i64,.int .i64,.int .i64,.int .i64] x):∃s:BY,[x]=En [s]:=by obtain⟨a,x1,e1,h1⟩:=Dp h;obtain⟨b,x2,e2,h2⟩:=Dp h1;obtain⟨c,x3,e3,h3⟩:=Dp h2;obtain⟨d,x4,e4,h4⟩:=Dp h3;obtain⟨e,x5,e5,h5⟩:=Dp h4;obtain⟨f,x6,e6,h6⟩:=Dp h5;obtain⟨g,x7,e7,h7⟩:=Dp h6;have e0:=Ru h7;rw[e1,e2,e3,e4,e5,e6,e7,e0];exact⟨⟨a,b,c,d,e,f,g⟩,rfl⟩
theorem RE:∀(xs:List (List Value)),(∀x∈xs,Dh [.int .i64,.int .i64,.int .i64,.int .i64,.int .i64,.int .i64,.int .i64] x)->∃l,xs=En l
 | [],_=>⟨[],rfl⟩
 | x::xs,h=>by
  obtain⟨l,hl⟩:=RE xs λy hy=>h y (by simp[hy]);obtain⟨s,hs⟩:=Xq (h x (by simp));refine⟨s::l,?_⟩;have e1:En (s::l)=En [s]++En l:=by simp[En]
  rw[e1, <-hs,hl];rfl
end
end Go.Proofs.QV
