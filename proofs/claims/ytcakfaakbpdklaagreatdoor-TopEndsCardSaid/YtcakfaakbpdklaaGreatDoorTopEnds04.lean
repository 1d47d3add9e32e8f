/- Part 4 of what the law needs: own lemmas, in the order in which they build. -/
import Derived.Shelf.Spec.TrailingZeros
import Derived.Test.YtcakfaakbpdklaaGreatDoorProg
import Derived.Test.YtcakfaakbpdklaaGreatDoorTopEnds03
set_option linter.defProp false
set_option linter.unusedSimpArgs false
set_option linter.unusedVariables false
set_option maxRecDepth 100000
namespace Go.Proofs.QV
open Go Go.Proofs.Tryz
open Go.Proofs.Tryz renaming prog->Z
open Go.IntKind renaming i64->wg
open Go.Value renaming int->v6,pointer->v7,slice->v8,tuple->wc,bool->wd
open Option renaming some->wh
open Option renaming none->wj
open Bool renaming true->wk
open Bool renaming false->wl
open Go renaming Value->wm
open Go renaming World->wn
open Go renaming Program->wq
open Or renaming inr->ws
open Go.Obj renaming cells->wt
section
open Go.Proofs Go.RowKit
def PS{k:Int}(h1:1<=k)(h2:k<5):BV k>0:=by
 have:k=1∨k=2∨k=3∨k=4:=by omega
 rcases this with rfl|rfl|rfl|rfl<;>decide
def Oc{k:Int}(h:k<1∨5<=k):BV k=0:=by
 unfold BV
 repeat (rw[vx (by omega)])
def K4{k:Int}(h:k<1∨5<=k):BR k=0:=by
 unfold BR
 repeat (rw[vx (by omega)])
def QH{k:Int}(h1:1<=k)(h2:k<5):IntKind.i64.wrap ((32:Int).tdiv (BV k))=BR k:=by
 have:k=1∨k=2∨k=3∨k=4:=by omega
 rcases this with rfl|rfl|rfl|rfl<;>decide
def J4(k:Int):0<=BV k/\BV k<=16:=by
 by_cases h:k<1∨5<=k
 ·rw[Oc h];omega
 ·have:k=1∨k=2∨k=3∨k=4:=by omega
  rcases this with rfl|rfl|rfl|rfl<;>decide
def XC{k:Int}(h:BV k≠0):1<=k/\k<5:=by apply xI;intro hc;exact h (Oc (by omega))
def Ey(k:Int):0<=BR k/\BR k<=16:=by
 by_cases h:k<1∨5<=k
 ·rw[K4 h];omega
 ·have:k=1∨k=2∨k=3∨k=4:=by omega
  rcases this with rfl|rfl|rfl|rfl<;>decide
section
variable{K:VK}{w:wn}
def Qz{n:Int}(h:K (v6 wg (CD n)) w):I Z 117 #[v6 wg n] w K:=by
 refine F117.sh ?_;unfold CD at h;by_cases h1:n<0
 ·simp only[zv,h1]
  rwa [vy (.inl h1)]at h
 simp only[zv,h1];by_cases h2:n>127
 ·simp only[zv,h2]
  rwa [vy (ws h2)]at h
 simp only[zv,h2];rw[vx (by omega)]at h;refine F117.k3.to ?_;have step:∀k:Int,1<=k->k<5->(¬BV k<n+1->K (v6 wg k) w)->(BV k<n+1->F117.l4 K (v6 wg n) (v6 wg (k+1)) w)->F117.l4 K (v6 wg n) (v6 wg k) w:=λk k1 k5 a b=>by
  refine F117.l4.to ?_;simp only[zv,k5];refine Ei ?_;simp only[Ap];rw[BO (n:=n+1) (by omega)];by_cases c:BV k<n+1
  ·simp only[zv,c];refine F117.k5.to ?_;simp only[A7];rw[BO (n:=k+1) (by omega)];exact b c
  ·simp only[zv,c];exact F117.k6.to (a c)
 have e1:BV 1=2:=rfl;have e2:BV 2=4:=rfl;have e3:BV 3=8:=rfl;have e4:BV 4=16:=rfl;refine step 1 (by omega) (by omega) (λa=>?_) λa1=>step 2 (by omega) (by omega) (λa=>?_) λa2=>step 3 (by omega) (by omega) (λa=>?_) λa3=>step 4 (by omega) (by omega) (λa=>?_) λa4=>?_
 ·rwa [vy (by omega)]at h
 ·rw[vx (by omega)]at h
  rwa [vy (by omega)]at h
 ·rw[vx (by omega),vx (by omega)]at h
  rwa [vy (by omega)]at h
 ·rw[vx (by omega),vx (by omega),vx (by omega)]at h
  rwa [vy (by omega)]at h
 ·rw[vx (by omega),vx (by omega),vx (by omega),vx (by omega)]at h;refine F117.l4.to ?_;simp only[zv,show ¬((4+1:Int)<5) by omega];exact F117.k6.to h
def Mk{k:Int}(h:K (v6 wg (BR k)) w):I Z 263 #[v6 wg k] w K:=by
 refine F263.sh (Ei ?_);by_cases c:BV k=0
 ·simp only[zv,vw,c];have:BR k=0:=K4 (by
   apply xI;intro hc;have:=PS (k:=k) (by omega) (by omega);omega)
  rwa [this]at h
 ·obtain⟨k1,k5⟩:=XC c;simp only[zv,c];refine F263.k3.to (Ei ⟨_,DR _ _ 32 (BV k) c,?_⟩);rw[QH k1 k5];exact h
def V6{n:Int}(h:K (v6 wg (Ez n)) w):I Z 120 #[v6 wg n] w K:=by
 refine F120.sh (Qz ?_);unfold Ez at h;by_cases c:CD n=5
 ·rw[vy c]at h;have hn:0<=n/\n<=127:=by apply xI;intro hc;unfold CD at c;rw[vy (by omega)]at c;cases c
  simp only[zv,vw,vz,c,zW];refine F120.k3.to ?_;simp only[A7];rw[BO (n:=n+32) (by omega)];refine⟨_,DR _ _ (n+32) 32 (by decide),?_⟩;rw[xD (by omega),BO (by omega)];exact h
 ·rw[vx c]at h;simp only[zv,vz,c,zX];exact h
def G6{a:Int}(h:K (v6 wg (Cq a)) w):I Z 272 #[v6 wg a] w K:=by
 refine F272.sh ?_;unfold Cq at h;by_cases h1:a<0
 ·simp only[zv,h1]
  rwa [vx (by omega)]at h
 simp only[zv,h1];by_cases h2:a≥2048
 ·simp only[zv,h2]
  rwa [vx (by omega)]at h
 simp only[zv,h2];rw[vy (by omega)]at h;refine F272.k3.to ⟨_,DR _ _ a 32 (by decide),?_⟩;rw[xD (by omega),BO (by omega)];exact h
def Oj{a:Int}:Cq a<0↔¬(0<=a/\a<2048):=by
 unfold Cq;by_cases c:0<=a/\a<2048
 ·rw[vy c];omega
 ·rw[vx c];omega
def P3{k a:Int}(h:K (v6 wg (E2 k a)) w):I Z 284 #[v6 wg k,v6 wg a] w K:=by
 refine F284.sh (Ei ?_);unfold E2 at h;by_cases c:BV k=0
 ·simp only[zv,vw,c]
  rwa [vy (.inl c)]at h
 have hs:=J4 k;simp only[zv,c];refine G6 ?_;by_cases d:Cq a<0
 ·simp only[zv,d]
  rwa [vy (ws d)]at h
 rw[vx (by omega)]at h;simp only[zv,d];have ha:0<=a/\a<2048:=by apply xI;intro hc;exact d (Oj.2 hc)
 refine F284.k3.to (Ei ⟨_,Ge _ _ a (BV k) c,?_⟩);simp only[AN];rw[xE ha.1];have:=Int.emod_nonneg a c;have:=Int.emod_lt_of_pos a (show 0<BV k by omega);rw[BO (by omega)];exact h
def Vs{k a:Int}(h:K (wc #[v6 wg (GL k a).1,wd (GL k a).2]) w):I Z 343 #[v6 wg k,v6 wg a] w K:=by
 refine F343.sh (P3 ?_);unfold GL at h;by_cases c:E2 k a<0
 ·simp only[zv,c]
  rwa [vy (.inl c)]at h
 simp only[zv,c];by_cases d:E2 k a=a
 ·simp only[zv,vw,vz,d,zW];rw[vx (by omega)]at h;have c':=c;have hk:¬(BV k=0∨Cq a<0):=λe=>by
   unfold E2 at c;rw[vy e]at c;omega
  have ha:0<=a/\a<2048:=by apply xI;intro hc;exact hk (ws (Oj.2 hc))
  have hs:=J4 k;refine F343.k4.to (F346.sh (G6 ?_));simp only[zv,show ¬(Cq a<0) from λe=>hk (ws e)];refine F346.k3.to ⟨_,Ge _ _ a 32 (by decide),?_⟩;refine Ei ⟨_,DR _ _ _ (BV k) (λe=>hk (.inl e)),?_⟩;rw[xE ha.1,xD (by omega)];have h1:0<=a % 32 / BV k:=Int.ediv_nonneg (by omega) (by omega);have h2:a % 32 / BV k<=a % 32:=Int.ediv_le_self _ (by omega);rw[BO (by omega)];exact h
 ·simp only[zv,vz,d,zX]
  rwa [vy (ws d)]at h
def Qt{p k i:Int}(hp:0<=p/\p<64)(hi:0<=i/\i<BR k)(h:K (wc #[v6 wg (K9 p k i).1,wd wk]) w):I Z 249 #[v6 wg p,v6 wg k,v6 wg i] w K:=by
 have hc:=Ey k;have hs:=J4 k;have e:(K9 p k i).1=p*32+i*BV k:=by unfold K9;rw[vy (by omega)]
 rw[e]at h;refine F249.sh ?_;simp only[zv,show ¬(p<0) by omega,show ¬(p≥64) by omega,show ¬(i<0) by omega];refine Mk ?_;simp only[zv,show ¬(i≥BR k) by omega];refine F249.k3.to ?_;simp only[AP];refine Ei ?_;simp only[zv];have h1:0<=i*BV k:=uo hi.1 hs.1;have h2:i*BV k<=16*16:=un (by omega) hs.2 hs.1 (by omega);rw[BO (n:=p*32) (by omega),BO (n:=i*BV k) (by omega),BO (n:=p*32+i*BV k) (by omega)];exact h
def Kc{p n:Int}(hp:0<=p/\p<64)(hn:1<=n/\n<=64-p)(h:K (wc #[v6 wg (p*32),v6 wg ((p+n)*32-1),wd wk]) w):I Z 177 #[v6 wg p,v6 wg n] w K:=by refine F177.sh ?_;simp only[zv,show ¬(p<0) by omega,show ¬(n<1) by omega,show ¬(p≥64) by omega];rw[BO (n:=64-p) (by omega)];simp only[zv,show ¬(n>64-p) by omega];refine F177.k3.to ?_;simp only[zv];rw[BO (n:=p*32) (by omega),BO (n:=p+n) (by omega),BO (n:=(p+n)*32) (by omega),BO (n:=(p+n)*32-1) (by omega)];exact h
def Vv{s n:Int}(h:∀ok,K (wc #[v6 wg (FI s n),wd ok]) w):I Z 180 #[v6 wg s,v6 wg n] w K:=by
 refine F180.sh ?_;unfold FI at h;by_cases h1:s<0
 ·simp only[zv,h1];have:=h wl;rwa [vx (by omega)]at this
 simp only[zv,h1];by_cases h2:s≥1099511627776
 ·simp only[zv,h2];have:=h wl;rwa [vx (by omega)]at this
 simp only[zv,h2];by_cases h3:n<0
 ·simp only[zv,h3];have:=h wl;rwa [vx (by omega)]at this
 simp only[zv,h3];by_cases h4:n>127
 ·simp only[zv,h4];have:=h wl;rwa [vx (by omega)]at this
 simp only[zv,h4];refine F180.k3.to ?_;simp only[zv];rw[BO (n:=s*128) (by omega),BO (n:=s*128+n) (by omega)];have:=h wk;rwa [vy (by omega)]at this
def T4{a:Int}(ha : -9223372036854775808<=a/\a<=9223372036854775807)(h:∀ok,K (wc #[v6 wg (Gs a).1,v6 wg (Gs a).2,wd ok]) w):I Z 199 #[v6 wg a] w K:=by
 refine F199.sh ?_;unfold Gs at h;by_cases h1:a<0
 ·simp only[zv,h1];have:=h wl;rwa [vx (by omega)]at this
 simp only[zv,h1];refine⟨_,DR _ _ a 128 (by decide),?_⟩;rw[xD (by omega),BO (by omega)];by_cases h2:a / 128≥1099511627776
 ·simp only[zv,h2];have:=h wl;rwa [vx (by omega)]at this
 simp only[zv,h2];refine F199.k3.to ⟨_,DR _ _ a 128 (by decide),_,Ge _ _ a 128 (by decide),?_⟩;rw[xD (by omega),xE (by omega),BO (by omega)];have:=h wk;rwa [vy (by omega)]at this
end
end
section
open Go.Proofs
noncomputable section
variable{K:VK}{w:wn}{x0 x1 y0 y1 y5:wm}
namespace F21
def ann:Cg:=⟨[(3,[0,1]),(5,[0,1,5]),(6,[0,1,5]),(8,[])],[(4,[0,1,5])],[],[(6,(tk [0,1,2,4,5,6,3,7,8] .fin))],wj⟩
def code:=cd f21
def BM:=tp f21
variable(K:VK)(y0 y1 y5:wm)(w:wn)
def k3:=nk ann 26 [(0,y0),(1,y1)] w [1,1] code (BM K)
def k8:=nk ann 26 [] w [1,1,1] code (BM K)
def l4:=nl ann 26 [(0,y0),(1,y1),(5,y5)] w [1,1,0,1,0] code (BM K)
def k6:=nk ann 26 [(0,y0),(1,y1),(5,y5)] w [1,1,0,1,0,0,1] code (BM K)
def k5:=nk ann 26 [(0,y0),(1,y1),(5,y5)] w [1,1,0,1,0,0,1,1] code (BM K)
attribute [irreducible] k3 k8 l4 k6 k5
end F21
def F21.k3.to(h:(F21.l4 K y0 y1 (v6 wg 0) w)):F21.k3 K y0 y1 w:=qq h
def F21.k8.to(h:(K (wd wk) w)):F21.k8 K w:=qq h
def F21.l4.to(h:(AD y0 w λa b=>U .lss y5 a b λc d=>Af c (F21.k6 K y0 y1 y5 d) (F21.k8 K d))):F21.l4 K y0 y1 y5 w:=by unfold F21.l4 nl;exact BW (qq h)
def F21.k6.to(h:(A2 w λS a=>AC 1 y0 y5 a λb c=>AC 1 y1 y5 c λd f=>An S b f λg i=>An S d i λj k=>U .neq g j k λm o=>Af m (K (wd wl) o) (F21.k5 K y0 y1 y5 o))):F21.k6 K y0 y1 y5 w:=qq h
def F21.k5.to(h:(U .add y5 (v6 wg 1) w λa b=>F21.l4 K y0 y1 a b)):F21.k5 K y0 y1 y5 w:=qq h
def F21.sh(h:(AD x0 w λa b=>AD x1 b λc d=>U .neq a c d λf g=>Af f (K (wd wl) g) (F21.k3 K x0 x1 g))):I Z 21 #[x0,x1] w K:=BK (A:=F21.ann) (args:=[x0,x1]) (qq h)
end
end
section
open Go.Proofs Go.RowKit
def BX(l:List Int):List (List wm):=l.map λn=>[v6 wg n]
def Ca(l:List Int):(BX l).length=l.length:=by simp[BX]
def GC{l:List Int}{j:Nat}(h:j<l.length):(BX l)[j]?=wh [v6 wg l[j]]:=by simp[BX,h]
def KV(l k:List Int):BX (l++k)=BX l++BX k:=by simp[BX]
section
variable{K:VK}{w:wn}
def AV{v:wm}{l:List Int}{k:IntKind}{i:Nat}(h:Cp w v 1 (BX l))(hi:i<l.length)(hk:∀g o cs e fz,w.heap[g]?=wh (wt cs e fz)->cs[o]?=wh (v6 wg l[i])->K (v7 (wh ⟨g,o,wj⟩)) w):
  AC 1 v (v6 k (i:Int)) w K:=by refine AU h (by omega) (by rw[zK];exact GC hi) λg o cs e fz hg _ hc=>hk g o cs e fz hg ?_;have:=hc 0 (by omega);simpa using this
end
section
variable{P:wq}{K:VK}{w:wn}{t ty e:TypeId}{sz bytes:Nat}{z:wm}
def Bg{W0:wn}{v src:wm}{xs ys:List (List wm)}(ht:P.underlying t=wh (.slice e))(hinfo:(P.info? e).map (λi=>(i.zero,i.size,i.bytes))=wh (wh z,sz,bytes))(hz:z.cells.size=sz)(hsz:0<sz)(hf:Fr [] W0 w)(hn:BY W0 v)(hv:BQ w v e sz xs)(hs:Cp w src sz ys)(h1:∀y∈ys,∀u∈y,u.oneCell'=wk)(hb:(xs.length+ys.length)*bytes<=140737488355328)(hm:xs.length+ys.length<=9223372036854775807)(hk:∀v' w',Fr [] W0 w'->BY W0 v'->BQ w' v' e sz (xs++ys)->Fr (BN v) w w'->(∀g∈BN v',g∈BN v∨w.heap.size<=g)->K v' w'):Am P (Builtin.append_ #[t,t] ty #[v,src]) w K:=by
 refine Bm ht hinfo hz hsz hv hs h1 hb hm λv' w' ho hf' hbk _=>?_;have hg:∀g∈BN v',g∈BN v∨w.heap.size<=g:=λg hg=>by
  rw[Cb]at hg;rcases hbk with c|⟨g',c,d⟩
  ·exact .inl (Cb.2 (by rw[<-c];exact hg))
  ·rw[hg]at c;simp only[zS]at c;exact ws (by omega)
 refine hk v' w' (hf.then hf' λx hx=>ws (hn x (Cb.1 hx))) (λg hgg=>?_) ho hf' hg;rcases hg g (Cb.2 hgg)with c|c
 ·exact hn g (Cb.1 c)
 ·have:=hf.size;omega
def Br{W0:wn}{v xv:wm}{xs:List (List wm)}{x:List wm}(ht:P.underlying t=wh (.slice e))(hinfo:(P.info? e).map (λi=>(i.zero,i.size,i.bytes))=wh (wh z,sz,bytes))(hz:z.cells.size=sz)(hsz:0<sz)(hbs:(Instr.buildSlice t 1 #[(0,xv)]).run P w=.ok (v8 (wh ⟨w.heap.size,0,wj⟩) 1 1) (w.alloc (wt x.toArray e)))(hx:x.length=sz)(hone:∀u∈x,u.oneCell'=wk)(hf:Fr [] W0 w)(hn:BY W0 v)(hv:BQ w v e sz xs)(hb:(xs.length+1)*bytes<=140737488355328)(hm:xs.length+1<=9223372036854775807)(hk:∀v' w',Fr [] W0 w'->BY W0 v'->BQ w' v' e sz (xs++[x])->Fr (BN v) w w'->(∀g∈BN v',g∈BN v∨w.heap.size<=g)->K v' w'):
  Am P (Instr.buildSlice t 1 #[(0,xv)]) w λy w1=>Am P (Builtin.append_ #[t,t] ty #[v,y]) w1 K:=by
 refine A4 hbs ?_;have hw:=DE.mk' w (wt x.toArray e);refine Bg (ys:=[x]) ht hinfo hz hsz (hf.trans hw.fr) hn (hv.keep hw.fr (by simp)) (Cp.of_block hw.at_ rfl (by simp) (by simp) (by simpa using hx) (by simp[<-hx])) (by simpa using hone) (by simpa using hb) (by simpa using hm) λv' w' a b c d e'=>hk v' w' a b c (hw.fr.w.trans d) λg hg=>?_;rcases e' g hg with c|c
 ·exact .inl c
 ·have:=hw.fr.size;exact ws (by omega)
end
end
section
open Go.RowKit
def BQ.ne{w:wn}{v v':wm}{e e':TypeId}{sz sz':Nat}{xs ys:List (List wm)}(h:BQ w v e sz xs)(h':BQ w v' e' sz' ys)(he:e≠e'):∀g∈BN v,g∉BN v':=by
 intro g hg hg';rw[Cb]at hg hg';obtain⟨⟨_,h3⟩,_⟩:=h;obtain⟨⟨_,h3'⟩,_⟩:=h';rcases h3 with⟨rfl,_⟩|⟨k,cap,cur,rfl,_,hh,_⟩
 ·simp[wm.ownBlock]at hg
 ·rcases h3' with⟨rfl,_⟩|⟨k',cap',cur',rfl,_,hh',_⟩
  ·simp[wm.ownBlock]at hg'
  ·simp only[wm.ownBlock,zS]at hg hg';rw[hg]at hh;rw[hg',hh]at hh';simp only[zS,Obj.cells.injEq]at hh';exact he hh'.2.1
def BQ.nb{w:wn}{v:wm}{e:TypeId}{sz:Nat}{xs:List (List wm)}{g:Nat}{cs:Array wm}{e':TypeId}{fz:Nat × Nat}(h:BQ w v e sz xs)(hg:w.heap[g]?=wh (wt cs e' fz))(he:e≠e'):g∉BN v:=by
 intro hg';rw[Cb]at hg';obtain⟨⟨_,h3⟩,_⟩:=h;rcases h3 with⟨rfl,_⟩|⟨k,cap,cur,rfl,_,hh,_⟩
 ·simp[wm.ownBlock]at hg'
 ·simp only[wm.ownBlock,zS]at hg';rw[hg',hg]at hh;simp only[zS,Obj.cells.injEq]at hh;exact he hh.2.1.symm
end
section
open Go.Proofs Go.RowKit
def Kw{w:wn}{l:Nat}{o o':Obj}(h:w.heap[l]?=wh o'):H9 w l o (w.putObj l o):=by
 have hl:=BP h;refine⟨⟨rfl,rfl,rfl,by simp[wn.putObj],λb hb hS=>?_⟩,?_,by simp[wn.putObj]⟩
 ·simp only[zF]at hS;simp[wn.putObj,vv hS]
 ·simp[wn.putObj,hl]
theorem SB:∀ {env:C1} {t:Nat} {v:wm},lk env t=wh v->(t,v)∈env
 | [],t,v,h=>by simp[lk]at h
 | (s,u)::env,t,v,h=>by
  simp only[lk]at h;cases hb:Nat.beq s t with
  | true=>
   rw[hb]at h;simp only[vp,zS]at h;rw[yM hb] at *;rw[h];simp
  | false=>
   rw[hb]at h;simp only[cond_false]at h;exact List.mem_cons_of_mem _ (SB h)
def Sr{tmps:Array wm}{env:C1}(h:∀x∈env,tmps[x.1]?=wh x.2):∀t v,Hs env t=wh v->tmps[t]?=wh v:=λt v ht=>h (t,v) (SB (HJ ht).2)
section
variable{K:VK}{w:wn}
def X6(a:Int):(Instr.buildSlice 54 1 #[(0,v6 wg a)]).run Z w=.ok (v8 (wh ⟨w.heap.size,0,wj⟩) 1 1) (w.alloc (wt #[v6 wg a] 3)):=by kernel_rfl
def Ot{l:List Int}:∀y∈BX l,∀u∈y,u.oneCell'=wk:=by intro y hy u hu;simp only[BX,u7]at hy;obtain⟨x,_,rfl⟩:=hy;simp only[ux,i9,vt]at hu;subst hu;rfl
def Bn{W0:wn}{v:wm}{l:List Int}{n:Int}(hf:Fr [] W0 w)(hn:BY W0 v)(hv:BQ w v 3 1 (BX l))(hl:l.length<=17592186044415)(hk:∀v' w',Fr [] W0 w'->BY W0 v'->BQ w' v' 3 1 (BX (l++[n]))->Fr (BN v) w w'->(∀g∈BN v',g∈BN v∨w.heap.size<=g)->K v' w'):
  Am Z (Instr.buildSlice 54 1 #[(0,v6 wg n)]) w λx w1=>Am Z (Builtin.append_ #[54,54] 54 #[v,x]) w1 K:=
 Br (x:=[v6 wg n]) (e:=3) (sz:=1) (bytes:=8) (z:=v6 wg 0) Tryz.underlying54 (by kernel_rfl) rfl (by decide) (X6 n) rfl (by simp[wm.oneCell']) hf hn hv (by rw[Ca];omega) (by rw[Ca];omega) λv' w' a b c d e=>hk v' w' a b (by rw[KV];exact c) d e
def IK(w:wn):wn:={ w with heap := #[] }
def I9(w:wn):Fr [] (IK w) w:=⟨rfl,rfl,rfl,by simp[IK],λi hi=>by simp[IK]at hi⟩
def HM(w:wn)(v:wm):BY (IK w) v:=λg _=>by simp[IK]
def B3{v:wm}{l:List Int}{n:Int}(hv:BQ w v 3 1 (BX l))(hl:l.length<=17592186044415)(hk:∀v' w',BQ w' v' 3 1 (BX (l++[n]))->Fr (BN v) w w'->(∀g∈BN v',g∈BN v∨w.heap.size<=g)->K v' w'):
  Am Z (Instr.buildSlice 54 1 #[(0,v6 wg n)]) w λx w1=>Am Z (Builtin.append_ #[54,54] 54 #[v,x]) w1 K:=
 Bn (I9 w) (HM w v) hv hl λv' w' _ _ a b c=>hk v' w' a b c
end
def M2{W0 w:wn}{v v':wm}(h:BY W0 v)(hs:W0.heap.size<=w.heap.size)(hg:∀g∈BN v',g∈BN v∨w.heap.size<=g):BY W0 v':=λg hx=>by
 rcases hg g (Cb.2 hx)with c|c
 ·exact h.blk g c
 ·omega
def BQ.no{w:wn}{v:wm}{e:TypeId}{sz:Nat}{xs:List (List wm)}{b:Nat}{o:Obj}(h:BQ w v e sz xs)(hb:w.heap[b]?=wh o)(hne:∀cs e' fz,o≠wt cs e' fz):b∉BN v:=λhg=>by
 obtain⟨⟨_,hx⟩,_⟩:=h;rcases hx with⟨e,_⟩|⟨k,cap,cur,e,_,hh,_⟩
 ·rw[e]at hg;simp[BN,wm.ownBlock]at hg
 ·rw[e]at hg;simp[BN,wm.ownBlock]at hg;subst hg;rw[hb]at hh;exact hne _ _ _ (p6 hh)
end
section
open Go.Proofs
noncomputable section
variable{K:VK}{w:wn}{x0 x1 x2 x3 y0 y1 y2 y3 y4 y5 y6 y9 y10 y20 y21:wm}
def F172.sh(h:(I Z 66 #[x0,(v6 wg 0),(v6 wg 2048)] w λa b=>Am Z (Instr.makeSlice 52 a a) b λc d=>Am Z (Instr.build 295 #[(0,(wd wk)),(1,c)]) d λf g=>Aq (wt (wm.cells f) 295) g λi j=>K i j)):I Z 172 #[x0] w K:=BK (A:=A0) (args:=[x0]) (qq h)
namespace F179
def ann:Cg:=⟨[(4,[3,9,10,20,21]),(6,[3,9,10,20,21]),(7,[10])],[(3,[3,9,10,20,21])],[],[],wj⟩
def code:=cd f179
def BM:=tp f179
variable(K:VK)(y3 y9 y10 y20 y21:wm)(w:wn)
def k7:=nk ann 30 [(10,y10)] w [1,1,1] code (BM K)
def l3:=nl ann 30 [(3,y3),(9,y9),(10,y10),(20,y20),(21,y21)] w [1,1,0,1,0] code (BM K)
def k4:=nk ann 30 [(3,y3),(9,y9),(10,y10),(20,y20),(21,y21)] w [1,1,0,1,0,0,1,1] code (BM K)
def k6:=nk ann 30 [(3,y3),(9,y9),(10,y10),(20,y20),(21,y21)] w [1,1,0,1,0,0,1,1,1] code (BM K)
attribute [irreducible] k7 l3 k4 k6
end F179
def F179.k7.to(h:(K y10 w)):F179.k7 K y10 w:=qq h
def F179.l3.to(h:(U .lss y21 y20 w λa b=>Af a (F179.k4 K y3 y9 y10 y20 y21 b) (F179.k7 K y10 b))):F179.l3 K y3 y9 y10 y20 y21 w:=by unfold F179.l3 nl;exact BW (qq h)
def F179.k4.to(h:(AC 1 y9 y21 w λa b=>Aj 1 a y3 b λc=>F179.k6 K y3 y9 y10 y20 y21 c)):F179.k4 K y3 y9 y10 y20 y21 w:=qq h
def F179.k6.to(h:(U .add y21 (v6 wg 1) w λa b=>F179.l3 K y3 y9 y10 y20 a b)):F179.k6 K y3 y9 y10 y20 y21 w:=qq h
def F179.sh(h:(I Z 245 #[x0,x1,x2] w λa b=>Ao 0 a b λc d=>Ao 1 a d λf g=>AD c g λi j=>F179.l3 K x3 c f i (v6 wg 0) j)):I Z 179 #[x0,x1,x2,x3] w K:=BK (A:=F179.ann) (args:=[x0,x1,x2,x3]) (qq h)
namespace F245
def ann:=a1 [(3,[0,1,2])]
def code:=cd f245
def BM:=tp f245
variable(K:VK)(y0 y1 y2:wm)(w:wn)
@[irreducible]def k3:=nk ann 57 [(0,y0),(1,y1),(2,y2)] w [1,1] code (BM K)
end F245
def F245.k3.to(h:(Ae y0 w λa b=>Ab 1 a b λc d=>Ac c d λf g=>U .add y1 y2 g λi j=>U .add y1 y2 j λk m=>Am Z (Instr.sliceAt 52 f (wh y1) (wh i) (wh k)) m λo p=>K (wc #[o,(wd wk)]) p)):F245.k3 K y0 y1 y2 w:=qq h
def F245.sh(h:(AB Z .eql 238 (.tmp 8) (.const (v7 wj)) x0 (v7 wj) w λa b=>Aa wl a (λK=>K x0 b) b λc d=>Aa wl a (Ae c d) d λf g=>Aa wl a (Ab 0 f g) g λi j=>Aa wl a (Ac i j) j λk m=>Aa wl a (A8 k m) m λo p=>Aw (wh a) (wh (wd wk)) (wh o) p λq r=>Aa wl q (λK=>K x1 r) r λs t=>Aa wl q (U .lss s (v6 wg 0) t) t λu v=>Aw (wh q) (wh (wd wk)) (wh u) v λx y=>Aa wl x (λK=>K x2 y) y λz aa=>Aa wl x (U .lss z (v6 wg 0) aa) aa λab ac=>Aw (wh x) (wh (wd wk)) (wh ab) ac λad ae=>Aa wl ad (λK=>K x1 ae) ae λaf ag=>Aa wl ad (λK=>K x0 ag) ag λah ai=>Aa wl ad (Ae ah ai) ai λaj ak=>Aa wl ad (Ab 1 aj ak) ak λal am=>Aa wl ad (Ac al am) am λan ao=>Aa wl ad (AD an ao) ao λap aq=>Aa wl ad (U .gtr af ap aq) aq λar au=>Aw (wh ad) (wh (wd wk)) (wh ar) au λav aw=>Aa wl av (λK=>K x2 aw) aw λax ay=>Aa wl av (λK=>K x0 ay) ay λaz ba=>Aa wl av (Ae az ba) ba λbb bc=>Aa wl av (Ab 1 bb bc) bc λbd be=>
 Aa wl av (Ac bd be) be λbf bg=>Aa wl av (AD bf bg) bg λbh bi=>Aa wl av (λK=>K x1 bi) bi λbj bk=>Aa wl av (U .sub bh bj bk) bk λbl bm=>Aa wl av (U .gtr ax bl bm) bm λbn bo=>Aw (wh av) (wh (wd wk)) (wh bn) bo λbp bq=>Af bp (K (wc #[(v8 wj 0 0),(wd wl)]) bq) (F245.k3 K x0 x1 x2 bq))):I Z 245 #[x0,x1,x2] w K:=BK (A:=F245.ann) (args:=[x0,x1,x2]) (qq h)
def F247.sh(h:(I Z 179 #[x0,x1,(v6 wg 1),x2] w λa b=>K a b)):I Z 247 #[x0,x1,x2] w K:=BK (A:=A0) (args:=[x0,x1,x2]) (qq h)
namespace F257
def ann:=a1 [(4,[6])]
def code:=cd f257
def BM:=tp f257
variable(K:VK)(y6:wm)(w:wn)
@[irreducible]def k4:=nk ann 19 [(6,y6)] w [1,1,1] code (BM K)
end F257
def F257.k4.to(h:(AC 1 y6 (v6 wg 0) w λa b=>Ac a b λc d=>K (wc #[c,(wd wk)]) d)):F257.k4 K y6 w:=qq h
def F257.sh(h:(I Z 245 #[x0,x1,(v6 wg 1)] w λa b=>Ao 0 a b λc d=>Ao 1 a d λf g=>A8 f g λi j=>Af i (K (wc #[(v6 wg 0),(wd wl)]) j) (F257.k4 K c j))):I Z 257 #[x0,x1] w K:=BK (A:=F257.ann) (args:=[x0,x1]) (qq h)
namespace F308
def ann:=a1 [(3,[0])]
def code:=cd f308
def BM:=tp f308
variable(K:VK)(y0:wm)(w:wn)
@[irreducible]def k3:=nk ann 10 [(0,y0)] w [1,1] code (BM K)
end F308
def F308.k3.to(h:(Ae y0 w λa b=>Ab 1 a b λc d=>Ac c d λf g=>AD f g λi j=>K i j)):F308.k3 K y0 w:=qq h
def F308.sh(h:(AB Z .eql 238 (.tmp 3) (.const (v7 wj)) x0 (v7 wj) w λa b=>Af a (K (v6 wg 0) b) (F308.k3 K x0 b))):I Z 308 #[x0] w K:=BK (A:=F308.ann) (args:=[x0]) (qq h)
def F116.sh(h:(I Z 66 #[x0,(v6 wg 0),(v6 wg 2048)] w λa b=>Am Z (Instr.build 255 #[(0,(wd wk)),(1,a)]) b λc d=>Aq (wt (wm.cells c) 255) d λf g=>K f g)):I Z 116 #[x0] w K:=BK (A:=A0) (args:=[x0]) (qq h)
namespace F178
def ann:Cg:=⟨[(3,[0,1])],[],[],[(3,(tk [0,1,3,4,7,11,12,2,5,8,9] (.go 6 (tk [10,13] (.go 14 .fin .fin)) .fin)))],wj⟩
def code:=cd f178
def BM:=tp f178
variable(K:VK)(y0 y1:wm)(w:wn)
@[irreducible]def k3:=nk ann 28 [(0,y0),(1,y1)] w [1,1] code (BM K)
end F178
def F178.k3.to(h:(A2 w λS a=>Ae y0 a λb c=>Ab 2 b c λd f=>Ae y0 f λg i=>Ab 2 g i λj k=>∃m,(∀w',S w'->((do eqGuard .quo 3 (.tmp 15) (.const (v6 wg 64)) y1 (v6 wg 64);binOp .quo 3 y1 (v6 wg 64):Sem wm)).run Z w'=.ok m w')/\(AQ 32 1 d m k λo p=>∃q,(∀w',S w'->((do eqGuard .rem 3 (.tmp 21) (.const (v6 wg 64)) y1 (v6 wg 64);binOp .rem 3 y1 (v6 wg 64):Sem wm)).run Z w'=.ok q w')/\(∃r,(∀w',S w'->((do eqGuard .shl 210 (.const (v6 .u64 1)) (.tmp 22) (v6 .u64 1) q;binOp .shl 210 (v6 .u64 1) q:Sem wm)).run Z w'=.ok r w')/\((Ac o p λs t=>(S t/\
 ∃u,(∀w',S w'->((do eqGuard .or 210 (.tmp 20) (.tmp 23) s r;binOp .or 210 s r:Sem wm)).run Z w'=.ok u w')/\(AQ 32 1 j m t λv x=>(Aj 1 v u x λy=>(S y/\
 K (wd wk) y))/\True)))/\True))))):F178.k3 K y0 y1 w:=qq h
def F178.sh(h:(I Z 243 #[x0,x1] w λa b=>A8 a b λc d=>Aa wl c (λK=>K x0 d) d λf g=>Aa wl c (λK=>K x1 g) g λi j=>Aa wl c (λK=>I Z 244 #[f,i] j K) j λk m=>Aw (wh c) (wh (wd wk)) (wh k) m λo p=>Af o (K (wd wl) p) (F178.k3 K x0 x1 p))):I Z 178 #[x0,x1] w K:=BK (A:=F178.ann) (args:=[x0,x1]) (qq h)
namespace F202
def ann:Cg:=⟨[(4,[0,3,4]),(5,[0,3,4]),(6,[3])],[(3,[0,3,4])],[],[],wj⟩
def code:=cd f202
def BM:=tp f202
variable(K:VK)(y0 y3 y4:wm)(w:wn)
def k6:=nk ann 18 [(3,y3)] w [1,1,1] code (BM K)
def l3:=nl ann 18 [(0,y0),(3,y3),(4,y4)] w [1,1,0,1,0] code (BM K)
def k5:=nk ann 18 [(0,y0),(3,y3),(4,y4)] w [1,1,0,1,0,0,1] code (BM K)
def k4:=nk ann 18 [(0,y0),(3,y3),(4,y4)] w [1,1,0,1,0,0,1,1] code (BM K)
attribute [irreducible] k6 l3 k5 k4
end F202
def F202.k6.to(h:(K y3 w)):F202.k6 K y3 w:=qq h
def F202.l3.to(h:(U .geq y4 (v6 wg 0) w λa b=>Af a (F202.k5 K y0 y3 y4 b) (F202.k6 K y3 b))):F202.l3 K y0 y3 y4 w:=by unfold F202.l3 nl;exact BW (qq h)
def F202.k5.to(h:(Am Z (Instr.buildSlice 54 1 #[(0,y4)]) w λa b=>Am Z (Builtin.append_ #[54,54] 54 #[y3,a]) b λc d=>F202.k4 K y0 c y4 d)):F202.k5 K y0 y3 y4 w:=qq h
def F202.k4.to(h:(U .add y4 (v6 wg 1) w λa b=>I Z 258 #[y0,a] b λc d=>F202.l3 K y0 y3 c d)):F202.k4 K y0 y3 y4 w:=qq h
def F202.sh(h:(I Z 258 #[x0,(v6 wg 0)] w λa b=>F202.l3 K x0 (v8 wj 0 0) a b)):I Z 202 #[x0] w K:=BK (A:=F202.ann) (args:=[x0]) (qq h)
def F243.sh(h:(AB Z .neq 177 (.tmp 5) (.const (v7 wj)) x0 (v7 wj) w λa b=>Aa wk a (λK=>K x0 b) b λc d=>Aa wk a (Ae c d) d λf g=>Aa wk a (Ab 0 f g) g λi j=>Aa wk a (Ac i j) j λk m=>Aw (wh a) (wh k) (wh (wd wl)) m λo p=>Aa wk o (λK=>K x1 p) p λq r=>Aa wk o (U .geq q (v6 wg 0) r) r λs t=>Aw (wh o) (wh s) (wh (wd wl)) t λu v=>Aa wk u (λK=>K x1 v) v λx y=>Aa wk u (λK=>K x0 y) y λz aa=>Aa wk u (Ae z aa) aa λab ac=>Aa wk u (Ab 1 ab ac) ac λad ae=>Aa wk u (Ac ad ae) ae λaf ag=>Aa wk u (U .lss x af ag) ag λah ai=>Aw (wh u) (wh ah) (wh (wd wl)) ai λaj ak=>K aj ak)):I Z 243 #[x0,x1] w K:=BK (A:=A0) (args:=[x0,x1]) (qq h)
def F244.sh(h:(I Z 243 #[x0,x1] w λa b=>Aa wk a (λK=>K x0 b) b λc d=>Aa wk a (λK=>K x1 d) d λf g=>Aa wk a (λK=>AB Z .quo 3 (.tmp 10) (.const (v6 wg 64)) f (v6 wg 64) g K) g λi j=>Aa wk a (Ae c j) j λk m=>Aa wk a (Ab 2 k m) m λo p=>Aa wk a (AQ 32 1 o i p) p λq r=>Aa wk a (Ac q r) r λs t=>Aa wk a (λK=>K x1 t) t λu v=>Aa wk a (λK=>AB Z .rem 3 (.tmp 16) (.const (v6 wg 64)) u (v6 wg 64) v K) v λx y=>Aa wk a (AB Z .shr 210 (.tmp 15) (.tmp 17) s x y) y λz aa=>Aa wk a (λK=>AB Z .and 210 (.tmp 18) (.const (v6 .u64 1)) z (v6 .u64 1) aa K) aa λab ac=>Aa wk a (U .eql ab (v6 .u64 1) ac) ac λad ae=>Aw (wh a) (wh ad) (wh (wd wl)) ae λaf ag=>K af ag)):I Z 244 #[x0,x1] w K:=BK (A:=A0) (args:=[x0,x1]) (qq h)
namespace F258
def ann:Cg:=⟨[(3,[0,1]),(6,[0,5,6]),(9,[0,6]),(11,[0,6])],[(7,[0,5,6])],[],[],wj⟩
def code:=cd f258
def BM:=tp f258
variable(K:VK)(y0 y1 y5 y6:wm)(w:wn)
def k3:=nk ann 60 [(0,y0),(1,y1)] w [1,1] code (BM K)
def l7:=nl ann 60 [(0,y0),(5,y5),(6,y6)] w [1,1,1,1,1,0] code (BM K)
def k6:=nk ann 60 [(0,y0),(5,y5),(6,y6)] w [1,1,1,1,1,0,0,1] code (BM K)
def k9:=nk ann 60 [(0,y0),(6,y6)] w [1,1,1,1,1,0,0,0,0,1] code (BM K)
def k11:=nk ann 60 [(0,y0),(6,y6)] w [1,1,1,1,1,0,0,0,0,1,1] code (BM K)
attribute [irreducible] k3 l7 k6 k9 k11
end F258
def F258.k3.to(h:(Am Z (Builtin.max_ #[3,3] 3 #[y1,(v6 wg 0)]) w λa b=>AB Z .quo 3 (.tmp 27) (.const (v6 wg 64)) a (v6 wg 64) b λc d=>Ae y0 d λf g=>Ab 2 f g λi j=>AQ 32 1 i c j λk m=>Ac k m λo p=>AB Z .rem 3 (.tmp 33) (.const (v6 wg 64)) a (v6 wg 64) p λq r=>AB Z .shr 210 (.tmp 32) (.tmp 34) o q r λs t=>AB Z .rem 3 (.tmp 36) (.const (v6 wg 64)) a (v6 wg 64) t λu v=>AB Z .shl 210 (.tmp 35) (.tmp 37) s u v λx y=>AB Z .quo 3 (.tmp 39) (.const (v6 wg 64)) a (v6 wg 64) y λz aa=>F258.l7 K y0 x z aa)):F258.k3 K y0 y1 w:=qq h
def F258.l7.to(h:(U .neq y5 (v6 .u64 0) w λa b=>Af a (U .mul y6 (v6 wg 64) b λc d=>I Z 291 #[y5] d λf g=>U .add c f g λi j=>K i j) (F258.k9 K y0 y6 b))):F258.l7 K y0 y5 y6 w:=by unfold F258.l7 nl;exact BW (qq h)
def F258.k6.to(h:(U .add y6 (v6 wg 1) w λa b=>F258.l7 K y0 y5 a b)):F258.k6 K y0 y5 y6 w:=qq h
def F258.k9.to(h:(U .add y6 (v6 wg 1) w λa b=>U .eql a (v6 wg 32) b λc d=>Af c (K (v6 wg (-1)) d) (F258.k11 K y0 y6 d))):F258.k9 K y0 y6 w:=qq h
def F258.k11.to(h:(U .add y6 (v6 wg 1) w λa b=>Ae y0 b λc d=>Ab 2 c d λf g=>AQ 32 1 f a g λi j=>Ac i j λk m=>F258.k6 K y0 k y6 m)):F258.k11 K y0 y6 w:=qq h
def F258.sh(h:(AB Z .eql 177 (.tmp 7) (.const (v7 wj)) x0 (v7 wj) w λa b=>Aa wl a (λK=>K x0 b) b λc d=>Aa wl a (Ae c d) d λf g=>Aa wl a (Ab 0 f g) g λi j=>Aa wl a (Ac i j) j λk m=>Aa wl a (A8 k m) m λo p=>Aw (wh a) (wh (wd wk)) (wh o) p λq r=>Aa wl q (λK=>K x1 r) r λs t=>Aa wl q (λK=>K x0 t) t λu v=>Aa wl q (Ae u v) v λx y=>Aa wl q (Ab 1 x y) y λz aa=>Aa wl q (Ac z aa) aa λab ac=>Aa wl q (U .geq s ab ac) ac λad ae=>Aw (wh q) (wh (wd wk)) (wh ad) ae λaf ag=>Af af (K (v6 wg (-1)) ag) (F258.k3 K x0 x1 ag))):I Z 258 #[x0,x1] w K:=BK (A:=F258.ann) (args:=[x0,x1]) (qq h)
namespace F337
def ann:Cg:=⟨[(3,[0,1])],[],[],[(3,(tk [0,1,3,4,7,11,12,2,5,8,9] (.go 6 (tk [10,13] (.go 14 .fin .fin)) .fin)))],wj⟩
def code:=cd f337
def BM:=tp f337
variable(K:VK)(y0 y1:wm)(w:wn)
@[irreducible]def k3:=nk ann 23 [(0,y0),(1,y1)] w [1,1] code (BM K)
end F337
def F337.k3.to(h:(A2 w λS a=>Ae y0 a λb c=>Ab 2 b c λd f=>Ae y0 f λg i=>Ab 2 g i λj k=>∃m,(∀w',S w'->((do eqGuard .quo 3 (.tmp 10) (.const (v6 wg 64)) y1 (v6 wg 64);binOp .quo 3 y1 (v6 wg 64):Sem wm)).run Z w'=.ok m w')/\(AQ 32 1 d m k λo p=>∃q,(∀w',S w'->((do eqGuard .rem 3 (.tmp 16) (.const (v6 wg 64)) y1 (v6 wg 64);binOp .rem 3 y1 (v6 wg 64):Sem wm)).run Z w'=.ok q w')/\(∃r,(∀w',S w'->((do eqGuard .shl 210 (.const (v6 .u64 1)) (.tmp 17) (v6 .u64 1) q;binOp .shl 210 (v6 .u64 1) q:Sem wm)).run Z w'=.ok r w')/\((Ac o p λs t=>(S t/\
 ∃u,(∀w',S w'->((do eqGuard .andNot 210 (.tmp 15) (.tmp 18) s r;binOp .andNot 210 s r:Sem wm)).run Z w'=.ok u w')/\(AQ 32 1 j m t λv x=>(Aj 1 v u x λy=>(S y/\
 K (wd wk) y))/\True)))/\True))))):F337.k3 K y0 y1 w:=qq h
def F337.sh(h:(I Z 244 #[x0,x1] w λa b=>A8 a b λc d=>Af c (K (wd wl) d) (F337.k3 K x0 x1 d))):I Z 337 #[x0,x1] w K:=BK (A:=F337.ann) (args:=[x0,x1]) (qq h)
end
end
section
open Go.Proofs Go.RowKit
structure CF(w:wn)(b:Nat)(mv:wm)(m:List Int):Prop where
 blk:w.heap[b]?=wh (wt #[wd wk,mv] 295 (0,0))
 own:BQ w mv 2 1 (BX m)
 le:m.length<=2048
 rng:∀x∈m, -9223372036854775808<=x/\x<=9223372036854775807
def CF.keep{S:List Nat}{w w':wn}{b:Nat}{mv:wm}{m:List Int}(h:CF w b mv m)(hf:Fr S w w')(hb:b∉S)(hS:∀g∈BN mv,g∉S):CF w' b mv m:=⟨hf.at_ h.blk hb,h.own.keep' hf hS,h.le,h.rng⟩
def CF.keep0{w w':wn}{b:Nat}{mv:wm}{m:List Int}(h:CF w b mv m)(hf:Fr [] w w'):CF w' b mv m:=h.keep hf (by simp) (by simp)
def OK{P:wq}{w:wn}{t e:TypeId}{sz:Nat}(A:Option Addr)(n c:Nat)(k k' k2:IntKind)(l h mx:Int)(hu:P.underlying t=wh (.slice e))(hs:Hq P e=wh sz)(h0:0<=l)(h1:l<=h)(h2:h<=mx)(h3:mx<=(c:Int)):
  (Instr.sliceAt t (v8 A n c) (wh (v6 k l)) (wh (v6 k' h)) (wh (v6 k2 mx))).run P w=.ok (v8 (if mx.toNat=l.toNat then A else A.map (·.add (l.toNat*sz))) (h.toNat-l.toNat) (mx.toNat-l.toNat)) w:=by
 have hs':(sizeOf e).run P w=.ok sz w:=DF hs;have g1:0<=h:=by omega
 have g2:0<=mx:=by omega
 have g3:¬(max h 0<l):=by omega
 have g4:¬(h<l):=by omega
 have g5:¬(mx<h):=by omega
 have g6:h<=max mx 0:=by omega
 have g7:l<=max h 0:=by omega
 simp[Instr.sliceAt,Instr.slice,underlying,hu,Instr.sliceBounds,Instr.sliceBound,asIntOf,h0,h3,g1,g2,g6,g7,hs']
section
variable{K:VK}{w:wn}{b:Nat}{mv:wm}{m:List Int}
def CF.nb(h:CF w b mv m):b∉BN mv:=h.own.nb h.blk (by decide)
def Yn(h:CF w b mv m)(hk:K (v6 wg (m.length:Int)) w):I Z 308 #[v7 (wh ⟨b,0,wj⟩)] w K:=by refine F308.sh ⟨_,Ck _ _ _ Tryz.underlying238,?_⟩;simp only[Ag];refine F308.k3.to ?_;simp only[zv];refine Ad (v:=mv) h.blk rfl (AH h.own.rd ?_);rw[Ca];exact hk
def SO{a n:Int}(h:CF w b mv m)(h0:¬ET m a n->K (wc #[v8 wj 0 0,wd wl]) w)(h1:ET m a n->∀A c,mv=v8 A m.length c->(A=wj->m=[])->K (wc #[v8 (if n=0 then A else A.map (·.add a.toNat)) n.toNat n.toNat,wd wk]) w):I Z 245 #[v7 (wh ⟨b,0,wj⟩),v6 wg a,v6 wg n] w K:=by
 have hle:=h.le;refine F245.sh ⟨_,Ck _ _ _ Tryz.underlying238,?_⟩;simp only[zv];refine Ad (v:=wd wk) h.blk rfl ?_;simp only[zv];unfold ET at h0 h1;by_cases c1:a<0
 ·simp only[zv,c1];exact h0 (by omega)
 simp only[zv,c1];by_cases c2:n<0
 ·simp only[zv,c2];exact h0 (by omega)
 simp only[zv,c2];refine Ad (v:=mv) h.blk rfl (AH h.own.rd ?_);rw[Ca];by_cases c3:a>(m.length:Int)
 ·simp only[zv,c3];exact h0 (by omega)
 simp only[zv,c3];refine Ad (v:=mv) h.blk rfl (AH h.own.rd ?_);rw[Ca];simp only[zv];rw[BO (n:=(m.length:Int)-a) (by omega)];by_cases c4:n>(m.length:Int)-a
 ·simp only[zv,c4];exact h0 (by omega)
 simp only[zv,c4];refine F245.k3.to ?_;simp only[zv];refine Ad (v:=mv) h.blk rfl ?_;rw[BO (n:=a+n) (by omega)];obtain⟨A,c,rfl,hc,hA⟩:=h.own.cap;rw[Ca]at hc;refine A4 (OK (e:=2) (sz:=1) A _ c wg wg wg a (a+n) (a+n) Tryz.underlying52 (by kernel_rfl) (by omega) (by omega) (by omega) (by omega)) ?_;have:=h1 (by omega) A c (by rw[Ca]) (λe=>by simpa[BX] using hA e);rw[vm,show (a+n).toNat-a.toNat=n.toNat by omega]
 by_cases e:n=0
 ·rw[vy e]at this;rw[vy (by omega)];exact this
 ·rw[vx e]at this;rw[vx (by omega)];exact this
def Oq{A:Option Addr}{N c a n j:Nat}{k:IntKind}(hj:j<n)(ha:a+j<N)(h:AC 1 (v8 A N c) (v6 k ((a+j:Nat):Int)) w K):AC 1 (v8 (if (n:Int)=0 then A else A.map (·.add a)) n n) (v6 k (j:Int)) w K:=by
 obtain⟨g,len,cap,k',j',e1,e2,h0,h1,hk⟩:=h;cases e1;cases e2;rw[vx (by omega)];refine⟨g.add a,n,n,k,j,rfl,rfl,by omega,by omega,?_⟩;have e:(g.add a).add ((j:Int).toNat*1)=g.add (((a+j:Nat):Int).toNat*1):=by rw[zK,zK,vm,vm];by_cases c1:a=0<;>by_cases c2:j=0<;>simp[Addr.add,uy,c1,c2]
 rw[e];exact hk
def R4{a:Int}(h:CF w b mv m)(hk:∀ok,K (wc #[v6 wg (Cn m a),wd ok]) w):I Z 257 #[v7 (wh ⟨b,0,wj⟩),v6 wg a] w K:=by
 unfold Cn at hk;refine F257.sh (SO h (λhn=>?_) λhy A c e hA=>?_)
 ·simp only[zv];have:=hk wl
  rwa [vx hn]at this
 ·have hle:=h.le;have hy':=hy;unfold ET at hy';simp only[zv];refine F257.k4.to ?_;have hi:a.toNat<m.length:=by omega
  refine Oq (N:=m.length) (c:=c) (a:=a.toNat) (n:=1) (j:=0) (by omega) (by omega) ?_;rw[<-e];refine AV h.own.rd (by omega:a.toNat+0<m.length) λg o cs e' fz hg hc=>Ad hg hc ?_;have:=hk wk;rw[vy hy]at this;rw[DC hi]at this;exact this
def SE{a n:Nat}{v:Int}(h:a+n+1<=m.length):(CX m a n v).set (a+n) v=CX m a ((n+1:Nat):Int) v:=by
 unfold CX;rw[vy (by unfold ET;omega),vy (by unfold ET;omega)];simp only[zK];apply zL;intro i;rw[zO,Ks (by omega),Ks (by omega)];by_cases c:a+n=i
 ·subst c;rw[vy rfl,vy (by simp;omega),vy (by omega)]
 ·rw[vx c];by_cases d:a<=i/\i<a+n
  ·rw[vy d,vy (by omega)]
  ·rw[vx d,vx (by omega)]
def QY{a:Nat}{v:Int}(h:a<=m.length):CX m a 0 v=m:=by unfold CX;rw[vy (by unfold ET;omega)];simp
def S7(l:List Int)(j:Nat)(n:Int):(BX l).set j [v6 wg n]=BX (l.set j n):=by simp[BX,vi]
def SD{a n v x:Int}(h:x∈CX m a n v):x∈m∨x=v:=by
 unfold CX at h;split at h
 ·rcases n7.1 h with h|h
  ·rcases n7.1 h with h|h
   ·exact .inl (yS h)
   ·exact ws (xR h)
  ·exact .inl (List.mem_of_mem_drop h)
 ·exact .inl h
def JC{a:Int}(h:CF w b mv m) : -9223372036854775808<=Cn m a/\Cn m a<=9223372036854775807:=by
 unfold Cn;split
 ·rename_i hm;unfold ET at hm;rw[DC (by omega)];exact h.rng _ (d7 _)
 ·omega
def Su{W:wn}{a n:Nat}{v:Int}{A:Option Addr}{c:Nat}{ok:wm}(hW:CF W b mv m)(e:mv=v8 A m.length c)(hn:a+n<=m.length)(hv : -9223372036854775808<=v/\v<=9223372036854775807)(h:∀w',Fr (BN mv) W w'->CF w' b mv (CX m a n v)->K ok w'):
  ∀(d j:Nat) (w:wn),n=j+d->Fr (BN mv) W w->CF w b mv (CX m a j v)->
   F179.l3 K (v6 wg v) (v8 (if (n:Int)=0 then A else A.map (·.add a)) n n) ok (v6 wg (n:Int)) (v6 wg (j:Int)) w:=by
 have hle:=hW.le;intro d;induction d with
 | zero=>
  intro j w hd hf hM;refine F179.l3.to ?_;simp only[zv,show ¬((j:Int)<(n:Int)) by omega];rw[show j=n by omega]at hM;exact F179.k7.to (h w hf hM)
 | succ d ih=>
  intro j w hd hf hM;refine F179.l3.to ?_;simp only[zv,show ((j:Int)<(n:Int)) by omega];refine F179.k4.to (Oq (N:=m.length) (c:=c) (by omega) (by omega) ?_);rw[<-e];have hl:=Dw m a j v;refine Bi (x:=v6 wg v) hM.own (by omega) (by rw[Ca,hl];omega) rfl (by intro u hu;simp[wm.cells]at hu;subst hu;rfl) λw1 ho1 hf1 _=>?_;rw[zK]at ho1;have ho1:BQ w1 mv 2 1 (BX (CX m a ((j+1:Nat):Int) v)):=by rw[<-SE (by omega), <-S7];exact ho1
  refine F179.k6.to ?_;simp only[A7];rw[BO (n:=(j:Int)+1) (by omega),show (j:Int)+1=((j+1:Nat):Int) by omega];have hs:∀g,mv.ownBlock=wh g->g∈BN mv:=λg hg=>Cb.2 hg;exact ih (j+1) w1 (by omega) (hf.trans (hf1.mono λx hx=>hx)) ⟨hf1.at_ hM.blk hM.nb,ho1,by rw[Dw];exact hle,λx hx=>by
   rcases SD hx with h1|h1
   ·exact hW.rng x h1
   ·rw[h1];exact hv⟩
def Lq{a n v:Int}(h:CF w b mv m)(hv : -9223372036854775808<=v/\v<=9223372036854775807)(hk:∀w',Fr (BN mv) w w'->CF w' b mv (CX m a n v)->K (wd (decide (ET m a n))) w'):I Z 179 #[v7 (wh ⟨b,0,wj⟩),v6 wg a,v6 wg n,v6 wg v] w K:=by
 refine F179.sh (SO h (λhn=>?_) λhy A c e hA=>?_)
 ·simp only[zv];refine F179.l3.to ?_;simp only[zv,show ¬((0:Int)<((0:Nat):Int)) by omega];refine F179.k7.to ?_;have:=hk w (Fr.refl _ _) (by unfold CX;rw[vx hn];exact h)
  rwa [p9 hn]at this
 ·have hy':=hy;unfold ET at hy';obtain⟨a,rfl⟩:=xU hy'.1;obtain⟨n,rfl⟩:=xU hy'.2.1;simp only[zv,zK];refine Su (a:=a) (n:=n) h e (by omega) hv (λw' hf hM=>?_) n 0 w (by omega) (Fr.refl _ _) (by rw[show ((0:Nat):Int)=0 from rfl,QY (by omega)];exact h);have:=hk w' hf hM
  rwa [ur hy]at this
def PJ{a v:Int}(h:CF w b mv m)(hv : -9223372036854775808<=v/\v<=9223372036854775807)(hk:∀w',Fr (BN mv) w w'->CF w' b mv (DN m a v)->K (wd (decide (ET m a 1))) w'):I Z 247 #[v7 (wh ⟨b,0,wj⟩),v6 wg a,v6 wg v] w K:=
 F247.sh (Lq h hv hk)
end
end
section
open Go.Proofs
noncomputable section
variable{K:VK}{w:wn}{x0 x1 x2 x3 x4 y0 y1 y4 y5 y6 y7 y8 y9 y10 y11 y12 y13 y34 y35:wm}
namespace F248
def ann:Cg:=⟨[(4,[7,9,11]),(7,[7,9,13])],[],[],[(7,(tk [0,2,3,1,7,4,5,6] (.go 8 (.take 9 .fin) .fin)))],wj⟩
def code:=cd f248
def BM:=tp f248
variable(K:VK)(y7 y9 y11 y13:wm)(w:wn)
def k4:=nk ann 53 [(7,y7),(9,y9),(11,y11)] w [1,1,1] code (BM K)
def k7:=nk ann 53 [(7,y7),(9,y9),(13,y13)] w [1,1,1,1,1] code (BM K)
attribute [irreducible] k4 k7
end F248
def F248.k4.to(h:(Ak 4 y11 w λa b=>Ab 0 y7 b λc d=>Ac c d λf g=>I Z 288 #[a,f] g λi j=>Ao 0 i j λk m=>Ao 1 i m λo p=>A8 o p λq r=>Af q (Am Z (Instr.build 241 #[]) r λs t=>Aj 2 y9 s t λu=>Ak 2 y9 u λr10 _=>K (wc #[(v6 wg 0),r10,(wd wl)]) u) (F248.k7 K y7 y9 k r))):F248.k4 K y7 y9 y11 w:=qq h
def F248.k7.to(h:(A2 w λS a=>Ab 0 y7 a λb c=>Ab 1 y7 c λd f=>An S b f λg i=>An S d i λj k=>U .sub j (v6 wg 1) k λm o=>∃p,(∀w',S w'->(Instr.build 241 #[(0,y13),(1,m)]).run Z w'=.ok p w')/\((Aj 2 y9 p o λq=>(S q/\
 Ak 2 y9 q λr9 _=>K (wc #[g,r9,(wd wk)]) q))/\True))):F248.k7 K y7 y9 y13 w:=qq h
def F248.sh(h:(Aq (wt (wm.cells x3) 241) w λa b=>Aq (wt #[v6 wg 0,v6 wg 0] 241) b λc d=>I Z 286 #[x0,x1,x2] d λf g=>Ao 0 f g λi j=>Ao 1 f j λk m=>Aq (wt #[v7 wj,v6 wg 0,v6 wg 0,v6 wg 0] 319) m λo p=>Aj 4 o i p λq=>A8 k q λr s=>Aa wl r (Ab 1 a s) s λt u=>Aa wl r (Ac t u) u λv x=>Aa wl r (U .lss v (v6 wg 1) x) x λy z=>Aw (wh r) (wh (wd wk)) (wh y) z λaa ab=>Aa wl aa (Ak 4 o ab) ab λac ad=>Aa wl aa (Ab 0 a ad) ad λae af=>Aa wl aa (Ac ae af) af λag ah=>Aa wl aa (λK=>I Z 287 #[ac,ag] ah K) ah λai aj=>Aa wl aa (A8 ai aj) aj λak al=>Aw (wh aa) (wh (wd wk)) (wh ak) al λam an=>Af am (Am Z (Instr.build 241 #[]) an λao ap=>Aj 2 c ao ap λaq=>Ak 2 c aq λr21 _=>K (wc #[(v6 wg 0),r21,(wd wl)]) aq) (F248.k4 K a c o an))):I Z 248 #[x0,x1,x2,x3] w K:=BK (A:=F248.ann) (args:=[x0,x1,x2,x3]) (qq h)
namespace F253
def ann:Cg:=⟨[(4,[0,1,6,8]),(8,[6,8,34,35]),(10,[6,8,34,35]),(11,[6,8])],[(7,[6,8,34,35])],[],[],wj⟩
def code:=cd f253
def BM:=tp f253
variable(K:VK)(y0 y1 y6 y8 y34 y35:wm)(w:wn)
def k4:=nk ann 47 [(0,y0),(1,y1),(6,y6),(8,y8)] w [1,1,1] code (BM K)
def k11:=nk ann 47 [(6,y6),(8,y8)] w [1,1,1,1,1,1] code (BM K)
def l7:=nl ann 47 [(6,y6),(8,y8),(34,y34),(35,y35)] w [1,1,1,1,1,0,1,0] code (BM K)
def k8:=nk ann 47 [(6,y6),(8,y8),(34,y34),(35,y35)] w [1,1,1,1,1,0,1,0,0,1,1] code (BM K)
def k10:=nk ann 47 [(6,y6),(8,y8),(34,y34),(35,y35)] w [1,1,1,1,1,0,1,0,0,1,1,1] code (BM K)
attribute [irreducible] k4 k11 l7 k8 k10
end F253
def F253.k4.to(h:(I Z 177 #[y1,(v6 wg 1)] w λa b=>Ao 0 a b λc d=>Ao 1 a d λf g=>Ao 2 a g λi j=>I Z 179 #[y0,c,(v6 wg 32),(v6 wg 0)] j λk m=>Ab 3 y8 m λo p=>Ac o p λq r=>F253.l7 K y6 y8 q (v6 wg 0) r)):F253.k4 K y0 y1 y6 y8 w:=qq h
def F253.k11.to(h:(Ab 3 y8 w λa b=>Ac a b λc d=>Am Z (Instr.build 241 #[(0,(v6 wg 0)),(1,c)]) d λf g=>Aj 2 y6 f g λi=>Ak 2 y6 i λr5 _=>K (wc #[r5,(wd wk)]) i)):F253.k11 K y6 y8 w:=qq h
def F253.l7.to(h:(U .lss y35 y34 w λa b=>Af a (F253.k8 K y6 y8 y34 y35 b) (F253.k11 K y6 y8 b))):F253.l7 K y6 y8 y34 y35 w:=by unfold F253.l7 nl;exact BW (qq h)
def F253.k8.to(h:(Ak 4 y8 w λa b=>U .add y35 (v6 wg 1) b λc d=>I Z 289 #[a,y35,c] d λf g=>F253.k10 K y6 y8 y34 y35 g)):F253.k8 K y6 y8 y34 y35 w:=qq h
def F253.k10.to(h:(U .add y35 (v6 wg 1) w λa b=>F253.l7 K y6 y8 y34 a b)):F253.k10 K y6 y8 y34 y35 w:=qq h
def F253.sh(h:(Aq (wt #[v6 wg 0,v6 wg 0] 241) w λa b=>I Z 286 #[x0,x1,x2] b λc d=>Ao 0 c d λf g=>Ao 1 c g λi j=>Aq (wt #[v7 wj,v6 wg 0,v6 wg 0,v6 wg 0] 319) j λk m=>Aj 4 k f m λo=>A8 i o λp q=>Af p (Am Z (Instr.build 241 #[]) q λr s=>Aj 2 a r s λt=>Ak 2 a t λr10 _=>K (wc #[r10,(wd wl)]) t) (F253.k4 K x0 x1 a k q))):I Z 253 #[x0,x1,x2] w K:=BK (A:=F253.ann) (args:=[x0,x1,x2]) (qq h)
namespace F286
def ann:Cg:=⟨[],[],[],[(3,(tk [1,2,3,0,4,5,6,7,8,9] (.go 10 (tk [11,12] (.go 13 (.take 14 .fin) .fin)) .fin)))],wj⟩
end F286
def F286.sh(h:(Aq (wt #[v7 wj,v6 wg 0,v6 wg 0,v6 wg 0] 319) w λa b=>I Z 263 #[x2] b λc d=>Am Z (Instr.build 319 #[(0,x0),(1,x1),(2,x2),(3,c)]) d λf g=>Aq (wt #[v7 wj,v6 wg 0,v6 wg 0,v6 wg 0] 319) g λi j=>Aj 4 i f j λk=>I Z 177 #[x1,(v6 wg 1)] k λm o=>Ao 0 m o λp q=>Ao 1 m q λr s=>Ao 2 m s λt u=>A2 u λS v=>Aa wk t (Ab 3 i v) v λx y=>AM S 4 i y λz aa=>Aa wk t (An S x aa) aa λab ac=>Aa wk t (U .gtr ab (v6 wg 0) ac) ac λad ae=>Aw (wh t) (wh ad) (wh (wd wl)) ae λaf ag=>Aa wk af (λK=>K r ag) ag λah ai=>Aa wk af (λK=>K x0 ai) ai λaj ak=>(Aa wk af (λK=>I Z 308 #[aj] ak K) ak λal am=>(S am/\
 Aa wk af (U .lss ah al am) am λan ao=>Aw (wh af) (wh an) (wh (wd wl)) ao λap aq=>(Aj 4 a z aq λar=>(S ar/\
 Ak 4 a ar λr22 _=>K (wc #[r22,ap]) ar))/\True))/\True)):I Z 286 #[x0,x1,x2] w K:=BK (A:=F286.ann) (args:=[x0,x1,x2]) (qq h)
def F287.sh(h:(Aq (wt (wm.cells x0) 319) w λa b=>U .geq x1 (v6 wg 0) b λc d=>Aa wk c (λK=>K x1 d) d λf g=>Aa wk c (Ab 3 a g) g λi j=>Aa wk c (Ac i j) j λk m=>Aa wk c (U .lss f k m) m λo p=>Aw (wh c) (wh o) (wh (wd wl)) p λq r=>K q r)):I Z 287 #[x0,x1] w K:=BK (A:=A0) (args:=[x0,x1]) (qq h)
namespace F288
def ann:=a1 [(5,[8])]
def code:=cd f288
def BM:=tp f288
variable(K:VK)(y8:wm)(w:wn)
@[irreducible]def k5:=nk ann 37 [(8,y8)] w [1,1,1,1] code (BM K)
end F288
def F288.k5.to(h:(U .sub (v6 wg (-1)) y8 w λa b=>K (wc #[a,(wd wk)]) b)):F288.k5 K y8 w:=qq h
def F288.sh(h:(Aq (wt (wm.cells x0) 319) w λa b=>Ab 1 a b λc d=>Ac c d λf g=>Ab 2 a g λi j=>Ac i j λk m=>I Z 249 #[f,k,x1] m λo p=>Ao 0 o p λq r=>Ao 1 o r λs t=>Ab 0 a t λu v=>Ac u v λx y=>I Z 257 #[x,q] y λz aa=>Ao 0 z aa λab ac=>Ao 1 z ac λad ae=>U .geq ab (v6 wg 0) ae λaf ag=>Aa wl af (λK=>K ab ag) ag λah ai=>Aa wl af (Ab 3 a ai) ai λaj ak=>Aa wl af (Ac aj ak) ak λal am=>Aa wl af (λK=>U .sub (v6 wg (-1)) al am K) am λan ao=>Aa wl af (U .lss ah an ao) ao λap aq=>Aw (wh af) (wh (wd wk)) (wh ap) aq λar au=>Af ar (K (wc #[(v6 wg 0),(wd wl)]) au) (F288.k5 K ab au))):I Z 288 #[x0,x1] w K:=BK (A:=F288.ann) (args:=[x0,x1]) (qq h)
def F289.sh(h:(Aq (wt (wm.cells x0) 319) w λa b=>Ab 1 a b λc d=>Ac c d λf g=>Ab 2 a g λi j=>Ac i j λk m=>I Z 249 #[f,k,x1] m λo p=>Ao 0 o p λq r=>Ao 1 o r λs t=>Ab 0 a t λu v=>Ac u v λx y=>U .sub (v6 wg (-1)) x2 y λz aa=>I Z 247 #[x,q,z] aa λab ac=>K (wc #[]) ac)):I Z 289 #[x0,x1,x2] w K:=BK (A:=A0) (args:=[x0,x1,x2]) (qq h)
namespace F344
def ann:=a1 [(4,[4,8,10,12])]
def code:=cd f344
def BM:=tp f344
variable(K:VK)(y4 y8 y10 y12:wm)(w:wn)
@[irreducible]def k4:=nk ann 64 [(4,y4),(8,y8),(10,y10),(12,y12)] w [1,1,1] code (BM K)
end F344
def F344.k4.to(h:(Ak 4 y12 w λa b=>Ab 0 y8 b λc d=>Ac c d λf g=>I Z 289 #[a,y4,f] g λi j=>Ab 1 y8 j λk m=>Ac k m λo p=>U .add o (v6 wg 1) p λq r=>Am Z (Instr.build 241 #[(0,y4),(1,q)]) r λs t=>Aj 2 y10 s t λu=>Ak 2 y10 u λr10 _=>K (wc #[r10,(wd wk)]) u)):F344.k4 K y4 y8 y10 y12 w:=qq h
def F344.sh(h:(Aq (wt (wm.cells x3) 241) w λa b=>Aq (wt #[v6 wg 0,v6 wg 0] 241) b λc d=>I Z 286 #[x0,x1,x2] d λf g=>Ao 0 f g λi j=>Ao 1 f j λk m=>Aq (wt #[v7 wj,v6 wg 0,v6 wg 0,v6 wg 0] 319) m λo p=>Aj 4 o i p λq=>A8 k q λr s=>Aa wl r (Ak 4 o s) s λt u=>Aa wl r (λK=>K x4 u) u λv x=>Aa wl r (λK=>I Z 287 #[t,v] x K) x λy z=>Aa wl r (A8 y z) z λaa ab=>Aw (wh r) (wh (wd wk)) (wh aa) ab λac ad=>Aa wl ac (Ab 1 a ad) ad λae af=>Aa wl ac (Ac ae af) af λag ah=>Aa wl ac (U .lss ag (v6 wg 0) ah) ah λai aj=>Aw (wh ac) (wh (wd wk)) (wh ai) aj λak al=>Aa wl ak (Ab 1 a al) al λam an=>Aa wl ak (Ac am an) an λao ap=>Aa wl ak (Ab 3 o ap) ap λaq ar=>Aa wl ak (Ac aq ar) ar λau av=>Aa wl ak (U .geq ao au av) av λaw ax=>Aw (wh ak) (wh (wd wk)) (wh aw) ax λay az=>Aa wl ay (Ab 0 a az) az λba bb=>Aa wl ay (Ac ba bb) bb λbc bd=>Aa wl ay (U .lss bc (v6 wg 0) bd) bd λbe bf=>
 Aw (wh ay) (wh (wd wk)) (wh be) bf λbg bh=>Aa wl bg (Ab 0 a bh) bh λbi bj=>Aa wl bg (Ac bi bj) bj λbk bl=>Aa wl bg (Ab 3 o bl) bl λbm bn=>Aa wl bg (Ac bm bn) bn λbo bp=>Aa wl bg (U .gtr bk bo bp) bp λbq br=>Aw (wh bg) (wh (wd wk)) (wh bq) br λbs bt=>Af bs (Am Z (Instr.build 241 #[]) bt λbu bv=>Aj 2 c bu bv λbw=>Ak 2 c bw λr36 _=>K (wc #[r36,(wd wl)]) bw) (F344.k4 K x4 a c o bt))):I Z 344 #[x0,x1,x2,x3,x4] w K:=BK (A:=F344.ann) (args:=[x0,x1,x2,x3,x4]) (qq h)
def F112.sh(h:(I Z 170 #[x0] w λa b=>I Z 171 #[a] b λc d=>AD c d λf g=>U .mul f (v6 wg 32) g λi j=>Am Z (Instr.build 237 #[(0,a)]) j λk m=>I Z 172 #[i] m λo p=>I Z 116 #[i] p λq r=>Am Z (Instr.build 244 #[(0,k),(1,o),(3,q)]) r λs t=>Aq (wt (wm.cells s) 244) t λu v=>K u v)):I Z 112 #[x0] w K:=BK (A:=A0) (args:=[x0]) (qq h)
namespace F114
def ann:=a1 [(3,[0])]
def code:=cd f114
def BM:=tp f114
variable(K:VK)(y0:wm)(w:wn)
@[irreducible]def k3:=nk ann 11 [(0,y0)] w [1,1] code (BM K)
end F114
def F114.k3.to(h:(Ae y0 w λa b=>Ab 0 a b λc d=>Ak 1 c d λf g=>I Z 174 #[f] g λi j=>K i j)):F114.k3 K y0 w:=qq h
def F114.sh(h:(I Z 173 #[x0] w λa b=>A8 a b λc d=>Af c (K (v6 wg 0) d) (F114.k3 K x0 d))):I Z 114 #[x0] w K:=BK (A:=F114.ann) (args:=[x0]) (qq h)
namespace F119
def ann:=a1 [(3,[0,1]),(6,[0,1,6])]
def code:=cd f119
def BM:=tp f119
variable(K:VK)(y0 y1 y6:wm)(w:wn)
def k3:=nk ann 48 [(0,y0),(1,y1)] w [1,1] code (BM K)
def k6:=nk ann 48 [(0,y0),(1,y1),(6,y6)] w [1,1,1,1] code (BM K)
attribute [irreducible] k3 k6
end F119
def F119.k3.to(h:(Ae y0 w λa b=>Ab 0 a b λc d=>Ab 0 c d λf g=>Ac f g λi j=>I Z 176 #[i,y1] j λk m=>Ao 0 k m λo p=>Ao 1 k p λq r=>A8 q r λs t=>Af s (K (wc #[(v6 wg 0),(wd wl)]) t) (F119.k6 K y0 y1 o t))):F119.k3 K y0 y1 w:=qq h
def F119.k6.to(h:(I Z 177 #[y6,y1] w λa b=>Ao 0 a b λc d=>Ao 1 a d λf g=>Ao 2 a g λi j=>Ae y0 j λk m=>Ab 130 k m λo p=>Ac o p λq r=>I Z 178 #[q,c] r λs t=>Ae y0 t λu v=>Ab 1 u v λx y=>Ac x y λz aa=>U .mul y1 (v6 wg 32) aa λab ac=>I Z 179 #[z,c,ab,(v6 wg 0)] ac λad ae=>K (wc #[c,(wd wk)]) ae)):F119.k6 K y0 y1 y6 w:=qq h
def F119.sh(h:(I Z 173 #[x0] w λa b=>A8 a b λc d=>Af c (K (wc #[(v6 wg 0),(wd wl)]) d) (F119.k3 K x0 x1 d))):I Z 119 #[x0,x1] w K:=BK (A:=F119.ann) (args:=[x0,x1]) (qq h)
namespace F130
def ann:=a1 [(3,[0])]
def code:=cd f130
def BM:=tp f130
variable(K:VK)(y0:wm)(w:wn)
@[irreducible]def k3:=nk ann 11 [(0,y0)] w [1,1] code (BM K)
end F130
def F130.k3.to(h:(Ae y0 w λa b=>Ab 130 a b λc d=>Ac c d λf g=>I Z 202 #[f] g λi j=>K i j)):F130.k3 K y0 w:=qq h
def F130.sh(h:(I Z 173 #[x0] w λa b=>A8 a b λc d=>Af c (K (v8 wj 0 0) d) (F130.k3 K x0 d))):I Z 130 #[x0] w K:=BK (A:=F130.ann) (args:=[x0]) (qq h)
def F173.sh(h:(AB Z .neq 166 (.tmp 3) (.const (v7 wj)) x0 (v7 wj) w λa b=>Aa wk a (λK=>K x0 b) b λc d=>Aa wk a (Ae c d) d λf g=>Aa wk a (Ab 1 f g) g λi j=>Aa wk a (Ac i j) j λk m=>Aa wk a (λK=>AB Z .neq 238 (.tmp 9) (.const (v7 wj)) k (v7 wj) m K) m λo p=>Aw (wh a) (wh o) (wh (wd wl)) p λq r=>K q r)):I Z 173 #[x0] w K:=BK (A:=A0) (args:=[x0]) (qq h)
def F174.sh(h:(Aq (wt (wm.cells x0) 237) w λa b=>Ab 0 a b λc d=>Ac c d λf g=>I Z 241 #[f] g λi j=>K i j)):I Z 174 #[x0] w K:=BK (A:=A0) (args:=[x0]) (qq h)
def F181.sh(h:(I Z 246 #[x0,x1] w λa b=>U .geq a (v6 wg 0) b λc d=>Aa wk c (λK=>K x0 d) d λf g=>Aa wk c (Ae f g) g λi j=>Aa wk c (Ab 1 i j) j λk m=>Aa wk c (Ac k m) m λo p=>Aa wk c (λK=>K x1 p) p λq r=>Aa wk c (λK=>K x2 r) r λs t=>Aa wk c (λK=>I Z 247 #[o,q,s] t K) t λu v=>Aw (wh c) (wh u) (wh (wd wl)) v λx y=>K x y)):I Z 181 #[x0,x1,x2] w K:=BK (A:=A0) (args:=[x0,x1,x2]) (qq h)
namespace F183
def ann:Cg:=⟨[(3,[0,1]),(5,[0,1,6,7,8])],[],[],[(4,(tk [0,1,2,4,5,6,7,8,9,10,3,11] (.go 12 (tk [13,14,15,16] (.go 17 (.take 18 (.go 19 (.take 20 .fin) .fin)) .fin)) (.go 17 (.go 12 (tk [13,14,15,16,18] (.go 19 (.take 20 .fin) .fin)) .fin) .fin)))),(6,(tk [0,1,3,4,2,5] (.go 6 .fin .fin))),(8,(tk [0,1,2,4,5,3] (.go 6 (.go 7 .fin .fin) .fin)))],wj⟩
def code:=cd f183
def BM:=tp f183
variable(K:VK)(y0 y1 y6 y7 y8:wm)(w:wn)
def k3:=nk ann 64 [(0,y0),(1,y1)] w [1,1] code (BM K)
def k5:=nk ann 64 [(0,y0),(1,y1),(6,y6),(7,y7),(8,y8)] w [1,1,1,1] code (BM K)
attribute [irreducible] k3 k5
end F183
def F183.k3.to(h:(I Z 186 #[y0,y1] w λa b=>A2 b λS c=>Ae y0 c λd f=>Ab 1 d f λg i=>Ae y0 i λj k=>Ab 2 j k λm o=>AQ 64 2 m y1 o λp q=>An S g q λr s=>AM S 2 p s λt u=>(I Z 248 #[r,y1,a,t] u λv x=>(S x/\
 Ao 0 v x λy z=>Ao 1 v z λaa ab=>Ao 2 v ab λac ad=>(Aq (wt #[v6 wg 0,v6 wg 0] 241) ad λae af=>(S af/\
 (Aj 2 ae aa af λag=>(S ag/\
 F183.k5 K y0 y1 a y ae ag))/\True))/\True))/\((Aq (wt #[v6 wg 0,v6 wg 0] 241) u λah ai=>(S ai/\
 (I Z 248 #[r,y1,a,t] ai λaj ak=>(S ak/\
 Ao 0 aj ak λal am=>Ao 1 aj am λan ao=>Ao 2 aj ao λap aq=>(Aj 2 ah an aq λar=>(S ar/\
 F183.k5 K y0 y1 a al ah ar))/\True))/\True))/\True))):F183.k3 K y0 y1 w:=qq h
def F183.k5.to(h:(I Z 249 #[y1,y6,y7] w λa b=>Ao 0 a b λc d=>Ao 1 a d λf g=>A2 g λS i=>Ae y0 i λj k=>Ab 2 j k λm o=>AM S 2 y8 o λp q=>AQ 64 2 m y1 q λr s=>(Aj 2 r p s λt=>(S t/\
 Ae y0 t λu v=>Ab 130 u v λx y=>Ac x y λz aa=>I Z 178 #[z,c] aa λab ac=>A2 ac λS ad=>Ae y0 ad λae af=>Ab 1 ae af λag ah=>An S ag ah λai aj=>(I Z 175 #[y6] aj λak al=>(S al/\
 (I Z 179 #[ai,c,ak,(v6 wg 0)] al λam an=>(S an/\
 K (wc #[c,(wd wk)]) an))/\True))/\True))/\True)):F183.k5 K y0 y1 y6 y7 y8 w:=qq h
def F183.sh(h:(I Z 187 #[x0,x1] w λa b=>U .eql a (v6 wg 0) b λc d=>Af c (K (wc #[(v6 wg 0),(wd wl)]) d) (F183.k3 K x0 x1 d))):I Z 183 #[x0,x1] w K:=BK (A:=F183.ann) (args:=[x0,x1]) (qq h)
namespace F186
def ann:=a1 [(3,[0,1])]
def code:=cd f186
def BM:=tp f186
variable(K:VK)(y0 y1:wm)(w:wn)
@[irreducible]def k3:=nk ann 14 [(0,y0),(1,y1)] w [1,1] code (BM K)
end F186
def F186.k3.to(h:(Ae y0 w λa b=>Ab 0 a b λc d=>Ak 1 c d λf g=>I Z 250 #[f,y1] g λi j=>K i j)):F186.k3 K y0 y1 w:=qq h
def F186.sh(h:(I Z 173 #[x0] w λa b=>A8 a b λc d=>Af c (K (v6 wg (-1)) d) (F186.k3 K x0 x1 d))):I Z 186 #[x0,x1] w K:=BK (A:=F186.ann) (args:=[x0,x1]) (qq h)
namespace F187
def ann:=a1 [(3,[0,1])]
def code:=cd f187
def BM:=tp f187
variable(K:VK)(y0 y1:wm)(w:wn)
@[irreducible]def k3:=nk ann 16 [(0,y0),(1,y1)] w [1,1] code (BM K)
end F187
def F187.k3.to(h:(Ae y0 w λa b=>Ab 2 a b λc d=>AQ 64 2 c y1 d λf g=>Ab 1 f g λi j=>Ac i j λk m=>K k m)):F187.k3 K y0 y1 w:=qq h
def F187.sh(h:(I Z 251 #[x0,x1] w λa b=>A8 a b λc d=>Af c (K (v6 wg 0) d) (F187.k3 K x0 x1 d))):I Z 187 #[x0,x1] w K:=BK (A:=F187.ann) (args:=[x0,x1]) (qq h)
namespace F188
def ann:Cg:=⟨[(3,[0,1]),(6,[6,7])],[],[],[(5,(tk [0,1,2,3,4,6,7,12,13] (.go 5 (.go 8 (tk [9,10,11,14] (.go 15 .fin .fin)) .fin) .fin)))],wj⟩
def code:=cd f188
def BM:=tp f188
variable(K:VK)(y0 y1 y6 y7:wm)(w:wn)
def k3:=nk ann 39 [(0,y0),(1,y1)] w [1,1] code (BM K)
def k6:=nk ann 39 [(6,y6),(7,y7)] w [1,1,1,1] code (BM K)
attribute [irreducible] k3 k6
end F188
def F188.k3.to(h:(Ae y0 w λa b=>Ab 0 a b λc d=>Ab 0 c d λf g=>Ac f g λi j=>I Z 252 #[i,y1] j λk m=>Ao 0 k m λo p=>Ao 1 k p λq r=>Af q (A2 r λS s=>Ae y0 s λt u=>Ab 1 t u λv x=>Ae y0 x λy z=>Ab 2 y z λaa ab=>(Ac v ab λac ad=>(S ad/\
 (I Z 253 #[ac,o,y1] ad λae af=>(S af/\
 Ao 0 ae af λag ah=>Ao 1 ae ah λai aj=>AQ 64 2 aa o aj λak al=>(Aj 2 ak ag al λam=>(S am/\
 F188.k6 K o q am))/\True))/\True))/\True) (F188.k6 K o q r))):F188.k3 K y0 y1 w:=qq h
def F188.k6.to(h:(K (wc #[y6,y7]) w)):F188.k6 K y6 y7 w:=qq h
def F188.sh(h:(I Z 173 #[x0] w λa b=>A8 a b λc d=>Af c (K (wc #[(v6 wg 0),(wd wl)]) d) (F188.k3 K x0 x1 d))):I Z 188 #[x0,x1] w K:=BK (A:=F188.ann) (args:=[x0,x1]) (qq h)
def F197.sh(h:(I Z 173 #[x0] w λa b=>Aa wk a (λK=>K x0 b) b λc d=>Aa wk a (Ae c d) d λf g=>Aa wk a (Ab 130 f g) g λi j=>Aa wk a (Ac i j) j λk m=>Aa wk a (λK=>K x1 m) m λo p=>Aa wk a (λK=>I Z 244 #[k,o] p K) p λq r=>Aw (wh a) (wh q) (wh (wd wl)) r λs t=>K s t)):I Z 197 #[x0,x1] w K:=BK (A:=A0) (args:=[x0,x1]) (qq h)
namespace F198
def ann:=a1 [(3,[0,1])]
def code:=cd f198
def BM:=tp f198
variable(K:VK)(y0 y1:wm)(w:wn)
@[irreducible]def k3:=nk ann 17 [(0,y0),(1,y1)] w [1,1] code (BM K)
end F198
def F198.k3.to(h:(Ae y0 w λa b=>Ab 1 a b λc d=>Ac c d λf g=>I Z 257 #[f,y1] g λi j=>Ao 0 i j λk m=>Ao 1 i m λo p=>K (wc #[k,o]) p)):F198.k3 K y0 y1 w:=qq h
def F198.sh(h:(I Z 173 #[x0] w λa b=>A8 a b λc d=>Af c (K (wc #[(v6 wg 0),(wd wl)]) d) (F198.k3 K x0 x1 d))):I Z 198 #[x0,x1] w K:=BK (A:=F198.ann) (args:=[x0,x1]) (qq h)
namespace F212
def ann:=a1 [(3,[0,1])]
def code:=cd f212
def BM:=tp f212
variable(K:VK)(y0 y1:wm)(w:wn)
@[irreducible]def k3:=nk ann 26 [(0,y0),(1,y1)] w [1,1] code (BM K)
end F212
def F212.k3.to(h:(Ae y0 w λa b=>Ab 0 a b λc d=>Ab 0 c d λf g=>Ac f g λi j=>I Z 264 #[i,y1] j λk m=>K (wd wk) m)):F212.k3 K y0 y1 w:=qq h
def F212.sh(h:(I Z 251 #[x0,x1] w λa b=>A8 a b λc d=>Aa wl c (λK=>K x0 d) d λf g=>Aa wl c (λK=>K x1 g) g λi j=>Aa wl c (λK=>I Z 187 #[f,i] j K) j λk m=>Aa wl c (λK=>K x0 m) m λo p=>Aa wl c (λK=>K x1 p) p λq r=>Aa wl c (λK=>I Z 186 #[o,q] r K) r λs t=>Aa wl c (λK=>I Z 263 #[s] t K) t λu v=>Aa wl c (U .lss k u v) v λx y=>Aw (wh c) (wh (wd wk)) (wh x) y λz aa=>Af z (K (wd wl) aa) (F212.k3 K x0 x1 aa))):I Z 212 #[x0,x1] w K:=BK (A:=F212.ann) (args:=[x0,x1]) (qq h)
namespace F246
def ann:=a1 [(3,[0,1]),(8,[0,6]),(10,[6])]
def code:=cd f246
def BM:=tp f246
variable(K:VK)(y0 y1 y6:wm)(w:wn)
def k3:=nk ann 42 [(0,y0),(1,y1)] w [1,1] code (BM K)
def k8:=nk ann 42 [(0,y0),(6,y6)] w [1,1,1,1,1] code (BM K)
def k10:=nk ann 42 [(6,y6)] w [1,1,1,1,1,1] code (BM K)
attribute [irreducible] k3 k8 k10
end F246
def F246.k3.to(h:(I Z 272 #[y1] w λa b=>I Z 186 #[y0,a] b λc d=>I Z 284 #[c,y1] d λf g=>Ae y0 g λi j=>Ab 0 i j λk m=>Ab 0 k m λo p=>Ac o p λq r=>I Z 285 #[q,a] r λs t=>U .lss f (v6 wg 0) t λu v=>Aa wk u (λK=>K s v) v λx y=>Aa wk u (U .geq x (v6 wg 0) y) y λz aa=>Aw (wh u) (wh z) (wh (wd wl)) aa λab ac=>Af ab (I Z 177 #[s,(v6 wg 1)] ac λad ae=>Ao 0 ad ae λaf ag=>Ao 1 ad ag λah ai=>Ao 2 ad ai λaj ak=>F246.k8 K y0 af ak) (F246.k8 K y0 f ac))):F246.k3 K y0 y1 w:=qq h
def F246.k8.to(h:(I Z 197 #[y0,y6] w λa b=>A8 a b λc d=>Af c (K (v6 wg (-1)) d) (F246.k10 K y6 d))):F246.k8 K y0 y6 w:=qq h
def F246.k10.to(h:(K y6 w)):F246.k10 K y6 w:=qq h
def F246.sh(h:(I Z 173 #[x0] w λa b=>A8 a b λc d=>Af c (K (v6 wg (-1)) d) (F246.k3 K x0 x1 d))):I Z 246 #[x0,x1] w K:=BK (A:=F246.ann) (args:=[x0,x1]) (qq h)
def F250.sh(h:(Aq (wt (wm.cells x0) 237) w λa b=>Ab 0 a b λc d=>Ac c d λf g=>I Z 283 #[f,x1] g λi j=>K i j)):I Z 250 #[x0,x1] w K:=BK (A:=A0) (args:=[x0,x1]) (qq h)
def F251.sh(h:(I Z 186 #[x0,x1] w λa b=>I Z 175 #[a] b λc d=>U .gtr c (v6 wg 0) d λf g=>K f g)):I Z 251 #[x0,x1] w K:=BK (A:=A0) (args:=[x0,x1]) (qq h)
namespace F338
def ann:Cg:=⟨[(3,[0,1]),(9,[0,1,5,6]),(11,[])],[],[],[(10,(tk [0,1,2,3,4,6,7,8,9,10,11,12,14,19,20] (.go 5 (.go 13 (.go 15 (tk [16,17,18,21] (.go 22 .fin .fin)) .fin) .fin) (.go 13 (.go 5 (.go 15 (tk [16,17,18,21] (.go 22 .fin .fin)) .fin) .fin) .fin))))],wj⟩
def code:=cd f338
def BM:=tp f338
variable(K:VK)(y0 y1 y5 y6:wm)(w:wn)
def k3:=nk ann 61 [(0,y0),(1,y1)] w [1,1] code (BM K)
def k9:=nk ann 61 [(0,y0),(1,y1),(5,y5),(6,y6)] w [1,1,1,1,1,1] code (BM K)
def k11:=nk ann 61 [] w [1,1,1,1,1,1,1,1] code (BM K)
attribute [irreducible] k3 k9 k11
end F338
def F338.k3.to(h:(Ae y0 w λa b=>Ab 130 a b λc d=>Ac c d λf g=>I Z 337 #[f,y1] g λi j=>I Z 272 #[y1] j λk m=>I Z 186 #[y0,k] m λo p=>U .eql o (v6 wg 5) p λq r=>Af q (Ae y0 r λs t=>Ab 0 s t λu v=>Ab 0 u v λx y=>Ac x y λz aa=>I Z 264 #[z,k] aa λab ac=>K (wd wk) ac) (F338.k9 K y0 y1 k o r))):F338.k3 K y0 y1 w:=qq h
def F338.k9.to(h:(I Z 343 #[y6,y1] w λa b=>Ao 0 a b λc d=>Ao 1 a d λf g=>A2 g λS i=>Ae y0 i λj k=>Ab 1 j k λm o=>Ae y0 o λp q=>Ab 2 p q λr s=>AQ 64 2 r y5 s λt u=>Ae y0 u λv x=>Ab 2 v x λy z=>(Ac m z λaa ab=>(S ab/\
 (Ak 2 t ab λac ad=>(S ad/\
 (I Z 344 #[aa,y5,y6,ac,c] ad λae af=>(S af/\
 Ao 0 ae af λag ah=>Ao 1 ae ah λai aj=>AQ 64 2 y y5 aj λak al=>(Aj 2 ak ag al λam=>(S am/\
 F338.k11 K am))/\True))/\True))/\True))/\((Ak 2 t z λan ao=>(S ao/\
 (Ac m ao λap aq=>(S aq/\
 (I Z 344 #[ap,y5,y6,an,c] aq λar au=>(S au/\
 Ao 0 ar au λav aw=>Ao 1 ar aw λax ay=>AQ 64 2 y y5 ay λaz ba=>(Aj 2 az av ba λbb=>(S bb/\
 F338.k11 K bb))/\True))/\True))/\True))/\True))):F338.k9 K y0 y1 y5 y6 w:=qq h
def F338.k11.to(h:(K (wd wk) w)):F338.k11 K w:=qq h
def F338.sh(h:(I Z 197 #[x0,x1] w λa b=>A8 a b λc d=>Af c (K (wd wl) d) (F338.k3 K x0 x1 d))):I Z 338 #[x0,x1] w K:=BK (A:=F338.ann) (args:=[x0,x1]) (qq h)
end
end
section
open Go.Proofs Go.RowKit
def Ia(b:Nat)(p k:Int):wm := .agg #[v7 (wh ⟨b,0,wj⟩),v6 wg p,v6 wg k,v6 wg (BR k)]
def EL(l:Int × Int):wm := .agg #[v6 wg l.1,v6 wg l.2]
def He{b:Nat}{p k:Int}:∀v∈(Ia b p k).cells.toList,v.oneCell'=wk:=by intro v hv;simp only[Ia,wm.cells,ux,i9,vt]at hv;rcases hv with rfl|rfl|rfl|rfl<;>rfl
def E0{l:Int × Int}:∀v∈(EL l).cells.toList,v.oneCell'=wk:=by intro v hv;simp only[EL,wm.cells,ux,i9,vt]at hv;rcases hv with rfl|rfl<;>rfl
section
variable{K:VK}{w:wn}{b:Nat}{mv:wm}{m:List Int}{p k:Int}
def Zz(b:Nat)(p k:Int):(Instr.build 319 #[(0,v7 (wh ⟨b,0,wj⟩)),(1,v6 wg p),(2,v6 wg k),(3,v6 wg (BR k))]).run Z w=.ok (Ia b p k) w:=by unfold Ia;generalize BR k=n;kernel_rfl
def X0(a n:Int):(Instr.build 241 #[(0,v6 wg a),(1,v6 wg n)]).run Z w=.ok (EL (a,n)) w:=by kernel_rfl
def TK:(Instr.build 241 #[]).run Z w=.ok (EL (0,0)) w:=by kernel_rfl
def O6(h:CF w b mv m)(hp:0<=p/\p<64)(hk:∀w',Fr [] w w'->K (wc #[Ia b p k,wd (decide (Fx m p k))]) w'):I Z 286 #[v7 (wh ⟨b,0,wj⟩),v6 wg p,v6 wg k] w K:=by
 have hc:=Ey k;have hle:=h.le;refine F286.sh (Ar λx6 w1 hn1=>Mk (A4 (Zz b p k) (Ar λx8 w2 hn2=>AA (x:=Ia b p k) hn2.at_ rfl He rfl λw3 hu3=>Kc hp (by omega) ?_)));have i1:=hn1.is;have i2:=hn2.is;have z1:=hn1.sz;have z2:=hn2.sz;have f3:Fr [] w w3:=(hn1.fr.trans hn2.fr).then hu3.fr λz hz=>ws (by simp only[zF]at hz;omega);simp only[zv]
 refine A9 (λw'=>w'.heap[x8]?=wh (wt #[v7 (wh ⟨b,0,wj⟩),v6 wg p,v6 wg k,v6 wg (BR k)] 319 (0,0))) λw4 hf4 _=>⟨hf4.at_ hu3.at_ (by simp),?_⟩;have f4:=f3.trans hf4;have c8:=hf4.at_ hu3.at_ (by simp);have c6:w4.heap[x6]?=wh (wt #[v7 wj,v6 wg 0,v6 wg 0,v6 wg 0] 319 (0,0)):=hf4.at_ (hu3.fr.at_ (hn2.fr.at_ hn1.at_ (by simp)) (by simp;omega)) (by simp);simp only[]
 refine AO (vs:=[v7 (wh ⟨b,0,wj⟩),v6 wg p,v6 wg k,v6 wg (BR k)]) (λw' hw=>⟨_,_,_,hw,by simp,rfl⟩) (Au (v:=v6 wg (BR k)) (λw' hw=>⟨_,_,_,hw,rfl⟩) ?_);have h4:=h.keep0 f4
 have fin:∀ok:Bool,ok=decide (Fx m p k)->(Aj 4 (v7 (wh ⟨x6,0,wj⟩)) (.agg [wm.pointer (wh ⟨b,0,wj⟩),v6 wg p,v6 wg k,v6 wg (BR k)].toArray) w4 λw21=>(w21.heap[x8]?=wh (wt #[v7 (wh ⟨b,0,wj⟩),v6 wg p,v6 wg k,v6 wg (BR k)] 319 (0,0))/\Ak 4 (v7 (wh ⟨x6,0,wj⟩)) w21 λr22 _=>K (wc #[r22,wd ok]) w21)):=λok e=>by
  refine AA (x:=Ia b p k) c6 rfl He rfl λw5 hu5=>⟨hu5.fr.at_ c8 (by simp;omega),A3 hu5.at_ rfl ?_⟩;rw[e];exact hk w5 (f4.then hu5.fr λz hz=>ws (by simp only[zF]at hz;omega))
 by_cases c1:BR k>0
 ·simp only[zv,c1];refine⟨Yn h4 ⟨c8,?_⟩,trivial⟩;simp only[Ap];refine⟨fin _ (j6.2 ?_),trivial⟩;unfold Fx;omega
 ·simp only[zv,c1];refine⟨⟨c8,fin wl (p9 ?_).symm,trivial⟩,trivial⟩;unfold Fx;omega
def Vb{i:Int}(hk:∀w',Fr [] w w'->K (wd (decide (0<=i/\i<BR k))) w'):I Z 287 #[Ia b p k,v6 wg i] w K:=by
 refine F287.sh (Ar λx2 w1 hn1=>?_);by_cases c:i≥0
 ·simp only[zv,c];refine Ad (v:=v6 wg (BR k)) hn1.at_ rfl ?_;simp only[Ap];have:=hk w1 hn1.fr
  rwa [show decide (0<=i/\i<BR k)=decide (i<BR k) from j6.2 (by omega)]at this
 ·simp only[zv,c];have:=hk w1 hn1.fr
  rwa [p9 (by omega)]at this
def XL{i:Int}(h:CF w b mv m)(hp:0<=p/\p<64)(hi:0<=i/\i<BR k)(hk:∀w',Fr [] w w'->K (match Km m p k i with | wh x=>wc #[v6 wg x,wd wk] | wj=>wc #[v6 wg 0,wd wl]) w'):I Z 288 #[Ia b p k,v6 wg i] w K:=by
 have hc:=Ey k;refine F288.sh (Ar λx2 w1 hn1=>?_);have hb:w1.heap[x2]?=wh (wt #[v7 (wh ⟨b,0,wj⟩),v6 wg p,v6 wg k,v6 wg (BR k)] 319 (0,0)):=hn1.at_;simp only[zv];refine Ad (v:=v6 wg p) hb rfl (Ad (v:=v6 wg k) hb rfl (Qt hp hi ?_));simp only[zv];refine Ad (v:=v7 (wh ⟨b,0,wj⟩)) hb rfl (R4 (h.keep0 hn1.fr) λok=>?_);have hk:=hk w1 hn1.fr;unfold Km at hk;have hx:=JC (a:=(K9 p k i).1) h
 generalize Cn m (K9 p k i).1=x at *;simp only[zv]at hk ⊢;by_cases c1:x≥0
 ·simp only[zv,c1]
  rwa [vy (.inl c1)]at hk
 simp only[zv,c1];refine Ad (v:=v6 wg (BR k)) hb rfl ?_;simp only[zv];rw[BO (n := -1-BR k) (by omega)];by_cases c2:x < -1-BR k
 ·simp only[zv,c2]
  rwa [vy (ws c2)]at hk
 simp only[zv,c2];rw[vx (by omega)]at hk;refine F288.k5.to ?_;simp only[AN];rw[BO (n := -1-x) (by omega)];exact hk
def SA{i x:Int}(h:CF w b mv m)(hp:0<=p/\p<64)(hi:0<=i/\i<BR k)(hx : -1000<=x/\x<=1000)(hk:∀w',Fr (BN mv) w w'->CF w' b mv (Gq m p k i x)->K (wc #[]) w'):
  I Z 289 #[Ia b p k,v6 wg i,v6 wg x] w K:=by refine F289.sh (Ar λx2 w1 hn1=>?_);have hb:w1.heap[x2]?=wh (wt #[v7 (wh ⟨b,0,wj⟩),v6 wg p,v6 wg k,v6 wg (BR k)] 319 (0,0)):=hn1.at_;simp only[zv];refine Ad (v:=v6 wg p) hb rfl (Ad (v:=v6 wg k) hb rfl (Qt hp hi ?_));simp only[zv];refine Ad (v:=v7 (wh ⟨b,0,wj⟩)) hb rfl ?_;rw[BO (n := -1-x) (by omega)];exact PJ (h.keep0 hn1.fr) (by omega) λw2 hf2 h2=>hk w2 (hn1.fr.w.trans hf2) h2
end
section
variable{K:VK}{w:wn}{b:Nat}{mv:wm}{m:List Int}{p k:Int}
theorem LF(m:List Int)(p k:Int):∀n,(E3 m p k n).length=m.length
 | 0=>rfl
 | n+1=>by
  show (Gq (E3 m p k n) p k n (n+1)).length=_;unfold Gq;rw[E5,LF m p k n]
def QG{W:wn}{x6 x8:Nat}(hlt:∀g∈BN mv,g<W.heap.size)(hp:0<=p/\p<64)(h8:W.heap.size<=x8)(h6:W.heap.size<=x6)(hne:x6≠x8)(hk:∀w',Fr (BN mv) W w'->CF w' b mv (E3 m p k (BR k).toNat)->w'.heap[x8]?=wh (wt #[v7 (wh ⟨b,0,wj⟩),v6 wg p,v6 wg k,v6 wg (BR k)] 319 (0,0))->w'.heap[x6]?=wh (wt #[v6 wg 0,v6 wg 0] 241 (0,0))->F253.k11 K (v7 (wh ⟨x6,0,wj⟩)) (v7 (wh ⟨x8,0,wj⟩)) w'):
  ∀(d j:Nat) (w:wn),(BR k).toNat=j+d->Fr (BN mv) W w->CF w b mv (E3 m p k j)->w.heap[x8]?=wh (wt #[v7 (wh ⟨b,0,wj⟩),v6 wg p,v6 wg k,v6 wg (BR k)] 319 (0,0))->w.heap[x6]?=wh (wt #[v6 wg 0,v6 wg 0] 241 (0,0))->
   F253.l7 K (v7 (wh ⟨x6,0,wj⟩)) (v7 (wh ⟨x8,0,wj⟩)) (v6 wg (BR k)) (v6 wg (j:Int)) w:=by
 have hc:=Ey k;intro d;induction d with
 | zero=>
  intro j w hd hf hM h8' h6';refine F253.l7.to ?_;simp only[zv,show ¬((j:Int)<BR k) by omega];rw[show j=(BR k).toNat by omega]at hM;exact hk w hf hM h8' h6'
 | succ d ih=>
  intro j w hd hf hM h8' h6';refine F253.l7.to ?_;simp only[zv,show ((j:Int)<BR k) by omega];refine F253.k8.to (A3 h8' rfl ?_);simp only[A7];rw[BO (n:=(j:Int)+1) (by omega)];refine SA (p:=p) (k:=k) (i:=(j:Int)) (x:=(j:Int)+1) hM hp (by omega) (by omega) λw1 hf1 hM1=>?_;refine F253.k10.to ?_;simp only[A7];rw[BO (n:=(j:Int)+1) (by omega),show (j:Int)+1=((j+1:Nat):Int) by omega]
  exact ih (j+1) w1 (by omega) (hf.trans hf1) hM1 (hf1.at_ h8' λhg=>by have:=hlt _ hg;omega) (hf1.at_ h6' λhg=>by have:=hlt _ hg;omega)
def Vj(h:CF w b mv m)(hp:0<=p/\p<64)(hk:∀w' ok,Fr (BN mv) w w'->CF w' b mv (DM m p k).1->K (wc #[EL (DM m p k).2,wd ok]) w'):
  I Z 253 #[v7 (wh ⟨b,0,wj⟩),v6 wg p,v6 wg k] w K:=by
 have hlt:=h.own.mem_lt;refine F253.sh (Ar λx6 w1 hn1=>O6 (h.keep0 hn1.fr) hp λw2 hf2=>?_);simp only[zv];refine Ar λx8 w3 hn3=>AA (x:=Ia b p k) hn3.at_ rfl He rfl λw4 hu4=>?_;have i1:=hn1.is;have z1:=hn1.sz;have s2:=hf2.size;have i3:=hn3.is;have f14:Fr [] w1 w4:=(hf2.trans hn3.fr).then hu4.fr λz hz=>ws (by simp only[zF]at hz;omega);have f4:=hn1.fr.trans f14;have h4:=h.keep0 f4;have c6:=f14.at_ hn1.at_ (by simp)
 unfold DM at hk;by_cases c:Fx m p k
 ·rw[vy c]at hk;simp only[zv,c];have hc:=Ey k;refine F253.k4.to (Kc hp (by omega) ?_)
  try simp only[zv]
  refine Lq h4 (by omega) λw5 hf5 h5=>?_;have off:∀z,w.heap.size<=z->z∉BN mv:=λz hz hg=>by have:=hlt z hg;omega
  have c8:=hf5.at_ hu4.at_ (off x8 (by omega));have c6':=hf5.at_ c6 (off x6 (by omega));refine Ad (v:=v6 wg (BR k)) c8 rfl ?_;have s5:=hf5.size;have f5:Fr (BN mv) w w5:=f4.w.trans hf5;refine QG (x6:=x6) (x8:=x8) (W:=w) (m:=CX m (p*32) 32 0) hlt hp (by omega) (by omega) (by omega) (λw6 hf6 h6 c8' c6''=>?_) _ 0 w5 (by rw[vd]) f5 h5 c8 c6';refine F253.k11.to ?_;simp only[zv]
  refine Ad (v:=v6 wg (BR k)) c8' rfl (A4 (X0 0 (BR k)) (AA (x:=EL (0,BR k)) c6'' rfl E0 rfl λw7 hu7=>A3 hu7.at_ rfl ?_));exact hk w7 wk (hf6.then hu7.fr λz hz=>ws (by simp only[zF]at hz;omega)) (h6.keep hu7.fr (by simp only[zF];exact λe=>by have:=BP h.blk;omega) λg hg e=>by simp only[zF]at e;have:=hlt g hg;omega)
 ·rw[vx c]at hk;simp only[zv,c];refine A4 TK (AA (x:=EL (0,0)) c6 rfl E0 rfl λw5 hu5=>A3 hu5.at_ rfl ?_);exact hk w5 wl (f4.w.then hu5.fr λz hz=>ws (by simp only[zF]at hz;omega)) (h4.keep hu5.fr (by simp only[zF];exact λe=>by have:=BP h.blk;omega) λg hg e=>by simp only[zF]at e;have:=hlt g hg;omega)
def P1{l:Int × Int}(h:CF w b mv m)(hp:0<=p/\p<64)(hl : -9223372036854775808<=l.2/\l.2<=9223372036854775807)(hk:∀w' ok,Fr [] w w'->K (wc #[v6 wg (Eb m p k l).1,EL (Eb m p k l).2,wd ok]) w'):
  I Z 248 #[v7 (wh ⟨b,0,wj⟩),v6 wg p,v6 wg k,EL l] w K:=by
 obtain⟨l1,l2⟩:=l;have hc:=Ey k;refine F248.sh (Ar λx7 w1 hn1=>Ar λx9 w2 hn2=>O6 (h.keep0 (hn1.fr.trans hn2.fr)) hp λw3 hf3=>?_);simp only[zv];refine Ar λx11 w4 hn4=>AA (x:=Ia b p k) hn4.at_ rfl He rfl λw5 hu5=>?_;have i1:=hn1.is;have z1:=hn1.sz;have i2:=hn2.is;have z2:=hn2.sz;have s3:=hf3.size;have i4:=hn4.is;have z4:=hn4.sz
 have f25:Fr [] w2 w5:=(hf3.trans hn4.fr).then hu5.fr λz hz=>ws (by simp only[zF]at hz;omega);have f5:Fr [] w w5:=hn1.fr.trans (hn2.fr.trans f25);have c7:w5.heap[x7]?=wh (wt #[v6 wg l1,v6 wg l2] 241 (0,0)):=f25.at_ (hn2.fr.at_ hn1.at_ (by simp)) (by simp);have c9:w5.heap[x9]?=wh (wt #[v6 wg 0,v6 wg 0] 241 (0,0)):=f25.at_ hn2.at_ (by simp);have c11:w5.heap[x11]?=wh (wt (Ia b p k).cells 319 (0,0)):=hu5.at_
 unfold Eb at hk;have no:∀w6,Fr [] w5 w6->(∀w' ok,Fr [] w w'->K (wc #[v6 wg 0,EL (0,0),wd ok]) w')->Am Z (Instr.build 241 #[]) w6 λx35_19 w19=>Aj 2 (v7 (wh ⟨x9,0,wj⟩)) x35_19 w19 λw20=>Ak 2 (v7 (wh ⟨x9,0,wj⟩)) w20 λr21 _=>K (wc #[(v6 wg 0),r21,(wd wl)]) w20:=λw6 hf6 hk=>by
  refine A4 TK (AA (x:=EL (0,0)) (hf6.at_ c9 (by simp)) rfl E0 rfl λw7 hu7=>A3 hu7.at_ rfl ?_);exact hk w7 wl ((f5.trans hf6).then hu7.fr λz hz=>ws (by simp only[zF]at hz;omega))
 by_cases o1:Fx m p k
 ·simp only[zv,o1];refine Ad (v:=v6 wg l2) c7 rfl ?_;by_cases o2:l2<1
  ·simp only[zv,o2];rw[vx (by omega)]at hk;exact no w5 (Fr.refl _ _) hk
  simp only[zv,o2];refine A3 c11 rfl (Ad (v:=v6 wg l1) c7 rfl (Vb (b:=b) (p:=p) (k:=k) λw6 hf6=>?_));by_cases o3:0<=l1/\l1<BR k
  ·simp only[zv,o3,and_self];rw[vy ⟨o1,by omega,o3.1,o3.2⟩]at hk;refine F248.k4.to (A3 (hf6.at_ c11 (by simp)) rfl ?_);simp only[zv];refine Ad (v:=v6 wg l1) (hf6.at_ c7 (by simp)) rfl ?_;refine XL (b:=b) (p:=p) (k:=k) (h.keep0 (f5.trans hf6)) hp o3 λw7 hf7=>?_;have f67:=hf6.trans hf7;cases hnx:Km m p k l1 with
   | none=>
    rw[hnx]at hk;simp only[zv];exact no w7 f67 hk
   | some x=>
    rw[hnx]at hk;simp only[zv];refine F248.k7.to (A9 (λw'=>w'.heap[x7]?=wh (wt #[v6 wg l1,v6 wg l2] 241 (0,0))) λw8 hf8 _=>⟨hf8.at_ (f67.at_ c7 (by simp)) (by simp),?_⟩);have f8:=f67.trans hf8;simp only[zv];refine Au (v:=v6 wg l1) (λw' hw=>⟨_,_,_,hw,rfl⟩) (Au (v:=v6 wg l2) (λw' hw=>⟨_,_,_,hw,rfl⟩) ?_);simp only[AN];rw[BO (n:=l2-1) (by simp only at hl;omega)]
    refine⟨_,λw' _=>X0 x (l2-1),⟨AA (x:=EL (x,l2-1)) (f8.at_ c9 (by simp)) rfl E0 rfl λw9 hu9=>⟨hu9.fr.at_ (f8.at_ c7 (by simp)) (by simp;omega),A3 hu9.at_ rfl ?_⟩,trivial⟩⟩;exact hk w9 wk ((f5.trans f8).then hu9.fr λz hz=>ws (by simp only[zF]at hz;omega))
  ·simp only[zv,o3];rw[vx (λe=>o3 ⟨e.2.2.1,e.2.2.2⟩)]at hk;exact no w6 hf6 hk
 ·simp only[zv,o1];rw[vx (λe=>o1 e.1)]at hk;exact no w5 (Fr.refl _ _) hk
def Pz{l:Int × Int}{i:Int}(h:CF w b mv m)(hp:0<=p/\p<64)(hk:∀w' ok,Fr (BN mv) w w'->CF w' b mv (Fe m p k l i).1->K (wc #[EL (Fe m p k l i).2,wd ok]) w'):
  I Z 344 #[v7 (wh ⟨b,0,wj⟩),v6 wg p,v6 wg k,EL l,v6 wg i] w K:=by
 obtain⟨l1,l2⟩:=l;have hc:=Ey k;have hlt:=h.own.mem_lt;refine F344.sh (Ar λx8 w1 hn1=>Ar λx10 w2 hn2=>O6 (h.keep0 (hn1.fr.trans hn2.fr)) hp λw3 hf3=>?_);simp only[zv];refine Ar λx12 w4 hn4=>AA (x:=Ia b p k) hn4.at_ rfl He rfl λw5 hu5=>?_;have i1:=hn1.is;have z1:=hn1.sz;have i2:=hn2.is;have z2:=hn2.sz;have s3:=hf3.size;have i4:=hn4.is;have z4:=hn4.sz
 have f25:Fr [] w2 w5:=(hf3.trans hn4.fr).then hu5.fr λz hz=>ws (by simp only[zF]at hz;omega);have f5:Fr [] w w5:=hn1.fr.trans (hn2.fr.trans f25);have c8:w5.heap[x8]?=wh (wt #[v6 wg l1,v6 wg l2] 241 (0,0)):=f25.at_ (hn2.fr.at_ hn1.at_ (by simp)) (by simp);have c10:w5.heap[x10]?=wh (wt #[v6 wg 0,v6 wg 0] 241 (0,0)):=f25.at_ hn2.at_ (by simp)
 have c12:w5.heap[x12]?=wh (wt #[v7 (wh ⟨b,0,wj⟩),v6 wg p,v6 wg k,v6 wg (BR k)] 319 (0,0)):=hu5.at_;have off:∀z,w.heap.size<=z->z∉BN mv:=λz hz hg=>by have:=hlt z hg;omega
 have hbl:=BP h.blk;unfold Fe at hk;have no:∀w6,Fr [] w5 w6->(∀w' ok,Fr (BN mv) w w'->CF w' b mv m->K (wc #[EL (0,0),wd ok]) w')->Am Z (Instr.build 241 #[]) w6 λx53_34 w34=>Aj 2 (v7 (wh ⟨x10,0,wj⟩)) x53_34 w34 λw35=>Ak 2 (v7 (wh ⟨x10,0,wj⟩)) w35 λr36 _=>K (wc #[r36,(wd wl)]) w35:=λw6 hf6 hk=>by
  refine A4 TK (AA (x:=EL (0,0)) (hf6.at_ c10 (by simp)) rfl E0 rfl λw7 hu7=>A3 hu7.at_ rfl ?_);have f7:Fr [] w w7:=(f5.trans hf6).then hu7.fr λz hz=>ws (by simp only[zF]at hz;omega);exact hk w7 wl f7.w (h.keep0 f7)
 by_cases o1:Fx m p k
 ·simp only[zv,o1];refine A3 c12 rfl (Vb (b:=b) (p:=p) (k:=k) λw6 hf6=>?_);have c8':=hf6.at_ c8 (by simp);have c12':=hf6.at_ c12 (by simp);by_cases o2:0<=i/\i<BR k
  ·simp only[zv,o2,and_self];refine Ad (v:=v6 wg l2) c8' rfl ?_;by_cases o3:l2<0
   ·simp only[zv,o3];rw[vx (by simp only;omega)]at hk;exact no w6 hf6 hk
   simp only[zv,o3];refine Ad (v:=v6 wg l2) c8' rfl (Ad (v:=v6 wg (BR k)) c12' rfl ?_);by_cases o4:l2≥BR k
   ·simp only[zv,o4];rw[vx (by simp only;omega)]at hk;exact no w6 hf6 hk
   simp only[zv,o4];refine Ad (v:=v6 wg l1) c8' rfl ?_;by_cases o5:l1<0
   ·simp only[zv,o5];rw[vx (by simp only;omega)]at hk;exact no w6 hf6 hk
   simp only[zv,o5];refine Ad (v:=v6 wg l1) c8' rfl (Ad (v:=v6 wg (BR k)) c12' rfl ?_);by_cases o6:l1>BR k
   ·simp only[zv,o6];rw[vx (by simp only;omega)]at hk;exact no w6 hf6 hk
   simp only[zv,o6];rw[vy ⟨o1,o2.1,o2.2,by simp only;omega,by simp only;omega,by simp only;omega,by simp only;omega⟩]at hk;refine F344.k4.to (A3 c12' rfl ?_)
   try simp only[zv]
   refine Ad (v:=v6 wg l1) c8' rfl (SA (b:=b) (p:=p) (k:=k) (h.keep0 (f5.trans hf6)) hp o2 (by omega) λw7 hf7 h7=>?_);refine Ad (v:=v6 wg l2) (hf7.at_ c8' (off _ (by omega))) rfl ?_
   try simp only[A7]
   rw[BO (n:=l2+1) (by omega)];refine A4 (X0 i (l2+1)) (AA (x:=EL (i,l2+1)) (hf7.at_ (hf6.at_ c10 (by simp)) (off _ (by omega))) rfl E0 rfl λw8 hu8=>A3 hu8.at_ rfl ?_);refine hk w8 wk (((f5.trans hf6).w.trans hf7).then hu8.fr λz hz=>ws (by simp only[zF]at hz;omega)) (h7.keep hu8.fr (by simp;omega) λg hg e=>by simp only[zF]at e;have:=hlt g hg;omega)
  ·simp only[zv,o2];rw[vx (λe=>o2 ⟨e.2.1,e.2.2.1⟩)]at hk;exact no w6 hf6 hk
 ·simp only[zv,o1];rw[vx (λe=>o1 e.1)]at hk;exact no w5 (Fr.refl _ _) hk
end
end
def DA{n:Int}(h:0<=n/\n<18446744073709551616):IntKind.u64.wrap n=n:=by unfold IntKind.wrap IntKind.bits IntKind.signed;simp;omega
section
variable{P:wq}{w:wn}{t:TypeId}
def Jz(x y:Operand)(a:Int)(h0:0<=a)(h1:a<18446744073709551616):(do eqGuard .and t x y (v6 .u64 a) (v6 .u64 4294967295);binOp .and t (v6 .u64 a) (v6 .u64 4294967295):Sem wm).run P w=.ok (v6 .u64 (a % 4294967296)) w:=by
 have hm:(BitVec.ofInt 64 4294967295).toNat=2 ^ 32-1:=by decide
 have key:(BitVec.ofInt 64 a &&& BitVec.ofInt 64 4294967295).toNat=(a % ((2 ^ 64:Nat):Int)).toNat % 2 ^ 32:=by rw[BitVec.toNat_and,BitVec.toNat_ofInt,hm,Nat.and_two_pow_sub_one_eq_mod]
 have e:IntKind.u64.wrap ((BitVec.ofInt 64 a &&& BitVec.ofInt 64 4294967295).toNat:Nat)=a % 4294967296:=by rw[key,DA (by omega)];omega
 have e':(Op.intBits .and .u64 a 4294967295:Sem wm)=pure (v6 .u64 (IntKind.u64.wrap ((BitVec.ofInt 64 a &&& BitVec.ofInt 64 4294967295).toNat:Nat))):=rfl;simp only[vf,Cx,zT];show (Op.intBits .and .u64 a 4294967295).run P w=_;rw[e',e];rfl
def Hl(x y:Operand)(a:Int):(do eqGuard .shr t x y (v6 .u64 a) (v6 .u64 32);binOp .shr t (v6 .u64 a) (v6 .u64 32):Sem wm).run P w=.ok (v6 .u64 (a / 4294967296)) w:=by
 simp only[vf,Cx,zT];show (Op.shift .shr .u64 a .u64 32).run P w=_;have:a.fdiv 4294967296=a / 4294967296:=by rw[xC _ (by decide)]
 simp[Op.shift,IntKind.bits,this]
end
section
open Go.Proofs Go.RowKit
section
variable{P:wq}{w:wn}{t:TypeId}
def OJ(x y:Operand)(a j:Nat)(hj:j<64):(do eqGuard .shr t x y (v6 .u64 (a:Int)) (v6 wg (j:Int));binOp .shr t (v6 .u64 (a:Int)) (v6 wg (j:Int)):Sem wm).run P w=.ok (v6 .u64 ((a / 2 ^ j:Nat):Int)) w:=by
 simp only[vf,Cx,zT];show (Op.shift .shr .u64 a wg j).run P w=_;have h1:¬((j:Int)<0):=by omega
 have h2:min (j:Int).toNat 64=j:=by omega
 have h3:((a:Int)).fdiv (2 ^ j)=((a / 2 ^ j:Nat):Int):=by
  rw[xC _ (Int.pow_nonneg (by decide))]
  push_cast
  rfl
 simp[]
def Ln(x y:Operand)(a j:Nat)(hj:j<64):(do eqGuard .shl t x y (v6 .u64 (a:Int)) (v6 wg (j:Int));binOp .shl t (v6 .u64 (a:Int)) (v6 wg (j:Int)):Sem wm).run P w=.ok (v6 .u64 ((a*2 ^ j % 18446744073709551616:Nat):Int)) w:=by
 simp only[vf,Cx,zT];show (Op.shift .shl .u64 a wg j).run P w=_;have h1:¬((j:Int)<0):=by omega
 have h2:min (j:Int).toNat 64=j:=by omega
 have h3:IntKind.u64.wrap ((a:Int)*2 ^ j)=((a*2 ^ j % 18446744073709551616:Nat):Int):=by
  have e:(a:Int)*2 ^ j=((a*2 ^ j:Nat):Int):=by push_cast;rfl
  rw[IntKind.wrap_u64,e];generalize a*2 ^ j=z;omega
 simp[h3]
def Gd{a:Nat}(h:a<2 ^ 64):(BitVec.ofInt 64 (a:Int)).toNat=a:=by
 rw[BitVec.toNat_ofInt];have:((a:Int) % ((2 ^ 64:Nat):Int)).toNat=a:=by omega
 exact this
def TI(x y:Operand)(a b:Nat)(ha:a<2 ^ 64)(hb:b<2 ^ 64):(do eqGuard .and t x y (v6 .u64 (a:Int)) (v6 .u64 (b:Int));binOp .and t (v6 .u64 (a:Int)) (v6 .u64 (b:Int)):Sem wm).run P w=.ok (v6 .u64 ((a &&& b:Nat):Int)) w:=by have e':(Op.intBits .and .u64 a b:Sem wm)=pure (v6 .u64 (IntKind.u64.wrap ((BitVec.ofInt 64 a &&& BitVec.ofInt 64 b).toNat:Nat))):=rfl;simp only[vf,Cx,zT];show (Op.intBits .and .u64 a b).run P w=_;have hl:a &&& b<2 ^ 64:=Nat.and_lt_two_pow _ hb;rw[e',BitVec.toNat_and,Gd ha,Gd hb,DA (by omega)];rfl
def Wp(x y:Operand)(a b:Nat)(ha:a<2 ^ 64)(hb:b<2 ^ 64):(do eqGuard .or t x y (v6 .u64 (a:Int)) (v6 .u64 (b:Int));binOp .or t (v6 .u64 (a:Int)) (v6 .u64 (b:Int)):Sem wm).run P w=.ok (v6 .u64 ((a ||| b:Nat):Int)) w:=by
 have e':(Op.intBits .or .u64 a b:Sem wm)=pure (v6 .u64 (IntKind.u64.wrap ((BitVec.ofInt 64 a ||| BitVec.ofInt 64 b).toNat:Nat))):=rfl;simp only[vf,Cx,zT];show (Op.intBits .or .u64 a b).run P w=_;have hl:a ||| b<2 ^ 64:=Nat.or_lt_two_pow ha hb
 rw[e',BitVec.toNat_or,Gd ha,Gd hb,DA (by omega)];rfl
def Pf(x y:Operand)(a b:Nat)(ha:a<2 ^ 64)(hb:b<2 ^ 64):∃r:Nat,r<2 ^ 64/\(∀i,i<64->r.testBit i=(a.testBit i && !b.testBit i))/\∀w,(do eqGuard .andNot t x y (v6 .u64 (a:Int)) (v6 .u64 (b:Int));binOp .andNot t (v6 .u64 (a:Int)) (v6 .u64 (b:Int)):Sem wm).run P w=.ok (v6 .u64 (r:Int)) w:=by
 refine⟨(BitVec.ofInt 64 a &&& ~~~ BitVec.ofInt 64 b).toNat,BitVec.isLt _,λi hi=>?_,λw=>?_⟩
 ·rw[BitVec.testBit_toNat,BitVec.getLsbD_and,BitVec.getLsbD_not, <-BitVec.testBit_toNat, <-BitVec.testBit_toNat,Gd ha,Gd hb];simp[hi]
 ·have e':(Op.intBits .andNot .u64 a b:Sem wm)=pure (v6 .u64 (IntKind.u64.wrap ((BitVec.ofInt 64 a &&& ~~~ BitVec.ofInt 64 b).toNat:Nat))):=rfl;simp only[vf,Cx,zT];show (Op.intBits .andNot .u64 a b).run P w=_;have hl:=(BitVec.ofInt 64 (a:Int) &&& ~~~ BitVec.ofInt 64 (b:Int)).isLt;rw[e',DA (by omega)];rfl
end
structure Da(w:wn)(b:Nat)(n:Int)(s:Bs):Prop where
 blk:∃cs:Array wm,w.heap[b]?=wh (wt cs 255 (0,0))/\cs.size=34/\cs[0]?=wh (wd wk)/\cs[1]?=wh (v6 wg n)/\∀k,k<32->∃x:Nat,cs[2+k]?=wh (v6 .u64 (x:Int))/\x<2 ^ 64/\∀j,j<64->x.testBit j=s (64*k+j)
 rng:0<=n/\n<=2048
 sup:∀i:Nat,s i=wk->(i:Int)<n
def Da.keep{S:List Nat}{w w':wn}{b:Nat}{n:Int}{s:Bs}(h:Da w b n s)(hf:Fr S w w')(hb:b∉S):Da w' b n s:=by obtain⟨cs,h1,h2⟩:=h.blk;exact⟨⟨cs,hf.at_ h1 hb,h2⟩,h.rng,h.sup⟩
def AR{K:VK}{w:wn}{ln n g o:Nat}{k:IntKind}{j:Int}(h0:0<=j)(h1:j<(ln:Int))(h:K (v7 (wh ⟨g,o+j.toNat*n,wj⟩)) w):AQ ln n (v7 (wh ⟨g,o,wj⟩)) (v6 k j) w K:=by refine⟨⟨g,o,wj⟩,k,j,rfl,rfl,h0,h1,?_⟩;rw[Go.Proofs.QV.add_mk];exact h
section
variable{K:VK}{w:wn}{b:Nat}{n:Int}{s:Bs}
def XF{i:Int}(h:Da w b n s)(hk:K (wd (decide (0<=i) && decide (i<n))) w):I Z 243 #[v7 (wh ⟨b,0,wj⟩),v6 wg i] w K:=by
 obtain⟨cs,c1,c2,c3,c4,c5⟩:=h.blk;refine F243.sh ⟨_,CJ _ _ _ Tryz.underlying177,?_⟩;simp only[zv];refine Ad (v:=wd wk) c1 c3 ?_;simp only[zv];by_cases h1:i≥0
 ·simp only[zv,h1];refine Ad (v:=v6 wg n) c1 c4 ?_;simp only[Ap]
  rwa [ur h1,Bool.true_and]at hk
 ·simp only[zv,h1]
  rwa [p9 h1,Bool.false_and]at hk
def Nz{i:Int}(h:Da w b n s)(hk:K (wd (Fu n s i)) w):I Z 244 #[v7 (wh ⟨b,0,wj⟩),v6 wg i] w K:=by
 obtain⟨cs,c1,c2,c3,c4,c5⟩:=h.blk;have hn:=h.rng;refine F244.sh (XF h ?_);unfold Fu at hk;by_cases hi:0<=i/\i<n
 ·rw[ur hi.1,ur hi.2]at hk ⊢;simp only[zv,Bool.and_self,Bool.true_and]at hk ⊢;refine⟨_,DR _ _ i 64 (by decide),?_⟩;rw[xD hi.1,BO (by omega)];refine AR (by omega) (by omega) ?_;obtain⟨x,x1,x2,x3⟩:=c5 (i / 64).toNat (by omega);refine Ad (v:=v6 .u64 (x:Int)) c1 (by rw[vm];exact x1) ⟨_,Ge _ _ i 64 (by decide),?_⟩;rw[xE hi.1];obtain⟨j,hj⟩:=xU (show 0<=i % 64 by omega);rw[hj]
  refine⟨_,OJ _ _ x j (by omega),⟨_,TI _ _ (x / 2 ^ j) 1 (Nat.lt_of_le_of_lt (Nat.div_le_self _ _) x2) (by decide),?_⟩⟩;simp only[Ay];have e:decide (((x / 2 ^ j &&& 1:Nat):Int)=1)=s i.toNat:=by have:=x3 j (by omega);rw[show 64*(i / 64).toNat+j=i.toNat by omega]at this;rw[<-this,Nat.testBit_eq_decide_div_mod_eq,Nat.and_one_is_mod];exact j6.2 (by omega)
  rw[e];exact hk
 ·have e:(decide (0<=i) && decide (i<n))=wl:=by rw[Bool.and_eq_false_iff];simp only[xY];omega
  rw[e]at hk ⊢;simp only[zv,Bool.false_and]at hk ⊢;exact hk
end
end
section
open Go.Proofs Go.Shelf
def W7:Go.Shelf.Ren:=⟨fun | 29=>291 | n=>n,fun | 22=>210 | 3=>3 | 4=>4 | 25=>157 | 54=>334 | 0=>0 | 5=>5 | n=>n,fun | 1=>0 | n=>n⟩
def ZK:Lays7.n29 Z W7:={
 mixed:=by kernel_rfl,
 f29:=func291.trans (vr wh (by kernel_rfl)),
 t0:=Tryz.underlying0,
 a0:=Tryz.isAgg0,
 z0:=Tryz.sizeOf0,
 v0:=Tryz.zeroValue0,
 i0:=by kernel_rfl,
 t3:=Tryz.underlying3,
 a3:=Tryz.isAgg3,
 z3:=Tryz.sizeOf3,
 v3:=Tryz.zeroValue3,
 i3:=by kernel_rfl,
 t4:=Tryz.underlying4,
 a4:=Tryz.isAgg4,
 z4:=Tryz.sizeOf4,
 v4:=Tryz.zeroValue4,
 i4:=by kernel_rfl,
 t5:=Tryz.underlying5,
 a5:=Tryz.isAgg5,
 z5:=Tryz.sizeOf5,
 v5:=Tryz.zeroValue5,
 i5:=by kernel_rfl,
 t22:=Tryz.underlying210,
 a22:=Tryz.isAgg210,
 z22:=Tryz.sizeOf210,
 v22:=Tryz.zeroValue210,
 i22:=by kernel_rfl,
 t25:=Tryz.underlying157,
 a25:=Tryz.isAgg157,
 z25:=Tryz.sizeOf157,
 v25:=Tryz.zeroValue157,
 i25:=by kernel_rfl,
 t54:=Tryz.underlying334,
 a54:=Tryz.isAgg334,
 z54:=Tryz.sizeOf334,
 g1:=by kernel_rfl }
end
section
open Go.Proofs Go.RowKit
def GY(w:wn):Prop:=∃cs e fz,w.heap[0]?=wh (wt cs e fz)/\∀j,j<Lib.deBruijn64tab.length->cs[j]?=wh (v6 .u8 (Lib.deBruijn64tab.getD j 0:Nat))
def GY.keep{S:List Nat}{w w':wn}(h:GY w)(hf:Fr S w w')(h0:0∉S):GY w':=by obtain⟨cs,e,fz,h1,h2⟩:=h;exact⟨cs,e,fz,hf.at_ h1 h0,h2⟩
def TY{x:Nat}(h0:x≠0)(h:x<2 ^ 64):Lib.ctz 64 x<64/\x.testBit (Lib.ctz 64 x)=wk/\∀j,j<Lib.ctz 64 x->x.testBit j=wl:=by
 have e:Lib.ctz 64 x=Lib.ctzFrom 64 x:=by unfold Lib.ctz;rw[vx h0]
 obtain⟨m,h1,h2⟩:=Lib.ctzFrom_spec 64 x (by omega) h;rw[e];generalize Lib.ctzFrom 64 x=c at *;subst h1;refine⟨h2,?_,λj hj=>?_⟩
 ·rw[vb,Nat.testBit_mul_two_pow];simp
 ·rw[vb,Nat.testBit_mul_two_pow];simp;omega
section
variable{K:VK}{w:wn}{b:Nat}{n:Int}{s:Bs}
def YQ{x:Nat}(hT:GY w)(hx:x<2 ^ 64)(h:K (v6 wg (Lib.ctz 64 x:Nat)) w):I Z 291 #[v6 .u64 (x:Int)] w K:=by
 obtain⟨cs,e,fz,h1,h2⟩:=hT;refine (Any7.bits_TrailingZeros64 ZK x hx w λ_ j hj=>?_).mono ?_
 ·show w.cell? ⟨0,j,wj⟩=_;rw[Eu h1,h2 j hj]
 ·rintro e w' ⟨rfl,rfl⟩;exact⟨_,rfl,h⟩
def Da.word{w':wn}{cs:Array wm}{i:Nat}{v:Bool}{x:Nat}(h:Da w b n s)(hb:w.heap[b]?=wh (wt cs 255 (0,0)))(hi:(i:Int)<n)(hx:x<2 ^ 64)(hbit:∀j,j<64->x.testBit j=C9 s i v (64*(i / 64)+j))(hu:H9 w b (wt (cs.setIfInBounds (2+i / 64) (v6 .u64 (x:Int))) 255 (0,0)) w'):Da w' b n (C9 s i v):=by
 obtain⟨cs',c1,c2,c3,c4,c5⟩:=h.blk;rw[hb]at c1;simp only[zS,Obj.cells.injEq,and_true]at c1;subst c1;have hr:=h.rng;refine⟨⟨_,hu.at_,by simpa using c2,?_,?_,λk hk=>?_⟩,hr,λj hj=>?_⟩
 ·rw[wV (by omega)];exact c3
 ·rw[wV (by omega)];exact c4
 ·by_cases e:k=i / 64
  ·subst e;refine⟨x,?_,hx,hbit⟩;rw[Array.getElem?_setIfInBounds_self_of_lt (by omega)]
  ·obtain⟨y,y1,y2,y3⟩:=c5 k hk;refine⟨y,?_,y2,λj hj=>?_⟩
   ·rw[wV (by omega)];exact y1
   ·rw[y3 j hj];unfold C9;rw[vx (by omega)]
 ·unfold C9 at hj;by_cases e:j=i
  ·subst e;exact hi
  ·rw[vx e]at hj;exact h.sup j hj
def RZ{i:Nat}{v:Bool}(h:s i=v):C9 s i v=s:=by
 funext j
 unfold C9;by_cases e:j=i
 ·rw[vy e,e,h]
 ·rw[vx e]
def Qq{i:Int}(h:Da w b n s)(hk:∀w',Fr [b] w w'->Da w' b n (J1 n s i)->K (wd (decide (0<=i) && decide (i<n) && !s i.toNat)) w'):I Z 178 #[v7 (wh ⟨b,0,wj⟩),v6 wg i] w K:=by
 obtain⟨cs,c1,c2,c3,c4,c5⟩:=h.blk;have hn:=h.rng;refine F178.sh (XF h ?_);unfold J1 at hk;by_cases hi:0<=i/\i<n
 ·rw[vy hi,ur hi.1,ur hi.2]at hk;rw[ur hi.1,ur hi.2];simp only[zv,Bool.and_self,Bool.true_and]at hk ⊢;refine Nz h ?_;have hb:Fu n s i=s i.toNat:=by simp[Fu,hi.1,hi.2]
  rw[hb];cases hs:s i.toNat with
  | true=>
   simp only[Ah];have:=hk w (Fr.refl _ _) (by rw[RZ hs];exact h);rw[hs]at this;simpa using this
  | false=>
   simp only[Ag];refine F178.k3.to (A9 (λ_=>True) λw1 hf1 _=>⟨trivial,?_⟩);have h1:=h.keep hf1 (by simp);have d1:=hf1.at_ c1 (by simp);simp only[zv];refine⟨_,λw' _=>DR _ _ i 64 (by decide),?_⟩;rw[xD hi.1,BO (by omega)];refine AR (by omega) (by omega) ⟨_,λw' _=>Ge _ _ i 64 (by decide),?_⟩;rw[xE hi.1];obtain⟨j,hj⟩:=xU (show 0<=i % 64 by omega);obtain⟨i,rfl⟩:=xU hi.1;rw[hj]
   obtain⟨x,x1,x2,x3⟩:=c5 (i / 64) (by omega);have ek:((i:Int) / 64).toNat*1=i / 64:=by omega
   have hj64:j<64:=by omega
   have hp:1*2 ^ j % 18446744073709551616=2 ^ j:=by have:2 ^ j<2 ^ 64:=yU (by decide) hj64;rw[Nat.one_mul,Nat.mod_eq_of_lt this]
   have hp64:2 ^ j<2 ^ 64:=yU (by decide) hj64;refine⟨_,λw' _=>Ln _ _ 1 j hj64,⟨Ad (v:=v6 .u64 (x:Int)) d1 (by rw[ek];exact x1) ⟨trivial,?_⟩,trivial⟩⟩;rw[hp];refine⟨_,λw' _=>Wp _ _ x (2 ^ j) x2 hp64,AR (by omega) (by omega) ⟨?_,trivial⟩⟩;refine AI d1 rfl rfl (by omega) λw2 hu=>⟨trivial,?_⟩;rw[ek]at hu;have h2:Da w2 b n (C9 s i wk):=by
    refine h1.word d1 hi.2 (Nat.or_lt_two_pow x2 hp64) (λt ht=>?_) hu;rw[Nat.testBit_or,x3 t ht,Nat.testBit_two_pow];unfold C9;by_cases e:64*(i / 64)+t=i
    ·rw[vy e,ur (by omega),Bool.or_true]
    ·rw[vx e,p9 (by omega),Bool.or_false]
   rw[zK]at hk hs;have:=hk w2 (hf1.w.trans hu.fr) h2;rw[hs]at this;exact this
 ·have e:(decide (0<=i) && decide (i<n))=wl:=by rw[Bool.and_eq_false_iff];simp only[xY];omega
  rw[vx hi,e]at hk;rw[e];simp only[zv,Bool.false_and]at hk ⊢;exact hk w (Fr.refl _ _) h
def NK{i:Int}(h:Da w b n s)(hk:∀w',Fr [b] w w'->Da w' b n (KQ n s i)->K (wd (Fu n s i)) w'):I Z 337 #[v7 (wh ⟨b,0,wj⟩),v6 wg i] w K:=by
 obtain⟨cs,c1,c2,c3,c4,c5⟩:=h.blk;have hn:=h.rng;refine F337.sh (Nz h ?_);unfold KQ at hk;cases hb:Fu n s i with
 | false=>
  rw[hb]at hk;simp only[zv];exact hk w (Fr.refl _ _) h
 | true=>
  rw[hb]at hk;have hi:0<=i/\i<n:=by simp[Fu]at hb;exact hb.1
  simp only[zv];refine F337.k3.to (A9 (λ_=>True) λw1 hf1 _=>⟨trivial,?_⟩);have h1:=h.keep hf1 (by simp);have d1:=hf1.at_ c1 (by simp);simp only[zv];refine⟨_,λw' _=>DR _ _ i 64 (by decide),?_⟩;rw[xD hi.1,BO (by omega)];refine AR (by omega) (by omega) ⟨_,λw' _=>Ge _ _ i 64 (by decide),?_⟩;rw[xE hi.1];obtain⟨j,hj⟩:=xU (show 0<=i % 64 by omega);obtain⟨i,rfl⟩:=xU hi.1;rw[hj]
  obtain⟨x,x1,x2,x3⟩:=c5 (i / 64) (by omega);have ek:((i:Int) / 64).toNat*1=i / 64:=by omega
  have hj64:j<64:=by omega
  have hp:1*2 ^ j % 18446744073709551616=2 ^ j:=by have:2 ^ j<2 ^ 64:=yU (by decide) hj64;rw[Nat.one_mul,Nat.mod_eq_of_lt this]
  have hp64:2 ^ j<2 ^ 64:=yU (by decide) hj64;refine⟨_,λw' _=>Ln _ _ 1 j hj64,⟨Ad (v:=v6 .u64 (x:Int)) d1 (by rw[ek];exact x1) ⟨trivial,?_⟩,trivial⟩⟩;rw[hp];obtain⟨r,r1,r2,r3⟩:=Pf (P:=Z) (t:=210) (.tmp 15) (.tmp 18) x (2 ^ j) x2 hp64;refine⟨_,λw' _=>r3 w',AR (by omega) (by omega) ⟨?_,trivial⟩⟩;refine AI d1 rfl rfl (by omega) λw2 hu=>⟨trivial,?_⟩;rw[ek]at hu
  have h2:Da w2 b n (C9 s i wl):=by
   refine h1.word d1 hi.2 r1 (λt ht=>?_) hu;rw[r2 t ht,x3 t ht,Nat.testBit_two_pow];unfold C9;by_cases e:64*(i / 64)+t=i
   ·rw[vy e,ur (by omega)];simp
   ·rw[vx e,p9 (by omega)];simp
  simp only[vu,zK]at hk;exact hk w2 (hf1.w.trans hu.fr) h2
end
section
variable{K:VK}{w:wn}{b:Nat}{n:Int}{s:Bs}
def R9{i:Nat}(h:Da w b n s)(hT:GY w)(h1:∀j:Nat,i<=j->s j=wk->(∀t,i<=t->t<j->s t=wl)->K (v6 wg (j:Int)) w)(h2:(∀t,i<=t->s t=wl)->K (v6 wg (-1)) w):
  ∀(d k x:Nat),k+d=31->i<=64*(k+1)->x<2 ^ 64->(∀j,j<64->x.testBit j=(s (64*k+j) && decide (i<=64*k+j)))->(∀t,i<=t->t<64*k->s t=wl)->
   F258.l7 K (v7 (wh ⟨b,0,wj⟩)) (v6 .u64 (x:Int)) (v6 wg (k:Int)) w:=by
 obtain⟨cs,c1,c2,c3,c4,c5⟩:=h.blk;have hn:=h.rng;have out:∀(k x:Nat),k<=31->x<2 ^ 64->(∀j,j<64->x.testBit j=(s (64*k+j) && decide (i<=64*k+j)))->(∀t,i<=t->t<64*k->s t=wl)->
   (x=0->(∀t,i<=t->t<64*(k+1)->s t=wl)->F258.k9 K (v7 (wh ⟨b,0,wj⟩)) (v6 wg (k:Int)) w)->F258.l7 K (v7 (wh ⟨b,0,wj⟩)) (v6 .u64 (x:Int)) (v6 wg (k:Int)) w:=by
  intro k x hk hx hb hlo hnext;refine F258.l7.to ?_;by_cases e:x=0
  ·subst e;simp only[zv,show (((0:Nat):Int)≠0)=False by simp];refine hnext rfl λt t1 t2=>?_;by_cases ht:t<64*k
   ·exact hlo t t1 ht
   ·have:=hb (t-64*k) (by omega);rw[show 64*k+(t-64*k)=t by omega,Nat.zero_testBit,ur t1,Bool.and_true]at this;exact this.symm
  ·obtain⟨z1,z2,z3⟩:=TY e hx;simp only[zv,show ((x:Int)≠0)=True by simp;exact e];rw[BO (n:=(k:Int)*64) (by omega)];refine YQ hT hx ?_;simp only[A7];generalize Lib.ctz 64 x=c at *;rw[BO (n:=(k:Int)*64+c) (by omega),show (k:Int)*64+c=((64*k+c:Nat):Int) by omega];have hc:=hb c z1;rw[z2]at hc;have hc':=hc.symm;rw[zY,zV]at hc';refine h1 _ hc'.2 hc'.1 λt t1 t2=>?_;by_cases ht:t<64*k
   ·exact hlo t t1 ht
   ·have:=hb (t-64*k) (by omega);rw[show 64*k+(t-64*k)=t by omega,z3 _ (by omega),ur t1,Bool.and_true]at this;exact this.symm
 intro d;induction d with
 | zero=>
  intro k x hk hik hx hb hlo;refine out k x (by omega) hx hb hlo λ_ hall=>?_;refine F258.k9.to ?_;simp only[zv];rw[BO (n:=(k:Int)+1) (by omega)];simp only[zv,vw,show ((k:Int)+1=32) by omega];refine h2 λt ht=>?_;by_cases c:t<64*(k+1)
  ·exact hall t ht c
  ·apply xI;intro hc;have:=h.sup t (by simpa using hc);omega
 | succ d ih=>
  intro k x hk hik hx hb hlo;refine out k x (by omega) hx hb hlo λ_ hall=>?_;refine F258.k9.to ?_;simp only[zv];rw[BO (n:=(k:Int)+1) (by omega)];simp only[zv,show ¬((k:Int)+1=32) by omega];refine F258.k11.to ?_;simp only[zv];rw[BO (n:=(k:Int)+1) (by omega)];obtain⟨y,y1,y2,y3⟩:=c5 (k+1) (by omega)
  refine AR (by omega) (by omega) (Ad (v:=v6 .u64 (y:Int)) c1 (by rw[vm,show ((k:Int)+1).toNat=k+1 by omega];exact y1) ?_);refine F258.k6.to ?_;simp only[A7];rw[BO (n:=(k:Int)+1) (by omega),show (k:Int)+1=((k+1:Nat):Int) by omega];refine ih (k+1) y (by omega) (by omega) y2 (λj hj=>?_) hall;rw[y3 j hj];rw[ur (by omega),Bool.and_true]
def Rm(x j t:Nat)(hj:j<64)(ht:t<64)(hx:x<2 ^ 64):(x / 2 ^ j*2 ^ j % 18446744073709551616).testBit t=(x.testBit t && decide (j<=t)):=by
 have e:x / 2 ^ j*2 ^ j<18446744073709551616:=Nat.lt_of_le_of_lt (Nat.div_mul_le_self _ _) hx;rw[Nat.mod_eq_of_lt e,Nat.testBit_mul_two_pow,Nat.testBit_div_two_pow];by_cases c:j<=t
 ·rw[show t-j+j=t by omega];simp[c]
 ·simp[c]
def R8{i:Nat}(h:Da w b n s)(hT:GY w)(h1:∀j:Nat,i<=j->s j=wk->(∀t,i<=t->t<j->s t=wl)->K (v6 wg (j:Int)) w)(h2:(∀t,i<=t->s t=wl)->K (v6 wg (-1)) w):
  I Z 258 #[v7 (wh ⟨b,0,wj⟩),v6 wg (i:Int)] w K:=by
 obtain⟨cs,c1,c2,c3,c4,c5⟩:=h.blk;have hn:=h.rng;refine F258.sh ⟨_,Ck _ _ _ Tryz.underlying177,?_⟩;simp only[zv];refine Ad (v:=wd wk) c1 c3 ?_;simp only[zv];refine Ad (v:=v6 wg n) c1 c4 ?_;by_cases c:(i:Int)≥n
 ·simp only[zv,c];refine h2 λt ht=>?_;apply xI;intro hc;have:=h.sup t (by simpa using hc);omega
 simp only[zv,c];refine F258.k3.to (A4 (La _ _ wg (i:Int) 0) ?_);rw[show max (i:Int) 0=(i:Int) by omega];refine⟨_,DR _ _ (i:Int) 64 (by decide),?_⟩;rw[xD (by omega),BO (by omega),show (i:Int) / 64=((i / 64:Nat):Int) by omega];simp only[zv];obtain⟨x,x1,x2,x3⟩:=c5 (i / 64) (by omega);refine AR (by omega) (by omega) (Ad (v:=v6 .u64 (x:Int)) c1 (by rw[vm,zK];exact x1) ⟨_,Ge _ _ (i:Int) 64 (by decide),?_⟩)
 rw[xE (by omega),show (i:Int) % 64=((i % 64:Nat):Int) by omega];refine⟨_,OJ _ _ x (i % 64) (by omega),⟨_,Ge _ _ (i:Int) 64 (by decide),?_⟩⟩;rw[xE (by omega),show (i:Int) % 64=((i % 64:Nat):Int) by omega];refine⟨_,Ln _ _ (x / 2 ^ (i % 64)) (i % 64) (by omega),⟨_,DR _ _ (i:Int) 64 (by decide),?_⟩⟩;rw[xD (by omega),BO (by omega),show (i:Int) / 64=((i / 64:Nat):Int) by omega]
 refine R9 h hT h1 h2 (31-i / 64) (i / 64) _ (by omega) (by omega) (by have:=Nat.mod_lt (x / 2 ^ (i % 64)*2 ^ (i % 64)) (show 18446744073709551616>0 by decide);omega) (λj hj=>?_) λt t1 t2=>by omega
 rw[Rm x (i % 64) j (by omega) hj x2,x3 j hj];congr 1;exact j6.2 (by omega)
def Kz{s:Bs}{c j:Nat}(hcj:c<=j)(hs:s j=wk)(hno:∀t,c<=t->t<j->s t=wl):(List.range (j+1)).filter s=(List.range c).filter s++[j]:=by
 have key:∀d,c+d<=j->(List.range (c+d)).filter s=(List.range c).filter s:=λd=>by
  induction d with
  | zero=>intro _;rfl
  | succ d ih=>
   intro hd;rw[show c+(d+1)=c+d+1 by omega,o8,zA,ih (by omega)];simp[hno (c+d) (by omega) (by omega)]
 have:=key (j-c) (by omega);rw[show c+(j-c)=j by omega]at this;rw[o8,zA,this];simp[hs]
def HD{s:Bs}{c m:Nat}(hcm:c<=m)(hno:∀t,c<=t->s t=wl):(List.range m).filter s=(List.range c).filter s:=by
 have key:∀d,(List.range (c+d)).filter s=(List.range c).filter s:=λd=>by
  induction d with
  | zero=>rfl
  | succ d ih=>
   rw[show c+(d+1)=c+d+1 by omega,o8,zA,ih];simp[hno (c+d) (by omega)]
 have:=key (m-c)
 rwa [show c+(m-c)=m by omega]at this
def VX{n:Int}{s:Bs}{c:Nat}(h0:0<=n)(hsup:∀i:Nat,s i=wk->(i:Int)<n)(hno:∀t,c<=t->s t=wl):HB n s=((List.range c).filter s).map Int.ofNat:=by
 unfold HB;congr 1;by_cases h:c<=n.toNat
 ·exact HD h hno
 ·exact (HD (by omega) λt ht=>by
   apply xI;intro hc;have:=hsup t (by simpa using hc);omega).symm
def TJ{n:Int}{s:Bs}(c:Nat):(((List.range c).filter s).map Int.ofNat).length<=c:=by
 rw[j9];have:=yI s (List.range c)
 rwa [zP]at this
def Tv{W:wn}(h:Da W b n s)(hT:GY W)(hk:∀v w',Fr [] W w'->BY W v->BQ w' v 3 1 (BX (HB n s))->K v w'):
  ∀(d c:Nat) (w:wn) (v:wm),2049<=c+d->Fr [] W w->BY W v->BQ w v 3 1 (BX (((List.range c).filter s).map Int.ofNat))->
   (∀j:Nat,c<=j->s j=wk->(∀t,c<=t->t<j->s t=wl)->F202.l3 K (v7 (wh ⟨b,0,wj⟩)) v (v6 wg (j:Int)) w)/\
   ((∀t,c<=t->s t=wl)->F202.l3 K (v7 (wh ⟨b,0,wj⟩)) v (v6 wg (-1)) w):=by
 have hn:=h.rng;have fin:∀(c:Nat) (w:wn) (v:wm),Fr [] W w->BY W v->BQ w v 3 1 (BX (((List.range c).filter s).map Int.ofNat))->(∀t,c<=t->s t=wl)->F202.l3 K (v7 (wh ⟨b,0,wj⟩)) v (v6 wg (-1)) w:=by intro c w v hf hnv ho hno;refine F202.l3.to ?_;simp only[zv,show ¬((-1:Int)≥0) by omega];refine F202.k6.to (hk v w hf hnv ?_);rw[VX hn.1 h.sup hno];exact ho
 intro d;induction d with
 | zero=>
  intro c w v hd hf hnv ho;exact⟨λj hj hs _=>by have:=h.sup j hs;omega,fin c w v hf hnv ho⟩
 | succ d ih=>
  intro c w v hd hf hnv ho;refine⟨λj hj hs hno=>?_,fin c w v hf hnv ho⟩;have hjn:=h.sup j hs;have hl:=TJ (n:=n) (s:=s) c;refine F202.l3.to ?_;simp only[zv,show ((j:Int)≥0) by omega];refine F202.k5.to (B3 ho (by omega) λv' w1 ho1 hf1 hg1=>?_);have f1:Fr [] W w1:=hf.then hf1 λz hz=>ws (hnv.blk z hz);have n1:=M2 hnv hf.size hg1
  have e:((List.range c).filter s).map Int.ofNat++[(j:Int)]=((List.range (j+1)).filter s).map Int.ofNat:=by rw[Kz hj hs hno,m9];rfl
  rw[e]at ho1;refine F202.k4.to ?_;simp only[A7];rw[BO (n:=(j:Int)+1) (by omega),show (j:Int)+1=((j+1:Nat):Int) by omega];obtain⟨a1,a2⟩:=ih (j+1) w1 v' (by omega) f1 n1 ho1;exact R8 (h.keep f1 (by simp)) (hT.keep f1 (by simp)) a1 a2
def WG(h:Da w b n s)(hT:GY w)(hk:∀v w',Fr [] w w'->BY w v->BQ w' v 3 1 (BX (HB n s))->K v w'):I Z 202 #[v7 (wh ⟨b,0,wj⟩)] w K:=by obtain⟨a1,a2⟩:=Tv h hT hk 2049 0 w _ (by omega) (Fr.refl _ _) (BY.nil _) (by simpa[BX] using BQ.nil _ _ _);exact F202.sh (R8 h hT a1 a2)
def MC(n:Int):Array wm := #[wd wk,v6 wg n,v6 .u64 0,v6 .u64 0,v6 .u64 0,v6 .u64 0,v6 .u64 0,v6 .u64 0,v6 .u64 0,v6 .u64 0,v6 .u64 0,v6 .u64 0,v6 .u64 0,v6 .u64 0,v6 .u64 0,v6 .u64 0,v6 .u64 0,v6 .u64 0,v6 .u64 0,v6 .u64 0,v6 .u64 0,v6 .u64 0,v6 .u64 0,v6 .u64 0,v6 .u64 0,v6 .u64 0,v6 .u64 0,v6 .u64 0,v6 .u64 0,v6 .u64 0,v6 .u64 0,v6 .u64 0,v6 .u64 0,v6 .u64 0]
def Yz(n:Int):(Instr.build 255 #[(0,wd wk),(1,v6 wg n)]).run Z w=.ok (.agg (MC n)) w:=by kernel_rfl
def Pt(n:Int):∀k,k<32->(MC n)[2+k]?=wh (v6 .u64 0)
 | 0,_ | 1,_ | 2,_ | 3,_ | 4,_ | 5,_ | 6,_ | 7,_ | 8,_ | 9,_ | 10,_ | 11,_ | 12,_ | 13,_ | 14,_ | 15,_ | 16,_ | 17,_ | 18,_ | 19,_ | 20,_ | 21,_ | 22,_ | 23,_ | 24,_ | 25,_ | 26,_ | 27,_ | 28,_ | 29,_ | 30,_ | 31,_=>rfl
 | k+32,h=>by omega
def Rp{n:Int}(h0:0<=n)(h1:n<=2048)(hk:∀b w',Fr [] w w'->b=w.heap.size->w'.heap.size=w.heap.size+1->Da w' b n (λ_=>wl)->K (v7 (wh ⟨b,0,wj⟩)) w'):I Z 116 #[v6 wg n] w K:=by refine F116.sh (EI ?_);rw[vx (by omega),vx (by omega)];refine A4 (Yz n) (Ar λb w1 hn=>hk b w1 hn.fr hn.is hn.sz ⟨⟨MC n,hn.at_,rfl,rfl,rfl,λk hk=>⟨0,Pt n k hk,by decide,λj _=>by simp⟩⟩,⟨h0,h1⟩,λi hi=>by cases hi⟩)
end
end
section
open Go.Proofs
noncomputable section
variable{K:VK}{w:wn}{x0 x1 y0 y1 y2 y3 y4 y5 y6 y10 y11 y13 y14 y4294967291:wm}
def F170.sh(h:(I Z 66 #[x0,(v6 wg 0),(v6 wg 64)] w λa b=>Am Z (Instr.makeSlice 54 a a) b λc d=>Am Z (Instr.build 292 #[(0,(wd wk)),(1,c)]) d λf g=>Aq (wt (wm.cells f) 292) g λi j=>K i j)):I Z 170 #[x0] w K:=BK (A:=A0) (args:=[x0]) (qq h)
namespace F171
def ann:=a1 [(3,[0])]
def code:=cd f171
def BM:=tp f171
variable(K:VK)(y0:wm)(w:wn)
@[irreducible]def k3:=nk ann 10 [(0,y0)] w [1,1] code (BM K)
end F171
def F171.k3.to(h:(Ae y0 w λa b=>Ab 1 a b λc d=>Ac c d λf g=>I Z 240 #[f] g λi j=>K i j)):F171.k3 K y0 w:=qq h
def F171.sh(h:(AB Z .eql 234 (.tmp 3) (.const (v7 wj)) x0 (v7 wj) w λa b=>Af a (K (v8 wj 0 0) b) (F171.k3 K x0 b))):I Z 171 #[x0] w K:=BK (A:=F171.ann) (args:=[x0]) (qq h)
namespace F176
def ann:=a1 [(3,[2,3,4,5]),(14,[4,5,4294967291])]
def code:=cd f176
def BM:=tp f176
variable(K:VK)(y2 y3 y4 y5 y4294967291:wm)(w:wn)
def as4:Code:=Xx (F2 [1,1,0,1,0] code)
def bd4:Code:=X3 (F2 [1,1,0,1,0] code)
def k3:=nk ann 38 [(2,y2),(3,y3),(4,y4),(5,y5)] w [1,1] code (BM K)
def k14:=nk ann 38 [(4,y4),(5,y5),(4294967291,y4294967291)] w [1,1,1] code (BM K)
attribute [irreducible] k3 k14
end F176
def F176.k3.to(h:(Ac y2 w λa b=>Bj Z 38 (.func (.func 242) #[a] #[]) #[13,14] F176.as4 F176.bd4 [(12,(.func (.func 242) #[a] #[])),(11,a),(2,y2),(3,y3),(4,y4),(5,y5)] b λD2 j c=>B2 j (F176.k14 K y4 y5 (v6 wg (D2:Int)) c) (Be (v6 wg (D2:Int)) c λd=>Ac y4 d λr4 _=>Ac y5 d λr5 _=>K (wc #[r4,r5]) d) (λid=>cond (Nat.beq id 0) (F176.k14 K y4 y5 (v6 wg (D2:Int)) c) (False)))):F176.k3 K y2 y3 y4 y5 w:=qq h
def F176.k14.to(h:(Aj 1 y4 (v6 wg 0) w λa=>Aj 1 y5 (wd wl) a λb=>Be y4294967291 b λc=>Ac y4 c λr4 _=>Ac y5 c λr5 _=>K (wc #[r4,r5]) c)):F176.k14 K y4 y5 y4294967291 w:=qq h
def F176.sh(h:(Aq (wt (wm.cells x0) 234) w λa b=>Aq (wt (wm.cells x1) 3) b λc d=>Aq (wt #[v6 wg 0] 3) d λf g=>Aq (wt #[wd wl] 4) g λi j=>Ac c j λk m=>U .lss k (v6 wg 1) m λo p=>Af o (Aj 1 f (v6 wg 0) p λq=>Aj 1 i (wd wl) q λr=>Ac f r λr9 _=>Ac i r λr10 _=>K (wc #[r9,r10]) r) (F176.k3 K a c f i p))):I Z 176 #[x0,x1] w K:=BK (A:=F176.ann) (args:=[x0,x1]) (qq h)
namespace R176_4
def ann(l:Nat):Cg:=⟨[(7,[2,3,4,5,6]),(9,[2,4,5,6,18,19]),(11,[2,4,5,6,18,19]),(12,[2,4,5,6])],[(8,[2,4,5,6,18,19])],[],[],wh l⟩
noncomputable def BM(l:Nat)(K:VK):QE:=OH l K
noncomputable def k7(l:Nat)(K:VK)(y2 y3 y4 y5 y6:wm)(w:wn):Prop:=Gc (ann l) Z 38 (λc Q=>Dl (ann l) Z 38 c Q [(2,y2),(3,y3),(4,y4),(5,y5),(6,y6)] w) [0,1] F176.bd4 (BM l K)
attribute [irreducible] k7
noncomputable def k12(l:Nat)(K:VK)(y2 y4 y5 y6:wm)(w:wn):Prop:=Gc (ann l) Z 38 (λc Q=>Dl (ann l) Z 38 c Q [(2,y2),(4,y4),(5,y5),(6,y6)] w) [0,1,1] F176.bd4 (BM l K)
attribute [irreducible] k12
noncomputable def l8(l:Nat)(K:VK)(y2 y4 y5 y6 y18 y19:wm)(w:wn):Prop:=Gc (ann l) Z 38 (Ov (ann l) Z 38 [(2,y2),(4,y4),(5,y5),(6,y6),(18,y18),(19,y19)] w) [0,1,0,1,0] F176.bd4 (BM l K)
attribute [irreducible] l8
noncomputable def k9(l:Nat)(K:VK)(y2 y4 y5 y6 y18 y19:wm)(w:wn):Prop:=Gc (ann l) Z 38 (λc Q=>Dl (ann l) Z 38 c Q [(2,y2),(4,y4),(5,y5),(6,y6),(18,y18),(19,y19)] w) [0,1,0,1,0,0,1,1] F176.bd4 (BM l K)
attribute [irreducible] k9
noncomputable def k11(l:Nat)(K:VK)(y2 y4 y5 y6 y18 y19:wm)(w:wn):Prop:=Gc (ann l) Z 38 (λc Q=>Dl (ann l) Z 38 c Q [(2,y2),(4,y4),(5,y5),(6,y6),(18,y18),(19,y19)] w) [0,1,0,1,0,0,1,1,1] F176.bd4 (BM l K)
attribute [irreducible] k11
end R176_4
def R176_4.k7.to{l:Nat}{K:VK}{y2 y3 y4 y5 y6:wm}{w:wn}(h:(Ac y3 w λx18_1 w1=>R176_4.l8 l K y2 y4 y5 y6 x18_1 (v6 wg 0) w1)):R176_4.k7 l K y2 y3 y4 y5 y6 w:=Eq.mpr (by kernel_rfl) h
def R176_4.k12.to{l:Nat}{K:VK}{y2 y4 y5 y6:wm}{w:wn}(h:(Ac y2 w λx31_1 w1=>Ae x31_1 w1 λx32_2 w2=>Ab 1 x32_2 w2 λx33_3 w3=>Ac x33_3 w3 λx34_4 w4=>AC 1 x34_4 y6 w4 λx36_5 w5=>Aj 1 x36_5 (v6 wg 5) w5 λw6=>Aj 1 y4 y6 w6 λw7=>Aj 1 y5 (wd wk) w7 λw8=>Bz l (wh .ret) wl (.done) w8 K)):R176_4.k12 l K y2 y4 y5 y6 w:=Eq.mpr (by kernel_rfl) h
def R176_4.l8.to{l:Nat}{K:VK}{y2 y4 y5 y6 y18 y19:wm}{w:wn}(h:(U .lss y19 y18 w λx20_1 w1=>Af x20_1 (R176_4.k9 l K y2 y4 y5 y6 y18 y19 w1) (R176_4.k12 l K y2 y4 y5 y6 w1))):R176_4.l8 l K y2 y4 y5 y6 y18 y19 w:=by unfold R176_4.l8;exact BW (Eq.mpr (by kernel_rfl) h)
def R176_4.k9.to{l:Nat}{K:VK}{y2 y4 y5 y6 y18 y19:wm}{w:wn}(h:(Ac y2 w λx22_1 w1=>Ae x22_1 w1 λx23_2 w2=>Ab 1 x23_2 w2 λx24_3 w3=>Ac x24_3 w3 λx25_4 w4=>U .add y6 y19 w4 λx28_5 w5=>AC 1 x25_4 x28_5 w5 λx29_6 w6=>Aj 1 x29_6 (v6 wg 6) w6 λw7=>R176_4.k11 l K y2 y4 y5 y6 y18 y19 w7)):R176_4.k9 l K y2 y4 y5 y6 y18 y19 w:=Eq.mpr (by kernel_rfl) h
def R176_4.k11.to{l:Nat}{K:VK}{y2 y4 y5 y6 y18 y19:wm}{w:wn}(h:(U .add y19 (v6 wg 1) w λx30_1 w1=>R176_4.l8 l K y2 y4 y5 y6 y18 x30_1 w1)):R176_4.k11 l K y2 y4 y5 y6 y18 y19 w:=Eq.mpr (by kernel_rfl) h
def R176_4.yield{l:Nat}{r:Loop}{K:VK}{y2 y3 y4 y5 a13 a14:wm}{w:wn}(hr:w.heap[l]?=wh (.loop r))(hn:r.tmps.size=38)(hp:r.params = #[13,14])(ha:r.assign=F176.as4)(hb:r.body=F176.bd4)(he:∀t v,Hs [(2,y2),(3,y3),(4,y4),(5,y5)] t=wh v->r.tmps[t]?=wh v)(h:(B1 l w λw1=>Ac y3 w1 λx16_2 w2=>U .lss a14 x16_2 w2 λx17_3 w3=>Af x17_3 (Bz l wj wk (.ready) w3 K) (R176_4.k7 l K y2 y3 y4 y5 a13 w3))):Bh Z l #[a13,a14] w K:=
 OY (A:=R176_4.ann l) (env:=[(2,y2),(3,y3),(4,y4),(5,y5)]) rfl hr hn (by rw[hp];rfl) he rfl (by rw[hp];decide) (by rw[ha,hb,hp];exact Eq.mpr (by kernel_rfl) h)
namespace F241
def ann:=a1 [(5,[3,4294967291])]
def code:=cd f241
def BM:=tp f241
variable(K:VK)(y3 y4294967291:wm)(w:wn)
def as3:Code:=Xx (F2 [1,1,0,1,0] code)
def bd3:Code:=X3 (F2 [1,1,0,1,0] code)
@[irreducible]def k5:=nk ann 14 [(3,y3),(4294967291,y4294967291)] w [1,1,1] code (BM K)
end F241
def F241.k5.to(h:(Ac y3 w λa b=>Be y4294967291 b λc=>K a c)):F241.k5 K y3 y4294967291 w:=qq h
def F241.sh(h:(Aq (wt #[v6 wg 0] 3) w λa b=>Aj 1 a (v6 wg 0) b λc=>Bj Z 14 (.func (.func 242) #[x0] #[]) #[8,9] F241.as3 F241.bd3 [(7,(.func (.func 242) #[x0] #[])),(6,x0),(3,a),(2,(v6 wg 0)),(0,x0)] c λD3 j d=>B2 j (F241.k5 K a (v6 wg (D3:Int)) d) (Be (v6 wg (D3:Int)) d λf=>K (v6 wg 0) f) (λid=>cond (Nat.beq id 0) (F241.k5 K a (v6 wg (D3:Int)) d) (False)))):I Z 241 #[x0] w K:=BK (A:=F241.ann) (args:=[x0]) (qq h)
namespace R241_3
def ann(l:Nat):Cg:=⟨[],[],[],[],wh l⟩
noncomputable def BM(l:Nat)(K:VK):QE:=OH l K
end R241_3
def R241_3.yield{l:Nat}{r:Loop}{K:VK}{y3 a8 a9:wm}{w:wn}(hr:w.heap[l]?=wh (.loop r))(hn:r.tmps.size=14)(hp:r.params = #[8,9])(ha:r.assign=F241.as3)(hb:r.body=F241.bd3)(he:∀t v,Hs [(3,y3)] t=wh v->r.tmps[t]?=wh v)(h:(B1 l w λw1=>Ac y3 w1 λx10_2 w2=>U .add x10_2 a9 w2 λx12_3 w3=>Aj 1 y3 x12_3 w3 λw4=>Bz l wj wk (.ready) w4 K)):Bh Z l #[a8,a9] w K:=
 OY (A:=R241_3.ann l) (env:=[(3,y3)]) rfl hr hn (by rw[hp];rfl) he rfl (by rw[hp];decide) (by rw[ha,hb,hp];exact Eq.mpr (by kernel_rfl) h)
namespace F242
def ann:Cg:=⟨[(1,[0,1]),(4,[0,1,4,13,14]),(7,[0,1,4,5,13,14]),(8,[0,1,13,14]),(9,[0,1,4,13,14])],[(3,[0,1,4,13,14])],[],[],wj⟩
def code:=cd f242
def BM:=tp f242
variable(K:VK)(y0 y1 y4 y5 y13 y14:wm)(w:wn)
def k1:=nk ann 35 [(0,y0),(1,y1)] w [1] code (BM K)
def l3:=nl ann 35 [(0,y0),(1,y1),(4,y4),(13,y13),(14,y14)] w [1,1,1,0] code (BM K)
def k4:=nk ann 35 [(0,y0),(1,y1),(4,y4),(13,y13),(14,y14)] w [1,1,1,0,0,1,1] code (BM K)
def k9:=nk ann 35 [(0,y0),(1,y1),(4,y4),(13,y13),(14,y14)] w [1,1,1,0,0,1,1,1] code (BM K)
def k7:=nk ann 35 [(0,y0),(1,y1),(4,y4),(5,y5),(13,y13),(14,y14)] w [1,1,1,0,0,1,1,0,0,1,1] code (BM K)
def k8:=nk ann 35 [(0,y0),(1,y1),(13,y13),(14,y14)] w [1,1,1,0,0,1,1,0,0,1,1,1] code (BM K)
attribute [irreducible] k1 l3 k4 k9 k7 k8
end F242
def F242.k1.to(h:(Ae y0 w λa b=>Ab 1 a b λc d=>Ac c d λf g=>AD f g λi j=>U .add i (v6 wg 1) j λk m=>F242.l3 K y0 y1 (v6 wg 0) k (v6 wg 0) m)):F242.k1 K y0 y1 w:=qq h
def F242.l3.to(h:(U .lss y14 y13 w λa b=>Af a (F242.k4 K y0 y1 y4 y13 y14 b) (K (wc #[]) b))):F242.l3 K y0 y1 y4 y13 y14 w:=by unfold F242.l3 nl;exact BW (qq h)
def F242.k4.to(h:(I Z 283 #[y0,y14] w λa b=>U .eql a (v6 wg 0) b λc d=>Af c (U .add y4 (v6 wg 1) d λf g=>F242.k9 K y0 y1 f y13 y14 g) (F242.k7 K y0 y1 y4 y14 y13 y14 d))):F242.k4 K y0 y1 y4 y13 y14 w:=qq h
def F242.k9.to(h:(U .add y14 (v6 wg 1) w λa b=>F242.l3 K y0 y1 y4 y13 a b)):F242.k9 K y0 y1 y4 y13 y14 w:=qq h
def F242.k7.to(h:(U .gtr y4 (v6 wg 0) w λa b=>Aa wk a (λK=>K y1 b) b λc d=>Aa wk a (λK=>K y5 d) d λf g=>Aa wk a (λK=>K y4 g) g λi j=>Aa wk a (U .sub f i j) j λk m=>Aa wk a (λK=>K y4 m) m λo p=>Aa wk a (λK=>Du Z c [k,o] p K) p λq r=>Aa wk a (A8 q r) r λs t=>Aw (wh a) (wh s) (wh (wd wl)) t λu v=>Af u (K (wc #[]) v) (F242.k8 K y0 y1 y13 y14 v))):F242.k7 K y0 y1 y4 y5 y13 y14 w:=qq h
def F242.k8.to(h:(F242.k9 K y0 y1 (v6 wg 0) y13 y14 w)):F242.k8 K y0 y1 y13 y14 w:=qq h
def F242.sh(h:(AB Z .eql 234 (.tmp 6) (.const (v7 wj)) x0 (v7 wj) w λa b=>Af a (K (wc #[]) b) (F242.k1 K x0 x1 b))):I Z 242 #[x0,x1] w K:=BK (A:=F242.ann) (args:=[x0,x1]) (qq h)
namespace F252
def ann:=a1 [(3,[0,1]),(6,[0,1,6])]
def code:=cd f252
def BM:=tp f252
variable(K:VK)(y0 y1 y6:wm)(w:wn)
def k3:=nk ann 29 [(0,y0),(1,y1)] w [1,1] code (BM K)
def k6:=nk ann 29 [(0,y0),(1,y1),(6,y6)] w [1,1,1,1] code (BM K)
attribute [irreducible] k3 k6
end F252
def F252.k3.to(h:(Ae y0 w λa b=>Ab 1 a b λc d=>Ac c d λf g=>I Z 125 #[f,(v6 wg 0)] g λi j=>U .lss i (v6 wg 0) j λk m=>Af k (K (wc #[(v6 wg 0),(wd wl)]) m) (F252.k6 K y0 y1 i m))):F252.k3 K y0 y1 w:=qq h
def F252.k6.to(h:(Ae y0 w λa b=>Ab 1 a b λc d=>Ac c d λf g=>AC 1 f y6 g λi j=>Aj 1 i y1 j λk=>K (wc #[y6,(wd wk)]) k)):F252.k6 K y0 y1 y6 w:=qq h
def F252.sh(h:(AB Z .eql 234 (.tmp 7) (.const (v7 wj)) x0 (v7 wj) w λa b=>Aa wl a (λK=>K x1 b) b λc d=>Aa wl a (λK=>I Z 175 #[c] d K) d λf g=>Aa wl a (U .eql f (v6 wg 0) g) g λi j=>Aw (wh a) (wh (wd wk)) (wh i) j λk m=>Af k (K (wc #[(v6 wg 0),(wd wl)]) m) (F252.k3 K x0 x1 m))):I Z 252 #[x0,x1] w K:=BK (A:=F252.ann) (args:=[x0,x1]) (qq h)
namespace F264
def ann:Cg:=⟨[(4,[0,1,5,10,11]),(6,[0,1,5,10,11]),(7,[5])],[(3,[0,1,5,10,11])],[],[],wj⟩
def code:=cd f264
def BM:=tp f264
variable(K:VK)(y0 y1 y5 y10 y11:wm)(w:wn)
def k7:=nk ann 24 [(5,y5)] w [1,1,1] code (BM K)
def l3:=nl ann 24 [(0,y0),(1,y1),(5,y5),(10,y10),(11,y11)] w [1,1,0,1,0] code (BM K)
def k4:=nk ann 24 [(0,y0),(1,y1),(5,y5),(10,y10),(11,y11)] w [1,1,0,1,0,0,1,1] code (BM K)
def k6:=nk ann 24 [(0,y0),(1,y1),(5,y5),(10,y10),(11,y11)] w [1,1,0,1,0,0,1,1,1] code (BM K)
attribute [irreducible] k7 l3 k4 k6
end F264
def F264.k7.to(h:(K y5 w)):F264.k7 K y5 w:=qq h
def F264.l3.to(h:(U .lss y11 y10 w λa b=>Af a (F264.k4 K y0 y1 y5 y10 y11 b) (F264.k7 K y5 b))):F264.l3 K y0 y1 y5 y10 y11 w:=by unfold F264.l3 nl;exact BW (qq h)
def F264.k4.to(h:(Ae y0 w λa b=>Ab 1 a b λc d=>Ac c d λf g=>U .add y1 y11 g λi j=>AC 1 f i j λk m=>Aj 1 k (v6 wg 0) m λo=>F264.k6 K y0 y1 y5 y10 y11 o)):F264.k4 K y0 y1 y5 y10 y11 w:=qq h
def F264.k6.to(h:(U .add y11 (v6 wg 1) w λa b=>F264.l3 K y0 y1 y5 y10 a b)):F264.k6 K y0 y1 y5 y10 y11 w:=qq h
def F264.sh(h:(I Z 295 #[x0,x1] w λa b=>F264.l3 K x0 x1 a a (v6 wg 0) b)):I Z 264 #[x0,x1] w K:=BK (A:=F264.ann) (args:=[x0,x1]) (qq h)
namespace F283
def ann:=a1 [(3,[0,1])]
def code:=cd f283
def BM:=tp f283
variable(K:VK)(y0 y1:wm)(w:wn)
@[irreducible]def k3:=nk ann 27 [(0,y0),(1,y1)] w [1,1] code (BM K)
end F283
def F283.k3.to(h:(Ae y0 w λa b=>Ab 1 a b λc d=>Ac c d λf g=>AC 1 f y1 g λi j=>Ac i j λk m=>K k m)):F283.k3 K y0 y1 w:=qq h
def F283.sh(h:(AB Z .eql 234 (.tmp 5) (.const (v7 wj)) x0 (v7 wj) w λa b=>Aa wl a (λK=>K x1 b) b λc d=>Aa wl a (U .lss c (v6 wg 0) d) d λf g=>Aw (wh a) (wh (wd wk)) (wh f) g λi j=>Aa wl i (λK=>K x1 j) j λk m=>Aa wl i (λK=>K x0 m) m λo p=>Aa wl i (Ae o p) p λq r=>Aa wl i (Ab 1 q r) r λs t=>Aa wl i (Ac s t) t λu v=>Aa wl i (AD u v) v λx y=>Aa wl i (U .geq k x y) y λz aa=>Aw (wh i) (wh (wd wk)) (wh z) aa λab ac=>Af ab (K (v6 wg (-1)) ac) (F283.k3 K x0 x1 ac))):I Z 283 #[x0,x1] w K:=BK (A:=F283.ann) (args:=[x0,x1]) (qq h)
namespace F285
def ann:Cg:=⟨[(2,[0,1]),(3,[0,1]),(5,[1])],[(1,[0,1])],[],[],wj⟩
def code:=cd f285
def BM:=tp f285
variable(K:VK)(y0 y1:wm)(w:wn)
def k3:=nk ann 16 [(0,y0),(1,y1)] w [1,1] code (BM K)
def l1:=nl ann 16 [(0,y0),(1,y1)] w [1,0,0] code (BM K)
def k2:=nk ann 16 [(0,y0),(1,y1)] w [1,0,0,0,1] code (BM K)
def k5:=nk ann 16 [(1,y1)] w [1,1,1] code (BM K)
attribute [irreducible] k3 l1 k2 k5
end F285
def F285.k3.to(h:(I Z 295 #[y0,y1] w λa b=>U .eql a (v6 wg 0) b λc d=>Af c (K (v6 wg (-1)) d) (F285.k5 K y1 d))):F285.k3 K y0 y1 w:=qq h
def F285.l1.to(h:(I Z 283 #[y0,y1] w λa b=>U .eql a (v6 wg 6) b λc d=>Af c (F285.k2 K y0 y1 d) (F285.k3 K y0 y1 d))):F285.l1 K y0 y1 w:=by unfold F285.l1 nl;exact BW (qq h)
def F285.k2.to(h:(U .sub y1 (v6 wg 1) w λa b=>F285.l1 K y0 a b)):F285.k2 K y0 y1 w:=qq h
def F285.k5.to(h:(K y1 w)):F285.k5 K y1 w:=qq h
def F285.sh(h:(F285.l1 K x0 x1 w)):I Z 285 #[x0,x1] w K:=BK (A:=F285.ann) (args:=[x0,x1]) (qq h)
namespace F295
def ann:Cg:=⟨[(4,[0,1,5]),(6,[0,1]),(8,[0,1,6]),(9,[6])],[(7,[0,1,6])],[],[],wj⟩
def code:=cd f295
def BM:=tp f295
variable(K:VK)(y0 y1 y5 y6:wm)(w:wn)
def k4:=nk ann 24 [(0,y0),(1,y1),(5,y5)] w [1,1,1] code (BM K)
def k6:=nk ann 24 [(0,y0),(1,y1)] w [1,1,1,1] code (BM K)
def k9:=nk ann 24 [(6,y6)] w [1,1,1,1,1,1] code (BM K)
def l7:=nl ann 24 [(0,y0),(1,y1),(6,y6)] w [1,1,1,1,1,0,0] code (BM K)
def k8:=nk ann 24 [(0,y0),(1,y1),(6,y6)] w [1,1,1,1,1,0,0,0,1] code (BM K)
attribute [irreducible] k4 k6 k9 l7 k8
end F295
def F295.k4.to(h:(U .neq y5 (v6 wg 5) w λa b=>Af a (K (v6 wg 0) b) (F295.k6 K y0 y1 b))):F295.k4 K y0 y1 y5 w:=qq h
def F295.k6.to(h:(F295.l7 K y0 y1 (v6 wg 1) w)):F295.k6 K y0 y1 w:=qq h
def F295.k9.to(h:(K y6 w)):F295.k9 K y6 w:=qq h
def F295.l7.to(h:(U .add y1 y6 w λa b=>I Z 283 #[y0,a] b λc d=>U .eql c (v6 wg 6) d λf g=>Af f (F295.k8 K y0 y1 y6 g) (F295.k9 K y6 g))):F295.l7 K y0 y1 y6 w:=by unfold F295.l7 nl;exact BW (qq h)
def F295.k8.to(h:(U .add y6 (v6 wg 1) w λa b=>F295.l7 K y0 y1 a b)):F295.k8 K y0 y1 y6 w:=qq h
def F295.sh(h:(I Z 283 #[x0,x1] w λa b=>I Z 175 #[a] b λc d=>U .gtr c (v6 wg 0) d λf g=>Af f (K (v6 wg 1) g) (F295.k4 K x0 x1 a g))):I Z 295 #[x0,x1] w K:=BK (A:=F295.ann) (args:=[x0,x1]) (qq h)
end
noncomputable section
variable{K:VK}{w:wn}{x0 x1 y0 y1 y7 y8:wm}
namespace F125
def ann:Cg:=⟨[(3,[0,1,7,8]),(6,[0,1,7,8]),(7,[])],[(2,[0,1,7,8])],[],[],wj⟩
def code:=cd f125
def BM:=tp f125
variable(K:VK)(y0 y1 y7 y8:wm)(w:wn)
def k7:=nk ann 19 [] w [1,1] code (BM K)
def l2:=nl ann 19 [(0,y0),(1,y1),(7,y7),(8,y8)] w [1,0,1,0] code (BM K)
def k3:=nk ann 19 [(0,y0),(1,y1),(7,y7),(8,y8)] w [1,0,1,0,0,1,1] code (BM K)
def k6:=nk ann 19 [(0,y0),(1,y1),(7,y7),(8,y8)] w [1,0,1,0,0,1,1,1] code (BM K)
attribute [irreducible] k7 l2 k3 k6
end F125
def F125.k7.to(h:(K (v6 wg (-1)) w)):F125.k7 K w:=qq h
def F125.l2.to(h:(U .lss y8 y7 w λa b=>Af a (F125.k3 K y0 y1 y7 y8 b) (F125.k7 K b))):F125.l2 K y0 y1 y7 y8 w:=by unfold F125.l2 nl;exact BW (qq h)
def F125.k3.to(h:(AC 1 y0 y8 w λa b=>Ac a b λc d=>U .eql y1 c d λf g=>Af f (K y8 g) (F125.k6 K y0 y1 y7 y8 g))):F125.k3 K y0 y1 y7 y8 w:=qq h
def F125.k6.to(h:(U .add y8 (v6 wg 1) w λa b=>F125.l2 K y0 y1 y7 a b)):F125.k6 K y0 y1 y7 y8 w:=qq h
def F125.sh(h:(AD x0 w λa b=>F125.l2 K x0 x1 a (v6 wg 0) b)):I Z 125 #[x0,x1] w K:=BK (A:=F125.ann) (args:=[x0,x1]) (qq h)
def F85.sh(h:(I Z 125 #[x0,x1] w λa b=>U .geq a (v6 wg 0) b λc d=>K c d)):I Z 85 #[x0,x1] w K:=BK (A:=A0) (args:=[x0,x1]) (qq h)
end
end
section
open Go.Proofs Go.RowKit
structure Dg(w:wn)(b:Nat)(kv:wm)(ks:List Int):Prop where
 blk:w.heap[b]?=wh (wt #[wd wk,kv] 292 (0,0))
 own:BQ w kv 3 1 (BX ks)
 le:ks.length<=64
def Dg.keep{S:List Nat}{w w':wn}{b:Nat}{kv:wm}{ks:List Int}(h:Dg w b kv ks)(hf:Fr S w w')(hb:b∉S)(hS:∀g∈BN kv,g∉S):Dg w' b kv ks:=⟨hf.at_ h.blk hb,h.own.keep' hf hS,h.le⟩
def Dg.keep0{w w':wn}{b:Nat}{kv:wm}{ks:List Int}(h:Dg w b kv ks)(hf:Fr [] w w'):Dg w' b kv ks:=h.keep hf (by simp) (by simp)
section
variable{K:VK}{w:wn}{b:Nat}{kv:wm}{ks:List Int}
def Dg.nb(h:Dg w b kv ks):b∉BN kv:=h.own.nb h.blk (by decide)
def Gh{p:Int}(h:Dg w b kv ks)(hk:K (v6 wg (BT ks p)) w):I Z 283 #[v7 (wh ⟨b,0,wj⟩),v6 wg p] w K:=by
 refine F283.sh ⟨_,Ck _ _ _ Tryz.underlying234,?_⟩;simp only[zv];unfold BT at hk;by_cases c1:p<0
 ·simp only[zv,c1]
  rwa [vx (by omega)]at hk
 simp only[zv,c1];refine Ad (v:=kv) h.blk rfl (AH h.own.rd ?_);rw[Ca];by_cases c2:p≥(ks.length:Int)
 ·simp only[zv,c2]
  rwa [vx (by omega)]at hk
 simp only[zv,c2];rw[vy (by omega)]at hk;obtain⟨p,rfl⟩:=xU (show 0<=p by omega);have hp:p<ks.length:=by omega
 rw[zK,DC hp]at hk;refine F283.k3.to ?_;simp only[zv];exact Ad (v:=kv) h.blk rfl (AV h.own.rd hp λg o cs e fz hg hc=>Ad hg hc hk)
def H4(h:ks.length<=64){p:Int}(hp:BT ks p ≠ -1):0<=p/\p<ks.length:=by apply xI;intro hc;exact hp (Eg hc)
def Tf{p:Nat}(h:Dg w b kv ks)(hp:p<ks.length)(hk:K (v6 wg ((DI (ks.drop (p+1))+1:Nat):Int)) w):
  ∀(d n:Nat),ks.length=p+n+d->DI (ks.drop (p+n))+n=DI (ks.drop (p+1))+1->F295.l7 K (v7 (wh ⟨b,0,wj⟩)) (v6 wg (p:Int)) (v6 wg (n:Int)) w:=by
 have hle:=h.le;intro d;induction d with
 | zero=>
  intro n hn he;refine F295.l7.to ?_;simp only[A7];rw[BO (n:=(p:Int)+n) (by omega)];refine Gh h ?_;rw[Eg (by omega)];simp only[zv,show ¬((-1:Int)=6) by decide];rw[xZ (by omega)]at he;simp only[DI]at he;refine F295.k9.to ?_;rw[<-he,vd]at hk;exact hk
 | succ d ih=>
  intro n hn he;refine F295.l7.to ?_;simp only[A7];rw[BO (n:=(p:Int)+n) (by omega),show (p:Int)+n=((p+n:Nat):Int) by omega];refine Gh h ?_;have hpn:p+n<ks.length:=by omega
  rw[FP hpn];rw[xJ hpn]at he;have e:DI (ks[p+n]::ks.drop (p+n+1))=if ks[p+n]=6 then DI (ks.drop (p+n+1))+1 else 0:=rfl;rw[e]at he;by_cases c:ks[p+n]=6
  ·simp only[zv,vw,c];rw[vy c]at he;refine F295.k8.to ?_;simp only[A7];rw[BO (n:=(n:Int)+1) (by omega),show (n:Int)+1=((n+1:Nat):Int) by omega];exact ih (n+1) (by omega) (by rw[show p+(n+1)=p+n+1 by omega];omega)
  ·simp only[zv,c];rw[vx c,vd]at he;refine F295.k9.to ?_;rw[<-he]at hk;exact hk
def Ml{p:Int}(h:Dg w b kv ks)(hk:K (v6 wg (Cr ks p:Nat)) w):I Z 295 #[v7 (wh ⟨b,0,wj⟩),v6 wg p] w K:=by
 refine F295.sh (Gh h (Ei ?_));unfold Cr at hk;by_cases c:BV (BT ks p)>0
 ·simp only[zv,c]
  rwa [vy c]at hk
 simp only[zv,c];rw[vx c]at hk;refine F295.k4.to ?_;by_cases d:BT ks p=5
 ·simp only[zv,vw,vz,d,zW];rw[vy d]at hk;have hp:=H4 h.le (p:=p) (by rw[d];decide);obtain⟨p,rfl⟩:=xU hp.1;rw[zK]at hk;refine F295.k6.to (Tf (p:=p) h (by omega) hk (ks.length-p-1) 1 (by omega) rfl)
 ·simp only[zv,vz,d,zX]
  rwa [vx d]at hk
def QO(h:Dg w b kv ks):∀(p:Nat),(∀q,q=E4 ks p->K (v6 wg (if Cr ks q=0 then -1 else q)) w)->F285.l1 K (v7 (wh ⟨b,0,wj⟩)) (v6 wg (p:Int)) w:=by
 have hle:=h.le;have tail:∀q:Int,K (v6 wg (if Cr ks q=0 then -1 else q)) w->F285.k3 K (v7 (wh ⟨b,0,wj⟩)) (v6 wg q) w:=λq hq=>by
  refine F285.k3.to (Ml h ?_);by_cases c:Cr ks q=0
  ·rw[vy c]at hq;simp only[zv,show (((Cr ks q:Nat):Int)=0)=True by simp[c]];exact hq
  ·rw[vx c]at hq;simp only[zv,show (((Cr ks q:Nat):Int)=0)=False by simp;exact c];exact F285.k5.to hq
 intro p;induction p with
 | zero=>
  intro hk;have e:E4 ks 0=if BT ks 0=6 then -1 else 0:=rfl;refine F285.l1.to (Gh h ?_);by_cases c:BT ks 0=6
  ·simp only[zv,vw,show BT ks ((0:Nat):Int)=6 from c];rw[vy c]at e;refine F285.k2.to ?_;simp only[AN];rw[BO (n:=((0:Nat):Int)-1) (by omega),show ((0:Nat):Int)-1 = -1 from rfl];refine F285.l1.to (Gh h ?_);rw[Eg (by omega)];simp only[zv,show ¬((-1:Int)=6) by decide];exact tail _ (hk _ e.symm)
  ·simp only[zv,show ¬BT ks ((0:Nat):Int)=6 from c];rw[vx c]at e;exact tail _ (hk _ e.symm)
 | succ p ih=>
  intro hk;have e:E4 ks (p+1)=if BT ks ((p+1:Nat):Int)=6 then E4 ks p else ((p+1:Nat):Int):=rfl;refine F285.l1.to (Gh h ?_);by_cases c:BT ks ((p+1:Nat):Int)=6
  ·simp only[zv,vw,c];rw[vy c]at e;have hp:=H4 h.le (p:=((p+1:Nat):Int)) (by rw[c];decide);refine F285.k2.to ?_;simp only[AN];rw[BO (n:=((p+1:Nat):Int)-1) (by omega),show ((p+1:Nat):Int)-1=(p:Int) by omega];rw[e]at hk;exact ih hk
  ·simp only[zv,c];rw[vx c]at e;exact tail _ (hk _ e.symm)
def Vr{p:Int}(h:Dg w b kv ks)(hk:K (v6 wg (FA ks p)) w):I Z 285 #[v7 (wh ⟨b,0,wj⟩),v6 wg p] w K:=by
 refine F285.sh ?_;unfold FA at hk;by_cases c:0<=p
 ·obtain⟨p,rfl⟩:=xU c;simp only[c,vu,zK]at hk;exact QO h p λq hq=>by subst hq;exact hk
 ·simp only[c,vq]at hk;have:Cr ks p=0:=by unfold Cr;rw[Eg (by omega),vx (by decide),vx (by decide)]
  rw[vy this]at hk;refine F285.l1.to (Gh h ?_);rw[Eg (by omega)];simp only[zv,show ¬((-1:Int)=6) by decide];refine F285.k3.to (Ml h ?_);simp only[zv,this,show (((0:Nat):Int)=0)=True by simp];exact hk
def JA(hle:ks.length<=64)(p:Int):Cr ks p=0∨(0<=p/\p.toNat+Cr ks p<=ks.length):=by
 by_cases c:BV (BT ks p)>0
 ·have hp:=H4 hle (p:=p) (by intro e;rw[e]at c;exact absurd c (by decide));right;unfold Cr;rw[vy c];omega
 ·by_cases d:BT ks p=5
  ·have hp:=H4 hle (p:=p) (by rw[d];decide);right;unfold Cr;rw[vx c,vy d];have:=(Hw (ks.drop (p.toNat+1))).1;rw[i7]at this;omega
  ·left;unfold Cr;rw[vx c,vx d]
def MW{p n:Nat}{k:Int}(h:p+n+1<=ks.length):(Dj ks p n k).set (p+n) k=Dj ks p (n+1) k:=by
 unfold Dj;apply zL;intro i;rw[zO,Ks (by omega),Ks (by omega)];by_cases c:p+n=i
 ·subst c;rw[vy rfl,vy (by simp;omega),vy (by omega)]
 ·rw[vx c];by_cases d:p<=i/\i<p+n
  ·rw[vy d,vy (by omega)]
  ·rw[vx d,vx (by omega)]
def MX{p:Nat}{k:Int}:Dj ks p 0 k=ks:=by unfold Dj;simp
def Ih(l:List Int)(j:Nat)(n:Int):(BX l).set j [v6 wg n]=BX (l.set j n):=by simp[BX,vi]
def Sw{W:wn}{p n:Nat}{y:wm}(hW:Dg W b kv ks)(hp:p+n<=ks.length)(hk:∀w',Fr (BN kv) W w'->Dg w' b kv (Dj ks p n 0)->K y w'):
  ∀(d j:Nat) (w:wn),n=j+d->Fr (BN kv) W w->Dg w b kv (Dj ks p j 0)->F264.l3 K (v7 (wh ⟨b,0,wj⟩)) (v6 wg (p:Int)) y (v6 wg (n:Int)) (v6 wg (j:Int)) w:=by
 have hle:=hW.le;intro d;induction d with
 | zero=>
  intro j w hd hf hP;refine F264.l3.to ?_;simp only[zv,show ¬((j:Int)<(n:Int)) by omega];rw[show j=n by omega]at hP;exact F264.k7.to (hk w hf hP)
 | succ d ih=>
  intro j w hd hf hP;refine F264.l3.to ?_;simp only[zv,show ((j:Int)<(n:Int)) by omega];refine F264.k4.to ?_;simp only[zv];refine Ad (v:=kv) hP.blk rfl ?_;rw[BO (n:=(p:Int)+j) (by omega),show (p:Int)+j=((p+j:Nat):Int) by omega];have hl:=D6 (ks:=ks) (p:=p) (n:=j) (k:=0) (by omega);refine Bi (x:=v6 wg 0) hP.own (by omega) (by rw[Ca,hl];omega) rfl (by intro u hu;simp[wm.cells]at hu;subst hu;rfl) λw1 ho1 hf1 _=>?_
  rw[zK]at ho1;have ho1:BQ w1 kv 3 1 (BX (Dj ks p (j+1) 0)):=by rw[<-MW (by omega), <-Ih];exact ho1
  refine F264.k6.to ?_;simp only[A7];rw[BO (n:=(j:Int)+1) (by omega),show (j:Int)+1=((j+1:Nat):Int) by omega];exact ih (j+1) w1 (by omega) (hf.trans (hf1.mono λx hx=>hx)) ⟨hf1.at_ hP.blk hP.nb,ho1,by rw[D6 (by omega)];exact hle⟩
def PA{p:Int}(h:Dg w b kv ks)(hk:∀w',Fr (BN kv) w w'->Dg w' b kv (Ii ks p)->K (v6 wg (Cr ks p:Nat)) w'):I Z 264 #[v7 (wh ⟨b,0,wj⟩),v6 wg p] w K:=by
 refine F264.sh (Ml h ?_);unfold Ii at hk;rcases JA h.le p with e|⟨hp,hl⟩
 ·rw[vy e]at hk;rw[e]at hk ⊢;refine F264.l3.to ?_;simp only[zv,show ¬((0:Int)<((0:Nat):Int)) by omega];exact F264.k7.to (hk w (Fr.refl _ _) h)
 ·by_cases e:Cr ks p=0
  ·rw[vy e]at hk;rw[e]at hk ⊢;refine F264.l3.to ?_;simp only[zv,show ¬((0:Int)<((0:Nat):Int)) by omega];exact F264.k7.to (hk w (Fr.refl _ _) h)
  ·rw[vx e]at hk;obtain⟨p,rfl⟩:=xU hp;rw[zK]at hl hk;exact Sw h hl hk _ 0 w (by rw[vd]) (Fr.refl _ _) (by rw[MX];exact h)
def P5{a:wm}{x:List Int}{n:Int}(ha:Cp w a 1 (BX x))(h1:∀j:Nat,x[j]?=wh n->(∀i,i<j->x[i]?≠wh n)->K (v6 wg (j:Int)) w)(h2:n∉x->K (v6 wg (-1)) w):I Z 125 #[a,v6 wg n] w K:=by
 have hle:=ha.le;rw[Ca]at hle;refine F125.sh (AH ha ?_);rw[Ca];have key:∀(d j:Nat),x.length=j+d->(∀i,i<j->x[i]?≠wh n)->F125.l2 K a (v6 wg n) (v6 wg (x.length:Int)) (v6 wg (j:Int)) w:=by
  intro d;induction d with
  | zero=>
   intro j hd hno;refine F125.l2.to ?_;simp only[zv,show ¬((j:Int)<(x.length:Int)) by omega];refine F125.k7.to (h2 λhm=>?_);obtain⟨i,hi,e⟩:=yW hm;exact hno i (by omega) (by rw[xS hi,e])
  | succ d ih=>
   intro j hd hno;have jx:j<x.length:=by omega
   refine F125.l2.to ?_;simp only[zv,show ((j:Int)<(x.length:Int)) by omega];refine F125.k3.to (AV ha jx λg o cs e fz hg hc=>Ad hg hc ?_);simp only[Ay];by_cases hn:n=x[j]
   ·rw[ur hn];simp only[Ah];exact h1 j (by rw[xS jx,hn]) hno
   ·simp only[zv,hn];refine F125.k6.to ?_;simp only[A7];rw[BO (n:=(j:Int)+1) (by omega),show (j:Int)+1=((j+1:Nat):Int) by omega];refine ih (j+1) (by omega) λi hi=>?_;by_cases e:i=j
    ·subst e;rw[xS jx];intro hc;exact hn (p6 hc).symm
    ·exact hno i (by omega)
 exact key x.length 0 (by omega) λi hi=>by omega
def II{a:wm}{x:List Int}{n:Int}(ha:Cp w a 1 (BX x))(h:K (wd (decide (n∈x))) w):I Z 85 #[a,v6 wg n] w K:=by
 refine F85.sh (P5 ha (λj hj _=>?_) λhn=>?_)
 ·simp only[zv,show ((j:Int)≥0) by omega]
  rwa [ur (yR hj)]at h
 ·simp only[zv,show ¬((-1:Int)≥0) by omega]
  rwa [p9 hn]at h
def Uo{k:Int}(hk:BV k≠0){j:Nat}(hj:ks[j]?=wh 0)(hno:∀i,i<j->ks[i]?≠wh 0):FM ks k=wh j:=by unfold FM;rw[vx hk,wS];obtain⟨h1,h2⟩:=xM.1 hj;refine⟨h1,by simpa using h2,λi hi=>?_⟩;have:=hno i hi;rw[xS (by omega)]at this;simpa using this
def Ow{k:Int}(h:BV k=0∨0∉ks):FM ks k=wj:=by
 unfold FM;by_cases c:BV k=0
 ·rw[vy c]
 ·rw[vx c,xK];rcases h with h|h
  ·exact absurd h c
  ·intro x hx;simp only[xY];exact λe=>h (e ▸ hx)
def V5{k:Int}(h:Dg w b kv ks)(h0:FM ks k=wj->K (wc #[v6 wg 0,wd wl]) w)(h1:∀p w',FM ks k=wh p->p<ks.length->Fr (BN kv) w w'->Dg w' b kv (ks.set p k)->K (wc #[v6 wg (p:Int),wd wk]) w'):
  I Z 252 #[v7 (wh ⟨b,0,wj⟩),v6 wg k] w K:=by
 refine F252.sh ⟨_,Ck _ _ _ Tryz.underlying234,?_⟩;simp only[zv];refine Ei ?_;by_cases c:BV k=0
 ·simp only[zv,vw,c];exact h0 (Ow (.inl c))
 simp only[zv,c];refine F252.k3.to ?_;simp only[zv];refine Ad (v:=kv) h.blk rfl (P5 h.own.rd (λj hj hno=>?_) λhn=>?_)
 ·have hjl:=(xM.1 hj).1;simp only[zv,show ¬((j:Int)<0) by omega];refine F252.k6.to ?_;simp only[zv];refine Ad (v:=kv) h.blk rfl ?_;refine Bi (x:=v6 wg k) h.own (by omega) (by rw[Ca];omega) rfl (by intro u hu;simp[wm.cells]at hu;subst hu;rfl) λw1 ho1 hf1 _=>?_;rw[zK]at ho1;exact h1 j w1 (Uo c hj hno) hjl hf1 ⟨hf1.at_ h.blk h.nb,by rw[<-Ih];exact ho1,by simpa using h.le⟩
 ·simp only[zv,show ((-1:Int)<0) by omega];exact h0 (Ow (ws hn))
end
structure DZ(w:wn)(lr:Nat)(st:LoopState)(pe:Option Code)(n:Nat)(ps:Array Tmp)(aa bd:Code)(env:C1):Prop where
 at_:∃r,w.heap[lr]?=wh (.loop r)/\r.state=st/\r.pending=pe/\r.tmps.size=n/\r.params=ps/\r.assign=aa/\r.body=bd/\∀t v,Hs env t=wh v->r.tmps[t]?=wh v
section
variable{w:wn}{lr:Nat}{st:LoopState}{pe:Option Code}{n:Nat}{ps:Array Tmp}{aa bd:Code}{env:C1}
def DZ.keep{S:List Nat}{w':wn}(h:DZ w lr st pe n ps aa bd env)(hf:Fr S w w')(hS:lr∉S):DZ w' lr st pe n ps aa bd env:=by obtain⟨r,h1,h2⟩:=h.at_;exact⟨r,hf.at_ h1 hS,h2⟩
def CZ{a b:Nat}{o o':Obj}(h:w.heap[a]?=wh o)(h':w.heap[b]?=wh o')(hne:o≠o'):a≠b:=λe=>by
 subst e;rw[h]at h';exact hne (p6 h')
def DZ.off{b:Nat}{o:Obj}(h:DZ w lr st pe n ps aa bd env)(hb:w.heap[b]?=wh o)(hne:∀r,o ≠ .loop r):b≠lr:=by obtain⟨r,h1,_⟩:=h.at_;exact CZ hb h1 (hne r)
def DZ.offS{v:wm}{e:TypeId}{sz:Nat}{xs:List (List wm)}(h:DZ w lr st pe n ps aa bd env)(ho:BQ w v e sz xs):lr∉BN v:=by obtain⟨r,h1,_⟩:=h.at_;exact ho.no h1 (by simp)
def DZ.begin_{F:wn->Prop}(h:DZ w lr .ready pe n ps aa bd env)(hk:∀w',Fr [lr] w w'->DZ w' lr .busy pe n ps aa bd env->F w'):B1 lr w F:=by obtain⟨r,h1,h2,h3,h4⟩:=h.at_;have hu:=Kw (o := .loop { r with state := .busy }) h1;exact⟨r,h1,h2,hk _ hu.fr ⟨_,hu.at_,rfl,h3,h4⟩⟩
def DZ.end_{K:VK}{pe':Option Code}{b:Bool}{st':LoopState}(h:DZ w lr st pe n ps aa bd env)(hk:∀w',Fr [lr] w w'->DZ w' lr st' pe' n ps aa bd env->K (wd b) w'):Bz lr pe' b st' w K:=by obtain⟨r,h1,h2,h3,h4⟩:=h.at_;have hu:=Kw (o := .loop { r with state:=st',pending:=pe' }) h1;exact⟨r,h1,hk _ hu.fr ⟨_,hu.at_,rfl,rfl,h4⟩⟩
def KD{P:wq}{f:Nat}{first captured:Array wm}{K:Nat->Option Code->wn->Prop}(hb:DK P f=wk)(h:∀lr D w1,Fr [] w w1->w.heap.size<=lr->w.heap.size<=D->DZ w1 lr .ready wj n ps aa bd env->w1.heap[D]?=wh (.deferred (wh []))->
   I P f (first.toList++([wm.func (.yield lr) #[] #[]]++captured.toList)).toArray w1 λ_ w2=>∃rec,w2.heap[lr]?=wh (.loop rec)/\rec.state ≠ .busy/\K D rec.pending (w2.putObj lr (.loop { rec with state := .exhausted }))):
  Bj P n (.func (.func f) first captured) ps aa bd env w K:=by
 simp only[Bj,hb,vp];intro fn tmps hsz henv;have hw3:=DE.mk' w (.deferred (wh []));have hw4:=DE.mk' (w.alloc (.deferred (wh []))) (.loop { state := .ready,pending:=wj,fn:=fn,tmps:=tmps,params:=ps,assign:=aa,body:=bd,defers:=w.heap.size });have z3:=hw3.sz;have hD4:=hw4.fr.at_ hw3.at_ (by simp);have hl4:=hw4.at_;rw[z3]at hl4
 exact h (w.heap.size+1) w.heap.size _ (hw3.fr.trans hw4.fr) (by omega) (vl _) ⟨_,hl4,rfl,rfl,hsz,rfl,rfl,rfl,henv⟩ hD4
def DZ.exit_(h:DZ w lr st pe n ps aa bd env)(hst:st ≠ .busy):∃rec,w.heap[lr]?=wh (.loop rec)/\rec.state ≠ .busy/\rec.pending=pe/\Fr [lr] w (w.putObj lr (.loop { rec with state := .exhausted })):=by obtain⟨r,h1,h2,h3,h4⟩:=h.at_;have hu:=Kw (o := .loop { r with state := .exhausted }) h1;exact⟨r,h1,by rw[h2];exact hst,h3,hu.fr⟩
def KZ{D:Nat}{F:wn->Prop}(h:w.heap[D]?=wh (.deferred (wh [])))(hk:∀w',Fr [D] w w'->F w'):Be (v6 wg (D:Int)) w F:=by have hu:=Kw (o := .deferred wj) h;refine⟨by rw[zK];exact h,?_⟩;rw[zK];exact hk _ hu.fr
end
end
end Go.Proofs.QV
