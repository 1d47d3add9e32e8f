/- Part 10 of what the law needs: own lemmas, in the order in which they build. -/
import Derived.Laws.AppendOwn
import Derived.Test.YtcakfaakbpdklaaGreatDoorProg
import Derived.Test.YtcakfaakbpdklaaGreatDoorTopEnds09
set_option linter.defProp false
set_option linter.unusedSimpArgs false
set_option linter.unusedVariables false
set_option maxRecDepth 100000
namespace Go.Proofs.QV
open Go Go.Proofs Go.Proofs.Tryz
open Go.Proofs.Tryz renaming prog->Z
open Go.IntKind renaming i64->wg
open Go.Value renaming int->v6,pointer->v7,slice->v8,tuple->wc,bool->wd,agg->we
open Option renaming some->wh
open Option renaming none->wj
open Bool renaming true->wk
open Bool renaming false->wl
open Go renaming Value->wm
open Go renaming World->wn
open Go renaming Program->wq
open Or renaming inl->wr
open Or renaming inr->ws
open Go.Obj renaming cells->wt
section
open Go.RowKit
section
variable{K:VK}{A:Ci}{g:Gw}{cf:Cf}{B:Int}{x:Ma}{w:wn}
def BE{f:Fn}{a b:Array wm}{X:Prop}(hf:∀l,f ≠ .yield l)(h:X):B6 (.func f a b) X:=⟨λl _ _ e=>hf l (by injection e),h⟩
def Ee(x:Ma):Prop:=∀t:Int,Lw (x.co.roots t)
def Ma.rchT(x:Ma)(n:Nat):List Int:=(List.range n).foldl (λ(out:List Int) (t:Nat)=>CM out (x.co.roots (t:Int))) [x.co.global]
def Im(x:Ma)(n:Nat):x.rchT (n+1)=CM (x.rchT n) (x.co.roots (n:Int)):=by unfold Ma.rchT;rw[o8,List.foldl_append];rfl
def Zu(a:Int):DO [a]:=⟨by simp,by simp,λx hx=>by cases hx⟩
theorem IF(x:Ma)(hr:Ee x):∀n,DO (x.rchT n)
 | 0=>Zu _
 | n+1=>by rw[Im];exact (IF x hr n).note _ (hr _)
def Oh(x:Ma)(a:Int):(x.flds a).length<=127:=by have:=Hv (s:=x.co.s) a;unfold Ma.flds;rw[j9,zP];omega
theorem Lj(x:Ma):∀(d i:Nat) {out:List Int},DO out->DO (x.rchGo d i out)
 | 0,i,out,h=>h
 | d+1,i,out,h=>by
  unfold Ma.rchGo;split
  ·exact Lj x d (i+1) (h.note _ (Kl x _))
  ·exact h
def QZ(yb:Nat):wm := .func (.func 84) #[] #[v7 (wh ⟨yb,0,wj⟩)]
def Pb{W:wn}{c yb:Nat}(h0:BS A g cf B W x)(hr:Ee x)(hc:W.heap[c]?=wh (wt #[v7 (wh ⟨A.ma,0,wj⟩)] 49 (0,0))){n:Nat}(hn:cf.threads=(n:Int))(hk:∀w',G7 W yb (x.rch0 cf) w'->F48.k8 K (v7 (wh ⟨c,0,wj⟩)) (v7 (wh ⟨yb,0,wj⟩)) (QZ yb) w'):
  ∀(d i:Nat) (w:wn),i+d=n->G7 W yb (x.rchT i) w->
   F48.l4 K (v7 (wh ⟨c,0,wj⟩)) (v7 (wh ⟨yb,0,wj⟩)) (QZ yb) (v6 wg (n:Int)) (v6 wg (i:Int)) w:=by
 have hth:=h0.fine.th;intro d;induction d with
 | zero=>
  intro i w hi hs;have e:i=n:=by omega
  subst e;refine F48.l4.to ?_;simp only[zv,show ¬((i:Int)<(i:Int)) by omega];refine hk w ?_;have:x.rch0 cf=x.rchT i:=by unfold Ma.rch0 Ma.rchT;rw[hn,zK]
  rw[this];exact hs
 | succ d ih=>
  intro i w hi hs;have h:=h0.keep0 hs.fr;refine F48.l4.to ?_;simp only[zv,show (i:Int)<(n:Int) by omega];refine F48.k5.to (Ad (v:=v7 (wh ⟨A.ma,0,wj⟩)) (hs.fr.at_ hc (by simp)) rfl ?_)
  try simp only[zv]
  refine Ad (v:=v7 (wh ⟨A.Q.co,0,wj⟩)) h.blk rfl ?_;refine H8 h.co λv w1 hf1 ho1 hn1=>?_;refine RA (by have:=Nj h (i:Int);omega) (hr _) (IF x hr i) (hs.keep hf1) ho1 λw2 hs2=>?_;refine F48.k7.to ?_
  try simp only[A7]
  rw[BO (n:=(i:Int)+1) (by omega)];exact ih (i+1) w2 (by omega) (by rw[Im];exact hs2)
def Xf{W:wn}{c yb:Nat}(h0:BS A g cf B W x)(hc:W.heap[c]?=wh (wt #[v7 (wh ⟨A.ma,0,wj⟩)] 49 (0,0))){fin:List Int}(hk:∀w',G7 W yb fin w'->F48.k12 K (v7 (wh ⟨c,0,wj⟩)) (v7 (wh ⟨yb,0,wj⟩)) w'):
  ∀(d i:Nat) (w:wn) (out:List Int),i+d=2050->DO out->x.rchGo d i out=fin->G7 W yb out w->
   F48.l9 K (v7 (wh ⟨c,0,wj⟩)) (v7 (wh ⟨yb,0,wj⟩)) (QZ yb) (v6 wg (i:Int)) w:=by
 intro d;induction d with
 | zero=>
  intro i w out hi hok he hs;obtain⟨v,v1,v2,v3⟩:=hs.ex;have hle:=hok.le;refine F48.l9.to (Ad v1 rfl (AH v3.rd ?_));rw[Ca];simp only[zv,show ¬((i:Int)<(out.length:Int)) by omega];have:out=fin:=he;exact hk w (by rw[<-this];exact hs)
 | succ d ih=>
  intro i w out hi hok he hs;obtain⟨v,v1,v2,v3⟩:=hs.ex;have hle:=hok.le;refine F48.l9.to (Ad v1 rfl (AH v3.rd ?_));rw[Ca];unfold Ma.rchGo at he;by_cases hlt:i<out.length
  ·rw[vy hlt,DC hlt]at he;simp only[zv,show (i:Int)<(out.length:Int) by omega];refine F48.k11.to (A9 (λw'=>Fr [] W w') λw1 hf1 _=>⟨hs.fr.trans hf1,?_⟩);have hs1:=hs.keep hf1;obtain⟨v,v1,v2,v3⟩:=hs1.ex;refine Au (λw' hw=>⟨_,_,_,hw.at_ hc (by simp),rfl⟩) ⟨Ad v1 rfl ⟨hs1.fr,?_⟩,trivial⟩;refine AV v3.rd hlt λg1 o1 cs1 e1 fz1 hg1 hc1=>⟨Ad hg1 hc1 ⟨hs1.fr,?_⟩,trivial⟩
   refine⟨HU (h0.keep0 hs1.fr) λu w2 hf2 hn2 ho2=>⟨hs1.fr.trans hf2,?_⟩,trivial⟩;refine⟨BE (by intro l e;cases e) (RA (by have:=Oh x out[i];omega) (Kl x _) hok (hs1.keep hf2) ho2 λw3 hs3=>⟨hs3.fr,?_⟩),trivial⟩;refine F48.k10.to ?_
   try simp only[A7]
   rw[BO (n:=(i:Int)+1) (by omega)];exact ih (i+1) w3 _ (by omega) (hok.note _ (Kl x _)) he hs3
  ·rw[vx hlt]at he;simp only[zv,show ¬((i:Int)<(out.length:Int)) by omega];exact hk w (by rw[<-he];exact hs)
def RL(h:BS A g cf B w x)(hr:Ee x)(hk:∀v w',Fr [] w w'->BY w v->BQ w' v 3 1 (BX (E7 x.co.s.serial (x.rch cf)))->K v w'):I Z 48 #[v7 (wh ⟨A.ma,0,wj⟩)] w K:=by
 have hth:=h.fine.th;obtain⟨n,hn⟩:=xU (show 0<=cf.threads by omega);refine F48.sh (Ar λc w1 hn1=>?_);have h1:=h.keep0 hn1.fr;have c1:w1.heap[c]?=wh (wt #[v7 (wh ⟨A.ma,0,wj⟩)] 49 (0,0)):=hn1.at_;refine Ad (v:=v7 (wh ⟨A.ma,0,wj⟩)) c1 rfl ?_
 try simp only[zv]
 refine Ad (v:=v7 (wh ⟨A.Q.co,0,wj⟩)) h1.blk rfl ?_;refine MG h1.co (A4 (X6 _) ?_);have hw2:=DE.mk' w1 (wt #[v6 wg x.co.global] 3);generalize hW2:w1.alloc (wt #[v6 wg x.co.global] 3)=w2 at hw2;refine Ar λyb w3 hn3=>?_;have l3:=hn3.is;have s2:=hw2.fr.size;have ho:BQ w2 (v8 (wh ⟨w1.heap.size,0,wj⟩) 1 1) 3 1 (BX [x.co.global]):=BQ.of_block (sz:=1) hw2.at_ rfl (by decide) (by decide) rfl (by
  intro y hy;refine⟨?_,Ig y hy⟩;simp only[BX,uw,u6,zF]at hy;subst hy;rfl) rfl
 have ho3:=ho.keep hn3.fr (by simp);refine AI hn3.at_ rfl rfl (by simp) λw4 hu4=>?_;have hyb:yb∉BN (v8 (wh ⟨w1.heap.size,0,wj⟩) 1 1):=ho3.nb hn3.at_ (by decide);have f4:Fr [] w1 w4:=(hw2.fr.trans hn3.fr).then hu4.fr (λq hq=>ws (by simp only[zF]at hq;omega))
 have hs4:G7 w1 yb (x.rchT 0) w4:=⟨f4,by omega,_,hu4.at_,λq hq=>by simp only[wm.ownBlock,zS]at hq;omega,ho3.keep' hu4.fr λq hq c=>hyb (by simp only[zF]at c;rw[<-c];exact hq)⟩;refine Ad (v:=v7 (wh ⟨A.ma,0,wj⟩)) (f4.at_ c1 (by simp)) rfl ?_
 try simp only[zv]
 refine Ad (v:=v6 wg cf.threads) (h1.keep0 f4).blk rfl ?_;rw[hn];refine Pb (W:=w1) h1 hr c1 hn (λw5 hs5=>?_) n 0 w4 (by omega) hs4;refine F48.k8.to ?_;have hok:DO (x.rch0 cf):=by
  have:x.rch0 cf=x.rchT n:=by unfold Ma.rch0 Ma.rchT;rw[hn,zK]
  rw[this];exact IF x hr n
 refine Xf (W:=w1) (fin:=x.rch cf) h1 c1 (λw6 hs6=>?_) 2050 0 w5 _ (by omega) hok rfl hs5;obtain⟨v,v1,v2,v3⟩:=hs6.ex;have hyv:yb∉BN v:=v3.nb v1 (by decide);refine F48.k12.to (Ad v1 rfl (TF h1 hs6.fr v2 v3 (hs6.fr.at_ c1 (by simp)) (by decide) (by have:=(Lj x 2050 0 hok).le;unfold Ma.rch;omega) λw7 hf7 ho7=>?_));refine Ad (hf7.at_ v1 hyv) rfl (hk v w7 ?_ (v2.mono hn1.fr.size) ho7)
 exact hn1.fr.trans (hs6.fr.then hf7 λq hq=>ws (v2.blk q hq))
end
def Ma.rowsV(x:Ma)(n:Nat):List (List Va):=(List.range n).map λt:Nat=>x.sers (x.co.roots (t:Int))
def Ma.node(x:Ma)(a:Int):Nd:=(x.co.s.serial a,x.sers (x.flds a))
def Ma.view(cf:Cf)(x:Ma):Vw:=(x.rowsV cf.threads.toNat,(E7 x.co.s.serial (x.rch cf)).map x.node)
structure G3(W:wn)(yb:Nat)(L:List (List Va))(N:List Nd)(w:wn):Prop where
 fr:Fr [] W w
 hy:W.heap.size<=yb
 ex:∃rv nv vs fs,w.heap[yb]?=wh (wt #[rv,nv] 46 (0,0))/\Dq W.heap.size w rv L vs/\CV W.heap.size w nv N fs
def Dq.keep0{lo:Nat}{w w':wn}{rv:wm}{L:List (List Va)}{vs:List wm}(h:Dq lo w rv L vs)(hf:Fr [] w w'):Dq lo w' rv L vs:=h.keep hf λg hg=>by cases hg
def CV.keep0{lo:Nat}{w w':wn}{nv:wm}{N:List Nd}{fs:List wm}(h:CV lo w nv N fs)(hf:Fr [] w w'):CV lo w' nv N fs:=h.keep hf λg hg=>by cases hg
def G3.keep{W w w':wn}{yb:Nat}{L:List (List Va)}{N:List Nd}(h:G3 W yb L N w)(hf:Fr [] w w'):G3 W yb L N w':=by obtain⟨rv,nv,vs,fs,e1,e2,e3⟩:=h.ex;exact⟨h.fr.trans hf,h.hy,rv,nv,vs,fs,hf.at_ e1 (by simp),e2.keep0 hf,e3.keep0 hf⟩
def BQ.at_blk{w:wn}{v:wm}{e:TypeId}{sz:Nat}{xs:List (List wm)}(h:BQ w v e sz xs){q:Nat}(hq:q∈BN v):∃cs e' fz,w.heap[q]?=wh (wt cs e' fz)/\e'=e:=by
 obtain⟨⟨h1,h2⟩,h3⟩:=h;rcases h2 with⟨rfl,h2⟩|⟨g,cap,cur,rfl,hb,hg,h4,h5,h6,h7⟩
 ·simp[BN,wm.ownBlock]at hq
 ·have:q=g:=by simpa[BN,wm.ownBlock] using hq
  subst this;exact⟨_,_,_,hg,rfl⟩
section
variable{K:VK}{A:Ci}{g:Gw}{cf:Cf}{B:Int}{x:Ma}{w:wn}
def YM(A:Option Addr)(n c:Nat):(Instr.buildSlice 43 1 #[(0,v8 A n c)]).run Z w=.ok (v8 (wh ⟨w.heap.size,0,wj⟩) 1 1) (w.alloc (wt #[v8 A n c] 56)):=by kernel_rfl
def YK(s:Int)(A:Option Addr)(n c:Nat):(Instr.buildSlice 44 1 #[(0,we #[v6 wg s,v8 A n c])]).run Z w=.ok (v8 (wh ⟨w.heap.size,0,wj⟩) 1 1) (w.alloc (wt #[v6 wg s,v8 A n c] 58)):=by kernel_rfl
def Z2(s:Int)(A:Option Addr)(n c:Nat):(Instr.build 58 #[(0,v6 wg s),(1,v8 A n c)]).run Z w=.ok (we #[v6 wg s,v8 A n c]) w:=by kernel_rfl
def PD{W:wn}{yb:Nat}{rv nv u s:wm}{vs fs:List wm}{L:List (List Va)}{N:List Nd}{l:List Va}{X:wn->Prop}(hf:Fr [] W w)(hy:W.heap.size<=yb)(hb:w.heap[yb]?=wh (wt #[rv,nv] 46 (0,0)))(hR:Dq W.heap.size w rv L vs)(hN:CV W.heap.size w nv N fs)(hL:L.length<=100000)(hu:BQ w u 60 2 (Cz l))(hul:BY W u)(hs:Cp w s 1 (G4 [u]))(hk:∀w',G3 W yb (L++[l]) N w'->X w'):
  Am Z (Builtin.append_ #[43,43] 43 #[rv,s]) w λx w1=>(Fr [] W w1/\(Aj 1 (v7 (wh ⟨yb,0,wj⟩)) x w1 λw3=>(Fr [] W w3/\X w3))/\True):=by
 have hvl:(G4 vs).length=L.length:=by rw[M7,hR.len]
 refine Bg (W0:=W) (e:=56) (sz:=1) (bytes:=24) (z:=v8 wj 0 0) Tryz.underlying43 (by kernel_rfl) rfl (by decide) hf (λq hq=>hR.ge q (Cb.2 hq)) hR.sp hs ?_ ?_ ?_ λv' w1 hf1 hn1 ho1 hf1' hg1=>⟨hf1,?_⟩
 ·intro y hy u' hu';simp only[G4,uw,u6,zF]at hy;subst hy;rw[zF.1 hu'];exact hu.one.1
 ·rw[hvl];simp[G4];omega
 ·rw[hvl];simp[G4];omega
 have hyr:yb∉BN rv:=hR.sp.nb hb (by decide);have hb1:=hf1'.at_ hb hyr;have hR1:=hR.snoc hf.size hf1' hg1 ho1 hu (λq hq=>hul.blk q hq);have hN1:=hN.keep hf1' λq hq=>ws (ws (by
  obtain⟨cs,e,fz,a1,a2⟩:=hR.sp.at_blk hq;exact⟨cs,e,fz,a1,by rw[a2];decide,by rw[a2];decide⟩))
 refine⟨AI hb1 ho1.one.2 ho1.one.1 (by simp) λw3 hu3=>?_,trivial⟩;have hf3:Fr [] W w3:=hf1.then hu3.fr λq hq=>ws (by simp only[zF]at hq;omega);have hyS:∀q∈[yb],q<W.heap.size∨w1.heap.size<=q∨∃cs e fz,w1.heap[q]?=wh (wt cs e fz)/\e≠56/\e≠60:=λq hq=>by
  rw[zF.1 hq];exact ws (ws ⟨_,_,_,hb1,by decide,by decide⟩)
 have hyS':∀q∈[yb],q<W.heap.size∨w1.heap.size<=q∨∃cs e fz,w1.heap[q]?=wh (wt cs e fz)/\e≠58/\e≠60:=λq hq=>by
  rw[zF.1 hq];exact ws (ws ⟨_,_,_,hb1,by decide,by decide⟩)
 exact⟨hf3,hk w3 ⟨hf3,hy,v',nv,vs++[u],fs,hu3.at_,hR1.keep hu3.fr hyS,hN1.keep hu3.fr hyS'⟩⟩
def NG{W:wn}{yb:Nat}{rv nv u s:wm}{vs fs:List wm}{L:List (List Va)}{N:List Nd}{nd:Nd}{X:wn->Prop}(hf:Fr [] W w)(hy:W.heap.size<=yb)(hb:w.heap[yb]?=wh (wt #[rv,nv] 46 (0,0)))(hR:Dq W.heap.size w rv L vs)(hN:CV W.heap.size w nv N fs)(hL:N.length<=100000)(hu:BQ w u 60 2 (Cz nd.2))(hul:BY W u)(hs:Cp w s 2 [[v6 wg nd.1,u]])(hk:∀w',G3 W yb L (N++[nd]) w'->Fr (yb::BN nv) w w'->X w'):
  Am Z (Builtin.append_ #[44,44] 44 #[nv,s]) w λx w1=>(Fr [] W w1/\(Aj 1 (v7 (wh ⟨yb,1,wj⟩)) x w1 λw3=>(Fr [] W w3/\X w3))/\True):=by
 have hvl:(JF N fs).length=N.length:=M1 hN.len;refine Bg (W0:=W) (e:=58) (sz:=2) (bytes:=32) (z:=we #[v6 wg 0,v8 wj 0 0]) Tryz.underlying44 (by kernel_rfl) rfl (by decide) hf (λq hq=>hN.ge q (Cb.2 hq)) hN.sp hs ?_ ?_ ?_ λv' w1 hf1 hn1 ho1 hf1' hg1=>⟨hf1,?_⟩
 ·intro y hy u' hu';rw[zF.1 hy]at hu';simp only[ux,i9,vt]at hu';rcases hu' with rfl|rfl
  ·rfl
  ·exact hu.one.1
 ·rw[hvl];simp;omega
 ·rw[hvl];simp;omega
 have hyr:yb∉BN nv:=hN.sp.nb hb (by decide);have hb1:=hf1'.at_ hb hyr;have hN1:=hN.snoc hf.size hf1' hg1 ho1 hu (λq hq=>hul.blk q hq);have hR1:=hR.keep hf1' λq hq=>ws (ws (by
  obtain⟨cs,e,fz,a1,a2⟩:=hN.sp.at_blk hq;exact⟨cs,e,fz,a1,by rw[a2];decide,by rw[a2];decide⟩))
 refine⟨AI hb1 ho1.one.2 ho1.one.1 (by simp) λw3 hu3=>?_,trivial⟩;have hf3:Fr [] W w3:=hf1.then hu3.fr λq hq=>ws (by simp only[zF]at hq;omega);have hyS:∀q∈[yb],q<W.heap.size∨w1.heap.size<=q∨∃cs e fz,w1.heap[q]?=wh (wt cs e fz)/\e≠56/\e≠60:=λq hq=>by
  rw[zF.1 hq];exact ws (ws ⟨_,_,_,hb1,by decide,by decide⟩)
 have hyS':∀q∈[yb],q<W.heap.size∨w1.heap.size<=q∨∃cs e fz,w1.heap[q]?=wh (wt cs e fz)/\e≠58/\e≠60:=λq hq=>by
  rw[zF.1 hq];exact ws (ws ⟨_,_,_,hb1,by decide,by decide⟩)
 exact⟨hf3,hk w3 ⟨hf3,hy,rv,v',vs,fs++[u],hu3.at_,hR1.keep hu3.fr hyS,hN1.keep hu3.fr hyS'⟩ ((hf1'.mono λq hq=>by simp[hq]).trans (hu3.fr.mono λq hq=>by simp at hq;simp[hq]))⟩
structure MM(W:wn)(yb:Nat)(rv nv:wm)(vs fs:List wm)(L:List (List Va))(N:List Nd)(w:wn):Prop where
 fr:Fr [] W w
 hy:W.heap.size<=yb
 hb:w.heap[yb]?=wh (wt #[rv,nv] 46 (0,0))
 hR:Dq W.heap.size w rv L vs
 hN:CV W.heap.size w nv N fs
def MM.keep{W w w':wn}{yb:Nat}{rv nv:wm}{vs fs:List wm}{L:List (List Va)}{N:List Nd}(h:MM W yb rv nv vs fs L N w)(hf:Fr [] w w'):MM W yb rv nv vs fs L N w':=
 ⟨h.fr.trans hf,h.hy,hf.at_ h.hb (by simp),h.hR.keep0 hf,h.hN.keep0 hf⟩
section
variable{W:wn}{yb:Nat}{rv nv u:wm}{vs fs:List wm}{L:List (List Va)}{N:List Nd}{l:List Va}{nd:Nd}{X:wn->Prop}
def Qg{s u:wm}(w:wn)(hu:u.oneCell'=wk/\∃A n c,u=v8 A n c):∃A n c,u=v8 A n c/\Cp (w.alloc (wt #[v8 A n c] 56)) (v8 (wh ⟨w.heap.size,0,wj⟩) 1 1) 1 (G4 [u]):=by obtain⟨_,A,n,c,rfl⟩:=hu;have hw:=DE.mk' w (wt #[v8 A n c] 56);exact⟨A,n,c,rfl,Cp.of_block hw.at_ rfl (by decide) (by decide) (by simp[G4]) rfl⟩
def NM(h:MM W yb rv nv vs fs L N w)(hL:L.length<=100000)(hu:BQ w u 60 2 (Cz l))(hul:BY W u)(hk:∀w',G3 W yb (L++[l]) N w'->X w'):
  Am Z (Instr.buildSlice 43 1 #[(0,u)]) w λs w0=>(Fr [] W w0/\(Am Z (Builtin.append_ #[43,43] 43 #[rv,s]) w0 λx w1=>(Fr [] W w1/\(Aj 1 (v7 (wh ⟨yb,0,wj⟩)) x w1 λw3=>(Fr [] W w3/\X w3))/\True))/\True):=by obtain⟨A,c,e⟩:=hu.len;obtain⟨A,n,c,e,hs⟩:=Qg (s:=u) (u:=u) w ⟨hu.one.1,_,_,_,e⟩;subst e;have hw:=DE.mk' w (wt #[v8 A n c] 56);refine A4 (YM A n c) ⟨h.fr.trans hw.fr,?_,trivial⟩;have h1:=h.keep hw.fr;exact PD h1.fr h1.hy h1.hb h1.hR h1.hN hL (hu.keep hw.fr (by simp)) hul hs hk
def VF(h:MM W yb rv nv vs fs L N w)(hL:L.length<=100000)(hu:BQ w u 60 2 (Cz l))(hul:BY W u)(hk:∀w',G3 W yb (L++[l]) N w'->X w'):
  Am Z (Instr.buildSlice 43 1 #[(0,u)]) w λs w0=>(Fr [] W w0/\(Ac (v7 (wh ⟨yb,0,wj⟩)) w0 λr w0=>(Fr [] W w0/\(Am Z (Builtin.append_ #[43,43] 43 #[r,s]) w0 λx w1=>(Fr [] W w1/\(Aj 1 (v7 (wh ⟨yb,0,wj⟩)) x w1 λw3=>(Fr [] W w3/\X w3))/\True))/\True))/\True):=by obtain⟨A,c,e⟩:=hu.len;obtain⟨A,n,c,e,hs⟩:=Qg (s:=u) (u:=u) w ⟨hu.one.1,_,_,_,e⟩;subst e;have hw:=DE.mk' w (wt #[v8 A n c] 56);refine A4 (YM A n c) ⟨h.fr.trans hw.fr,?_,trivial⟩;have h1:=h.keep hw.fr;exact Ad (v:=rv) h1.hb rfl ⟨h1.fr,PD h1.fr h1.hy h1.hb h1.hR h1.hN hL (hu.keep hw.fr (by simp)) hul hs hk,trivial⟩
def O3(w:wn){u:wm}(s:Int)(A:Option Addr)(n c:Nat)(e:u=v8 A n c):Cp (w.alloc (wt #[v6 wg s,v8 A n c] 58)) (v8 (wh ⟨w.heap.size,0,wj⟩) 1 1) 2 [[v6 wg s,u]]:=by subst e;have hw:=DE.mk' w (wt #[v6 wg s,v8 A n c] 58);exact Cp.of_block hw.at_ rfl (by decide) (by decide) (by simp) rfl
def Kd(h:MM W yb rv nv vs fs L N w)(hL:N.length<=100000)(hu:BQ w u 60 2 (Cz nd.2))(hul:BY W u)(hk:∀w',G3 W yb L (N++[nd]) w'->Fr (yb::BN nv) w w'->X w'):
  Am Z (Instr.buildSlice 44 1 #[(0,we #[v6 wg nd.1,u])]) w λs w0=>(Fr [] W w0/\(Am Z (Builtin.append_ #[44,44] 44 #[nv,s]) w0 λx w1=>(Fr [] W w1/\(Aj 1 (v7 (wh ⟨yb,1,wj⟩)) x w1 λw3=>(Fr [] W w3/\X w3))/\True))/\True):=by obtain⟨A,c,e⟩:=hu.len;have hs:=O3 w nd.1 A _ c e;generalize (Cz nd.2).length=n at e hs;have hw:=DE.mk' w (wt #[v6 wg nd.1,v8 A n c] 58);have hb:=YK (w:=w) nd.1 A n c;rw[<-e]at hb;refine A4 hb ?_;rw[<-e]at hw hs;refine⟨h.fr.trans hw.fr,?_,trivial⟩;have h1:=h.keep hw.fr;exact NG h1.fr h1.hy h1.hb h1.hR h1.hN hL (hu.keep hw.fr (by simp)) hul hs λw' a b=>hk w' a (hw.fr.w.trans b)
def TA(h:MM W yb rv nv vs fs L N w)(hL:N.length<=100000)(hu:BQ w u 60 2 (Cz nd.2))(hul:BY W u)(hk:∀w',G3 W yb L (N++[nd]) w'->Fr (yb::BN nv) w w'->X w'):
  Am Z (Instr.buildSlice 44 1 #[(0,we #[v6 wg nd.1,u])]) w λs w0=>(Fr [] W w0/\(Ac (v7 (wh ⟨yb,1,wj⟩)) w0 λr w0=>(Fr [] W w0/\(Am Z (Builtin.append_ #[44,44] 44 #[r,s]) w0 λx w1=>(Fr [] W w1/\(Aj 1 (v7 (wh ⟨yb,1,wj⟩)) x w1 λw3=>(Fr [] W w3/\X w3))/\True))/\True))/\True):=by
 obtain⟨A,c,e⟩:=hu.len;have hs:=O3 w nd.1 A _ c e;generalize (Cz nd.2).length=n at e hs;have hw:=DE.mk' w (wt #[v6 wg nd.1,v8 A n c] 58);have hb:=YK (w:=w) nd.1 A n c;rw[<-e]at hb;refine A4 hb ?_;rw[<-e]at hw hs;refine⟨h.fr.trans hw.fr,?_,trivial⟩;have h1:=h.keep hw.fr
 exact Ad (v:=nv) h1.hb rfl ⟨h1.fr,NG h1.fr h1.hy h1.hb h1.hR h1.hN hL (hu.keep hw.fr (by simp)) hul hs λw' a b=>hk w' a (hw.fr.w.trans b),trivial⟩
def YS(s:Int){u:wm}{A:Option Addr}{n c:Nat}(e:u=v8 A n c):(Instr.build 58 #[(0,v6 wg s),(1,u)]).run Z w=.ok (we #[v6 wg s,u]) w:=by subst e;exact Z2 s A n c
end
end
section
variable{K:VK}{A:Ci}{g:Gw}{cf:Cf}{B:Int}{x:Ma}{w:wn}
def G3.spec{W:wn}{yb:Nat}{L:List (List Va)}{N:List Nd}(h:G3 W yb L N w):∃rv nv vs fs,MM W yb rv nv vs fs L N w:=by obtain⟨rv,nv,vs,fs,e1,e2,e3⟩:=h.ex;exact⟨rv,nv,vs,fs,h.fr,h.hy,e1,e2,e3⟩
def Pe{W:wn}{yb y2:Nat}(h0:BS A g cf B W x){n:Nat}(hn:cf.threads=(n:Int))(hk:∀w',G3 W yb (x.rowsV n) [] w'->F17.k9 K (v7 (wh ⟨A.ma,0,wj⟩)) (v7 (wh ⟨y2,0,wj⟩)) (v7 (wh ⟨yb,0,wj⟩)) w'):
  ∀(d i:Nat) (w:wn),i+d=n->G3 W yb (x.rowsV i) [] w->
   F17.l5 K (v7 (wh ⟨A.ma,0,wj⟩)) (v7 (wh ⟨y2,0,wj⟩)) (v7 (wh ⟨yb,0,wj⟩)) (v6 wg (n:Int)) (v6 wg (i:Int)) w:=by
 have hth:=h0.fine.th;intro d;induction d with
 | zero=>
  intro i w hi hs;have e:i=n:=by omega
  subst e;refine F17.l5.to ?_;simp only[zv,show ¬((i:Int)<(i:Int)) by omega];exact hk w hs
 | succ d ih=>
  intro i w hi hs;refine F17.l5.to ?_;simp only[zv,show (i:Int)<(n:Int) by omega];refine F17.k6.to (A9 (λw'=>Fr [] W w') λw1 hf1 _=>⟨hs.fr.trans hf1,?_⟩);obtain⟨rv,nv,vs,fs,h1⟩:=(hs.keep hf1).spec;have hma:=h0.keep0 h1.fr;have hL:(x.rowsV i).length<=100000:=by unfold Ma.rowsV;rw[j9,zP];omega
  have fin:∀w',G3 W yb (x.rowsV i++[x.sers (x.co.roots (i:Int))]) [] w'->F17.k8 K (v7 (wh ⟨A.ma,0,wj⟩)) (v7 (wh ⟨y2,0,wj⟩)) (v7 (wh ⟨yb,0,wj⟩)) (v6 wg (n:Int)) (v6 wg (i:Int)) w':=λw' hv=>by
   refine F17.k8.to ?_
   try simp only[A7]
   rw[BO (n:=(i:Int)+1) (by omega)];refine ih (i+1) w' (by omega) ?_;have:x.rowsV (i+1)=x.rowsV i++[x.sers (x.co.roots (i:Int))]:=by unfold Ma.rowsV;rw[o8,m9];rfl
   rw[this];exact hv
  have hlen:=Nj hma (i:Int)
  try simp only[zv]
  refine Au (v:=v7 (wh ⟨A.Q.co,0,wj⟩)) (λw' hw=>⟨_,_,_,(h0.keep0 hw).blk,rfl⟩) ?_;refine⟨Ad (v:=rv) h1.hb rfl ⟨h1.fr,?_,trivial⟩,?_,trivial⟩
  ·refine H8 hma.co λv w2 hf2 ho2 hn2=>⟨h1.fr.trans hf2,?_,trivial⟩;have h2:=h1.keep hf2;refine EW (h0.keep0 h2.fr) (by omega) ho2 λu w3 hf3 hn3 ho3=>⟨h2.fr.trans hf3,?_,trivial⟩;have h3:=h2.keep hf3;exact NM h3 hL ho3 (hn3.mono h2.fr.size) fin
  ·refine H8 hma.co λv w2 hf2 ho2 hn2=>⟨h1.fr.trans hf2,Ad (v:=rv) (h1.keep hf2).hb rfl ⟨h1.fr.trans hf2,?_,trivial⟩,?_,trivial⟩
   ·have h2:=h1.keep hf2;refine EW (h0.keep0 h2.fr) (by omega) ho2 λu w3 hf3 hn3 ho3=>⟨h2.fr.trans hf3,?_,trivial⟩;exact NM (h2.keep hf3) hL ho3 (hn3.mono h2.fr.size) fin
   ·have h2:=h1.keep hf2;refine EW (h0.keep0 h2.fr) (by omega) ho2 λu w3 hf3 hn3 ho3=>⟨h2.fr.trans hf3,?_⟩;have h3:=h2.keep hf3;exact⟨Ad (v:=rv) h3.hb rfl ⟨h3.fr,NM h3 hL ho3 (hn3.mono h2.fr.size) fin,trivial⟩,VF h3 hL ho3 (hn3.mono h2.fr.size) fin,trivial⟩
def NP{W:wn}{yb y2:Nat}{lv:wm}{l:List Int}{L:List (List Va)}(h0:BS A g cf B W x)(hll:l.length<=3000)(hnl:BY W lv)(hk:∀w',G3 W yb L (l.map x.node) w'->F17.k14 K (v7 (wh ⟨y2,0,wj⟩)) (v7 (wh ⟨yb,0,wj⟩)) w'):
  ∀(d i:Nat) (w:wn),i+d=l.length->G3 W yb L ((l.take i).map x.node) w->BQ w lv 3 1 (BX l)->
   F17.l10 K (v7 (wh ⟨A.ma,0,wj⟩)) (v7 (wh ⟨y2,0,wj⟩)) (v7 (wh ⟨yb,0,wj⟩)) lv (v6 wg (l.length:Int)) (v6 wg (i:Int)) w:=by
 intro d;induction d with
 | zero=>
  intro i w hi hs hl;have e:i=l.length:=by omega
  subst e;refine F17.l10.to ?_;simp only[zv,show ¬((l.length:Int)<(l.length:Int)) by omega];rw[j4]at hs;exact hk w hs
 | succ d ih=>
  intro i w hi hs hl;have hlt:i<l.length:=by omega
  refine F17.l10.to ?_;simp only[zv,show (i:Int)<(l.length:Int) by omega];refine F17.k11.to (AV hl.rd hlt λgg o cs e fz hg hc=>Ad hg hc ?_);refine A9 (λw'=>Fr [] W w') λw1 hf1 _=>⟨hs.fr.trans hf1,?_⟩;obtain⟨rv,nv,vs,fs,h1⟩:=(hs.keep hf1).spec;have hl1:=hl.keep hf1 (by simp);have hma:=h0.keep0 h1.fr;have hN:((l.take i).map x.node).length<=100000:=by rw[j9,i8];omega
  have hfl:=Oh x l[i];have hnl2:∀q∈BN lv,q∉yb::BN nv:=λq hq c=>by
   rcases ux.1 c with rfl|c
   ·exact hl1.nb h1.hb (by decide) hq
   ·exact hl1.ne h1.hN.sp (by decide) q hq c
  have fin:∀w2,Fr [] w1 w2->∀w',G3 W yb L ((l.take i).map x.node++[x.node l[i]]) w'->Fr (yb::BN nv) w2 w'->F17.k13 K (v7 (wh ⟨A.ma,0,wj⟩)) (v7 (wh ⟨y2,0,wj⟩)) (v7 (wh ⟨yb,0,wj⟩)) lv (v6 wg (l.length:Int)) (v6 wg (i:Int)) w':=λw2 hf2 w' hv hfv=>by
   refine F17.k13.to ?_
   try simp only[A7]
   rw[BO (n:=(i:Int)+1) (by omega)];refine ih (i+1) w' (by omega) ?_ ((hl1.keep hf2 (by simp)).keep' hfv hnl2);rw[zR,xS hlt,m9];exact hv
  try simp only[zv]
  refine Au (v:=v7 (wh ⟨A.Q.co,0,wj⟩)) (λw' hw=>⟨_,_,_,(h0.keep0 hw).blk,rfl⟩) ?_;have hse:∀w',Fr [] W w'->∀ {K':VK},K' (v6 wg (x.co.s.serial l[i])) w'->I Z 49 #[v7 (wh ⟨A.Q.co,0,wj⟩),v6 wg l[i]] w' K':=λw' hw K' hk'=>GV (h0.keep0 hw).co hk'
  have tl:∀w2 u,Fr [] w1 w2->BY W u->BQ w2 u 60 2 (Cz (x.sers (x.flds l[i])))->∃x53,(∀w',Fr [] W w'->(Instr.build 58 #[(0,v6 wg (x.co.s.serial l[i])),(1,u)]).run Z w'=.ok x53 w')/\x53=we #[v6 wg (x.node l[i]).1,u]:=λw2 u hf2 hn2 ho2=>by
   obtain⟨A',c',e'⟩:=ho2.len;exact⟨_,λw' _=>YS _ e',rfl⟩
  refine⟨Ad (v:=nv) h1.hb rfl ⟨h1.fr,hse _ h1.fr ⟨h1.fr,?_,trivial⟩,trivial⟩,hse _ h1.fr ⟨h1.fr,Ad (v:=nv) h1.hb rfl ⟨h1.fr,?_,trivial⟩,?_,trivial⟩,trivial⟩
  ·refine HU hma λf w2 hf2 hn2 ho2=>⟨h1.fr.trans hf2,EW (h0.keep0 (h1.fr.trans hf2)) (by omega) ho2 λu w3 hf3 hn3 ho3=>⟨(h1.fr.trans hf2).trans hf3,?_⟩,trivial⟩;have h3:=(h1.keep hf2).keep hf3;have hn3':=hn3.mono (h1.fr.trans hf2).size;obtain⟨v53,t1,rfl⟩:=tl w3 u (hf2.trans hf3) hn3' ho3;exact⟨_,t1,Kd h3 hN ho3 hn3' (fin w3 (hf2.trans hf3)),trivial⟩
  ·refine HU hma λf w2 hf2 hn2 ho2=>⟨h1.fr.trans hf2,EW (h0.keep0 (h1.fr.trans hf2)) (by omega) ho2 λu w3 hf3 hn3 ho3=>⟨(h1.fr.trans hf2).trans hf3,?_⟩,trivial⟩;have h3:=(h1.keep hf2).keep hf3;have hn3':=hn3.mono (h1.fr.trans hf2).size;obtain⟨v53,t1,rfl⟩:=tl w3 u (hf2.trans hf3) hn3' ho3;exact⟨_,t1,Kd h3 hN ho3 hn3' (fin w3 (hf2.trans hf3)),trivial⟩
  ·refine HU hma λf w2 hf2 hn2 ho2=>⟨h1.fr.trans hf2,Ad (v:=nv) (h1.keep hf2).hb rfl ⟨h1.fr.trans hf2,?_,trivial⟩,?_,trivial⟩
   ·refine EW (h0.keep0 (h1.fr.trans hf2)) (by omega) ho2 λu w3 hf3 hn3 ho3=>⟨(h1.fr.trans hf2).trans hf3,?_⟩;have h3:=(h1.keep hf2).keep hf3;have hn3':=hn3.mono (h1.fr.trans hf2).size;obtain⟨v53,t1,rfl⟩:=tl w3 u (hf2.trans hf3) hn3' ho3;exact⟨_,t1,Kd h3 hN ho3 hn3' (fin w3 (hf2.trans hf3)),trivial⟩
   ·refine EW (h0.keep0 (h1.fr.trans hf2)) (by omega) ho2 λu w3 hf3 hn3 ho3=>⟨(h1.fr.trans hf2).trans hf3,?_⟩;have h3:=(h1.keep hf2).keep hf3;have hn3':=hn3.mono (h1.fr.trans hf2).size;obtain⟨v53,t1,rfl⟩:=tl w3 u (hf2.trans hf3) hn3' ho3;exact⟨_,t1,Ad (v:=nv) h3.hb rfl ⟨h3.fr,Kd h3 hN ho3 hn3' (fin w3 (hf2.trans hf3)),trivial⟩,TA h3 hN ho3 hn3' (fin w3 (hf2.trans hf3)),trivial⟩
def OG(hr:Ee x):(E7 x.co.s.serial (x.rch cf)).length<=2049:=by
 rw[JU];have hok:DO (x.rch0 cf):=by have:x.rch0 cf=x.rchT cf.threads.toNat:=rfl;rw[this];exact IF x hr _
 exact (Lj x 2050 0 hok).le
def P7(h:BS A g cf B w x)(hr:Ee x)(hk:∀rv nv vs fs w',Fr [] w w'->Dq w.heap.size w' rv (x.view cf).1 vs->CV w.heap.size w' nv (x.view cf).2 fs->K (we #[rv,nv]) w'):I Z 17 #[v7 (wh ⟨A.ma,0,wj⟩)] w K:=by
 have hth:=h.fine.th;obtain⟨n,hn⟩:=xU (show 0<=cf.threads by omega);refine F17.sh (Ar λy2 w1 hn1=>Lu (h.keep0 hn1.fr) ?_);have l1:=hn1.is
 try simp only[zv]
 refine F17.k3.to (Ar λyb w2 hn2=>?_);have l2:=hn2.is;have h2:=h.keep0 (hn1.fr.trans hn2.fr)
 try simp only[zv]
 refine Ad (v:=v6 wg cf.threads) h2.blk rfl ?_;rw[hn];have hs2:G3 w1 yb (x.rowsV 0) [] w2:=⟨hn2.fr,by omega,v8 wj 0 0,v8 wj 0 0,[],[],hn2.at_,⟨BQ.nil _ _ _,by simp[BN,wm.ownBlock],rfl,λi a=>by simp[Ma.rowsV]at a⟩,⟨rfl,BQ.nil _ _ _,by simp[BN,wm.ownBlock],λi a=>by simp at a⟩⟩;have hma1:=h.keep0 hn1.fr;refine Pe (W:=w1) (yb:=yb) (y2:=y2) hma1 hn (λw3 hs3=>?_) n 0 w2 (by omega) hs2
 refine F17.k9.to (RL (hma1.keep0 hs3.fr) hr λlv w4 hf4 hn4 ho4=>AH ho4.rd ?_);rw[Ca];have hlen:=OG (x:=x) (cf:=cf) hr;refine NP (W:=w1) (yb:=yb) (y2:=y2) (L:=x.rowsV n) hma1 (by omega) (hn4.mono hs3.fr.size) (λw5 hs5=>?_) (E7 x.co.s.serial (x.rch cf)).length 0 w4 (by omega) (hs3.keep hf4) ho4;obtain⟨rv,nv,vs,fs,e1,e2,e3⟩:=hs5.ex
 have b2:w5.heap[y2]?=wh (wt #[v8 wj 0 0,v8 wj 0 0] 46 (0,0)):=hs5.fr.at_ hn1.at_ (by simp);have y2l:y2<w1.heap.size:=(xB.1 hn1.at_).1;have hne:y2≠yb:=by have:=hs5.hy;omega
 have hone:∀u∈(wm.cells (we #[rv,nv])).toList,u.oneCell'=wk:=Ev.ones (w:=w5) (V:=(x.rowsV n,(E7 x.co.s.serial (x.rch cf)).map x.node)) ⟨e2.rd,e3.rd⟩;have hcells:wm.cells (we #[rv,nv]) = #[rv,nv]:=Ev.cells (w:=w5) (V:=(x.rowsV n,(E7 x.co.s.serial (x.rch cf)).map x.node)) ⟨e2.rd,e3.rd⟩;refine F17.k14.to (A3 e1 rfl (AA (x:=we #[rv,nv]) b2 (by rw[hcells];rfl) hone rfl λw6 hu6=>?_));rw[hcells]at hu6
 refine A3 hu6.at_ rfl (hk rv nv vs fs w6 ((hn1.fr.trans hs5.fr).then hu6.fr λq hq=>ws (by simp only[zF]at hq;omega)) ?_ ?_)
 ·have:(x.view cf).1=x.rowsV n:=by unfold Ma.view;rw[hn,zK]
  rw[this];have h6:Dq w1.heap.size w6 rv (x.rowsV n) vs:=e2.keep hu6.fr λq hq=>wr (by simp only[zF]at hq;omega);exact⟨h6.sp,λq hq=>va hn1.fr.size (h6.ge q hq),h6.len,λi a b=>⟨(h6.row i a b).1,λq hq=>va hn1.fr.size ((h6.row i a b).2 q hq)⟩⟩
 ·have h6:CV w1.heap.size w6 nv ((E7 x.co.s.serial (x.rch cf)).map x.node) fs:=e3.keep hu6.fr λq hq=>wr (by simp only[zF]at hq;omega);exact⟨h6.len,h6.sp,λq hq=>va hn1.fr.size (h6.ge q hq),λi a b=>⟨(h6.row i a b).1,λq hq=>va hn1.fr.size ((h6.row i a b).2 q hq)⟩⟩
end
def Ma.objs(x:Ma):List Int:=FQ (x.co.s.objects.map x.co.s.serial)
section
variable{K:VK}{A:Ci}{g:Gw}{cf:Cf}{B:Int}{x:Ma}{w:wn}
def PI{v:wm}{l:List Int}(ho:BQ w v 2 1 (BX l))(hl:l.length<=4000000000000000)(h:∀w',Fr (BN v) w w'->BQ w' v 2 1 (BX (FQ l))->K (wc #[]) w'):I Z 52 #[v] w K:=by
 obtain⟨⟨h1,h2⟩,h3⟩:=ho;rw[Ca]at h1 h2;rcases h2 with⟨rfl,h2⟩|⟨g,cap,cur,rfl,hb,hg,h4,h5,h6,h7⟩
 ·have e:l=[]:=wW h2;subst e;refine (AnyM.slices_Sort_int_none Ve wj 0 w).mono ?_;rintro e w' ⟨rfl,rfl⟩;exact⟨_,rfl,h w' (Fr.refl _ _) (by
   have:FQ []=[]:=by simp[FQ]
   rw[this];exact BQ.nil _ _ _)⟩
 ·rw[FJ,vm]at h7;have hH:=holds_of_blockI hg h7;refine (AnyM.slices_Sort_int Ve g 0 cap l w hH (BP hg) (by omega)).mono ?_;rintro e w' ⟨rfl,n,os,rfl⟩;refine⟨_,rfl,h _ (Hp (v:=v8 (wh ⟨g,0,wj⟩) l.length cap) (grownBy_sortedI _)) ?_⟩;have hr:=ownsRow_sortedI (n:=n) (os:=os) (base:=0) (ts:=FQ l) (Kv l) (Nat.zero_le _) hg h4 h5 h6;refine⟨?_,λx hx=>⟨?_,Ig x hx⟩⟩
  ·rw[Ca,FJ,Kv];exact hr
  ·simp only[BX,u7]at hx;obtain⟨y,_,rfl⟩:=hx;rfl
def Z8(a:Int):(Instr.buildSlice 52 1 #[(0,v6 wg a)]).run Z w=.ok (v8 (wh ⟨w.heap.size,0,wj⟩) 1 1) (w.alloc (wt #[v6 wg a] 2)):=by kernel_rfl
def BA{W0:wn}{v:wm}{l:List Int}{n:Int}(hf:Fr [] W0 w)(hn:BY W0 v)(hv:BQ w v 2 1 (BX l))(hl:l.length<=17592186044415)(hk:∀v' w',Fr [] W0 w'->BY W0 v'->BQ w' v' 2 1 (BX (l++[n]))->Fr (BN v) w w'->(∀g∈BN v',g∈BN v∨w.heap.size<=g)->K v' w'):
  Am Z (Instr.buildSlice 52 1 #[(0,v6 wg n)]) w λx w1=>Am Z (Builtin.append_ #[52,52] 52 #[v,x]) w1 K:=
 Br (x:=[v6 wg n]) (e:=2) (sz:=1) (bytes:=8) (z:=v6 wg 0) Tryz.underlying52 (by kernel_rfl) rfl (by decide) (Z8 n) rfl (by simp[wm.oneCell']) hf hn hv (by rw[Ca];omega) (by rw[Ca];omega) λv' w' a b c d e=>hk v' w' a b (by rw[KV];exact c) d e
def Ns{W:wn}{lv:wm}{l:List Int}(h0:BS A g cf B W x)(hl:l.length<=2048)(hk:∀v w',Fr [] W w'->BY W v->BQ w' v 2 1 (BX (l.map x.co.s.serial))->F18.k9 K v w'):
  ∀(d i:Nat) (w:wn) (v:wm),i+d=l.length->Fr [] W w->BQ w lv 3 1 (BX l)->BY W v->BQ w v 2 1 (BX ((l.take i).map x.co.s.serial))->
   F18.l5 K (v7 (wh ⟨A.ma,0,wj⟩)) v lv (v6 wg (l.length:Int)) (v6 wg (i:Int)) w:=by
 intro d;induction d with
 | zero=>
  intro i w v hi hf hv hn' hv';have e:i=l.length:=by omega
  subst e;refine F18.l5.to ?_;simp only[zv,show ¬((l.length:Int)<(l.length:Int)) by omega];rw[j4]at hv';exact hk v w hf hn' hv'
 | succ d ih=>
  intro i w v hi hf hv hn' hv';have hlt:i<l.length:=by omega
  refine F18.l5.to ?_;simp only[zv,show (i:Int)<(l.length:Int) by omega];refine F18.k6.to (AV hv.rd hlt λgg o cs e fz hg hc=>Ad hg hc ?_)
  try simp only[zv]
  have h:=h0.keep0 hf;refine Ad (v:=v7 (wh ⟨A.Q.co,0,wj⟩)) h.blk rfl (GV h.co ?_);refine BA hf hn' hv' (by simp;omega) λv1 w1 hf1 hn1 ho1 hf1' hg1=>?_;refine F18.k8.to ?_
  try simp only[A7]
  rw[BO (n:=(i:Int)+1) (by omega)];refine ih (i+1) w1 v1 (by omega) hf1 (hv.keep' hf1' (hv.ne hv' (by decide))) hn1 ?_;rw[zR,xS hlt,m9];exact ho1
def Qy(h:BS A g cf B w x)(hk:∀v w',Fr [] w w'->BY w v->BQ w' v 2 1 (BX x.objs)->K v w'):I Z 18 #[v7 (wh ⟨A.ma,0,wj⟩)] w K:=by
 refine F18.sh (Lu h ?_)
 try simp only[zv]
 refine F18.k3.to ?_
 try simp only[zv]
 refine Ad (v:=v7 (wh ⟨A.Q.co,0,wj⟩)) h.blk rfl ?_;refine Qw h.co λlv w1 hf1 hn1 ho1=>AH ho1.rd ?_;rw[Ca];have hl:x.co.s.objects.length<=2048:=I1 h.co.hp.st;refine Ns (W:=w) h hl (λv w2 hf2 hn2 ho2=>?_) x.co.s.objects.length 0 w1 _ (by omega) hf1 ho1 (BY.nil _) (BQ.nil _ _ _);refine F18.k9.to (PI ho2 (by simp;omega) λw3 hf3 ho3=>?_);exact hk v w3 (hf2.then hf3 λq hq=>ws (hn2.blk q hq)) hn2 ho3
end
end
noncomputable section
variable{K:VK}{w:wn}{x0 x1 x2 x3 y0 y1 y3 y4 y5 y6 y7 y8 y9 y19 y20 y21:wm}
namespace F26
def ann:Cg:=⟨[(4,[1,3,7,8,9]),(7,[1,3,7,8,9]),(8,[3])],[(3,[1,3,7,8,9])],[],[],wj⟩
def code:=cd f26
def BM:=tp f26
variable(K:VK)(y1 y3 y7 y8 y9:wm)(w:wn)
def k8:=nk ann 29 [(3,y3)] w [1,1,1] code (BM K)
def l3:=nl ann 29 [(1,y1),(3,y3),(7,y7),(8,y8),(9,y9)] w [1,1,0,1,0] code (BM K)
def k4:=nk ann 29 [(1,y1),(3,y3),(7,y7),(8,y8),(9,y9)] w [1,1,0,1,0,0,1,1] code (BM K)
def k7:=nk ann 29 [(1,y1),(3,y3),(7,y7),(8,y8),(9,y9)] w [1,1,0,1,0,0,1,1,1] code (BM K)
attribute [irreducible] k8 l3 k4 k7
end F26
def F26.k8.to(h:(I Z 52 #[y3] w λa b=>I Z 62 #[y3] b λc d=>K c d)):F26.k8 K y3 w:=qq h
def F26.l3.to(h:(U .lss y9 y8 w λa b=>Af a (F26.k4 K y1 y3 y7 y8 y9 b) (F26.k8 K y3 b))):F26.l3 K y1 y3 y7 y8 y9 w:=by unfold F26.l3 nl;exact BW (qq h)
def F26.k4.to(h:(AC 1 y7 y9 w λa b=>Ac a b λc d=>Af c (Ab 1 y1 d λf g=>Ac f g λi j=>AC 2 i y9 j λk m=>Ab 0 k m λo p=>Ac o p λq r=>Am Z (Instr.buildSlice 52 1 #[(0,q)]) r λs t=>Am Z (Builtin.append_ #[52,52] 52 #[y3,s]) t λu v=>F26.k7 K y1 u y7 y8 y9 v) (F26.k7 K y1 y3 y7 y8 y9 d))):F26.k4 K y1 y3 y7 y8 y9 w:=qq h
def F26.k7.to(h:(U .add y9 (v6 wg 1) w λa b=>F26.l3 K y1 y3 y7 y8 a b)):F26.k7 K y1 y3 y7 y8 y9 w:=qq h
def F26.sh(h:(Aq (wt (wm.cells x0) 46) w λa b=>Ak 2 a b λc d=>I Z 61 #[c] d λf g=>AD f g λi j=>F26.l3 K a (v8 wj 0 0) f i (v6 wg 0) j)):I Z 26 #[x0] w K:=BK (A:=F26.ann) (args:=[x0]) (qq h)
namespace F61
def ann:Cg:=⟨[(8,[1,3,4,6,19,20,21]),(10,[1,3,4,6,19,20,21]),(11,[1,3,4,6]),(12,[1,3,4,6]),(15,[3])],[(7,[1,3,4,6,19,20,21]),(11,[1,3,4,6])],[],[],wj⟩
def code:=cd f61
def BM:=tp f61
variable(K:VK)(y1 y3 y4 y6 y19 y20 y21:wm)(w:wn)
def k11:=nk ann 46 [(1,y1),(3,y3),(4,y4),(6,y6)] w [1,1,1,1,1,1,1] code (BM K)
def l7:=nl ann 46 [(1,y1),(3,y3),(4,y4),(6,y6),(19,y19),(20,y20),(21,y21)] w [1,1,1,1,1,1,0,1,0] code (BM K)
def k8:=nk ann 46 [(1,y1),(3,y3),(4,y4),(6,y6),(19,y19),(20,y20),(21,y21)] w [1,1,1,1,1,1,0,1,0,0,1,1] code (BM K)
def k10:=nk ann 46 [(1,y1),(3,y3),(4,y4),(6,y6),(19,y19),(20,y20),(21,y21)] w [1,1,1,1,1,1,0,1,0,0,1,1,1] code (BM K)
def k15:=nk ann 46 [(3,y3)] w [1,1,1,1,1,1,1,1] code (BM K)
def l11:=nl ann 46 [(1,y1),(3,y3),(4,y4),(6,y6)] w [1,1,1,1,1,1,1,0,0] code (BM K)
def k12:=nk ann 46 [(1,y1),(3,y3),(4,y4),(6,y6)] w [1,1,1,1,1,1,1,0,0,0,1] code (BM K)
attribute [irreducible] k11 l7 k8 k10 k15 l11 k12
end F61
def F61.k11.to(h:(F61.l11 K y1 y3 y4 y6 w)):F61.k11 K y1 y3 y4 y6 w:=qq h
def F61.l7.to(h:(U .lss y21 y20 w λa b=>Af a (F61.k8 K y1 y3 y4 y6 y19 y20 y21 b) (F61.k11 K y1 y3 y4 y6 b))):F61.l7 K y1 y3 y4 y6 y19 y20 y21 w:=by unfold F61.l7 nl;exact BW (qq h)
def F61.k8.to(h:(AC 1 y19 y21 w λa b=>Ac a b λc d=>Du Z y6 [c] d λf g=>F61.k10 K y1 y3 y4 y6 y19 y20 y21 g)):F61.k8 K y1 y3 y4 y6 y19 y20 y21 w:=qq h
def F61.k10.to(h:(U .add y21 (v6 wg 1) w λa b=>F61.l7 K y1 y3 y4 y6 y19 y20 a b)):F61.k10 K y1 y3 y4 y6 y19 y20 y21 w:=qq h
def F61.k15.to(h:(Ac y3 w λa b=>K a b)):F61.k15 K y3 w:=qq h
def F61.l11.to(h:(Ac y4 w λa b=>AD a b λc d=>U .gtr c (v6 wg 0) d λf g=>Af f (F61.k12 K y1 y3 y4 y6 g) (F61.k15 K y3 g))):F61.l11 K y1 y3 y4 y6 w:=by unfold F61.l11 nl;exact BW (qq h)
def F61.k12.to(h:(Ac y4 w λa b=>AC 1 a (v6 wg 0) b λc d=>Ac c d λf g=>Ac y4 g λi j=>Am Z (Instr.sliceAt 54 i (wh (v6 wg 1)) wj wj) j λk m=>Aj 1 y4 k m λo=>Ab 1 y1 o λp q=>Ac p q λr s=>AC 2 r f s λt u=>Ab 1 t u λv x=>Ac v x λy z=>Du Z y6 [y] z λaa ab=>F61.l11 K y1 y3 y4 y6 ab)):F61.k12 K y1 y3 y4 y6 w:=qq h
def F61.sh(h:(Aq (wt (wm.cells x0) 46) w λa b=>Ab 1 a b λc d=>Ac c d λf g=>AD f g λi j=>Am Z (Instr.makeSlice 84 i i) j λk m=>Aq (wt #[v8 wj 0 0] 84) m λo p=>Aj 1 o k p λq=>Aq (wt #[v8 wj 0 0] 54) q λr s=>Aq (wt #[.nilFunc] 163) s λt u=>Aj 1 t (.func (.func 108) #[] #[a,o,r]) u λv=>Ac t v λx y=>Du Z x [(v6 wg 0)] y λz aa=>Ab 0 a aa λab ac=>Ac ab ac λad ae=>AD ad ae λaf ag=>F61.l7 K a o r (.func (.func 110) #[] #[t]) ad af (v6 wg 0) ag)):I Z 61 #[x0] w K:=BK (A:=F61.ann) (args:=[x0]) (qq h)
namespace F62
def ann:Cg:=⟨[(3,[0]),(5,[0,3]),(6,[0,3]),(10,[0,3,4,5]),(11,[0,3,4,5]),(14,[0,3]),(16,[0])],[(4,[0,3]),(9,[0,3,4,5])],[],[(6,(tk [0,1,2,4,5,6,7,3,8,9] .fin)),(11,(tk [0,1,2,4,5,6,7,3,8,9] .fin))],wj⟩
def code:=cd f62
def BM:=tp f62
variable(K:VK)(y0 y3 y4 y5:wm)(w:wn)
def k3:=nk ann 61 [(0,y0)] w [1,1] code (BM K)
def k16:=nk ann 61 [(0,y0)] w [1,1,1] code (BM K)
def l4:=nl ann 61 [(0,y0),(3,y3)] w [1,1,0,1,0] code (BM K)
def k6:=nk ann 61 [(0,y0),(3,y3)] w [1,1,0,1,0,0,1] code (BM K)
def k5:=nk ann 61 [(0,y0),(3,y3)] w [1,1,0,1,0,0,1,1] code (BM K)
def k14:=nk ann 61 [(0,y0),(3,y3)] w [1,1,0,1,0,0,1,0,0,1,0,1,1] code (BM K)
def l9:=nl ann 61 [(0,y0),(3,y3),(4,y4),(5,y5)] w [1,1,0,1,0,0,1,0,0,1,0,1,0,1,0] code (BM K)
def k11:=nk ann 61 [(0,y0),(3,y3),(4,y4),(5,y5)] w [1,1,0,1,0,0,1,0,0,1,0,1,0,1,0,0,1] code (BM K)
def k10:=nk ann 61 [(0,y0),(3,y3),(4,y4),(5,y5)] w [1,1,0,1,0,0,1,0,0,1,0,1,0,1,0,0,1,1] code (BM K)
attribute [irreducible] k3 k16 l4 k6 k5 k14 l9 k11 k10
end F62
def F62.k3.to(h:(F62.l4 K y0 (v6 wg 1) w)):F62.k3 K y0 w:=qq h
def F62.k16.to(h:(K y0 w)):F62.k16 K y0 w:=qq h
def F62.l4.to(h:(AD y0 w λa b=>U .lss y3 a b λc d=>Af c (F62.k6 K y0 y3 d) (F62.k16 K y0 d))):F62.l4 K y0 y3 w:=by unfold F62.l4 nl;exact BW (qq h)
def F62.k6.to(h:(A2 w λS a=>AC 1 y0 y3 a λb c=>U .sub y3 (v6 wg 1) c λd f=>AC 1 y0 d f λg i=>An S b i λj k=>An S g k λm o=>U .eql j m o λp q=>Af p (Am Z (Instr.sliceAt 52 y0 (wh y3) wj wj) q λr s=>F62.l9 K y0 y3 r (v6 wg 1) s) (F62.k5 K y0 y3 q))):F62.k6 K y0 y3 w:=qq h
def F62.k5.to(h:(U .add y3 (v6 wg 1) w λa b=>F62.l4 K y0 a b)):F62.k5 K y0 y3 w:=qq h
def F62.sh(h:(AD x0 w λa b=>U .lss a (v6 wg 2) b λc d=>Af c (K x0 d) (F62.k3 K x0 d))):I Z 62 #[x0] w K:=BK (A:=F62.ann) (args:=[x0]) (qq h)
def F108.sh(h:(Ak 2 x1 w λa b=>I Z 109 #[a,x0] b λc d=>U .geq c (v6 wg 0) d λf g=>Aa wk f (Ac x2 g) g λi j=>Aa wk f (λK=>K c j) j λk m=>Aa wk f (AC 1 i k m) m λo p=>Aa wk f (Ac o p) p λq r=>Aa wk f (A8 q r) r λs t=>Aw (wh f) (wh s) (wh (wd wl)) t λu v=>Af u (Ac x2 v λx y=>AC 1 x c y λz aa=>Aj 1 z (wd wk) aa λab=>Ac x3 ab λac ad=>Am Z (Instr.buildSlice 54 1 #[(0,c)]) ad λae af=>Am Z (Builtin.append_ #[54,54] 54 #[ac,ae]) af λag ah=>Aj 1 x3 ag ah λai=>K (wc #[]) ai) (K (wc #[]) v))):I Z 108 #[x0,x1,x2,x3] w K:=BK (A:=A0) (args:=[x0,x1,x2,x3]) (qq h)
def F109.sh(h:(Aq (wt (wm.cells x0) 46) w λa b=>Aq (wt (wm.cells x1) 2) b λc d=>Ab 1 a d λf g=>Ac f g λi j=>I Z 168 #[i,(.func (.func 169) #[] #[c])] j λk m=>K k m)):I Z 109 #[x0,x1] w K:=BK (A:=A0) (args:=[x0,x1]) (qq h)
namespace F110
def ann:Cg:=⟨[(2,[1,5,6,7]),(5,[1,5,6,7])],[(1,[1,5,6,7])],[],[],wj⟩
def code:=cd f110
def BM:=tp f110
variable(K:VK)(y1 y5 y6 y7:wm)(w:wn)
def l1:=nl ann 19 [(1,y1),(5,y5),(6,y6),(7,y7)] w [1,0] code (BM K)
def k2:=nk ann 19 [(1,y1),(5,y5),(6,y6),(7,y7)] w [1,0,0,1,1] code (BM K)
def k5:=nk ann 19 [(1,y1),(5,y5),(6,y6),(7,y7)] w [1,0,0,1,1,1] code (BM K)
attribute [irreducible] l1 k2 k5
end F110
def F110.l1.to(h:(U .lss y7 y6 w λa b=>Af a (F110.k2 K y1 y5 y6 y7 b) (K (wc #[]) b))):F110.l1 K y1 y5 y6 y7 w:=by unfold F110.l1 nl;exact BW (qq h)
def F110.k2.to(h:(AC 2 y5 y7 w λa b=>Ak 2 a b λc d=>Aq (wt #[v6 wg 0,v6 wg 0] 60) d λf g=>Aj 2 f c g λi=>Ab 0 f i λj k=>Ac j k λm o=>U .eql m (v6 wg 2) o λp q=>Af p (Ac y1 q λr s=>Ab 1 f s λt u=>Ac t u λv x=>Du Z r [v] x λy z=>F110.k5 K y1 y5 y6 y7 z) (F110.k5 K y1 y5 y6 y7 q))):F110.k2 K y1 y5 y6 y7 w:=qq h
def F110.k5.to(h:(U .add y7 (v6 wg 1) w λa b=>F110.l1 K y1 y5 y6 a b)):F110.k5 K y1 y5 y6 y7 w:=qq h
def F110.sh(h:(AD x0 w λa b=>F110.l1 K x1 x0 a (v6 wg 0) b)):I Z 110 #[x0,x1] w K:=BK (A:=F110.ann) (args:=[x0,x1]) (qq h)
namespace F168
def ann:Cg:=⟨[(3,[0,1,7,8]),(6,[0,1,7,8]),(7,[])],[(2,[0,1,7,8])],[],[],wj⟩
def code:=cd f168
def BM:=tp f168
variable(K:VK)(y0 y1 y7 y8:wm)(w:wn)
def k7:=nk ann 19 [] w [1,1] code (BM K)
def l2:=nl ann 19 [(0,y0),(1,y1),(7,y7),(8,y8)] w [1,0,1,0] code (BM K)
def k3:=nk ann 19 [(0,y0),(1,y1),(7,y7),(8,y8)] w [1,0,1,0,0,1,1] code (BM K)
def k6:=nk ann 19 [(0,y0),(1,y1),(7,y7),(8,y8)] w [1,0,1,0,0,1,1,1] code (BM K)
attribute [irreducible] k7 l2 k3 k6
end F168
def F168.k7.to(h:(K (v6 wg (-1)) w)):F168.k7 K w:=qq h
def F168.l2.to(h:(U .lss y8 y7 w λa b=>Af a (F168.k3 K y0 y1 y7 y8 b) (F168.k7 K b))):F168.l2 K y0 y1 y7 y8 w:=by unfold F168.l2 nl;exact BW (qq h)
def F168.k3.to(h:(AC 2 y0 y8 w λa b=>Ak 2 a b λc d=>Du Z y1 [c] d λf g=>Af f (K y8 g) (F168.k6 K y0 y1 y7 y8 g))):F168.k3 K y0 y1 y7 y8 w:=qq h
def F168.k6.to(h:(U .add y8 (v6 wg 1) w λa b=>F168.l2 K y0 y1 y7 a b)):F168.k6 K y0 y1 y7 y8 w:=qq h
def F168.sh(h:(AD x0 w λa b=>F168.l2 K x0 x1 a (v6 wg 0) b)):I Z 168 #[x0,x1] w K:=BK (A:=F168.ann) (args:=[x0,x1]) (qq h)
def F169.sh(h:(Aq (wt (wm.cells x0) 58) w λa b=>Ab 0 a b λc d=>Ac c d λf g=>Ac x1 g λi j=>U .eql f i j λk m=>K k m)):I Z 169 #[x0,x1] w K:=BK (A:=A0) (args:=[x0,x1]) (qq h)
end
section
open Go.RowKit
def qC(l:List Int):List (List wm):=l.map λn=>[v6 wg n]
def DT(w:wn)(v:wm)(xs:List Int):Prop:=
 (v=v8 wj 0 0/\xs=[])∨∃g o cap cur,v=v8 (wh ⟨g,o,wj⟩) xs.length cap/\w.heap[g]?=wh (wt cur 3 (0,0))/\xs.length<=cap/\o+cap<=cur.size/\cap<=maxLen/\∀j (h:j<xs.length),cur[o+j]?=wh (v6 wg xs[j])
def DT.nil(w:wn):DT w (v8 wj 0 0) []:=wr ⟨rfl,rfl⟩
def DT.rd{w:wn}{v:wm}{xs:List Int}(h:DT w v xs):Cp w v 1 (qC xs):=by
 have hl:(qC xs).length=xs.length:=by simp[qC]
 rcases h with⟨rfl,rfl⟩|⟨g,o,cap,cur,rfl,hg,h1,h2,h3,h4⟩
 ·exact⟨wj,0,rfl,by simp[qC],by simp,λh=>absurd rfl h⟩
 ·refine⟨_,cap,by rw[hl],by rw[hl];exact h1,h3,λ_=>⟨g,o,cur,_,_,rfl,hg,λi x hi=>?_⟩⟩;have hi':i<xs.length:=by have:=(xM.1 hi).1;omega
  have hx:x=[v6 wg xs[i]]:=by simp only[qC,zN,xS hi',o9,zS]at hi;exact hi.symm
  subst hx;refine⟨rfl,λj hj=>?_⟩;obtain rfl:j=0:=by omega
  simpa using h4 i hi'
def DT.keep'{S:List Nat}{w w':wn}{v:wm}{xs:List Int}(h:DT w v xs)(hf:Fr S w w')(hS:∀g∈BN v,g∉S):DT w' v xs:=by
 rcases h with h|⟨g,o,cap,cur,rfl,hg,r⟩
 ·exact wr h
 ·exact ws ⟨g,o,cap,cur,rfl,hf.at_ hg (hS g (Cb.2 rfl)),r⟩
def DT.keep{w w':wn}{v:wm}{xs:List Int}(h:DT w v xs)(hf:Fr [] w w'):DT w' v xs:=h.keep' hf λg _=>by simp
def DT.one{w:wn}{v:wm}{xs:List Int}(h:DT w v xs):v.oneCell'=wk/\v.cells = #[v]:=by
 rcases h with⟨rfl,_⟩|⟨g,o,cap,cur,rfl,_⟩
 ·exact⟨rfl,rfl⟩
 ·exact⟨rfl,rfl⟩
def DT.nb{w:wn}{v:wm}{xs:List Int}{g:Nat}{cs:Array wm}{e':TypeId}{fz:Nat × Nat}(h:DT w v xs)(hg:w.heap[g]?=wh (wt cs e' fz))(he:3≠e'):g∉BN v:=by
 intro hg';rw[Cb]at hg';rcases h with⟨rfl,_⟩|⟨k,o,cap,cur,rfl,hh,_⟩
 ·simp[wm.ownBlock]at hg'
 ·simp only[wm.ownBlock,zS]at hg';rw[hg',hg]at hh;simp only[zS,Obj.cells.injEq]at hh;exact he hh.2.1.symm
def DT.ne{w:wn}{v v':wm}{xs:List Int}{e':TypeId}{sz':Nat}{ys:List (List wm)}(h:DT w v xs)(h':BQ w v' e' sz' ys)(he:3≠e'):∀g∈BN v,g∉BN v':=by
 intro g hg hg';obtain⟨⟨_,h3'⟩,_⟩:=h';rcases h3' with⟨rfl,_⟩|⟨k',cap',cur',rfl,_,hh',_⟩
 ·simp[BN,wm.ownBlock]at hg'
 ·simp[BN,wm.ownBlock]at hg';subst hg';exact h.nb hh' he hg
def DT.of_own{w:wn}{v:wm}{xs:List Int}(h:BQ w v 3 1 (qC xs)):DT w v xs:=by
 have hl:(qC xs).length=xs.length:=by simp[qC]
 obtain⟨⟨h1,h2⟩,h3⟩:=h;rcases h2 with⟨rfl,h2⟩|⟨g,cap,cur,rfl,_,hg,h4,h5,h6,h7⟩
 ·exact wr ⟨rfl,wW (by omega)⟩
 ·refine ws ⟨g,0,cap,cur,by rw[hl],hg,by omega,by omega,h5,λj hj=>?_⟩;have hf:=EB (sz:=1) (qC xs) (λx hx=>(h3 x hx).1) j [v6 wg xs[j]] (by simp[qC,hj]) 0 (by omega);have e:(cur.toList.take ((qC xs).length*1))[j*1+0]?=wh (v6 wg xs[j]):=by rw[h7,hf];rfl
  rw[List.getElem?_take_of_lt (by omega)]at e;simpa using e
section
variable{K:VK}{w:wn}
def YL(n:Int):(Instr.buildSlice 54 1 #[(0,v6 wg n)]).run Z w=.ok (v8 (wh ⟨w.heap.size,0,wj⟩) 1 1) (w.alloc (wt #[v6 wg n] 3)):=by kernel_rfl
def JP{P:wq}(t ty e:TypeId)(i:TypeInfo)(ht:P.underlying t=wh (.slice e))(hi:P.info? e=wh i)(h1i:i.size=1)(g o sLen sCap:Nat)(cur:Array wm)(hg:w.heap[g]?=wh (wt cur e (0,0)))(a:Addr)(c:Nat)(u:wm)(hu:w.cell? a=wh u)(h1:u.oneCell'=wk)(hroom:sLen+1<=sCap)(hfit:o+sLen+1<=cur.size):
  (Builtin.append_ #[t,t] ty #[v8 (wh ⟨g,o,wj⟩) sLen sCap,v8 (wh a) 1 c]).run P w=
   .ok (v8 (wh ⟨g,o,wj⟩) (sLen+1) sCap) (w.setRow g (cur.toList.take (o+sLen)++[u]++cur.toList.drop (o+sLen+1)).toArray):=by
 have hadd:a.add 0=a:=HW a;have hf:=run_firstCells_some (P:=P) w 1 1 a 1 c [u] rfl (λj v hj=>by
  match j,hj with
  | 0,hj=>simp only[xW,zS]at hj;subst hj;rw[hadd];exact hu
  | j+1,hj=>simp at hj)
 have hst:=run_storeCells_at P g (o+sLen) e [u] 0 cur w hg (by simp;omega) (by simpa using h1);simp only[u9,d9,m7,vd]at hst;simp[Builtin.append_,ut ht,sizeOf,typeInfo,hi,h1i,Builtin.lenOf,hroom,hf,Addr.add_lit,hst]
def BG{W0:wn}{v:wm}{xs:List Int}{n:Int}(hf:Fr [] W0 w)(hn:BY W0 v)(hv:DT w v xs)(hl:xs.length<=17592186044415)(hk:∀v' w',Fr [] W0 w'->BY W0 v'->DT w' v' (xs++[n])->Fr (BN v) w w'->(∀g∈BN v',g∈BN v∨w.heap.size<=g)->K v' w'):
  Am Z (Instr.buildSlice 54 1 #[(0,v6 wg n)]) w λx w1=>Am Z (Builtin.append_ #[54,54] 54 #[v,x]) w1 K:=by
 have happ:qC (xs++[n])=qC xs++[[v6 wg n]]:=by simp[qC]
 rcases hv with⟨rfl,rfl⟩|⟨g,o,cap,cur,rfl,hg,h1,h2,h3,h4⟩
 ·refine Br (x:=[v6 wg n]) (e:=3) (sz:=1) (bytes:=8) (z:=v6 wg 0) Tryz.underlying54 (by kernel_rfl) rfl (by decide) (YL n) rfl (by simp[wm.oneCell']) hf hn (BQ.nil _ _ _) (by simp) (by simp) λv' w' a b c d e=>hk v' w' a b (.of_own c) d e
 ·refine A4 (YL n) ?_;have hw:=DE.mk' w (wt #[v6 wg n] 3);have hg1:=hw.fr.at_ hg (by simp);have hf1:=hf.trans hw.fr;have hcell:(w.alloc (wt #[v6 wg n] 3)).cell? ⟨w.heap.size,0,wj⟩=wh (v6 wg n):=by rw[Eu hw.at_];rfl
  have lg:=BP hg;generalize w.alloc (wt #[v6 wg n] 3)=w1 at *;have hsz:=hw.fr.size;obtain⟨i0,hi,hzz⟩:∃i0,Tryz.prog.info? 3=wh i0/\(i0.zero,i0.size,i0.bytes)=(wh (v6 wg 0),1,8):=by
   have:(Tryz.prog.info? 3).map (λi=>(i.zero,i.size,i.bytes))=wh (wh (v6 wg 0),1,8):=by kernel_rfl
   exact yD.1 this
  simp only[uz]at hzz;by_cases hroom:xs.length+1<=cap
  ·have hr:=JP (P:=Z) (w:=w1) 54 54 3 i0 Tryz.underlying54 hi hzz.2.1 g o xs.length cap cur hg1 ⟨w.heap.size,0,wj⟩ 1 (v6 wg n) hcell rfl hroom (by omega);refine A4 hr ?_;have hu:=Jm (cs':=(cur.toList.take (o+xs.length)++[wm.int wg n]++cur.toList.drop (o+xs.length+1)).toArray) hg1
   refine hk _ _ (hf1.then hu.fr λz hz=>ws (by simp only[zF]at hz;rw[hz];exact hn g rfl)) hn (ws ⟨g,o,cap,_,by simp,hu.at_,by simpa using hroom,by simp;omega,h3,λj hj=>?_⟩) (by
    have:=hw.fr.w (S:=[g]);exact this.trans hu.fr) λz hz=>wr hz
   rw[yH,List.append_assoc];by_cases hjl:j<xs.length
   ·rw[xL (by simp;omega),List.getElem?_take_of_lt (by omega),yF,h4 j hjl,xT hjl]
   ·have ej:j=xs.length:=by simp at hj;omega
    subst ej;rw[xG (by simp;omega)];have e0:o+xs.length-(cur.toList.take (o+xs.length)).length=0:=by simp;omega
    rw[e0];simp
  ·have hr:=run_append_grow (P:=Z) w1 54 54 3 i0 (v6 wg 0) Tryz.underlying54 hi hzz.1 ⟨g,o,wj⟩ xs.length cap (xs.map (wm.int wg)) (by rw[hzz.2.1];simp) (λj v hj=>by
     simp only[zN,yD]at hj;obtain⟨k,hk1,rfl⟩:=hj;obtain⟨hj',rfl⟩:=xM.1 hk1;rw[Addr.add_lit,Eu hg1];exact h4 j hj') ⟨w.heap.size,0,wj⟩ 1 1 [v6 wg n] (by rw[hzz.2.1];simp) (λj v hj=>by
     match j,hj with
     | 0,hj=>simp only[xW,zS]at hj;subst hj;rw[HW];exact hcell
     | j+1,hj=>simp at hj) (by omega) (by omega) (growslice_fits (by omega) (by rw[hzz.2.2];omega))
   refine A4 hr ?_;have hge:=grownCap_ge w1 (xs.length+1) cap 3;have hle:=grownCap_le_maxLen w1 (xs.length+1) cap 3 (by unfold maxLen;omega);generalize hcap:grownCap w1 (xs.length+1) cap 3=cap' at *;have hn2:=DE.mk' w1.drew (wt ((xs.map (wm.int wg)).toArray++[wm.int wg n].toArray++Builtin.zeroCells (wm.int wg 0).cells (cap'-(xs.length+1))) 3);have fd:Fr [] w1 w1.drew:=Fr.drew w1;have i2:=hn2.is
   have z2:w1.drew.heap.size=w1.heap.size:=rfl;have z1:=hf1.size;rw[show w1.heap.size=w1.drew.heap.size from rfl];refine hk _ _ (hf1.trans (fd.trans hn2.fr)) (λz hz=>?_) (ws ⟨_,0,cap',_,by simp,hn2.at_,by simpa using hge,by simp[Builtin.zeroCells,wm.cells];omega,hle,λj hj=>?_⟩) ((hw.fr.trans (fd.trans hn2.fr)).w) λz hz=>?_
   ·simp only[wm.ownBlock,zS]at hz;omega
   ·simp only[vd];have hj':j<xs.length+1:=by simpa using hj
    rw[xA (by simp;omega)];by_cases hjl:j<xs.length
    ·rw[xA (by simpa using hjl),xT hjl];simp[hjl]
    ·have ej:j=xs.length:=by omega
     subst ej;rw[Array.getElem?_append_right (by simp)];simp
   ·simp only[BN,wm.ownBlock,zF]at hz;exact ws (by omega)
def BJ{v:wm}{x:Int}{xs:List Int}(hv:DT w v (x::xs))(hk:∀v',DT w v' xs->(∀g∈BN v',g∈BN v)->K v' w):Am Z (Instr.sliceAt 54 v (wh (v6 wg 1)) wj wj) w K:=by
 rcases hv with⟨_,h⟩|⟨g,o,cap,cur,rfl,hg,h1,h2,h3,h4⟩
 ·cases h
 ·refine A4 (FU (e:=3) (sz:=1) _ _ _ wg 1 Tryz.underlying54 (by kernel_rfl) (by omega) (by simp;omega)) ?_;simp only[d9]at h1 ⊢;by_cases hc:cap=1
  ·have e:xs=[]:=wW (by omega);subst e hc;refine hk _ (ws ⟨g,o,0,cur,?_,hg,by simp,by omega,by simp[maxLen],λj hj=>by simp at hj⟩) λz hz=>hz;simp
  ·refine hk _ (ws ⟨g,o+1,cap-1,cur,?_,hg,by omega,by omega,by omega,λj hj=>?_⟩) λz hz=>?_
   ·rw[vx (by omega)];simp[Addr.add_lit]
   ·have:=h4 (j+1) (by simp;omega);rw[show o+1+j=o+(j+1) by omega,this];simp
   ·rw[vx (by omega)]at hz;simpa[BN,wm.ownBlock,Addr.add_lit] using hz
end
section
variable{K:VK}{w:wn}
def Se(l:List Bool)(j:Nat)(b:Bool):(CA l).set j [wd b]=CA (l.set j b):=by simp[CA,vi]
def XJ{g o:Nat}{cs:Array wm}{e:TypeId}{fz:Nat × Nat}{s f:wm}(hg:w.heap[g]?=wh (wt cs e fz))(h0:cs[o]?=wh s)(h1:cs[o+1]?=wh f)(hk:K (we #[s,f]) w):Ak 2 (v7 (wh ⟨g,o,wj⟩)) w K:=by
 refine Bw (x:=[s,f]) hg rfl (by omega) (λj hj=>?_) hk
 match j,hj with
 | 0,_=>simpa using h0
 | 1,_=>simpa using h1
def XP{N:List Nd}{s:Int}{i:Nat}(h:i<N.length)(h1:N[i].1=s)(h2:∀j (hj:j<N.length),j<i->N[j].1≠s):I2 N s=i:=by unfold I2;rw[XQ h h1 h2]
def Ws{N:List Nd}{s:Int}(h:∀j (hj:j<N.length),N[j].1≠s):I2 N s = -1:=by unfold I2;rw[U5 λx hx=>?_];obtain⟨j,hj,rfl⟩:=yW hx;exact h j hj
def NX:DK Z 169=wk:=by kernel_rfl
def Rc{W0:wn}{nv:wm}{N:List Nd}{s:Int}{b:Nat}(hN:DB W0 nv N)(hb0:W0.heap[b]?=wh (wt #[v6 wg s] 2 (0,0)))(h:∀w',Fr [] W0 w'->K (v6 wg (I2 N s)) w'):
  ∀(d j:Nat) (w:wn),N.length=j+d->Fr [] W0 w->(∀i (hi:i<N.length),i<j->N[i].1≠s)->F168.l2 K nv (.func (.func 169) #[] #[v7 (wh ⟨b,0,wj⟩)]) (v6 wg (N.length:Int)) (v6 wg (j:Int)) w:=by
 have hle:=hN.le;intro d;induction d with
 | zero=>
  intro j w hj hf hn;refine F168.l2.to ?_;simp only[zv,show ¬((j:Int)<(N.length:Int)) by omega];refine F168.k7.to ?_;have:=h w hf
  rwa [Ws λi hi=>hn i hi (by omega)]at this
 | succ d ih=>
  intro j w hj hf hn;have jl:j<N.length:=by omega
  refine F168.l2.to ?_;simp only[zv,show ((j:Int)<(N.length:Int)) by omega];refine F168.k3.to ((hN.keep hf).get jl λg o cs e fz f hg h0 h1 hr=>XJ hg h0 h1 (Hn NX (F169.sh ?_)));refine Ar λb2 w1 hn1=>?_;have e2:wm.cells (we #[v6 wg N[j].1,f]) = #[v6 wg N[j].1,f]:=by simp[wm.cells]
  have hb2:=hn1.at_;rw[e2]at hb2;simp only[zv];refine Ad (v:=v6 wg N[j].1) hb2 rfl (Ad (v:=v6 wg s) ((hf.trans hn1.fr).at_ hb0 (by simp)) rfl ?_);by_cases hs:N[j].1=s
  ·simp only[zv,vw,hs];have:=h w1 (hf.trans hn1.fr)
   rwa [XP jl hs hn]at this
  ·simp only[zv,hs];refine F168.k6.to ?_;simp only[A7];rw[BO (n:=(j:Int)+1) (by omega),show (j:Int)+1=((j+1:Nat):Int) by omega];refine ih (j+1) w1 (by omega) (hf.trans hn1.fr) λi hi hij=>?_;by_cases e:i=j
   ·subst e;exact hs
   ·exact hn i hi (by omega)
def Wr{rv nv:wm}{V:Vw}{s:Int}(hV:Ev w rv nv V)(h:∀w',Fr [] w w'->K (v6 wg (I2 V.2 s)) w'):I Z 109 #[we #[rv,nv],v6 wg s] w K:=by refine F109.sh (VB.new hV λb w1 hf1 _ hb hV1=>Ar λb2 w2 hn2=>(hb.keep hn2.fr (by simp)).f1 ?_);refine F168.sh (hV1.nodes.len ?_);exact Rc (hV1.nodes.keep hn2.fr) hn2.at_ (λw' hf'=>h w' ((hf1.trans hn2.fr).trans hf')) V.2.length 0 w2 (by omega) (Fr.refl _ _) λi hi c=>by omega
end
def qI(q:List Nat):List Int:=q.map λ(k:Nat)=>(k:Int)
def XS(q:List Nat):(qI q).length=q.length:=by simp[qI]
structure RI(W0:wn)(b1 b3 b4 b5:Nat)(rv nv:wm)(V:Vw)(mq:List Bool × List Nat)(w:wn)(mv qv:wm):Prop where
 fr:Fr [] W0 w
 hb:VB w b1 rv nv
 h3:w.heap[b3]?=wh (wt #[mv] 84 (0,0))
 om:BQ w mv 4 1 (CA mq.1)
 nm:BY W0 mv
 h4:w.heap[b4]?=wh (wt #[qv] 54 (0,0))
 oq:DT w qv (qI mq.2)
 nq:BY W0 qv
 h5:w.heap[b5]?=wh (wt #[.func (.func 108) #[] #[v7 (wh ⟨b1,0,wj⟩),v7 (wh ⟨b3,0,wj⟩),v7 (wh ⟨b4,0,wj⟩)]] 163 (0,0))
 lo:W0.heap.size<=b3/\W0.heap.size<=b4/\b3≠b4/\b3≠b1/\b4≠b1/\b3≠b5/\b4≠b5
 ml:mq.1.length=V.2.length
 bnd:F1 mq.1+mq.2.length<=V.2.length
def RI.keep{W0 w w':wn}{b1 b3 b4 b5:Nat}{rv nv mv qv:wm}{V:Vw}{mq:List Bool × List Nat}(h:RI W0 b1 b3 b4 b5 rv nv V mq w mv qv)(hf:Fr [] w w'):RI W0 b1 b3 b4 b5 rv nv V mq w' mv qv:=
 ⟨h.fr.trans hf,h.hb.keep hf (by simp),hf.at_ h.h3 (by simp),h.om.keep hf (by simp),h.nm,hf.at_ h.h4 (by simp),h.oq.keep hf,h.nq,hf.at_ h.h5 (by simp),h.lo,h.ml,h.bnd⟩
section
variable{K:VK}{w:wn}
def Pg:DK Z 108=wk:=by kernel_rfl
def Ph:DK Z 110=wk:=by kernel_rfl
def SG{W0:wn}{b1 b3 b4 b5:Nat}{rv nv mv qv:wm}{V:Vw}{mq:List Bool × List Nat}{s:Int}(hV:Ev W0 rv nv V)(hn:V.2.length<=4398046511104)(hI:RI W0 b1 b3 b4 b5 rv nv V mq w mv qv)(hk:∀w' mv' qv',RI W0 b1 b3 b4 b5 rv nv V (E6 V.2 s mq) w' mv' qv'->K (wc #[]) w'):Du Z (.func (.func 108) #[] #[v7 (wh ⟨b1,0,wj⟩),v7 (wh ⟨b3,0,wj⟩),v7 (wh ⟨b4,0,wj⟩)]) [v6 wg s] w K:=by
 refine Hn Pg (F108.sh (hI.hb.all (Wr (hV.keep hI.fr) λw1 hf1=>?_)));have hI1:=hI.keep hf1;obtain⟨m,q⟩:=mq;obtain⟨l1,l2,l3,l4,l5,l6,l7⟩:=hI.lo;cases hp:D7 V.2 s with
 | none=>
  have e:I2 V.2 s = -1:=by unfold I2;rw[hp]
  rw[Lc hp]at hk;rw[e];simp only[zv,show ¬((-1:Int)≥0) by omega];exact hk w1 mv qv hI1
 | some i=>
  have e:I2 V.2 s=(i:Int):=by unfold I2;rw[hp]
  have li:=LQ hp;have hml:=hI.ml;simp only at hml;have lm:i<m.length:=by omega
  rw[e];simp only[zv,show ((i:Int)≥0) by omega];refine Ad (v:=mv) hI1.h3 rfl (AU hI1.om.rd (by omega) (by rw[zK];exact J3 lm) λg oo cs e' fz hg _ hc=>Ad (v:=wd m[i]) hg (by simpa using hc 0 (by simp)) ?_);cases hmi:m[i] with
  | true=>
   rw[Lb hp (by rw[xS lm,hmi])]at hk;simp only[zv];exact hk w1 mv qv hI1
  | false=>
   have hmf:m[i]?=wh wl:=by rw[xS lm,hmi]
   rw[JE hp hmf]at hk;have hcf:=IM hmf;have hbnd:=hI.bnd;simp only at hbnd;simp only[zv];refine Ad (v:=mv) hI1.h3 rfl (Bi hI1.om (by omega) (by rw[zK,Dm];exact lm) rfl (by simp[wm.cells,wm.oneCell']) λw2 ho2 hf2 hz2=>?_);rw[zK]at ho2;have n1:b1∉BN mv:=hI1.om.nb hI1.hb (by decide);have n3:b3∉BN mv:=hI1.om.nb hI1.h3 (by decide);have n4:b4∉BN mv:=hI1.om.nb hI1.h4 (by decide)
   have n5:b5∉BN mv:=hI1.om.nb hI1.h5 (by decide);have hf02:Fr [] W0 w2:=hI1.fr.then hf2 λx hx=>ws (hI1.nm x (Cb.1 hx));have oq2:=hI1.oq.keep' hf2 (hI1.oq.ne hI1.om (by decide));refine Ad (v:=qv) (hf2.at_ hI1.h4 n4) rfl (BG hf02 hI1.nq oq2 (by show (qI q).length<=_;rw[XS];omega) λqv' w3 hf3 hn3 ho3 hb3 hg3=>?_);have p1:b1∉BN qv:=oq2.nb (hf2.at_ hI1.hb n1) (by decide)
   have p3:b3∉BN qv:=oq2.nb (hf2.at_ hI1.h3 n3) (by decide);have p4:b4∉BN qv:=oq2.nb (hf2.at_ hI1.h4 n4) (by decide);have p5:b5∉BN qv:=oq2.nb (hf2.at_ hI1.h5 n5) (by decide);have om3:BQ w3 mv 4 1 (CA (m.set i wk)):=by rw[<-Se];exact ho2.keep' hb3 λg hg c=>oq2.ne ho2 (by decide) g c hg
   have h43:=hb3.at_ (hf2.at_ hI1.h4 n4) p4;refine AI h43 ho3.one.2 ho3.one.1 (by simp) λw4 hu4=>hk w4 mv qv' ?_;have om4:BQ w4 mv 4 1 (CA (m.set i wk)):=om3.keep' hu4.fr λg hg c=>by
    simp only[zF]at c;subst c;exact om3.nb h43 (by decide) hg
   have oq4:DT w4 qv' (qI (q++[i])):=by
    have:qI (q++[i])=qI q++[(i:Int)]:=by simp[qI]
    rw[this];exact ho3.keep' hu4.fr λg hg c=>by
     simp only[zF]at c;subst c;exact ho3.nb h43 (by decide) hg
   exact⟨hf3.then hu4.fr λz hz=>ws (by simp only[zF]at hz;omega),hu4.fr.at_ (hb3.at_ (hf2.at_ hI1.hb n1) p1) (by simp;omega),hu4.fr.at_ (hb3.at_ (hf2.at_ hI1.h3 n3) p3) (by simp;omega),om4,hI1.nm,hu4.at_,oq4,hn3,hu4.fr.at_ (hb3.at_ (hf2.at_ hI1.h5 n5) p5) (by simp;omega),hI.lo,by simpa using hml,by simp only[zE,d9,m7];omega⟩
def Ps{W0:wn}{b1 b3 b4 b5:Nat}{rv nv lv:wm}{V:Vw}{mq:List Bool × List Nat}{l:List Va}(hV:Ev W0 rv nv V)(hn:V.2.length<=4398046511104)(hr:Cp W0 lv 2 (Cz l))(hk:∀w' mv' qv',RI W0 b1 b3 b4 b5 rv nv V (CS V.2 (CH l) mq) w' mv' qv'->K (wc #[]) w'):
  ∀(d i:Nat) (mv qv:wm) (w:wn),l.length=i+d->RI W0 b1 b3 b4 b5 rv nv V (CS V.2 (CH (l.take i)) mq) w mv qv->F110.l1 K (v7 (wh ⟨b5,0,wj⟩)) lv (v6 wg (l.length:Int)) (v6 wg (i:Int)) w:=by
 have hle:=hr.le;rw[CE]at hle;intro d;induction d with
 | zero=>
  intro i mv qv w hi hI;refine F110.l1.to ?_;simp only[zv,show ¬((i:Int)<(l.length:Int)) by omega];rw[yB (by omega)]at hI;exact hk w mv qv hI
 | succ d ih=>
  intro i mv qv w hi hI;have il:i<l.length:=by omega
  have hs:=Ri il;refine F110.l1.to ?_;simp only[zv,show ((i:Int)<(l.length:Int)) by omega];have nx:∀w' mv' qv',RI W0 b1 b3 b4 b5 rv nv V (CS V.2 (CH (l.take (i+1))) mq) w' mv' qv'->F110.k5 K (v7 (wh ⟨b5,0,wj⟩)) lv (v6 wg (l.length:Int)) (v6 wg (i:Int)) w':=λw' mv' qv' hI'=>by
   refine F110.k5.to ?_;simp only[A7];rw[BO (n:=(i:Int)+1) (by omega),show (i:Int)+1=((i+1:Nat):Int) by omega];exact ih (i+1) mv' qv' w' (by omega) hI'
  refine F110.k2.to (AU (hr.keep hI.fr) (by omega) (by rw[zK];exact MA il) λg oo cs e fz hg _ hc=>Bw (x:=[v6 wg l[i].1,v6 wg l[i].2]) hg rfl (by omega) hc ?_);refine Ar λb w1 hn1=>AA (x:=we #[v6 wg l[i].1,v6 wg l[i].2]) hn1.at_ rfl (by
   intro u hu;simp[wm.cells]at hu;rcases hu with rfl|rfl<;>rfl) rfl λw2 hu2=>?_
  have i1:=hn1.is;have f2:Fr [] w w2:=hn1.fr.then hu2.fr λz hz=>ws (by simp only[zF]at hz;omega);have hb2:w2.heap[b]?=wh (wt #[v6 wg l[i].1,v6 wg l[i].2] 60 (0,0)):=hu2.at_;have hI2:=hI.keep f2;simp only[zv];refine Ad (v:=v6 wg l[i].1) hb2 rfl ?_;by_cases h2:l[i].1=2
  ·simp only[zv,vw,h2];rw[vy h2]at hs;refine Ad (v := .func (.func 108) #[] #[v7 (wh ⟨b1,0,wj⟩),v7 (wh ⟨b3,0,wj⟩),v7 (wh ⟨b4,0,wj⟩)]) hI2.h5 rfl (Ad (v:=v6 wg l[i].2) hb2 rfl (SG hV hn hI2 λw3 mv' qv' hI3=>nx w3 mv' qv' ?_));rw[hs,LK];exact hI3
  ·simp only[zv,h2];rw[vx h2,j8]at hs;refine nx w2 mv qv ?_;rw[hs];exact hI2
def OT{W0:wn}{b1 b3 b4 b5:Nat}{rv nv lv mv qv:wm}{V:Vw}{mq:List Bool × List Nat}{l:List Va}(hV:Ev W0 rv nv V)(hn:V.2.length<=4398046511104)(hr:Cp W0 lv 2 (Cz l))(hI:RI W0 b1 b3 b4 b5 rv nv V mq w mv qv)(hk:∀w' mv' qv',RI W0 b1 b3 b4 b5 rv nv V (CS V.2 (CH l) mq) w' mv' qv'->K (wc #[]) w'):Du Z (.func (.func 110) #[] #[v7 (wh ⟨b5,0,wj⟩)]) [lv] w K:=by refine Hn Ph (F110.sh (AH hr ?_));rw[CE];exact Ps hV hn hr hk l.length 0 mv qv w (by omega) hI
def Rf{W0:wn}{b1 b3 b4 b5:Nat}{rv nv:wm}{V:Vw}(hV:Ev W0 rv nv V)(hn:V.2.length<=4398046511104)(h:∀v' w',Fr [] W0 w'->BY W0 v'->BQ w' v' 4 1 (CA (Em V))->K v' w'):
  ∀(d:Nat) (m:List Bool) (q:List Nat) (mv qv:wm) (w:wn),F1 m+q.length=d->RI W0 b1 b3 b4 b5 rv nv V (m,q) w mv qv->Wy V m q->(∀s∈GS V,∀i,D7 V.2 s=wh i->m[i]?=wh wk)->
   F61.l11 K (v7 (wh ⟨b1,0,wj⟩)) (v7 (wh ⟨b3,0,wj⟩)) (v7 (wh ⟨b4,0,wj⟩)) (.func (.func 110) #[] #[v7 (wh ⟨b5,0,wj⟩)]) w:=by
 have fin:∀(m:List Bool) (mv qv:wm) (w:wn),RI W0 b1 b3 b4 b5 rv nv V (m,[]) w mv qv->Wy V m []->(∀s∈GS V,∀i,D7 V.2 s=wh i->m[i]?=wh wk)->
   F61.l11 K (v7 (wh ⟨b1,0,wj⟩)) (v7 (wh ⟨b3,0,wj⟩)) (v7 (wh ⟨b4,0,wj⟩)) (.func (.func 110) #[] #[v7 (wh ⟨b5,0,wj⟩)]) w:=λm mv qv w hI hW hs=>by
  refine F61.l11.to (Ad (v:=qv) hI.h4 rfl (AH hI.oq.rd ?_));simp only[qI,qC,u6,m7,Ag,AL,decide_false,show ¬(((0:Nat):Int)>0) by omega];refine F61.k15.to (Ad (v:=mv) hI.h3 rfl (h mv w hI.fr hI.nm ?_));have:=hI.om
  rwa [Yi hW hs]at this
 intro d;induction d with
 | zero=>
  intro m q mv qv w hd hI hW hs;obtain rfl:q=[]:=wW (by omega);exact fin m mv qv w hI hW hs
 | succ d ih=>
  intro m q mv qv w hd hI hW hs;cases q with
  | nil=>exact fin m mv qv w hI hW hs
  | cons i q=>
   have hri:=hW.snd i (hW.qm i (by simp));have li:=hri.lt;have hni:V.2[i]?=wh V.2[i]:=xS li;obtain⟨l1,l2,l3,l4,l5,l6,l7⟩:=hI.lo;have hqi:qI (i::q)=(i:Int)::qI q:=rfl;have hoq:=hI.oq;simp only at hoq;rw[hqi]at hoq;refine F61.l11.to (Ad (v:=qv) hI.h4 rfl (AH hoq.rd ?_));have hlen:((qC ((i:Int)::qI q)).length:Int)>0:=by simp[qC]
   simp only[zv,hlen];refine F61.k12.to (Ad (v:=qv) hI.h4 rfl (AU (x:=[v6 wg (i:Int)]) hoq.rd (by omega) rfl λg oo cs e' fz hg _ hc=>Ad (v:=v6 wg (i:Int)) hg (by simpa using hc 0 (by simp)) (Ad (v:=qv) hI.h4 rfl (BJ hoq λqv' hq' hg'=>?_))));refine AI hI.h4 hq'.one.2 hq'.one.1 (by simp) λw1 hu1=>?_
   have hI1:RI W0 b1 b3 b4 b5 rv nv V (m,q) w1 mv qv':=⟨hI.fr.then hu1.fr λz hz=>ws (by simp only[zF]at hz;omega),hu1.fr.at_ hI.hb (by simp;omega),hu1.fr.at_ hI.h3 (by simp;omega),hI.om.keep' hu1.fr λz hz c=>by
     simp only[zF]at c;subst c;exact hI.om.nb hI.h4 (by decide) hz,hI.nm,hu1.at_,hq'.keep' hu1.fr λz hz c=>by
     simp only[zF]at c;subst c;exact hq'.nb hI.h4 (by decide) hz,λz hz=>hI.nq z (Cb.1 (hg' z (Cb.2 hz))),hu1.fr.at_ hI.h5 (by simp;omega),hI.lo,hI.ml,by have:=hI.bnd;simp only[d9]at this;simp only;omega⟩
   refine hI1.hb.f1 (hV.nodes.getS hI1.fr li λg oo f hr hs0 hs1=>?_);simp only[Ai];obtain⟨cs,e',fz,hg,h1⟩:=hs1 w1 hI1.fr;refine Ad hg h1 (OT hV hn hr hI1 λw2 mv' qv'' hI2=>?_);obtain⟨p1,p2,p3⟩:=Yj hW hni;refine ih (CS V.2 (CH V.2[i].2) (m,q)).1 (CS V.2 (CH V.2[i].2) (m,q)).2 mv' qv'' w2 (p2.trans (by simp only[d9]at hd;omega)) hI2 p1 λs hs' k hk=>p3 k (hs s hs' k hk)
def Rh{W0:wn}{b1 b3 b4 b5:Nat}{rv nv:wm}{V:Vw}(hV:Ev W0 rv nv V)(hn:V.2.length<=4398046511104)(h:∀v' w',Fr [] W0 w'->BY W0 v'->BQ w' v' 4 1 (CA (Em V))->K v' w'):
  ∀(d j:Nat) (mv qv:wm) (w:wn),V.1.length=j+d->RI W0 b1 b3 b4 b5 rv nv V (CS V.2 (0::(V.1.take j).flatMap CH) (List.replicate V.2.length wl,[])) w mv qv->
   F61.l7 K (v7 (wh ⟨b1,0,wj⟩)) (v7 (wh ⟨b3,0,wj⟩)) (v7 (wh ⟨b4,0,wj⟩)) (.func (.func 110) #[] #[v7 (wh ⟨b5,0,wj⟩)]) rv (v6 wg (V.1.length:Int)) (v6 wg (j:Int)) w:=by
 have hle:=hV.rows.le;intro d;induction d with
 | zero=>
  intro j mv qv w hj hI;refine F61.l7.to ?_;simp only[zv,show ¬((j:Int)<(V.1.length:Int)) by omega];rw[yB (by omega)]at hI;have hw:=Na (l:=GS V) (Zx V) λs hs i hi => .seed hs hi;exact F61.k11.to (Rf hV hn h _ (CS V.2 (GS V) (List.replicate V.2.length wl,[])).1 (CS V.2 (GS V) (List.replicate V.2.length wl,[])).2 mv qv w rfl hI hw.1 hw.2.2.2)
 | succ d ih=>
  intro j mv qv w hj hI;have jl:j<V.1.length:=by omega
  refine F61.l7.to ?_;simp only[zv,show ((j:Int)<(V.1.length:Int)) by omega];refine F61.k8.to (hV.rows.getS hI.fr jl λg o v hr hs=>?_);obtain⟨cs,e,fz,hg,hc⟩:=hs w hI.fr;refine Ad hg hc (OT hV hn hr hI λw1 mv' qv' hI1=>F61.k10.to ?_);simp only[A7];rw[BO (n:=(j:Int)+1) (by omega),show (j:Int)+1=((j+1:Nat):Int) by omega];refine ih (j+1) mv' qv' w1 (by omega) ?_
  have e:0::(V.1.take (j+1)).flatMap CH=(0::(V.1.take j).flatMap CH)++CH V.1[j]:=by rw[wT jl,List.flatMap_append];simp
  rw[e,LK];exact hI1
theorem Oa:∀n,F1 (List.replicate n wl)=n
 | 0=>rfl
 | n+1=>by rw[yX];simp only[F1];rw[Oa n,vx Bool.false_ne_true];omega
def Ww{rv nv:wm}{V:Vw}(hV:Ev w rv nv V)(hn:V.2.length<=4000000)(h:∀v' w',Fr [] w w'->BY w v'->BQ w' v' 4 1 (CA (Em V))->K v' w'):I Z 61 #[we #[rv,nv]] w K:=by
 refine F61.sh (VB.new hV λb1 w1 hf1 hb10 hb1 hV1=>hb1.f1 (hV.nodes.len ?_));refine Bf (t:=84) (e:=4) (sz:=1) (bytes:=1) (z:=wd wl) V.2.length Tryz.underlying84 (by kernel_rfl) rfl (by decide) (by simp[wm.cells,wm.oneCell']) (by omega) (by omega) λgy w2 hn2 ho2=>?_;have e0:List.replicate V.2.length (wm.cells (wd wl)).toList=CA (List.replicate V.2.length wl):=by simp[CA,wm.cells]
 rw[e0]at ho2;have f2:=hf1.trans hn2.fr;have hb12:=hb1.keep hn2.fr (by simp);have i2:=hn2.is;have z1:=hf1.size;have z2:=hn2.sz;have l1:=BP hb1;refine Ar λb3 w3 hn3=>AI hn3.at_ ho2.one.2 ho2.one.1 (by simp) λw4 hu4=>Ar λb4 w5 hn5=>Ar λb5 w6 hn6=>AI hn6.at_ rfl rfl (by simp) λw7 hu7=>?_;have i3:=hn3.is;have z3:=hn3.sz;have z4:=hu4.sz;have i5:=hn5.is;have z5:=hn5.sz;have i6:=hn6.is
 have g34:Fr [] w2 w4:=hn3.fr.then hu4.fr λz hz=>ws (by simp only[zF]at hz;omega);have f4:Fr [] w w4:=f2.trans g34;have g57:Fr [] w4 w7:=(hn5.fr.trans hn6.fr).then hu7.fr λz hz=>ws (by simp only[zF]at hz;omega);have f7:Fr [] w w7:=f4.trans g57;have h3:w7.heap[b3]?=wh (wt #[v8 (wh ⟨gy,0,wj⟩) V.2.length V.2.length] 84 (0,0)):=g57.at_ hu4.at_ (by simp)
 have h4:w7.heap[b4]?=wh (wt #[v8 wj 0 0] 54 (0,0)):=hu7.fr.at_ (hn6.fr.at_ hn5.at_ (by simp)) (by simp;omega);have hI:RI w b1 b3 b4 b5 rv nv V (List.replicate V.2.length wl,[]) w7 (v8 (wh ⟨gy,0,wj⟩) V.2.length V.2.length) (v8 wj 0 0):=
  ⟨f7,(hb12.keep g34 (by simp)).keep g57 (by simp),h3,(ho2.keep g34 (by simp)).keep g57 (by simp),λg hg=>by simp only[wm.ownBlock,zS]at hg;omega,h4,DT.nil _,BY.nil _,hu7.at_,⟨by omega,by omega,by omega,by omega,by omega,by omega,by omega⟩,by simp,by simp[Oa]⟩
 refine Ad (v := .func (.func 108) #[] #[v7 (wh ⟨b1,0,wj⟩),v7 (wh ⟨b3,0,wj⟩),v7 (wh ⟨b4,0,wj⟩)]) hI.h5 rfl (SG hV (by omega) hI λw8 mv' qv' hI8=>?_);refine hI8.hb.f0 (hV.rows.len (Rh hV (by omega) h V.1.length 0 mv' qv' w8 (by omega) ?_));exact hI8
end
def GG(N:List Nd)(m:List Bool):Nat->List Int
 | 0=>[]
 | j+1=>GG N m j++if m[j]?=wh wk then[(N.getD j (0,[])).1] else[]
def JQ{N:List Nd}{m:List Bool}{j:Nat}(h:j<N.length):GG N m (j+1)=GG N m j++if m[j]?=wh wk then[N[j].1] else[]:=by show _++_=_;rw[xF,xS h];rfl
theorem Ll(N:List Nd)(m:List Bool):∀j,(GG N m j).length<=j
 | 0=>by simp[GG]
 | j+1=>by
  have:=Ll N m j;simp only[GG,zE];split<;>simp<;>omega
theorem Lm{N:List Nd}{m:List Bool}{s:Int}:∀ {j:Nat},j<=N.length->(s∈GG N m j↔∃i,∃h:i<N.length,i<j/\m[i]?=wh wk/\N[i].1=s)
 | 0,_=>by simp[GG]
 | j+1,hj=>by
  have jl:j<N.length:=by omega
  rw[JQ jl,n7,Lm (by omega)];constructor
  ·rintro (⟨i,h,h1,h2,h3⟩|h)
   ·exact⟨i,h,by omega,h2,h3⟩
   ·split at h
    ·rename_i hm;exact⟨j,jl,by omega,hm,(zF.1 h).symm⟩
    ·simp at h
  ·rintro⟨i,h,h1,h2,h3⟩;by_cases e:i=j
   ·subst e;right;rw[vy h2];simpa using h3.symm
   ·exact wr ⟨i,h,by omega,h2,h3⟩
theorem Ji(V:Vw):∀ {j:Nat},j<=V.2.length->(GG V.2 (Em V) j).Nodup
 | 0,_=>by simp[GG]
 | j+1,hj=>by
  have jl:j<V.2.length:=by omega
  rw[JQ jl];by_cases hm:(Em V)[j]?=wh wk
  ·rw[vy hm,zQ];refine⟨Ji V (by omega),by simp,λa ha b hb=>?_⟩;rw[Lm (by omega)]at ha;obtain⟨i,hi,h1,h2,h3⟩:=ha;simp only[zF]at hb;subst hb;rw[<-h3];intro c;have:=RchN.inj (GD.1 h2) (GD.1 hm) hi jl c;omega
  ·rw[vx hm,j8];exact Ji V (by omega)
noncomputable def En(V:Vw):List Int:=FQ (GG V.2 (Em V) V.2.length)
def Ni(V:Vw):(En V).Pairwise (· < ·):=Md (Ji V (vl _))
section
variable{K:VK}{w:wn}
def Nr{v:wm}{l:List Int}(hv:Cp w v 1 (BX l))(hp:l.Pairwise (· < ·))(h:∀w',Fr [] w w'->K v w'):
  ∀(d j:Nat) (w':wn),l.length<=j+1+d->Fr [] w w'->F62.l4 K v (v6 wg ((j+1:Nat):Int)) w':=by
 have hle:=hv.le;rw[Ca]at hle;have fin:∀(j:Nat) (w':wn),l.length<=j+1->Fr [] w w'->F62.l4 K v (v6 wg ((j+1:Nat):Int)) w':=λj w' hj hf=>by
  refine F62.l4.to (AH hv ?_);rw[Ca];simp only[zv,show ¬(((j+1:Nat):Int)<(l.length:Int)) by omega];exact F62.k16.to (h w' hf)
 intro d;induction d with
 | zero=>exact λj w' hj hf=>fin j w' (by omega) hf
 | succ d ih=>
  intro j w' hj hf;by_cases hjl:l.length<=j+1
  ·exact fin j w' hjl hf
  have jl:j+1<l.length:=by omega
  refine F62.l4.to (AH hv ?_);rw[Ca];simp only[zv,show (((j+1:Nat):Int)<(l.length:Int)) by omega];refine F62.k6.to (A9 (λw2=>Fr [] w w2) λw1 hf1 he1=>⟨hf.trans hf1,?_⟩);have f1:=hf.trans hf1;simp only[AN];rw[BO (n:=((j+1:Nat):Int)-1) (by omega),show ((j+1:Nat):Int)-1=(j:Int) by omega];refine Bc (S:=λw2=>Fr [] w w2) (λw2 hw=>hv.keep hw) f1 (by omega) (by rw[zK];exact GC jl) λga oa _ hs1=>?_
  refine Bc (S:=λw2=>Fr [] w w2) (λw2 hw=>hv.keep hw) f1 (by omega) (by rw[zK];exact GC (l:=l) (j:=j) (by omega)) λgb ob _ hs2=>?_;refine Au (v:=v6 wg l[j+1]) (λw' hw=>by obtain⟨cs,e,fz,x,y⟩:=hs1 w' hw;exact⟨cs,e,fz,x,by simpa using y 0 (by simp)⟩) ?_;refine Au (v:=v6 wg l[j]) (λw' hw=>by obtain⟨cs,e,fz,x,y⟩:=hs2 w' hw;exact⟨cs,e,fz,x,by simpa using y 0 (by simp)⟩) ?_
  have hlt:=xP.1 hp j (j+1) (by omega) jl (by omega);have hne:¬(l[j+1]=l[j]):=by omega
  simp only[zv,hne];refine F62.k5.to ?_;simp only[A7];rw[BO (n:=((j+1:Nat):Int)+1) (by omega),show ((j+1:Nat):Int)+1=((j+1+1:Nat):Int) by omega];exact ih (j+1) w1 (by omega) f1
def Qs{v:wm}{l:List Int}(hv:Cp w v 1 (BX l))(hp:l.Pairwise (· < ·))(h:∀w',Fr [] w w'->K v w'):I Z 62 #[v] w K:=by
 refine F62.sh (AH hv ?_);rw[Ca];by_cases h2:(l.length:Int)<2
 ·simp only[zv,h2];exact h w (Fr.refl _ _)
 ·simp only[zv,h2];exact F62.k3.to (Nr hv hp h l.length 0 w (by omega) (Fr.refl _ _))
def Q0{W0:wn}{rv nv mv:wm}{V:Vw}{b:Nat}(hV:Ev W0 rv nv V)(hn:V.2.length<=4000000)(hm0:W0.heap.size<=W0.heap.size)(h:∀v' w',Fr [] W0 w'->BY W0 v'->BQ w' v' 2 1 (BX (GG V.2 (Em V) V.2.length))->F26.k8 K v' w'):
  ∀(d j:Nat) (o:wm) (w:wn),V.2.length=j+d->Fr [] W0 w->VB w b rv nv->Cp w mv 1 (CA (Em V))->(∀g∈BN mv,g∉BN o)->(∀g∈BN mv,g<w.heap.size)->BY W0 o->BQ w o 2 1 (BX (GG V.2 (Em V) j))->
   F26.l3 K (v7 (wh ⟨b,0,wj⟩)) o mv (v6 wg (V.2.length:Int)) (v6 wg (j:Int)) w:=by
 have hle:=hV.nodes.le;intro d;induction d with
 | zero=>
  intro j o w hj hf hb hm hbo hbs hno ho;obtain rfl:j=V.2.length:=by omega
  refine F26.l3.to ?_;simp only[zv,show ¬((V.2.length:Int)<(V.2.length:Int)) by omega];exact h o w hf hno ho
 | succ d ih=>
  intro j o w hj hf hb hm hbo hbs hno ho;have jl:j<V.2.length:=by omega
  have jm:j<(Em V).length:=by rw[Ld];exact jl
  have hs:=JQ (m:=Em V) jl;have hlen:=Ll V.2 (Em V) j;refine F26.l3.to ?_;simp only[zv,show ((j:Int)<(V.2.length:Int)) by omega];refine F26.k4.to (AU hm (by omega) (by rw[zK];exact J3 jm) λg oo cs e' fz hg _ hc=>Ad (v:=wd (Em V)[j]) hg (by simpa using hc 0 (by simp)) ?_);have eget:(Em V)[j]?=wh (Em V)[j]:=xS jm;cases hmj:(Em V)[j] with
  | true=>
   rw[eget,hmj,vy rfl]at hs;simp only[zv];refine Ad (v:=nv) hb rfl ((hV.keep hf).nodes.get jl λg oo cs e' fz f hg h0 h1 hr=>?_);simp only[Ai];refine Ad hg h0 (BA hf hno ho (by omega) λo' w' a b' c d' e=>?_);refine F26.k7.to ?_;simp only[A7];rw[BO (n:=(j:Int)+1) (by omega),show (j:Int)+1=((j+1:Nat):Int) by omega]
   refine ih (j+1) o' w' (by omega) a (hb.keep d' (ho.nb hb (by decide))) ?_ (λz hz c'=>?_) (λz hz=>by have:=hbs z hz;have:=d'.size;omega) b' (by rw[hs];exact c)
   ·obtain⟨A,cc,rfl,x1,x2,x3⟩:=hm;refine⟨A,cc,rfl,x1,x2,λhx=>?_⟩;obtain⟨g,o1,cs,e,fz,rfl,hg,hc⟩:=x3 hx;exact⟨g,o1,cs,e,fz,rfl,d'.at_ hg (hbo g (Cb.2 rfl)),hc⟩
   ·rcases e z c' with q|q
    ·exact hbo z hz q
    ·have:=hbs z hz;omega
  | false=>
   rw[eget,hmj,vx (by simp),j8]at hs;simp only[zv];refine F26.k7.to ?_;simp only[A7];rw[BO (n:=(j:Int)+1) (by omega),show (j:Int)+1=((j+1:Nat):Int) by omega];exact ih (j+1) o w (by omega) hf hb hm hbo hbs hno (by rw[hs];exact ho)
def VD{rv nv:wm}{V:Vw}(hV:Ev w rv nv V)(hn:V.2.length<=4000000)(h:∀v' w',Fr [] w w'->BY w v'->Cp w' v' 1 (BX (En V))->K v' w'):I Z 26 #[we #[rv,nv]] w K:=by
 refine F26.sh (VB.new hV λb w1 hf1 _ hb hV1=>hb.all (Ww hV1 hn λmv w2 hf2 hn2 ho2=>AH ho2.rd ?_));rw[Dm,Ld];have f2:=hf1.trans hf2;refine Q0 (W0:=w) hV hn (vl _) (λv' w3 hf3 hn3 ho3=>?_) V.2.length 0 (v8 wj 0 0) w2 (by omega) f2 (hb.keep hf2 (by simp)) ho2.rd (λg hg c=>by simp[BN,wm.ownBlock]at c) (λg hg=>ho2.mem_lt g hg) (BY.nil _) (BQ.nil _ _ _);have hlen:=Ll V.2 (Em V) V.2.length
 refine F26.k8.to (PI ho3 (by omega) λw4 hf4 ho4=>Qs ho4.rd (Ni V) λw5 hf5=>?_);exact h v' w5 ((hf3.then hf4 λg hg=>ws (hn3 g (Cb.1 hg))).trans hf5) hn3 (ho4.rd.keep hf5)
end
def wo(l k:List Int):List Int:=l.filter λx=>decide (x∉k)
def Mg{l k:List Int}{x:Int}:x∈wo l k↔x∈l/\x∉k:=by unfold wo;simp
section
variable{cf:Cf}{E:Int}{m:Ma}
def GP{s:St}(h:SI s){x:Int}:x∈s.objects↔∃a:Nat,x=a/\s.c.tk a=wk:=by
 unfold St.objects HB;have hn:=h.hi.ci.small_n;simp only[p7,u7,uq];constructor
 ·rintro⟨a,⟨a1,a2⟩,rfl⟩;exact⟨a,rfl,a2⟩
 ·rintro⟨a,rfl,ha⟩;have:=h.hi.ci.tk_lt ha;exact⟨a,⟨by unfold Ce.n;omega,ha⟩,rfl⟩
def GE(h:SI m.co.s){ser:Int}:ser∈m.objs↔∃a fs,Cw m.co.s.c a ser fs:=by
 unfold Ma.objs;rw[(GJ _).mem_iff,u7];constructor
 ·rintro⟨x,hx,rfl⟩;obtain⟨a,rfl,ha⟩:=(GP h).1 hx;obtain⟨ser,fs,o,_⟩:=h.hi.obj a ha;exact⟨a,fs,by rw[(St.read_obj h.hi.ci o).2];exact o⟩
 ·rintro⟨a,fs,o⟩;exact⟨a,(GP h).2 ⟨a,rfl,o.tk⟩,(St.read_obj h.hi.ci o).2⟩
def G9(h:SI m.co.s){a:Nat}{ser:Int}{fs:List V2}(o:Cw m.co.s.c a ser fs):m.flds (a:Int)=fs:=by
 unfold Ma.flds;rw[(St.read_obj h.hi.ci o).1,zK];apply b7
 ·simp
 ·intro i h1 h2;simp only[b8,List.getElem_range];rw[St.get_obj h.hi.ci o (i:Int),vy (by omega),zK,xS h2]
theorem Il:∀(l:List V2) (out:List Int) (y:Int),y∈CM out l↔y∈out∨∃v∈l,v.1=2/\v.2=y
 | [],out,y=>by simp[CM]
 | v::l,out,y=>by
  have e:CM out (v::l)=CM (if v.1=2/\v.2∉out then out++[v.2] else out) l:=rfl;rw[e,Il l];constructor
  ·rintro (h|⟨u,hu,h⟩)
   ·split at h
    ·rename_i hc;rcases n7.1 h with h|h
     ·exact wr h
     ·exact ws ⟨v,by simp,hc.1,(zF.1 h).symm⟩
    ·exact wr h
   ·exact ws ⟨u,by simp[hu],h⟩
  ·rintro (h|⟨u,hu,h1,h2⟩)
   ·left;split
    ·exact n7.2 (wr h)
    ·exact h
   ·rcases ux.1 hu with rfl|hu
    ·left;split
     ·exact n7.2 (ws (by simp[h2]))
     ·rename_i hc;apply xI;intro hn;exact hc ⟨h1,by rw[h2];exact hn⟩
    ·exact ws ⟨u,hu,h1,h2⟩
theorem JI:∀(l:List V2) (out:List Int),∃r,CM out l=out++r
 | [],out=>⟨[],by simp[CM]⟩
 | v::l,out=>by
  have e:CM out (v::l)=CM (if v.1=2/\v.2∉out then out++[v.2] else out) l:=rfl;rw[e];obtain⟨r,hr⟩:=JI l (if v.1=2/\v.2∉out then out++[v.2] else out);rw[hr];split
  ·exact⟨v.2::r,by simp⟩
  ·exact⟨r,rfl⟩
theorem Nh(x:Ma):∀(d i:Nat) (out:List Int),∃r,x.rchGo d i out=out++r
 | 0,i,out=>⟨[],by simp[Ma.rchGo]⟩
 | d+1,i,out=>by
  unfold Ma.rchGo;split
  ·obtain⟨r,hr⟩:=Nh x d (i+1) (CM out (x.flds (out.getD i 0)));obtain⟨r',hr'⟩:=JI (x.flds (out.getD i 0)) out;rw[hr,hr'];exact⟨r'++r,by simp⟩
  ·exact⟨[],by simp⟩
theorem OF(x:Ma):∀(d i:Nat) (out:List Int),DO out->2050<=i+d->(∀j,j<i->j<out.length->∀v∈x.flds (out.getD j 0),v.1=2->v.2∈out)->∀a∈x.rchGo d i out,∀v∈x.flds a,v.1=2->v.2∈x.rchGo d i out
 | 0,i,out,h,hd,hc=>λa ha v hv h2=>by
  simp only[Ma.rchGo]at ha ⊢;obtain⟨j,hj,rfl⟩:=yW ha;have:=h.le;refine hc j (by omega) hj v ?_ h2;rw[xF,xS hj];exact hv
 | d+1,i,out,h,hd,hc=>λa ha v hv h2=>by
  unfold Ma.rchGo at ha ⊢;by_cases hi:i<out.length
  ·rw[vy hi]at ha ⊢;obtain⟨r,hr⟩:=JI (x.flds (out.getD i 0)) out;refine OF x d (i+1) _ (h.note _ (Kl x _)) (by omega) (λj hj hjl u hu hu2=>?_) a ha v hv h2;have hjo:j<out.length:=by omega
   have e:(CM out (x.flds (out.getD i 0))).getD j 0=out.getD j 0:=by rw[hr,xF,xF,xL hjo]
   rw[e]at hu;rw[Il];by_cases hji:j=i
   ·subst hji;exact ws ⟨u,hu,hu2,rfl⟩
   ·exact wr (hc j (by omega) hjo u hu hu2)
  ·rw[vx hi]at ha ⊢;obtain⟨j,hj,rfl⟩:=yW ha;refine hc j (by omega) hj v ?_ h2;rw[xF,xS hj];exact hv
theorem FX(x:Ma){y:Int}:∀n:Nat,y∈x.rchT n↔y=x.co.global∨∃t:Nat,t<n/\∃v∈x.co.roots (t:Int),v.1=2/\v.2=y
 | 0=>by simp[Ma.rchT]
 | n+1=>by
  rw[Im,Il,FX x n];constructor
  ·rintro ((h|⟨t,ht,h⟩)|h)
   ·exact wr h
   ·exact ws ⟨t,by omega,h⟩
   ·exact ws ⟨n,by omega,h⟩
  ·rintro (h|⟨t,ht,h⟩)
   ·exact wr (wr h)
   ·by_cases e:t=n
    ·subst e;exact ws h
    ·exact wr (ws ⟨t,by omega,h⟩)
def Kt(x:Ma){y:Int}(h:y∈x.rchT cf.threads.toNat):y∈x.rch cf:=by unfold Ma.rch;obtain⟨r,hr⟩:=Nh x 2050 0 (x.rch0 cf);rw[hr];exact n7.2 (wr h)
def SX(x:Ma)(hr:Ee x):∀a∈x.rch cf,∀v∈x.flds a,v.1=2->v.2∈x.rch cf:=
 OF x 2050 0 (x.rch0 cf) (IF x hr _) (by omega) λj hj=>absurd hj (by omega)
theorem JM(x:Ma){P:Int->Prop}(hc:∀a,P a->∀v∈x.flds a,v.1=2->P v.2):∀(d i:Nat) (out:List Int),(∀a∈out,P a)->∀a∈x.rchGo d i out,P a
 | 0,i,out,h=>h
 | d+1,i,out,h=>by
  unfold Ma.rchGo;split
  ·rename_i hi;refine JM x hc d (i+1) _ λa ha=>?_;rw[Il]at ha;rcases ha with ha|⟨v,hv,h2,rfl⟩
   ·exact h a ha
   ·refine hc _ (h (out.getD i 0) ?_) v hv h2;rw[xF,xS hi];exact d7 hi
  ·exact h
def FY(h:KI cf E m.co):∀a∈m.rch cf,∃n:Nat,a=n/\Cy m.co n:=by
 have hf:∀(a:Nat),Cy m.co a->∀v∈m.flds (a:Int),v.1=2->∃n:Nat,v.2=n/\Cy m.co n:=λa ka v hv h2=>by
  obtain⟨ser,fs,o,_⟩:=h.si.hi.obj a ka.1;rw[G9 h.si o]at hv;obtain⟨j,hj,rfl⟩:=yW hv;obtain⟨b,eb,_⟩:=Dz (o.fld j hj).1 h2;exact⟨b,by rw[eb],h.ni.cl a j b ka ⟨ser,fs,o,by rw[xS hj,eb]⟩⟩
 unfold Ma.rch;refine JM m (P:=λa=>∃n:Nat,a=n/\Cy m.co n) (λa ⟨n,e,k⟩ v hv h2=>by subst e;exact hf n k v hv h2) 2050 0 _ λa ha=>?_;rcases (FX m _).1 ha with rfl|⟨t,ht,v,hv,h2,rfl⟩
 ·have:=h.gn;exact⟨m.co.global.toNat,by omega,h.ni.gl _ (by omega)⟩
 ·unfold Co.roots at hv;split at hv
  ·rename_i hl;rw[zK]at hv;have g:=h.root hl hv;obtain⟨b,eb,_⟩:=Dz g.ok h2;exact⟨b,by rw[eb],g.kp b eb⟩
  ·cases hv
def Je{V:Vw}{ser:Int}:ser∈En V↔∃i,RchN V i/\∃h:i<V.2.length,V.2[i].1=ser:=by
 unfold En;rw[(GJ _).mem_iff,Lm (vl _)];constructor
 ·rintro⟨i,h,_,h1,h2⟩;exact⟨i,GD.1 h1,h,h2⟩
 ·rintro⟨i,h1,h,h2⟩;exact⟨i,h,h,GD.2 h1,h2⟩
def UM{b:Nat}:(m.told (2,(b:Int))).2=m.co.s.serial (b:Int):=by unfold Ma.told;rw[vy rfl]
def OI{l:List V2}{b:Nat}(h:(2,(b:Int))∈l):m.co.s.serial (b:Int)∈CH (m.sers l):=by unfold CH Ma.sers;rw[u7];refine⟨(2,m.co.s.serial (b:Int)),?_,rfl⟩;rw[p7];exact⟨u7.2 ⟨_,h,by rw[UM]⟩,by simp⟩
def Kq(h:KI cf E m.co){nd:Nd}(hn:nd∈(m.view cf).2):∃(a:Nat) (ser:Int) (fs:List V2),(a:Int)∈m.rch cf/\Cw m.co.s.c a ser fs/\nd=m.node (a:Int)/\nd.1=ser:=by unfold Ma.view at hn;simp only[u7]at hn;obtain⟨x,hx,rfl⟩:=hn;rw[(Gx _ _).1.mem_iff]at hx;obtain⟨a,rfl,ka⟩:=FY h x hx;obtain⟨ser,fs,o,_⟩:=h.si.hi.obj a ka.1;exact⟨a,ser,fs,hx,o,rfl,(St.read_obj h.si.hi.ci o).2⟩
def Wt(h:KI cf E m.co){a:Nat}{ser:Int}{fs:List V2}(ha:(a:Int)∈m.rch cf)(o:Cw m.co.s.c a ser fs):∃i,D7 (m.view cf).2 ser=wh i/\(m.view cf).2[i]?=wh (m.node (a:Int)):=by
 have hin:m.node (a:Int)∈(m.view cf).2:=u7.2 ⟨_,(Gx _ _).1.mem_iff.2 ha,rfl⟩;have hs:(m.node (a:Int)).1=ser:=(St.read_obj h.si.hi.ci o).2;cases hp:D7 (m.view cf).2 ser with
 | none=>
  unfold D7 at hp;rw[xK]at hp;have:=hp _ hin;simp[hs]at this
 | some i=>
  obtain⟨hi,h1,_⟩:=Jc hp;obtain⟨b,ser',fs',_,o',e,e1⟩:=Kq h (d7 hi);rw[h1]at e1;subst e1;have:=h.si.hi.one a b _ _ _ o o';subst this;exact⟨i,rfl,by rw[xS hi,e]⟩
def JN(h:KI cf E m.co){a:Nat}{ser:Int}{fs:List V2}(ha:(a:Int)∈m.rch cf)(o:Cw m.co.s.c a ser fs)(hs:∀i,D7 (m.view cf).2 ser=wh i->RchN (m.view cf) i):ser∈En (m.view cf):=by obtain⟨i,h1,h2⟩:=Wt h ha o;obtain⟨hi,e,_⟩:=Jc h1;exact Je.2 ⟨i,hs i h1,hi,e⟩
def AF.start(h:MJ cf E m)(hz:GZ m.co)(f:K0 m.co)(hr:Ee m):AF (· ∈ wo m.objs (En (m.view cf))) m.co/\∀ser∈wo m.objs (En (m.view cf)),ser<m.co.s.made:=by
 have k:=h.c.k;have hno:∀ {b:Nat} {ser:Int} {fs:List V2},Cw m.co.s.c b ser fs->ser∈En (m.view cf)->¬Dd (· ∈ wo m.objs (En (m.view cf))) m.co.s b:=fun {b ser fs} o hs ⟨ser',fs',o',d⟩=>by
  obtain⟨rfl,_⟩:=o.same o';exact (Mg.1 d).2 hs
 have hgl:∀n:Nat,m.co.global=n->¬Dd (· ∈ wo m.objs (En (m.view cf))) m.co.s n:=λn e=>by
  obtain⟨fs,o⟩:=hz;rw[e,zK]at o;exact hno o (JN k (Kt m ((FX m _).2 (wr e.symm))) o λi hi => .seed (by unfold GS;simp) hi)
 refine⟨⟨f.ph.1,⟨λa ha=>hgl a (f.mg a ha),λl hl b hb=>?_,λl hl b hb=>?_,hgl,λa j b hna hf=>?_⟩,λe5=>absurd e5 (by have:=f.ph;omega)⟩,λser hser=>?_⟩
 ·rw[f.bf l hl]at hb;cases hb
 ·obtain⟨t,ht,rfl⟩:=yW hl;have eg:m.co.th.getD t []=m.co.th[t]:=by rw[xF,xS ht];rfl
  cases hlv:m.co.r.live (t:Int) with
  | false=>
   have:=k.lv t hlv;rw[eg]at this;rw[this]at hb;cases hb
  | true=>
   have hrt:m.co.roots (t:Int)=m.co.th[t]:=by unfold Co.roots;rw[vy hlv,zK,eg]
   have htt:t<cf.threads.toNat:=by have:=CW.1 hlv;have:=k.rl;omega
   have hb':(2,(b:Int))∈m.co.roots (t:Int):=by rw[hrt];exact hb
   obtain⟨ser,fs,o,_⟩:=k.si.hi.obj b (k.ni.rt _ hl b hb).1;refine hno o (JN k (Kt m ((FX m _).2 (ws ⟨t,htt,_,hb',rfl,rfl⟩))) o λi hi => .seed ?_ hi);unfold GS;refine ux.2 (ws (List.mem_flatMap.2 ⟨m.sers (m.co.roots (t:Int)),?_,?_⟩))
   ·unfold Ma.view Ma.rowsV;exact u7.2 ⟨t,uq.2 htt,rfl⟩
   ·have:=OI (m:=m) hb'
    rwa [(St.read_obj k.si.hi.ci o).2]at this
 ·obtain⟨ser,fs,o,hj⟩:=hf;have hre:ser∈En (m.view cf):=by apply xI;intro hn;exact hna ⟨ser,fs,o,Mg.2 ⟨(GE k.si).2 ⟨a,fs,o⟩,hn⟩⟩
  obtain⟨i,hi,hil,e⟩:=Je.1 hre;obtain⟨a',ser',fs',ha',o',e',e1⟩:=Kq k (d7 hil);rw[e]at e1;subst e1;have:=k.si.hi.one a a' _ _ _ o o';subst this;obtain⟨_,rfl⟩:=o.same o';have hfl:=G9 k.si o;have hmem:(2,(b:Int))∈fs:=yR hj;have hb:(b:Int)∈m.rch cf:=SX m hr _ ha' (2,(b:Int)) (by rw[hfl];exact hmem) rfl;obtain⟨n,en,kn⟩:=FY k _ hb;have:b=n:=by omega
  subst this;obtain⟨sb,fb,ob,_⟩:=k.si.hi.obj b kn.1;refine hno ob (JN k hb ob λq hq => .step hi (xS hil) ?_ hq);rw[e'];have:=OI (m:=m) hmem;rw[(St.read_obj k.si.hi.ci ob).2]at this;unfold Ma.node;simp only;rw[hfl];exact this
 ·obtain⟨a,fs,o⟩:=(GE k.si).1 (Mg.1 hser).1;exact k.si.hi.ser_lt o
end
inductive GR(g:Cl):Int->Prop where
 | zero:GR g 0
 | held {r:Bool × List V2} {s:Int}:r∈g.th->s∈CH r.2->GR g s
 | step {n s:Int}:GR g n->s∈CH (g.node n)->GR g s
open Classical in
noncomputable def Cl.view(g:Cl):Vw:=(g.th.map Prod.snd,((List.range g.nd.length).filter λn:Nat=>decide (GR g (n:Int))).map λn:Nat=>((n:Int),g.node (n:Int)))
theorem M4{α : Type}{f : α -> Int}:∀ {l k:List α},(l.Pairwise λa b=>f a<f b)->(k.Pairwise λa b=>f a<f b)->(∀x,x∈l↔x∈k)->l=k
 | [],[],_,_,_=>rfl
 | [],b::k,_,_,h=>by have:=(h b).2 (by simp);cases this
 | a::l,[],_,_,h=>by have:=(h a).1 (by simp);cases this
 | a::l,b::k,hl,hk,h=>by
  obtain⟨l1,l2⟩:=zI.1 hl;obtain⟨k1,k2⟩:=zI.1 hk;have e:a=b:=by
   rcases ux.1 ((h a).1 (by simp))with e|e
   ·exact e
   ·rcases ux.1 ((h b).2 (by simp))with e'|e'
    ·exact e'.symm
    ·have:=l1 b e';have:=k1 a e;omega
  subst e;rw[M4 l2 k2 λx=>?_];constructor
  ·intro hx;rcases ux.1 ((h x).1 (by simp[hx]))with e|e
   ·subst e;have:=l1 x hx;omega
   ·exact e
  ·intro hx;rcases ux.1 ((h x).2 (by simp[hx]))with e|e
   ·subst e;have:=k1 x hx;omega
   ·exact e
theorem I0:∀(l:List V2) {out:List Int},out.Nodup->(CM out l).Nodup
 | [],out,h=>h
 | v::l,out,h=>by
  have e:CM out (v::l)=CM (if v.1=2/\v.2∉out then out++[v.2] else out) l:=rfl;rw[e];refine I0 l ?_;split
  ·rename_i hc;rw[zQ];refine⟨h,by simp,λa ha b hb e=>hc.2 ?_⟩;rw[zF.1 hb]at e;rw[<-e];exact ha
  ·exact h
theorem KE(x:Ma):∀(d i:Nat) {out:List Int},out.Nodup->(x.rchGo d i out).Nodup
 | 0,i,out,h=>h
 | d+1,i,out,h=>by
  unfold Ma.rchGo;split
  ·exact KE x d (i+1) (I0 _ h)
  ·exact h
theorem LS(x:Ma):∀n:Nat,(x.rchT n).Nodup
 | 0=>by simp[Ma.rchT]
 | n+1=>by rw[Im];exact I0 _ (LS x n)
def SY(cf:Cf)(x:Ma):(x.rch cf).Nodup:=KE x 2050 0 (LS x _)
def Ip{l:List V2}{s:Int}:s∈CH l↔(2,s)∈l:=by
 unfold CH;rw[u7];constructor
 ·rintro⟨v,hv,rfl⟩;obtain⟨h1,h2⟩:=p7.1 hv;have:v.1=2:=by simpa using h2
  rw[<-this];exact h1
 ·intro h;exact⟨_,p7.2 ⟨h,by simp⟩,rfl⟩
def OR{s:St}{l:List V2}{y:Int}(h:(2,y)∈l.map (Cs s)):∃v∈l,v.1=2/\s.serial v.2=y:=by obtain⟨v,hv,e⟩:=u7.1 h;unfold Cs at e;have e1:v.1=2:=(ve.1 e).1;rw[vy e1]at e;exact⟨v,hv,e1,(ve.1 e).2⟩
section
variable{cf:Cf}{E:Int}{m:Ma}{g:Cl}
def M6(m:Ma)(l:List V2):m.sers l=l.map (Cs m.co.s):=rfl
def Cu.rows(s:Cu cf m.co g)(h:MJ cf E m):m.rowsV cf.threads.toNat=g.th.map Prod.snd:=by
 apply zL;intro t;unfold Ma.rowsV;rw[zN,zN];by_cases ht:t<cf.threads.toNat
 ·rw[yY ht,s.tv t ht];simp only[o9];rw[M6];unfold Co.roots;rw[zK];cases hl:m.co.r.live (t:Int) with
  | true=>rw[vy rfl]
  | false=>rw[vx (by decide),h.c.k.lv t hl]
 ·rw[yG (by simp;omega),yG (by rw[s.tl];omega)];rfl
def Cu.row_in(s:Cu cf m.co g){t:Nat}(ht:t<cf.threads.toNat):(m.co.r.live (t:Int),(m.co.th.getD t []).map (Cs m.co.s))∈g.th:=yR (s.tv t ht)
def Cu.reach1(s:Cu cf m.co g)(h:MJ cf E m)(hz:GZ m.co):∀a∈m.rch cf,∃(n:Nat) (ser:Int) (fs:List V2),a=n/\Cy m.co n/\Cw m.co.s.c n ser fs/\GR g ser:=by
 have k:=h.c.k;unfold Ma.rch;refine JM m (P:=λa=>∃(n:Nat) (ser:Int) (fs:List V2),a=n/\Cy m.co n/\Cw m.co.s.c n ser fs/\GR g ser) (λa ⟨n,ser,fs,e,kn,o,r⟩ v hv h2=>?_) 2050 0 _ λa ha=>?_
 ·subst e;rw[G9 k.si o]at hv;obtain⟨v1,j,ej⟩:=o.ok hv;obtain⟨b,rfl,_⟩:=Dz v1 h2;have kb:=k.ni.cl n j b kn ⟨ser,fs,o,ej⟩;obtain⟨sb,fb,ob,_⟩:=k.si.hi.obj b kb.1;refine⟨b,sb,fb,rfl,kb,ob,GR.step r (Ip.2 ?_)⟩;rw[s.obj kn o, <-E8 k.si ob];exact u7.2 ⟨_,hv,rfl⟩
 ·rcases (FX m _).1 ha with rfl|⟨t,ht,v,hv,h2,rfl⟩
  ·have:=k.gn;obtain⟨fs,o⟩:=hz;exact⟨m.co.global.toNat,0,fs,by omega,k.ni.gl _ (by omega),o,.zero⟩
  ·unfold Co.roots at hv;split at hv
   ·rename_i hl;rw[zK]at hv;have gv:=k.root hl hv;obtain⟨b,rfl,_⟩:=Dz gv.ok h2;have kb:=gv.kp b rfl;obtain⟨sb,fb,ob,_⟩:=k.si.hi.obj b kb.1;refine⟨b,sb,fb,rfl,kb,ob,GR.held (s.row_in ht) (Ip.2 ?_)⟩;simp only;rw[<-E8 k.si ob];exact u7.2 ⟨_,hv,rfl⟩
   ·cases hv
def Cu.reach2(s:Cu cf m.co g)(h:MJ cf E m)(hz:GZ m.co)(hr:Ee m){y:Int}(r:GR g y):∃(a:Nat) (fs:List V2),(a:Int)∈m.rch cf/\Cw m.co.s.c a y fs:=by
 have k:=h.c.k;have fin:∀(b:Nat),(b:Int)∈m.rch cf->∃(a:Nat) (fs:List V2),(a:Int)∈m.rch cf/\Cw m.co.s.c a (m.co.s.serial (b:Int)) fs:=λb hb=>by
  obtain⟨n,e,kn⟩:=FY k _ hb;have:n=b:=by omega
  subst this;obtain⟨sb,fb,ob,_⟩:=k.si.hi.obj n kn.1;exact⟨n,fb,hb,by rw[(St.read_obj k.si.hi.ci ob).2];exact ob⟩
 induction r with
 | zero=>
  obtain⟨fs,o⟩:=hz;have:=k.gn;exact⟨m.co.global.toNat,fs,Kt m ((FX m _).2 (wr (by omega))),o⟩
 | @held r y hr' hs=>
  obtain⟨t,ht,rfl⟩:=yW hr';rw[s.tl]at ht;have e:=s.tv t ht;rw[xS (by rw[s.tl];exact ht)]at e;rw[p6 e]at hs;obtain⟨v,hv,h2,e2⟩:=OR (Ip.1 hs);have hl:m.co.r.live (t:Int)=wk:=by
   cases hl:m.co.r.live (t:Int) with
   | true=>rfl
   | false=>rw[k.lv t hl]at hv;cases hv
  have gv:=k.root hl hv;obtain⟨b,rfl,_⟩:=Dz gv.ok h2;rw[<-e2];refine fin b (Kt m ((FX m _).2 (ws ⟨t,ht,(2,(b:Int)),?_,rfl,rfl⟩)));unfold Co.roots;rw[vy hl,zK];exact hv
 | @step n y _ hs ih=>
  obtain⟨a,fs,ha,o⟩:=ih;obtain⟨n',e,kn⟩:=FY k _ ha;have:n'=a:=by omega
  subst this;rw[s.obj kn o]at hs;obtain⟨v,hv,h2,e2⟩:=OR (Ip.1 hs);obtain⟨v1,j,ej⟩:=o.ok hv;obtain⟨b,rfl,_⟩:=Dz v1 h2;rw[<-e2];refine fin b (SX m hr _ ha (2,(b:Int)) ?_ rfl);rw[G9 k.si o];exact hv
def Cu.ser_lt(s:Cu cf m.co g)(h:MJ cf E m){a:Nat}{y:Int}{fs:List V2}(o:Cw m.co.s.c a y fs):0<=y/\y.toNat<g.nd.length:=by have:=o.ser;have:=h.c.k.si.hi.ser_lt o;have:=s.nl;omega
def Cu.view(s:Cu cf m.co g)(h:MJ cf E m)(hz:GZ m.co)(hr:Ee m):m.view cf=g.view:=by
 have k:=h.c.k;have e1:=s.rows h;have e2:(E7 m.co.s.serial (m.rch cf)).map m.node=g.view.2:=by
  refine M4 (f:=Prod.fst) ?_ ?_ λnd=>?_
  ·obtain⟨p1,p2⟩:=Gx m.co.s.serial (m.rch cf);have hn:(E7 m.co.s.serial (m.rch cf)).Nodup:=p1.nodup_iff.2 (SY cf m);rw[List.pairwise_map];have hall:∀a∈E7 m.co.s.serial (m.rch cf),a∈m.rch cf:=λa ha=>p1.mem_iff.1 ha;refine ((p2.and hn).imp_of_mem (R:=λa b=>m.co.s.serial a<=m.co.s.serial b/\a≠b) (S:=λa b=>(m.node a).1<(m.node b).1) fun {a b} ha hb ⟨x,y⟩=>?_)
   have:m.co.s.serial a≠m.co.s.serial b:=λe=>by
    obtain⟨i,rfl,ka⟩:=FY k a (hall a ha);obtain⟨j,rfl,kb⟩:=FY k b (hall b hb);obtain⟨s1,f1,o1,_⟩:=k.si.hi.obj i ka.1;obtain⟨s2,f2,o2,_⟩:=k.si.hi.obj j kb.1;rw[(St.read_obj k.si.hi.ci o1).2,(St.read_obj k.si.hi.ci o2).2]at e;subst e;exact y (by rw[k.si.hi.one i j _ _ _ o1 o2])
   unfold Ma.node;simp only;omega
  ·unfold Cl.view;simp only;rw[List.pairwise_map];refine (List.pairwise_lt_range.filter _).imp fun {a b} hab=>?_;simp only;omega
  ·constructor
   ·intro hx;obtain⟨a,ser,fs,ha,o,e,e'⟩:=Kq (cf:=cf) k hx;obtain⟨n,ser',fs',en,kn,o',gr⟩:=s.reach1 h hz _ ha;have:n=a:=by omega
    subst this;obtain⟨rfl,rfl⟩:=o.same o';obtain⟨s0,s1⟩:=s.ser_lt h o;unfold Cl.view;refine u7.2 ⟨ser.toNat,p7.2 ⟨uq.2 s1,?_⟩,?_⟩
    ·rw[yV s0];simpa using gr
    ·rw[yV s0,e];unfold Ma.node;rw[M6,G9 k.si o,(St.read_obj k.si.hi.ci o).2,s.obj kn o]
   ·intro hx;unfold Cl.view at hx;obtain⟨n,hn,rfl⟩:=u7.1 hx;obtain⟨_,gr⟩:=p7.1 hn;have gr:GR g (n:Int):=by simpa using gr
    obtain⟨a,fs,ha,o⟩:=s.reach2 h hz hr gr;obtain⟨n',e,kn⟩:=FY k _ ha;have:n'=a:=by omega
    subst this;refine u7.2 ⟨(n':Int),(Gx _ _).1.mem_iff.2 ha,?_⟩;unfold Ma.node;rw[M6,G9 k.si o,(St.read_obj k.si.hi.ci o).2,s.obj kn o]
 unfold Ma.view;rw[e1,e2];rfl
end
section
variable{cf:Cf}{E:Int}{c:Co}{m:Ma}
def MJ.aheadX(L:C3 cf)(hst:1<=cf.stack)(h:MJ cf E m)(q:XI cf m.co){n:Int}(hn:n<=64)(hE:E+320<=1000000000):XI cf (m.ahead cf n).1.co:=by have h1:=XI.workN L hst n.toNat q h.c (by omega);unfold Ma.ahead Ma.put;exact h1
def MJ.taxX(L:C3 cf)(hst:1<=cf.stack)(h:MJ cf E m)(q:XI cf m.co)(x:Cd)(hE:E+320<=1000000000):XI cf (m.tax cf x).1.co:=by
 unfold Ma.tax;split
 ·exact q
 simp only;split
 ·exact q
 simp only;have hb:=h.bk;have ht:=L.tx;have h1:=XI.workN L hst (cf.tax-min (m.bi-m.bo) cf.tax).toNat q h.c (by omega);rw[FH];exact h1
def MI.fastX(h:MI cf E c)(q:XI cf c)(hE:E<=1000000000)(t:Nat)(n:Int){a:Nat}{c':Co}(e:c.fast cf (t:Int) n=(c',wh (a:Int))):XI cf c':=by
 rcases h.k.fast (by have:=h.md;omega) t n with e1|⟨a1,s1,c1,e1,n1,e2,_,_,e5⟩
 ·rw[e1]at e;cases (ve.1 e).2
 ·rw[e1]at e;have ec:c1=c':=(ve.1 e).1;subst ec;rw[e2];exact q.color s1 a1
def MI.slowX(h:MI cf E c)(q:XI cf c)(hE:E<=1000000000)(t:Nat)(n:Int){a:Nat}{c':Co}(e:c.slow cf (t:Int) n=(c',(a:Int),0)):XI cf c':=by
 rcases h.k.slow (by have:=h.md;omega) t n with⟨e0,ne,e1⟩|⟨a1,s1,c1,e1,n1,e2,_,_,e5⟩
 ·rw[e1]at e;have:=(ve.1 (ve.1 e).2).2;exact absurd this ne
 ·rw[e1]at e;have ec:c1=c':=(ve.1 e).1;subst ec;rw[e2];exact q.color s1 a1
def MJ.slowMX(L:C3 cf)(hst:1<=cf.stack)(h:MJ cf E m)(q:XI cf m.co){x:Cd}{t:Nat}(ht:x.t=t)(hE:E+330<=1000000000):XI cf (m.slow cf x).1.co:=by
 unfold Ma.slow;simp only;have h1:MJ cf (E+5) (if m.co.phase=0/\Dt m.co.s.c.ks<cf.trigger then ({ m with co:=(m.co.beginC cf).1 }:Ma) else m)/\XI cf (if m.co.phase=0/\Dt m.co.s.c.ks<cf.trigger then ({ m with co:=(m.co.beginC cf).1 }:Ma) else m).co:=by
  split
  ·exact⟨h.co (h.c.beginC (by omega)),q.beginC⟩
  ·exact⟨h.up (by omega),q⟩
 generalize (if m.co.phase=0/\Dt m.co.s.c.ks<cf.trigger then ({ m with co:=(m.co.beginC cf).1 }:Ma) else m)=m1 at h1;obtain⟨j1,q1⟩:=h1;have h2:=j1.tax L x (by omega);have q2:=j1.taxX L hst q1 x (by omega);generalize m1.tax cf x=z at h2 q2;obtain⟨m2,y⟩:=z;simp only at h2 q2 ⊢;by_cases hc:y.code≠0
 ·rw[vy hc];exact q2
 rw[vx hc,ht];rcases h2.c.slow (by omega) t x.n with⟨e0,e1,e⟩|⟨a,c',e,e1,e2⟩
 ·rw[e];exact q2
 ·have g1:=h2.c.slowX q2 (by omega) t x.n e;rw[e];exact g1
def MJ.gotX(q:XI cf m.co)(x:Cd)(a:Int)(y:Ch):XI cf (m.got x a y).1.co:=by unfold Ma.got;exact q.push _ _
def MJ.allocX(L:C3 cf)(hst:1<=cf.stack)(h:MJ cf E m)(q:XI cf m.co){x:Cd}{t:Nat}(ht:x.t=t)(hE:E+330<=1000000000):XI cf (m.alloc cf x).1.co:=by
 unfold Ma.alloc;split
 ·exact q
 split
 ·exact q
 rw[ht];rcases h.c.fast (by omega) t x.n with e|⟨a,c',e,e1,e2⟩
 ·rw[e];simp only;have g1:=h.slowMX L hst q ht hE;split
  ·exact g1
  ·exact MJ.gotX g1 _ _ _
 ·have g1:=h.c.fastX q (by omega) t x.n e;rw[e];exact MJ.gotX (m:={ m with co:=c' }) g1 _ _ _
def MJ.pushSX(q:XI cf m.co)(x:Cd):XI cf (m.pushS x).1.co:=by
 unfold Ma.pushS;split
 ·exact q
 have hp:XI cf (m.co.push x.t (m.value x).1).1:=q.push _ _;generalize m.co.push x.t (m.value x).1=z at hp;obtain⟨c,o⟩:=z;cases o
 ·exact q
 ·exact hp
def MJ.doSX(L:C3 cf)(hst:1<=cf.stack)(h:MJ cf E m)(q:XI cf m.co){x:Cd}(hx:x.kd<16->∃t:Nat,x.t=t/\(x.kd≠1->m.co.r.live (t:Int)=wk))(hE:E+330<=1000000000):XI cf (m.doS cf x).1.co:=by
 unfold Ma.doS;split
 ·exact q.attach x.t
 split
 ·exact q.detach h.c.k x.t
 split
 ·rename_i hk;obtain⟨t,ht,_⟩:=hx (by omega);exact h.allocX L hst q ht hE
 split
 ·exact MJ.pushSX q x
 split
 ·have hp:XI cf (m.co.pop x.t).1:=q.pop _;generalize m.co.pop x.t=z at hp;obtain⟨c,o⟩:=z;cases o
  ·exact q
  ·exact hp
 split
 ·rename_i hk;obtain⟨t,ht,hl⟩:=hx (by omega);have hl:=hl (by omega);unfold Ma.writeS;split
  ·exact q
  rename_i ho;obtain⟨a,e,hg⟩:=h.object ht hl (by omega);rw[ht,e];cases hr:m.root (t:Int) x.j with
  | none=>exact q
  | some v=>exact q.write _ _ _ _
 split
 ·exact q
 split
 ·exact q.poll h.c.k x.t
 unfold Ma.spend;split
 ·split
  ·exact q.beginC
  ·exact q
 split
 ·exact q
 rename_i hn;split
 ·exact q
 split
 ·exact h.aheadX L hst q (by omega) (by omega)
 split
 ·exact q
 split
 ·exact q
 simp only;rw[FH];exact h.aheadX L hst q (by omega) (by omega)
def MJ.stepX(L:C3 cf)(hst:1<=cf.stack)(h:MJ cf E m)(q:XI cf m.co)(x:Cd)(hE:E+330<=1000000000):XI cf (m.step cf x).1.co:=by
 unfold Ma.step;split
 ·exact q
 rename_i hc;split
 ·exact q
 rename_i hw;have hc:=Mr (by omega:x.check=0);have h1:=h.doSX L hst q (x:=x) (λhk=>by
  obtain⟨w1,w2⟩:=N6 (by omega:m.who cf x=0) hk;refine⟨x.t.toNat,by omega,λhne=>?_⟩;rw[yV hc.1];exact w2 hne) hE
 simp only;split
 ·exact h1
 ·exact h1
def XI.new(hst:0<=cf.stack):XI cf (Ma.new cf).co:=by refine⟨EN.nil hst rfl,λ_=>wr rfl,λt _=>?_⟩;have e:(Ma.new cf).co.b=List.replicate cf.threads.toNat []:=rfl;rw[e,xF,xX];split<;>rfl
end
def Ma.lives'(cf:Cf)(x:Ma):List Int:=((List.range cf.threads.toNat).filter λt:Nat=>x.co.r.live (t:Int)).map Int.ofNat
def FS(t:Int):Cd:=⟨14,t,0,0,0,0,0⟩
def G0:Cd:=⟨16,0,0,0,0,0,64⟩
def DY:Cd:=⟨17,0,0,0,0,0,0⟩
def Ma.pollL(cf:Cf)(m:Ma):List Int->Ma
 | []=>m
 | t::l=>Ma.pollL cf (m.step cf (FS t)).1 l
def Ma.rnd(cf:Cf)(m:Ma)(l:List Int):Ma:=((m.pollL cf l).step cf G0).1
def Ma.fin(cf:Cf):Nat->Ma->Ma
 | 0,m=>m
 | n+1,m=>if m.co.phase=0 then m else Ma.fin cf n (m.rnd cf (m.lives' cf))
section
variable{cf:Cf}{E:Int}{c d:Co}{m:Ma}{g:Cl}
def JV{t:Nat}(ht:t<cf.threads.toNat)(h8:cf.threads<=8)(hl:m.co.r.live (t:Int)=wk):(m.step cf (FS (t:Int))).1={ m with co:=m.co.poll cf (t:Int) }:=by
 have hc:(FS (t:Int)).check=0:=by
  unfold Cd.check FS Cd.small;rw[vx (by simp only;omega)];have h1:([(t:Int),0,0,0,0].any λn=>decide (n<0) || decide (255<n))=wl:=by simp;omega
  simp only;rw[h1,vx (by decide)];rw[vx (by simp[CP]),vx (by simp)]
 have hw:m.who cf (FS (t:Int))=0:=by unfold Ma.who FS;simp only;rw[vx (by decide),vx (by omega),vx (λy=>absurd y.1 (by decide)),vx (λy=>y.2 hl)]
 unfold Ma.step;rw[vx (by omega),vx (by omega)];simp only;rw[vx (λy=>by have:(14:Int)<=12:=y.2.1;omega)];unfold Ma.doS FS;simp
def Nm:(m.step cf G0).1.co=(m.co.workN cf 64).1:=by
 have hc:G0.check=0:=by decide
 have hw:m.who cf G0=0:=by unfold Ma.who G0;rw[vy (by decide)]
 unfold Ma.step;rw[vx (by omega),vx (by omega)];simp only;rw[vx (λy=>by have:(16:Int)<=12:=y.2.1;omega)];unfold Ma.doS Ma.spend G0 Ma.ahead Ma.put;simp
def Rl(h0:m.co.phase=0):(m.step cf DY).1={ m with co:=(m.co.beginC cf).1 }:=by
 have hc:DY.check=0:=by decide
 have hw:m.who cf DY=0:=by unfold Ma.who DY;rw[vy (by decide)]
 unfold Ma.step;rw[vx (by omega),vx (by omega)];simp only;rw[vx (λy=>by have:(17:Int)<=12:=y.2.1;omega)];unfold Ma.doS Ma.spend DY;have:(m.co.beginC cf).2=wk:=by unfold Co.beginC;rw[vy h0]
 simp[this]
def Ik(k:KI cf E m.co){t:Int}:t∈m.lives' cf↔∃n:Nat,t=n/\n<cf.threads.toNat/\m.co.r.live (n:Int)=wk:=by
 unfold Ma.lives';simp only[u7,p7,uq];constructor
 ·rintro⟨n,⟨h1,h2⟩,rfl⟩;exact⟨n,rfl,h1,h2⟩
 ·rintro⟨n,rfl,h1,h2⟩;exact⟨n,⟨h1,h2⟩,rfl⟩
def Ij(m:Ma):(m.lives' cf).length<=cf.threads.toNat:=by unfold Ma.lives';rw[j9];refine va (yI _ _) ?_;simp
theorem OB(h8:cf.threads<=8):∀(l:List Int) (m:Ma),(∀t∈l,∃n:Nat,t=n/\n<cf.threads.toNat/\m.co.r.live (n:Int)=wk)->(m.pollL cf l).co=m.co.polls cf l
 | [],m,_=>rfl
 | t::l,m,h=>by
  obtain⟨n,rfl,hn,hl⟩:=h t (by simp);unfold Ma.pollL Co.polls;rw[JV hn h8 hl];refine OB h8 l _ λu hu=>?_;obtain⟨k,e,hk,hlk⟩:=h u (by simp[hu]);exact⟨k,e,hk,by simp only;rw[(H6 m.co _).live];exact hlk⟩
structure CU(cf:Cf)(E:Int)(m:Ma)(g:Cl):Prop where
 j:MJ cf E m
 z:GZ m.co
 v:VI m.co
 x:XI cf m.co
 s:Cu cf m.co g
def VI.rin{x:Ma}(h:VI x.co):Ee x:=λt v hv h2=>by
 unfold Co.roots at hv;split at hv
 ·have hk:=h.row t.toNat v hv;unfold Dp DL at hk;rw[h2,vx (by decide),vx (by decide),vy rfl]at hk;by_cases hr:0<=v.2/\v.2<2048
  ·exact hr
  ·rw[vx hr]at hk;cases hk
 ·cases hv
def CU.view(h:CU cf E m g):m.view cf=g.view:=h.s.view h.j h.z h.v.rin
def CU.step(L:C3 cf)(hst:1<=cf.stack)(h:CU cf E m g)(x:Cd)(hE:E+330<=1000000000)(hg:∀no,(g.step cf x no).1=g):CU cf (E+330) (m.step cf x).1 g:=by have:=(h.s.step L h.j h.z x hE).1;rw[hg]at this;exact⟨h.j.step L x hE,h.j.stepZ L h.z x hE,VI.step cf h.v x,h.j.stepX L hst h.x x hE,this⟩
def CU.stepG(L:C3 cf)(hst:1<=cf.stack)(h:CU cf E m g)(x:Cd)(hE:E+330<=1000000000):CU cf (E+330) (m.step cf x).1 (g.step cf x (m.step cf x).2.code).1:=
 ⟨h.j.step L x hE,h.j.stepZ L h.z x hE,VI.step cf h.v x,h.j.stepX L hst h.x x hE,(h.s.step L h.j h.z x hE).1⟩
def GB{x:Cd}(hk:13<=x.kd)(g:Cl)(no:Int):(g.step cf x no).1=g:=by
 unfold Cl.step;split
 ·rfl
 split
 ·rfl
 unfold Cl.doS;rw[vx (by omega),vx (by omega),vx (by omega),vx (by omega),vx (by omega),vx (by omega),vx (by omega),vx (by omega)]
theorem CU.pollL(L:C3 cf)(hst:1<=cf.stack):∀(l:List Int) {m:Ma} {E:Int},CU cf E m g->E+330*l.length<=1000000000->CU cf (E+330*l.length) (m.pollL cf l) g
 | [],m,E,h,_=>by simpa[Ma.pollL] using h
 | t::l,m,E,h,hE=>by
  simp only[d9]at hE ⊢;have:=CU.pollL L hst l (h.step L hst (FS t) (by omega) (GB (show (13:Int)<=14 by decide) g)) (by omega);have e:E+330+330*(l.length:Int)=E+330*((l.length+1:Nat):Int):=by omega
  rw[e]at this;exact this
def CU.up(h:CU cf E m g){E':Int}(he:E<=E'):CU cf E' m g:=⟨h.j.up he,h.z,h.v,h.x,h.s⟩
def CU.rnd(L:C3 cf)(hst:1<=cf.stack)(h:CU cf E m g){l:List Int}(hl:l.length<=8)(hE:E+3000<=1000000000):CU cf (E+3000) (m.rnd cf l) g:=by have h1:=CU.pollL L hst l h (by omega);exact (h1.step L hst G0 (by omega) (GB (by decide) g)).up (by omega)
def XV(h8:cf.threads<=8)(k:KI cf E m.co):(m.rnd cf (m.lives' cf)).co=m.co.round cf (m.lives' cf):=by unfold Ma.rnd Co.round;rw[Nm,OB h8 _ _ λt ht=>(Ik k).1 ht]
theorem CU.fin(L:C3 cf)(hst:1<=cf.stack)(hch:1<=cf.chunk)(hpg:cf.pages<=8):∀(R:Nat) {m:Ma} {E:Int} {n:Nat},CU cf E m g->E+3000*R<=1000000000->Lv n m.co->n+Dh cf.pages.toNat m.co / 64<=R->CU cf (E+3000*R) (m.fin cf R) g/\(m.fin cf R).co.phase=0
 | 0,m,E,n,h,_,hv,hn=>by
  obtain rfl:n=0:=by omega
  exact⟨h.up (by omega),hv.zero⟩
 | R+1,m,E,n,h,hE,hv,hn=>by
  unfold Ma.fin;by_cases h0:m.co.phase=0
  ·rw[vy h0];exact⟨h.up (by omega),h0⟩
  rw[vx h0];have k:=h.j.c;have t8:=k.k.t8;have hll:(m.lives' cf).length<=8:=va (Ij m) (by omega);have hr:=h.rnd L hst hll (by omega);have hco:=XV (m:=m) t8.2 k.k;obtain⟨n,rfl⟩:∃k,n=k+1:=by
   cases n with
   | zero=>exact absurd hv.zero h0
   | succ k=>exact⟨k,rfl⟩
  have hround:=hv.round L hst hch hpg h.x k hll (by omega) (λt ht=>by
   obtain⟨j,e,_,hj⟩:=(Ik k.k).1 ht;exact⟨j,e,hj⟩) (λt ht=>(Ik k.k).2 ⟨t,rfl,by have:=CW.1 ht;have:=k.k.rl;omega,ht⟩) h0
  rw[<-hco]at hround;have e:E+3000+3000*(R:Int)=E+3000*((R+1:Nat):Int):=by omega
  rcases hround with⟨a,b⟩|⟨a,b⟩
  ·have:=CU.fin L hst hch hpg R hr (by omega) a (by
    have:Dh cf.pages.toNat (m.rnd cf (m.lives' cf)).co / 64<=Dh cf.pages.toNat m.co / 64:=Nat.div_le_div_right b;omega)
   rw[e]at this;exact this
  ·have:=CU.fin L hst hch hpg R hr (by omega) a (by
    have:Dh cf.pages.toNat (m.rnd cf (m.lives' cf)).co / 64+1<=Dh cf.pages.toNat m.co / 64:=by rw[Nat.le_div_iff_mul_le (by decide)];have:=Nat.div_mul_le_self (Dh cf.pages.toNat (m.rnd cf (m.lives' cf)).co) 64;omega
    omega)
   rw[e]at this;exact this
def C5(cf:Cf):Int:=(32*cf.pages+16*cf.pages*cf.pages+cf.pages).tdiv 64+12
def Iq(h:0<=cf.pages/\cf.pages<=8)(k:MI cf E c):7+Dh cf.pages.toNat c / 64<=(C5 cf).toNat:=by
 have hc:Dh cf.pages.toNat c<=32*cf.pages.toNat+16*(cf.pages.toNat*cf.pages.toNat)+2*cf.pages.toNat:=by
  unfold Dh;split
  ·omega
  ·exact k.k.cost_le (by omega) k.ln
 have hp:cf.pages=0∨cf.pages=1∨cf.pages=2∨cf.pages=3∨cf.pages=4∨cf.pages=5∨cf.pages=6∨cf.pages=7∨cf.pages=8:=by omega
 unfold C5;rcases hp with e|e|e|e|e|e|e|e|e<;>rw[e]at hc ⊢<;>simp at hc ⊢<;>omega
end
def I5(c d:Co):Prop:=∀a,d.s.c.tk a=wk->C0 c.s.c d.s.c a
def Gn(V:Vw)(m:Ma):Prop:=∃O:List Int,(∀s∈m.objs,s∈O)/\QF (· ∈ wo O (En V)) m.co
section
variable{cf:Cf}{E:Int}{c d:Co}{m:Ma}{g:Cl}{V:Vw}
def I5.of(h:d.s=c.s):I5 c d:=λa _=>by rw[h];exact C0.refl _ _
def I5.trans{e:Co}(h:I5 c d)(k:I5 d e):I5 c e:=λa ta=>by
 have h2:=k a ta;exact (h a (by rw[<-h2.1];exact ta)).trans h2
def KI.unit_sub(hk:KI cf E c):I5 c (c.unit cf).1:=by
 have hu:∀(r:Co × Bool),I5 c r.1->I5 c (if r.2 then ({ r.1 with units:=C7 (r.1.units+1) }:Co) else r.1):=λr h=>by
  split
  ·exact h
  ·exact h
 unfold Co.unit;refine hu _ ?_;split
 ·have k1:I5 c (c.tUnit cf).1 := .of (H7 cf c);generalize c.tUnit cf=z at k1;obtain⟨d,b⟩:=z;cases b with
  | true=>exact k1
  | false=>exact k1.trans (.of (by unfold Co.adv;rw[Gj];rfl))
 split
 ·rename_i h5;have k0:I5 c (c.wUnit cf).1:=by
   unfold Co.wUnit;split
   ·exact .of rfl
   simp only;have hs:=DJ (c.s.inP c.at_) c hk.si (F4 _ _) λx hx=>by
    obtain⟨a,e,ta,_⟩:=(Ef hk.si).1 hx;exact⟨a,e,ta⟩
   generalize c.sweepAll (c.s.inP c.at_)=d at hs;obtain⟨t1,t2,t3,t4⟩:=St.trim_ok (hs.si hk.si) d.at_;intro a ta;simp only at ta ⊢;rw[(t2 a).1]at ta;by_cases ha:(a:Int)∈c.s.inP c.at_
   ·have hm:c.g.mks a=wk:=by
     cases hm:c.g.mks a with
     | true=>rfl
     | false=>rw[hs.gone a ha hm]at ta;cases ta
    exact (hs.inn a ha hm).trans (t2 a)
   ·exact (hs.out a ha).1.trans (t2 a)
  generalize c.wUnit cf=z at k0;obtain⟨d,b⟩:=z;simp only at k0 ⊢;split<;>exact k0
 ·exact .of rfl
theorem MI.work_sub(L:C3 cf):∀(n:Nat) {c:Co} {E:Int},MI cf E c->E+5*n<=1000000000->I5 c (c.workN cf n).1
 | 0,c,E,h,_ => .of rfl
 | n+1,c,E,h,hE=>by
  have h1:=h.unit L (by omega);have q1:=h.k.unit_sub;unfold Co.workN;generalize c.unit cf=z at h1 q1;obtain⟨d,b⟩:=z;cases b with
  | true=>exact q1.trans (MI.work_sub L n h1 (by omega))
  | false=>exact q1
def O4{m':Ma}(h:SI m.co.s)(h':SI m'.co.s)(s:I5 m.co m'.co):∀x∈m'.objs,x∈m.objs:=λx hx=>by
 obtain⟨a,fs,o⟩:=(GE h').1 hx;exact (GE h).2 ⟨a,fs,(s a o.tk).obj.1 o⟩
def Qn(g:Cl)(m:Ma):Prop:=m.co.phase=1∨Gn g.view m
def CU.start(h:CU cf E m g)(f:K0 m.co):Gn g.view m:=by have:=(AF.start h.j h.z f h.v.rin).1;rw[h.view]at this;exact⟨m.objs,λs hs=>hs,ws this⟩
def CU.pollQ(L:C3 cf)(hst:1<=cf.stack)(h:CU cf E m g)(q:Qn g m){t:Nat}(ht:t<cf.threads.toNat)(hl:m.co.r.live (t:Int)=wk)(hE:E+330<=1000000000):Qn g (m.step cf (FS (t:Int))).1:=by
 have h1:=h.step L hst (FS (t:Int)) hE (GB (show (13:Int)<=14 by decide) g);have e:=JV (m:=m) ht h.j.c.k.t8.2 hl;rw[e]at h1 ⊢;rcases q with q|⟨O,o1,o2⟩
 ·have hr:=(OC (cf:=cf) h.j.c.k (t:Int) hl).1;rcases h.j.c.k.poll_fr (by omega) (t:Int)with f|f
  ·unfold I4 at hr;left;simp only;omega
  ·exact ws (h1.start f)
 ·right;refine⟨O,λs hs=>o1 s ?_,o2.poll (t:Int)⟩;exact O4 (m':={ m with co:=m.co.poll cf (t:Int) }) h.j.c.k.si h1.j.c.k.si (.of (OD cf m.co (t:Int))) s hs
theorem CU.pollsQ(L:C3 cf)(hst:1<=cf.stack):∀(l:List Int) {m:Ma} {E:Int},CU cf E m g->Qn g m->E+330*l.length<=1000000000->(∀t∈l,∃n:Nat,t=n/\n<cf.threads.toNat/\m.co.r.live (n:Int)=wk)->Qn g (m.pollL cf l)
 | [],m,E,_,q,_,_=>q
 | t::l,m,E,h,q,hE,hl=>by
  simp only[d9]at hE;obtain⟨n,rfl,hn,hln⟩:=hl t (by simp);have h1:=h.step L hst (FS (n:Int)) (by omega) (GB (show (13:Int)<=14 by decide) g);refine CU.pollsQ L hst l h1 (h.pollQ L hst q hn hln (by omega)) (by omega) λu hu=>?_;obtain⟨k,e,hk,hlk⟩:=hl u (by simp[hu]);exact⟨k,e,hk,by rw[JV hn h.j.c.k.t8.2 hln];simp only;rw[(H6 m.co _).live];exact hlk⟩
def CU.workQ(L:C3 cf)(hst:1<=cf.stack)(h:CU cf E m g)(q:Qn g m)(hE:E+330<=1000000000):Qn g (m.step cf G0).1:=by
 have h1:=h.step L hst G0 hE (GB (by decide) g);have e:=Nm (cf:=cf) (m:=m);rcases q with q|⟨O,o1,o2⟩
 ·left;rw[e,Kb (ws (wr (by omega)))];exact q
 ·right;refine⟨O,λs hs=>o1 s (O4 h.j.c.k.si h1.j.c.k.si ?_ s hs),?_⟩
  ·rw[e];exact h.j.c.work_sub L 64 (by omega)
  ·rw[e];exact QF.workN L 64 m.co E h.j.c o2 (by omega)
theorem CU.finQ(L:C3 cf)(hst:1<=cf.stack):∀(R:Nat) {m:Ma} {E:Int},CU cf E m g->Qn g m->E+3000*R<=1000000000->Qn g (m.fin cf R)
 | 0,m,E,_,q,_=>q
 | R+1,m,E,h,q,hE=>by
  unfold Ma.fin;split
  ·exact q
  have k:=h.j.c.k;have t8:=k.t8;have hll:(m.lives' cf).length<=8:=va (Ij m) (by omega);have h1:=CU.pollL L hst (m.lives' cf) h (by omega);have q1:=h.pollsQ L hst (m.lives' cf) q (by omega) λt ht=>(Ik k).1 ht;exact CU.finQ L hst R (h.rnd L hst hll (by omega)) (h1.workQ L hst q1 (by omega)) (by omega)
def CU.beginQ(L:C3 cf)(hst:1<=cf.stack)(h:CU cf E m g)(h0:m.co.phase=0)(hE:E+330<=1000000000):CU cf (E+330) (m.step cf DY).1 g/\Qn g (m.step cf DY).1:=by
 have h1:=h.step L hst DY hE (GB (by decide) g);refine⟨h1,?_⟩;have e:=Rl (cf:=cf) h0;rw[e]at h1 ⊢;have hr:=(PM (cf:=cf) (({ m.co with units:=0 }:Co).raise 1) ⟨show (0:Int)<=1 by decide,show (1:Int)<=5 by decide⟩).1;have eb:(m.co.beginC cf).1=(({ m.co with units:=0 }:Co).raise 1).adv cf:=by unfold Co.beginC;rw[vy h0]
 have hp1:(({ m.co with units:=0 }:Co).raise 1).phase=1:=rfl;rcases h.j.c.k.beginC_fr (cf:=cf) (by omega)with f|f
 ·left;simp only;rw[eb]at f ⊢;unfold I4 at hr;omega
 ·exact ws (h1.start f)
def Wm(h:SI m.co.s):m.objs.Pairwise (· < ·):=by
 unfold Ma.objs;refine Md ?_;rw[List.Nodup,List.pairwise_map];have hn:m.co.s.objects.Nodup:=by unfold St.objects HB;rw[List.Nodup,List.pairwise_map];refine List.Pairwise.imp (fun {a b} hab e=>hab (uv e)) (List.Nodup.sublist List.filter_sublist List.nodup_range)
 refine List.Pairwise.imp_of_mem (fun {x y} hx hy hne e=>hne ?_) hn;obtain⟨a,rfl,ta⟩:=(GP h).1 hx;obtain⟨b,rfl,tb⟩:=(GP h).1 hy;obtain⟨s1,f1,o1,_⟩:=h.hi.obj a ta;obtain⟨s2,f2,o2,_⟩:=h.hi.obj b tb;rw[(St.read_obj h.hi.ci o1).2,(St.read_obj h.hi.ci o2).2]at e;subst e;rw[h.hi.one a b _ _ _ o1 o2]
def CU.just(h:CU cf E m g)(q:Qn g m)(h0:m.co.phase=0):m.objs=En g.view:=by
 have k:=h.j.c.k;rcases q with q|⟨O,o1,o2⟩
 ·omega
 refine M4 (f:=λx=>x) (Wm k.si) (Ni _) λs=>?_;constructor
 ·intro hs;apply xI;intro hn;obtain⟨a,fs,o⟩:=(GE k.si).1 hs;have hd:Dd (· ∈ wo O (En g.view)) m.co.s a:=⟨s,fs,o,Mg.2 ⟨o1 s hs,hn⟩⟩;rcases o2 with w|w
  ·exact w a hd
  ·have:=w.ph;omega
 ·intro hs;rw[<-h.view]at hs;obtain⟨i,_,hi,e⟩:=Je.1 hs;obtain⟨a,ser,fs,_,o,_,e1⟩:=Kq (cf:=cf) k (d7 hi);rw[e]at e1;subst e1;exact (GE k.si).2 ⟨a,fs,o⟩
def CU.ends(L:C3 cf)(hst:1<=cf.stack)(hch:1<=cf.chunk)(hpg:0<=cf.pages/\cf.pages<=8)(h:CU cf E m g)(hE:E+300000<=1000000000):
  (m.fin cf (C5 cf).toNat).co.phase=0/\(((m.fin cf (C5 cf).toNat).step cf DY).1.fin cf (C5 cf).toNat).co.phase=0/\(((m.fin cf (C5 cf).toNat).step cf DY).1.fin cf (C5 cf).toNat).view cf=m.view cf/\(((m.fin cf (C5 cf).toNat).step cf DY).1.fin cf (C5 cf).toNat).objs=En (m.view cf)/\
  (∀n,n<=(C5 cf).toNat->Ee (m.fin cf n)):=by
 have hR:(C5 cf).toNat<=40:=by
  have hp:cf.pages=0∨cf.pages=1∨cf.pages=2∨cf.pages=3∨cf.pages=4∨cf.pages=5∨cf.pages=6∨cf.pages=7∨cf.pages=8:=by omega
  unfold C5;rcases hp with e|e|e|e|e|e|e|e|e<;>rw[e]<;>decide
 obtain⟨h1,p1⟩:=h.fin L hst hch hpg.2 (C5 cf).toNat (by omega) (Lv.all h.j.c.k) (Iq hpg h.j.c);obtain⟨h2,q2⟩:=h1.beginQ L hst p1 (by omega);obtain⟨h3,p3⟩:=h2.fin L hst hch hpg.2 (C5 cf).toNat (by omega) (Lv.all h2.j.c.k) (Iq hpg h2.j.c);have q3:=h2.finQ L hst (C5 cf).toNat q2 (by omega);refine⟨p1,p3,h3.view.trans h.view.symm,?_,λn hn=>?_⟩
 ·rw[h.view];exact h3.just q3 p3
 ·have:∀(n:Nat) {m:Ma} {E:Int},CU cf E m g->E+3000*n<=1000000000->Ee (m.fin cf n):=λn=>by
   induction n with
   | zero=>intro m E h _;exact h.v.rin
   | succ n ih=>
    intro m E h hE;unfold Ma.fin;split
    ·exact h.v.rin
    ·have t8:=h.j.c.k.t8;exact ih (h.rnd L hst (va (Ij m) (by omega)) (by omega)) (by omega)
  exact this n h (by omega)
end
section
variable{A A':Ci}{g g' g1:Gw}{cf cf':Cf}{B B':Int}{w w':wn}{x x':Ma}{T:Nat}
def Ci.subS{y:Nat}(hy:y∈A.S T g):y∈A.all T g:=by
 simp only[Ci.S,n7]at hy;simp only[Ci.all,Ci.low,n7];rcases hy with c|c|c|c|c
 ·exact wr c
 ·exact ws (wr (wr c))
 ·exact ws (wr (ws (wr c)))
 ·exact ws (wr (ws (ws (List.mem_of_mem_tail c))))
 ·exact ws (ws c)
def Ci.all_cases{y:Nat}(hy:y∈A.all T g):y=0∨y∈A.S T g:=by
 simp only[Ci.all,Ci.low,n7]at hy;simp only[Ci.S,n7];rcases hy with c|(c|c|c)|c
 ·exact ws (wr c)
 ·exact ws (ws (wr c))
 ·exact ws (ws (ws (wr c)))
 ·unfold DG.all at c;rcases ux.1 c with c|c
  ·exact wr c
  ·exact ws (ws (ws (ws (wr c))))
 ·exact ws (ws (ws (ws (ws c))))
def BS.s0(h:BS A g cf B w x):0∉A.S cf.threads.toNat g:=by
 have h0:0∈A.Q.H.D.all:=by simp[DG.all]
 have hN:0<A.Q.H.N:=h.co.hp.ok.lo 0 (by simp[h0]);intro c;simp only[Ci.S,n7]at c;rcases c with c|c|c|c|c
 ·exact h.ok.dj 0 c (by simp[Ci.low,h0])
 ·exact h.co.ok.dj 0 c (by simp[h0])
 ·exact h.co.hp.ok.dj 0 c h0
 ·exact h.co.hp.st.ok.z c
 ·simp only[Gw.all,Mv.all,n7]at c;rcases c with (c|c|c)|c
  ·have:=h.co.hp.hi 0 c;omega
  ·have:=h.co.hv 0 c;omega
  ·have:=h.co.ht 0 c;omega
  ·have:=h.hs 0 c;omega
def DP(W:wn)(A:Ci)(T:Nat)(g:Gw):Prop:=∀y∈A.S T g,W.heap.size<=y
def DP.of(h:BS A g cf B w x){W:wn}(hn:∀y∈A.all cf.threads.toNat g,y=0∨W.heap.size<=y):DP W A cf.threads.toNat g:=λy hy=>by
 rcases hn y (Ci.subS hy)with e|e
 ·subst e;exact absurd hy h.s0
 ·exact e
def BU.inS(h:BU A T g w g' w'){y:Nat}(hy:y∈A.S T g'):y∈A.S T g∨w.heap.size<=y:=by
 simp only[Ci.S,n7]at hy ⊢;rcases hy with c|c|c|c|c
 ·exact wr (wr c)
 ·exact wr (ws (wr c))
 ·exact wr (ws (ws (wr c)))
 ·exact wr (ws (ws (ws (wr c))))
 ·rcases h.gr y c with d|d
  ·exact wr (ws (ws (ws (ws d))))
  ·exact ws d
def DP.step{W:wn}(h:DP W A T g)(hf:BU A T g w g' w')(hs:W.heap.size<=w.heap.size):DP W A T g':=λy hy=>by
 rcases hf.inS hy with c|c
 ·exact h y c
 ·omega
def DP.fr{W:wn}(h:DP W A T g)(hW:Fr [] W w)(hf:BU A T g w g' w'):Fr [] W w':=hW.then hf.fr λy hy=>ws (h y hy)
end
def Ma.ans(cf:Cf):Ma->List Cd->List Ch
 | _,[]=>[]
 | m,x::l=>(m.step cf x).2::Ma.ans cf (m.step cf x).1 l
def Eo:Cf:=⟨16,4,20,4,700,100,4,4,16,4⟩
def Hb:List Cd:=[⟨1,0,0,0,0,0,0⟩,⟨3,0,0,0,0,1,2⟩,⟨17,0,0,0,0,0,0⟩,⟨14,0,0,0,0,0,0⟩,⟨14,0,0,0,0,0,0⟩,⟨16,0,0,0,0,0,64⟩]
set_option maxRecDepth 1000000 in
def RY:∃a b c d e,Ma.ans Eo (Ma.new Eo) Hb=[a,⟨0,2,1,0,0⟩,b,c,d,⟨0,0,0,2,e⟩]:=by
 have h:(Ma.ans Eo (Ma.new Eo) Hb).length=6/\(Ma.ans Eo (Ma.new Eo) Hb)[1]?=wh ⟨0,2,1,0,0⟩/\((Ma.ans Eo (Ma.new Eo) Hb)[5]?).map (λa=>(a.code,a.kd,a.n,a.done))=wh (0,0,0,2):=
  of_decide_eq_true (by kernel_rfl)
 generalize Ma.ans Eo (Ma.new Eo) Hb=l at h;obtain⟨h1,h2,h3⟩:=h
 match l,h1 with
 | [a,x,b,c,d,y],_=>
  simp only[xV,xW,zS,o9,uz]at h2 h3;refine⟨a,b,c,d,y.credit,?_⟩;rw[h2];obtain⟨y1,y2,y3,y4,y5⟩:=y;simp only at h3;obtain⟨rfl,rfl,rfl,rfl⟩:=h3;rfl
end
noncomputable section
variable{K:VK}{w:wn}{x0 x1 x2 y1 y2 y8 y10 y27 y28 y29:wm}
def F9.sh(h:(Aq (wt (wm.cells x0) 23) w λa b=>Ak 10 a b λc d=>I Z 32 #[c,x1,(.func (.func 33) #[] #[])] d λf g=>Ao 0 f g λi j=>Ao 1 f j λk m=>K (wc #[i,k]) m)):I Z 9 #[x0,x1] w K:=BK (A:=A0) (args:=[x0,x1]) (qq h)
namespace F32
def ann:Cg:=⟨[(6,[1,2,8]),(9,[2,8,10,27,28,29]),(12,[2,8,10,27,28,29]),(13,[10])],[(8,[2,8,10,27,28,29])],[],[],wj⟩
def code:=cd f32
def BM:=tp f32
variable(K:VK)(y1 y2 y8 y10 y27 y28 y29:wm)(w:wn)
def k6:=nk ann 45 [(1,y1),(2,y2),(8,y8)] w [1,1,1] code (BM K)
def k13:=nk ann 45 [(10,y10)] w [1,1,1,1,1] code (BM K)
def l8:=nl ann 45 [(2,y2),(8,y8),(10,y10),(27,y27),(28,y28),(29,y29)] w [1,1,1,1,0,1,0] code (BM K)
def k9:=nk ann 45 [(2,y2),(8,y8),(10,y10),(27,y27),(28,y28),(29,y29)] w [1,1,1,1,0,1,0,0,1,1] code (BM K)
def k12:=nk ann 45 [(2,y2),(8,y8),(10,y10),(27,y27),(28,y28),(29,y29)] w [1,1,1,1,0,1,0,0,1,1,1] code (BM K)
attribute [irreducible] k6 k13 l8 k9 k12
end F32
def F32.k6.to(h:(AD y1 w λa b=>F32.l8 K y2 y8 (v8 wj 0 0) y1 a (v6 wg 0) b)):F32.k6 K y1 y2 y8 w:=qq h
def F32.k13.to(h:(K (wc #[y10,(v6 wg 0)]) w)):F32.k13 K y10 w:=qq h
def F32.l8.to(h:(U .lss y29 y28 w λa b=>Af a (F32.k9 K y2 y8 y10 y27 y28 y29 b) (F32.k13 K y10 b))):F32.l8 K y2 y8 y10 y27 y28 y29 w:=by unfold F32.l8 nl;exact BW (qq h)
def F32.k9.to(h:(AC 7 y27 y29 w λa b=>Ak 7 a b λc d=>Aq (wt #[v6 wg 0,v6 wg 0,v6 wg 0,v6 wg 0,v6 wg 0,v6 wg 0,v6 wg 0] 40) d λf g=>Aj 7 f c g λi=>Ak 7 f i λj k=>I Z 20 #[y8,j] k λm o=>Aq (wt #[v6 wg 0,v6 wg 0,v6 wg 0,v6 wg 0,v6 wg 0] 38) o λp q=>Aj 5 p m q λr=>Ak 5 p r λs t=>Du Z y2 [y8,s] t λu v=>Am Z (Instr.buildSlice 27 1 #[(0,u)]) v λx y=>Am Z (Builtin.append_ #[27,27] 27 #[y10,x]) y λz aa=>F32.k12 K y2 y8 z y27 y28 y29 aa)):F32.k9 K y2 y8 y10 y27 y28 y29 w:=qq h
def F32.k12.to(h:(U .add y29 (v6 wg 1) w λa b=>F32.l8 K y2 y8 y10 y27 y28 a b)):F32.k12 K y2 y8 y10 y27 y28 y29 w:=qq h
def F32.sh(h:(Aq (wt (wm.cells x0) 23) w λa b=>Ak 10 a b λc d=>I Z 16 #[c] d λf g=>Ao 0 f g λi j=>Ao 1 f j λk m=>U .neq k (v6 wg 0) m λo p=>Af o (K (wc #[(v8 wj 0 0),k]) p) (AD x1 p λq r=>U .gtr q (v6 wg 256) r λs t=>Af s (K (wc #[(v8 wj 0 0),(v6 wg 3)]) t) (F32.k6 K x1 x2 i t)))):I Z 32 #[x0,x1,x2] w K:=BK (A:=F32.ann) (args:=[x0,x1,x2]) (qq h)
def F33.sh(h:(Aq (wt (wm.cells x1) 38) w λa b=>Aq (wt #[v6 wg 0,v6 wg 0,v6 wg 0,v6 wg 0,v6 wg 0] 38) b λc d=>Ak 5 a d λf g=>Aj 5 c f g λi=>Ak 5 c i λr5 _=>K r5 i)):I Z 33 #[x0,x1] w K:=BK (A:=A0) (args:=[x0,x1]) (qq h)
end
section
open Go.RowKit
def Fp(l:List Cd):List (List wm):=l.map λx=>[v6 wg x.kd,v6 wg x.t,v6 wg x.i,v6 wg x.f,v6 wg x.j,v6 wg x.cost,v6 wg x.n]
def HX(l:List Ch):List (List wm):=l.map λa=>[v6 wg a.code,v6 wg a.kd,v6 wg a.n,v6 wg a.done,v6 wg a.credit]
def GK(l:List Cd):(Fp l).length=l.length:=by simp[Fp]
def PN(l:List Ch):(HX l).length=l.length:=by simp[HX]
def W4{l:List Cd}{j:Nat}(h:j<l.length):(Fp l)[j]?=wh [v6 wg l[j].kd,v6 wg l[j].t,v6 wg l[j].i,v6 wg l[j].f,v6 wg l[j].j,v6 wg l[j].cost,v6 wg l[j].n]:=by simp[Fp,h]
def VW(a b:List Ch):HX (a++b)=HX a++HX b:=by simp[HX]
def TM:DK Z 33=wk:=by kernel_rfl
def UH{x:Cd}:∀v∈(CN x).cells.toList,v.oneCell'=wk:=by intro v hv;simp only[CN,wm.cells,ux,i9,vt]at hv;rcases hv with rfl|rfl|rfl|rfl|rfl|rfl|rfl<;>rfl
section
variable{K:VK}{A:Ci}{g:Gw}{cf:Cf}{B:Int}{x:Ma}{w:wn}
def Z7(a:Ch):(Instr.buildSlice 27 1 #[(0,C6 a)]).run Z w=.ok (v8 (wh ⟨w.heap.size,0,wj⟩) 1 1) (w.alloc (wt #[v6 wg a.code,v6 wg a.kd,v6 wg a.n,v6 wg a.done,v6 wg a.credit] 38)):=by kernel_rfl
def B4{W0:wn}{v:wm}{l:List Ch}{n:Ch}(hf:Fr [] W0 w)(hn:BY W0 v)(hv:BQ w v 38 5 (HX l))(hl:l.length<=1000000)(hk:∀v' w',Fr [] W0 w'->BY W0 v'->BQ w' v' 38 5 (HX (l++[n]))->Fr (BN v) w w'->(∀g∈BN v',g∈BN v∨w.heap.size<=g)->K v' w'):
  Am Z (Instr.buildSlice 27 1 #[(0,C6 n)]) w λx w1=>Am Z (Builtin.append_ #[27,27] 27 #[v,x]) w1 K:=
 Br (x:=[v6 wg n.code,v6 wg n.kd,v6 wg n.n,v6 wg n.done,v6 wg n.credit]) (e:=38) (sz:=5) (bytes:=40) (z:=C6 Ch.ok) Tryz.underlying27 (by kernel_rfl) rfl (by decide) (Z7 n) rfl (by simp[wm.oneCell']) hf hn hv (by rw[PN];omega) (by rw[PN];omega) λv' w' a b c d e=>hk v' w' a b (by rw[VW];exact c) d e
def B8{u:wm}{l:List Cd}{i:Nat}(h:Cp w u 7 (Fp l))(hi:i<l.length)(hk:K (CN l[i]) w):AC 7 u (v6 wg (i:Int)) w λp w1=>Ak 7 p w1 K:=by refine AU h (by omega) (by rw[zK];exact W4 hi) λgg o cs e fz hg hl hs=>?_;exact Bw (x:=[v6 wg l[i].kd,v6 wg l[i].t,v6 wg l[i].i,v6 wg l[i].f,v6 wg l[i].j,v6 wg l[i].cost,v6 wg l[i].n]) hg rfl (by omega) hs hk
def Xr{p:wm}{a:Ch}(hk:∀w',Fr [] w w'->K (C6 a) w'):Du Z (.func (.func 33) #[] #[]) [p,C6 a] w K:=by refine Me TM (F33.sh (Ar λb w1 hn1=>Ar λb2 w2 hn2=>?_));have l1:=hn1.is;have l2:=hn2.is;have h1:=hn2.fr.at_ hn1.at_ (by simp);refine A3 h1 rfl (AA (x:=C6 a) hn2.at_ rfl EA rfl λw3 hu3=>A3 hu3.at_ rfl (hk w3 ?_));have s1:=hn1.fr.size;exact (hn1.fr.trans hn2.fr).then hu3.fr λq hq=>ws (by simp only[zF]at hq;omega)
def Ci.zero_in{T:Nat}:0∈A.all T g:=by simp[Ci.all,Ci.low,DG.all]
def TD{W:wn}{u:wm}{l:List Cd}(hl:l.length<=256)(hu:Cp W u 7 (Fp l))(hk:∀v w',Fr [] W w'->BY W v->BQ w' v 38 5 (HX (Ma.ans cf x l))->K (wc #[v,v6 wg 0]) w'):
  ∀(d i:Nat) (w:wn) (v:wm) (g:Gw) (B:Int) (y:Ma) (L:List Ch),i+d=l.length->Fr [] W w->BS A g cf B w y->DP W A cf.threads.toNat g->B<=64*i->BY W v->BQ w v 38 5 (HX L)->L.length=i->L++Ma.ans cf y (l.drop i)=Ma.ans cf x l->
   (∀q∈BN v,q∉A.all cf.threads.toNat g)->
   F32.l8 K (.func (.func 33) #[] #[]) (v7 (wh ⟨A.ma,0,wj⟩)) v u (v6 wg (l.length:Int)) (v6 wg (i:Int)) w:=by
 intro d;induction d with
 | zero=>
  intro i w v g B y L hi hf hm hs hB hn hv hL he hd;have e:i=l.length:=by omega
  subst e;refine F32.l8.to ?_;simp only[zv,show ¬((l.length:Int)<(l.length:Int)) by omega];rw[b6]at he;simp only[Ma.ans,j8]at he;rw[he]at hv;exact F32.k13.to (hk v w hf hn hv)
 | succ d ih=>
  intro i w v g B y L hi hf hm hs hB hn hv hL he hd;have hlt:i<l.length:=by omega
  refine F32.l8.to ?_;simp only[zv,show (i:Int)<(l.length:Int) by omega];refine F32.k9.to (B8 (hu.keep hf) hlt ?_);generalize hgs:l[i]=s;refine Ar λb w1 hn1=>AA (x:=CN s) hn1.at_ rfl UH rfl λw2 hu2=>A3 hu2.at_ rfl ?_;have l1:=hn1.is;have s1:=hn1.fr.size;have f2:Fr [] w w2:=hn1.fr.then hu2.fr (by simp;omega);have hm2:=hm.keep0 f2;refine Jw hm2 (by omega) λg3 w3 hT3 hm3=>?_;have hF3:=hs.fr (hf.trans f2) hT3
  have s2:=f2.size;have hv2:=hv.keep f2 (by simp);have hv3:=hv2.keep' hT3.fr λq hq c=>hd q hq (Ci.subS c);refine Ar λb4 w4 hn4=>AA (x:=C6 (y.step cf s).2) hn4.at_ rfl EA rfl λw5 hu5=>A3 hu5.at_ rfl ?_;have l4:=hn4.is;have s4:=hn4.fr.size;have f5:Fr [] w3 w5:=hn4.fr.then hu5.fr (by simp;omega);refine Xr λw6 hf6=>?_;have f6:=f5.trans hf6;have hv6:=hv3.keep f6 (by simp);have hm6:=hm3.keep0 f6
  refine B4 (hF3.trans f6) hn hv6 (by omega) λv' w7 hf7 hn7 ho7 hf7' hg7=>?_;have hvA:∀q∈BN v,q∉A.all cf.threads.toNat g3:=λq hq c=>by
   rcases Ci.all_cases c with rfl|c
   ·have:=hn.blk _ hq;have:=hs;exact absurd (Ci.zero_in (A:=A) (T:=cf.threads.toNat) (g:=g)) (hd _ hq)
   ·rcases hT3.inS c with d|d
    ·exact hd q hq (Ci.subS d)
    ·have:=hv2.mem_lt q hq;omega
  have hm7:=hm6.keep hf7' λq hq c=>hvA q c hq;refine F32.k12.to ?_
  try simp only[A7]
  rw[BO (n:=(i:Int)+1) (by omega)];refine ih (i+1) w7 v' g3 (B+64) (y.step cf s).1 (L++[(y.step cf s).2]) (by omega) hf7 hm7 (hs.step hT3 (hf.trans f2).size) (by omega) hn7 ho7 (by simp[hL]) ?_ λq hq c=>?_
  ·rw[<-he,xJ hlt,hgs];simp[Ma.ans]
  ·rcases hg7 q hq with d|d
   ·exact hvA q d c
   ·have:=hm6.ltA q c;omega
def Yr{u:wm}{l:List Cd}(L:cf.Legal)(hT:GY w)(hz:0<w.heap.size)(hl:l.length<=256)(hu:Cp w u 7 (Fp l))(hk:∀v w',Fr [] w w'->BY w v->BQ w' v 38 5 (HX (Ma.ans cf (Ma.new cf) l))->K (wc #[v,v6 wg 0]) w'):
  I Z 9 #[we (Dk cf).toArray,u] w K:=by
 refine F9.sh (Ar λb w1 hn1=>A3 hn1.at_ rfl (F32.sh (Ar λb2 w2 hn2=>A3 hn2.at_ rfl ?_)));have f2:=hn1.fr.trans hn2.fr;refine P8 (hT.keep f2 (by simp)) (zG hz f2.size) (λL'=>absurd L L') λ_ A g w3 hf3 hg3 hn3 hm3=>?_;have f3:=f2.trans hf3;simp only[zv,vw,vz,zW];refine AH (hu.keep f3) ?_;rw[GK];simp only[zv,show ¬((256:Int)<(l.length:Int)) by omega];refine F32.k6.to (AH (hu.keep f3) ?_);rw[GK]
 have hs3:DP w A cf.threads.toNat g:=DP.of hm3 λy hy=>(hn3 y hy).imp id λh=>va f2.size h;refine TD (W:=w) (x:=Ma.new cf) hl hu (λv w4 hf4 hn4 ho4=>?_) l.length 0 w3 _ g 0 (Ma.new cf) [] (by omega) f3 hm3 hs3 (by omega) (BY.nil _) (BQ.nil _ _ _) rfl (by simp) (by simp[BN,wm.ownBlock]);simp only[zv];exact hk v w4 hf4 hn4 ho4
def Pr:Eo.Legal:=by
 refine⟨λi hi=>?_,by decide⟩;have h:∀i:Fin 10,(Gv.getD i.val (0,0)).1<=(Hc Eo).getD i.val 0/\(Hc Eo).getD i.val 0<=(Gv.getD i.val (0,0)).2:=by decide
 exact h ⟨i,hi⟩
def X2:(Instr.build 23 #[(0,v6 wg 16),(1,v6 wg 4),(2,v6 wg 20),(3,v6 wg 4),(4,v6 wg 700),(5,v6 wg 100),(6,v6 wg 4),(7,v6 wg 4),(8,v6 wg 16),(9,v6 wg 4)]).run Z w=.ok (we (Dk Eo).toArray) w:=by kernel_rfl
def VP(hk:∀w',Fr [] w w'->K (we (Dk Eo).toArray) w'):I Z 31 #[] w K:=by refine F31.sh (Ar λb w1 hn1=>A4 X2 ?_);have l1:=hn1.is;refine AA (x:=we (Dk Eo).toArray) hn1.at_ rfl (by simp[Dk,wm.cells,wm.oneCell']) rfl λw2 hu2=>A3 hu2.at_ rfl (hk w2 (hn1.fr.then hu2.fr (by simp;omega)))
def YW(a b c d e f:Cd):(Instr.buildSlice 24 6 #[(0,CN a),(1,CN b),(2,CN c),(3,CN d),(4,CN e),(5,CN f)]).run Z w=.ok (v8 (wh ⟨w.heap.size,0,wj⟩) 6 6) (w.alloc (wt (Fp [a,b,c,d,e,f]).flatten.toArray 40)):=by kernel_rfl
def Z3:(Instr.build 40 #[(0,v6 wg 1)]).run Z w=.ok (CN ⟨1,0,0,0,0,0,0⟩) w:=by kernel_rfl
def Z4:(Instr.build 40 #[(0,v6 wg 3),(6,v6 wg 2),(5,v6 wg 1)]).run Z w=.ok (CN ⟨3,0,0,0,0,1,2⟩) w:=by kernel_rfl
def Z5:(Instr.build 40 #[(0,v6 wg 17)]).run Z w=.ok (CN ⟨17,0,0,0,0,0,0⟩) w:=by kernel_rfl
def YI:(Instr.build 40 #[(0,v6 wg 14)]).run Z w=.ok (CN ⟨14,0,0,0,0,0,0⟩) w:=by kernel_rfl
def Z6:(Instr.build 40 #[(0,v6 wg 16),(6,v6 wg 64)]).run Z w=.ok (CN ⟨16,0,0,0,0,0,64⟩) w:=by kernel_rfl
def Zy:(Instr.build 38 #[(1,v6 wg 2),(2,v6 wg 1)]).run Z w=.ok (C6 ⟨0,2,1,0,0⟩) w:=by kernel_rfl
def Z9(x y:Operand)(a b:Ch):(do eqGuard .eql 38 x y (C6 a) (C6 b);binOp .eql 38 (C6 a) (C6 b):Sem wm).run Z w=.ok (wd (([a.code,a.kd,a.n,a.done,a.credit] == [b.code,b.kd,b.n,b.done,b.credit]))) w:=
 PV (ks:=[wg,wg,wg,wg,wg]) x y Tryz.underlying38 (by kernel_rfl) (by kernel_rfl) (by kernel_rfl) [a.code,a.kd,a.n,a.done,a.credit] [b.code,b.kd,b.n,b.done,b.credit] rfl rfl
def Vh(hT:GY w)(hz:0<w.heap.size)(hk:∀w',Fr [] w w'->K (wd wk) w'):I Z 7 #[] w K:=by
 refine F7.sh (VP λw1 hf1=>Ar λb w2 hn2=>AA (x:=we (Dk Eo).toArray) hn2.at_ rfl (by simp[Dk,wm.cells,wm.oneCell']) rfl λw3 hu3=>A3 hu3.at_ rfl ?_);have l2:=hn2.is;have s2:=hn2.fr.size;have f3:Fr [] w1 w3:=hn2.fr.then hu3.fr (by simp;omega);refine A4 Z3 (A4 Z4 (A4 Z5 (A4 YI (A4 YI (A4 Z6 (A4 (YW _ _ _ _ _ _) ?_))))));have hw4:=DE.mk' w3 (wt (Fp Hb).flatten.toArray 40)
 have hu:Cp (w3.alloc (wt (Fp Hb).flatten.toArray 40)) (v8 (wh ⟨w3.heap.size,0,wj⟩) 6 6) 7 (Fp Hb):=Cp.of_block hw4.at_ rfl (by decide) (by decide) (by
  intro y hy;simp only[Fp,u7]at hy;obtain⟨z,_,rfl⟩:=hy;rfl) (by kernel_rfl)
 have f4:=(hf1.trans f3).trans hw4.fr;refine Yr Pr (hT.keep f4 (by simp)) (zG hz f4.size) (by decide) hu λv w5 hf5 hn5 ho5=>?_;obtain⟨a,b,c,d,e,ha⟩:=RY;rw[ha]at ho5;have hr:=ho5.rd;simp only[zv,vw];refine AH hr ?_;rw[show ((HX [a,⟨0,2,1,0,0⟩,b,c,d,⟨0,0,0,2,e⟩]).length:Int)=6 from rfl];simp only[zv,vw]
 refine AU (i:=1) (x:=[v6 wg 0,v6 wg 2,v6 wg 1,v6 wg 0,v6 wg 0]) hr (by decide) rfl λgg o cs ee fz hg hl hs=>?_;refine Bw (x:=[v6 wg 0,v6 wg 2,v6 wg 1,v6 wg 0,v6 wg 0]) hg rfl (by omega) hs (A4 Zy ⟨_,Z9 _ _ ⟨0,2,1,0,0⟩ ⟨0,2,1,0,0⟩,?_⟩);rw[show (([0,2,1,0,0]:List Int) == [0,2,1,0,0])=wk by decide];simp only[zv]
 refine AU (i:=5) (x:=[v6 wg 0,v6 wg 0,v6 wg 0,v6 wg 2,v6 wg e]) hr (by decide) rfl λg2 o2 cs2 ee2 fz2 hg2 hl2 hs2=>?_;simp only[Ai];refine Ad (v:=v6 wg 0) hg2 (by have:=hs2 0 (by simp);simpa using this) ?_;simp only[zv,vw];refine AU (i:=5) (x:=[v6 wg 0,v6 wg 0,v6 wg 0,v6 wg 2,v6 wg e]) hr (by decide) rfl λg2 o2 cs2 ee2 fz2 hg2 hl2 hs2=>?_;simp only[Ai]
 refine Ad (v:=v6 wg 2) hg2 (by have:=hs2 3 (by simp);simpa using this) ?_;simp only[zv,vw];exact hk w5 (f4.trans hf5)
end
section
variable{K:VK}{w:wn}{cf:Cf}
def Ym{W:wn}{u:wm}{l:List Cd}(hu:Cp W u 7 (Fp l))(hf:Fr [] W w)(hk:∀u',Cp W u' 7 (Fp (l.take 70))->K u' w):I Z 8 #[u] w K:=by
 refine F8.sh (AH (hu.keep hf) ?_);rw[GK];by_cases h:70<l.length
 ·simp only[zv,show (70:Int)<(l.length:Int) by omega];obtain⟨A,c,rfl,h1,h2,h3⟩:=id hu;rw[GK]at h1 ⊢;have run:∀w':wn,(Instr.sliceAt 24 (v8 A l.length c) wj (wh (v6 wg 70)) wj).run Z w'=.ok (v8 A 70 c) w':=λw'=>by
   have:=GT (P:=Z) (w:=w') (t:=24) (e:=40) (sz:=7) A l.length c wg 70 Tryz.underlying24 (by kernel_rfl) (by omega) (by omega);exact this
  have ht:=Cp.take hu 70 (by rw[GK];omega);refine A4 (run w) (hk _ ?_);have e:Fp (l.take 70)=(Fp l).take 70:=by simp[Fp,List.map_take]
  rw[e];exact ht
 ·simp only[zv,show ¬(70:Int)<(l.length:Int) by omega];refine F8.k3.to (hk u ?_);rw[yB (by omega)];exact hu
variable{A A':Ci}{g g':Gw}{B B':Int}{x:Ma}
end
end
noncomputable section
variable{K:VK}{w:wn}{x0 x1 x2 y0 y1 y2 y3 y5 y6 y7 y8 y9:wm}
def F27.sh(h:(Aq (wt (wm.cells x0) 23) w λa b=>Aq (wt #[v6 wg 0,v6 wg 0,v6 wg 0,v6 wg 0,v6 wg 0,v6 wg 0,v6 wg 0,v6 wg 0,v6 wg 0,v6 wg 0] 23) b λc d=>Ab 0 a d λf g=>Ac f g λi j=>I Z 63 #[i,(v6 wg 2),(v6 wg 8)] j λk m=>Ab 0 a m λo p=>Aj 1 o k p λq=>Ak 10 a q λr s=>Aj 10 c r s λt=>Ak 10 c t λr10 _=>K r10 t)):I Z 27 #[x0] w K:=BK (A:=A0) (args:=[x0]) (qq h)
namespace F63
def ann:=a1 [(3,[0,2]),(5,[0])]
def code:=cd f63
def BM:=tp f63
variable(K:VK)(y0 y2:wm)(w:wn)
def k3:=nk ann 16 [(0,y0),(2,y2)] w [1,1] code (BM K)
def k5:=nk ann 16 [(0,y0)] w [1,1,1] code (BM K)
attribute [irreducible] k3 k5
end F63
def F63.k3.to(h:(U .gtr y0 y2 w λa b=>Af a (K y2 b) (F63.k5 K y0 b))):F63.k3 K y0 y2 w:=qq h
def F63.k5.to(h:(K y0 w)):F63.k5 K y0 w:=qq h
def F63.sh(h:(U .lss x0 x1 w λa b=>Af a (K x1 b) (F63.k3 K x0 x2 b))):I Z 63 #[x0,x1,x2] w K:=BK (A:=F63.ann) (args:=[x0,x1,x2]) (qq h)
def F29.sh(h:(Aq (wt (wm.cells x0) 23) w λa b=>Ab 0 a b λc d=>Ac c d λf g=>U .mul (v6 wg 32) f g λi j=>Ab 0 a j λk m=>Ac k m λo p=>U .mul (v6 wg 16) o p λq r=>Ab 0 a r λs t=>Ac s t λu v=>U .mul q u v λx y=>U .add i x y λz aa=>Ab 0 a aa λab ac=>Ac ab ac λad ae=>U .add z ad ae λaf ag=>AB Z .quo 3 (.tmp 15) (.const (v6 wg 64)) af (v6 wg 64) ag λah ai=>U .add ah (v6 wg 12) ai λaj ak=>K aj ak)):I Z 29 #[x0] w K:=BK (A:=A0) (args:=[x0]) (qq h)
namespace F64
def ann:Cg:=⟨[(4,[0,3,7,8,9]),(6,[0,3,7,8,9]),(7,[0,3])],[(3,[0,3,7,8,9])],[],[],wj⟩
def code:=cd f64
def BM:=tp f64
variable(K:VK)(y0 y3 y7 y8 y9:wm)(w:wn)
def k7:=nk ann 27 [(0,y0),(3,y3)] w [1,1,1] code (BM K)
def l3:=nl ann 27 [(0,y0),(3,y3),(7,y7),(8,y8),(9,y9)] w [1,1,0,1,0] code (BM K)
def k4:=nk ann 27 [(0,y0),(3,y3),(7,y7),(8,y8),(9,y9)] w [1,1,0,1,0,0,1,1] code (BM K)
def k6:=nk ann 27 [(0,y0),(3,y3),(7,y7),(8,y8),(9,y9)] w [1,1,0,1,0,0,1,1,1] code (BM K)
attribute [irreducible] k7 l3 k4 k6
end F64
def F64.k7.to(h:(Am Z (Instr.build 40 #[(0,(v6 wg 16)),(6,(v6 wg 64))]) w λa b=>I Z 20 #[y0,a] b λc d=>Am Z (Instr.buildSlice 27 1 #[(0,c)]) d λf g=>Am Z (Builtin.append_ #[27,27] 27 #[y3,f]) g λi j=>K i j)):F64.k7 K y0 y3 w:=qq h
def F64.l3.to(h:(U .lss y9 y8 w λa b=>Af a (F64.k4 K y0 y3 y7 y8 y9 b) (F64.k7 K y0 y3 b))):F64.l3 K y0 y3 y7 y8 y9 w:=by unfold F64.l3 nl;exact BW (qq h)
def F64.k4.to(h:(AC 1 y7 y9 w λa b=>Ac a b λc d=>Am Z (Instr.build 40 #[(0,(v6 wg 14)),(1,c)]) d λf g=>I Z 20 #[y0,f] g λi j=>Am Z (Instr.buildSlice 27 1 #[(0,i)]) j λk m=>Am Z (Builtin.append_ #[27,27] 27 #[y3,k]) m λo p=>F64.k6 K y0 o y7 y8 y9 p)):F64.k4 K y0 y3 y7 y8 y9 w:=qq h
def F64.k6.to(h:(U .add y9 (v6 wg 1) w λa b=>F64.l3 K y0 y3 y7 y8 a b)):F64.k6 K y0 y3 y7 y8 y9 w:=qq h
def F64.sh(h:(I Z 19 #[x0] w λa b=>AD a b λc d=>F64.l3 K x0 (v8 wj 0 0) a c (v6 wg 0) d)):I Z 64 #[x0] w K:=BK (A:=F64.ann) (args:=[x0]) (qq h)
namespace F28
def ann:Cg:=⟨[(3,[0,1,6]),(5,[0,6])],[(2,[0,1,6])],[],[],wj⟩
def code:=cd f28
def BM:=tp f28
variable(K:VK)(y0 y1 y6:wm)(w:wn)
def k5:=nk ann 23 [(0,y0),(6,y6)] w [1,1,1] code (BM K)
def l2:=nl ann 23 [(0,y0),(1,y1),(6,y6)] w [1,1,0,0] code (BM K)
def k3:=nk ann 23 [(0,y0),(1,y1),(6,y6)] w [1,1,0,0,0,1] code (BM K)
attribute [irreducible] k5 l2 k3
end F28
def F28.k5.to(h:(I Z 23 #[y0] w λa b=>U .eql a (v6 wg 0) b λc d=>K (wc #[y6,c]) d)):F28.k5 K y0 y6 w:=qq h
def F28.l2.to(h:(I Z 23 #[y0] w λa b=>U .neq a (v6 wg 0) b λc d=>Aa wk c (λK=>K y6 d) d λf g=>Aa wk c (λK=>K y1 g) g λi j=>Aa wk c (U .lss f i j) j λk m=>Aw (wh c) (wh k) (wh (wd wl)) m λo p=>Af o (F28.k3 K y0 y1 y6 p) (F28.k5 K y0 y6 p))):F28.l2 K y0 y1 y6 w:=by unfold F28.l2 nl;exact BW (qq h)
def F28.k3.to(h:(I Z 64 #[y0] w λa b=>U .add y6 (v6 wg 1) b λc d=>F28.l2 K y0 y1 c d)):F28.k3 K y0 y1 y6 w:=qq h
def F28.sh(h:(F28.l2 K x0 x1 (v6 wg 0) w)):I Z 28 #[x0,x1] w K:=BK (A:=F28.ann) (args:=[x0,x1]) (qq h)
namespace F30
def ann:=a1 [(4,[0,1])]
def code:=cd f30
def BM:=tp f30
variable(K:VK)(y0 y1:wm)(w:wn)
@[irreducible]def k4:=nk ann 27 [(0,y0),(1,y1)] w [1,1] code (BM K)
end F30
def F30.k4.to(h:(Am Z (Instr.build 40 #[(0,(v6 wg 17))]) w λa b=>I Z 20 #[y0,a] b λc d=>I Z 28 #[y0,y1] d λf g=>Ao 0 f g λi j=>Ao 1 f j λk m=>K k m)):F30.k4 K y0 y1 w:=qq h
def F30.sh(h:(I Z 28 #[x0,x1] w λa b=>Ao 0 a b λc d=>Ao 1 a d λf g=>A8 f g λi j=>Af i (K (wd wl) j) (F30.k4 K x0 x1 j))):I Z 30 #[x0,x1] w K:=BK (A:=F30.ann) (args:=[x0,x1]) (qq h)
namespace F6
def ann:Cg:=⟨[(3,[1,2]),(6,[1,2]),(10,[1,2,5,7]),(11,[1,2,5,7]),(12,[2,5])],[(9,[1,2,5,7])],[],[(15,(tk [0,1,2,3,4,6,5] (.go 7 (.go 8 (tk [9,10,11,13] (.go 12 (.go 14 (.go 15 (tk [16,17] .fin) .fin) .fin) .fin)) .fin) .fin)))],wj⟩
def code:=cd f6
def BM:=tp f6
variable(K:VK)(y1 y2 y5 y7:wm)(w:wn)
def k3:=nk ann 68 [(1,y1),(2,y2)] w [1,1] code (BM K)
def k6:=nk ann 68 [(1,y1),(2,y2)] w [1,1,1,1] code (BM K)
def k12:=nk ann 68 [(2,y2),(5,y5)] w [1,1,1,1,1,1,1] code (BM K)
def l9:=nl ann 68 [(1,y1),(2,y2),(5,y5),(7,y7)] w [1,1,1,1,1,1,0,1,0] code (BM K)
def k11:=nk ann 68 [(1,y1),(2,y2),(5,y5),(7,y7)] w [1,1,1,1,1,1,0,1,0,0,1] code (BM K)
def k10:=nk ann 68 [(1,y1),(2,y2),(5,y5),(7,y7)] w [1,1,1,1,1,1,0,1,0,0,1,1] code (BM K)
attribute [irreducible] k3 k6 k12 l9 k11 k10
end F6
def F6.k3.to(h:(Ak 10 y2 w λa b=>I Z 27 #[a] b λc d=>Aj 10 y2 c d λf=>Ak 10 y2 f λg i=>I Z 11 #[g] i λj k=>U .neq j (v6 wg 0) k λm o=>Af m (K (wd wk) o) (F6.k6 K y1 y2 o))):F6.k3 K y1 y2 w:=qq h
def F6.k6.to(h:(Ak 10 y2 w λa b=>I Z 16 #[a] b λc d=>Ao 0 c d λf g=>Ao 1 c g λi j=>I Z 8 #[y1] j λk m=>F6.l9 K k y2 f (v6 wg 0) m)):F6.k6 K y1 y2 w:=qq h
def F6.k12.to(h:(I Z 17 #[y5] w λa b=>Aq (wt #[v8 wj 0 0,v8 wj 0 0] 46) b λc d=>Aj 2 c a d λf=>Ak 10 y2 f λg i=>I Z 29 #[g] i λj k=>I Z 28 #[y5,j] k λm o=>Ao 0 m o λp q=>Ao 1 m q λr s=>Ak 10 y2 s λt u=>I Z 29 #[t] u λv x=>I Z 30 #[y5,v] x λy z=>A2 z λS aa=>Aa wk r (λK=>K y aa) aa λab ac=>Aw (wh r) (wh ab) (wh (wd wl)) ac λad ae=>Aa wk ad (λK=>K y5 ae) ae λaf ag=>Aa wk ad (AM S 2 c ag) ag λah ai=>(Aa wk ad (λK=>I Z 17 #[af] ai K) ai λaj ak=>(S ak/\
 (Aa wk ad (λK=>I Z 14 #[ah,aj] ak K) ak λal am=>(S am/\
 Aw (wh ad) (wh al) (wh (wd wl)) am λan ao=>Aa wk an (λK=>K y5 ao) ao λap aq=>Aa wk an (AM S 2 c aq) aq λar au=>(Aa wk an (λK=>I Z 18 #[ap] au K) au λav aw=>(S aw/\
 (Aa wk an (λK=>I Z 26 #[ar] aw K) aw λax ay=>(S ay/\
 (Aa wk an (λK=>I Z 21 #[av,ax] ay K) ay λaz ba=>(S ba/\
 Aw (wh an) (wh az) (wh (wd wl)) ba λbb bc=>K bb bc))/\True))/\True))/\True))/\True))/\True)):F6.k12 K y2 y5 w:=qq h
def F6.l9.to(h:(AD y1 w λa b=>U .lss y7 a b λc d=>Af c (F6.k11 K y1 y2 y5 y7 d) (F6.k12 K y2 y5 d))):F6.l9 K y1 y2 y5 y7 w:=by unfold F6.l9 nl;exact BW (qq h)
def F6.k11.to(h:(AC 7 y1 y7 w λa b=>Ak 7 a b λc d=>I Z 20 #[y5,c] d λf g=>F6.k10 K y1 y2 y5 y7 g)):F6.k11 K y1 y2 y5 y7 w:=qq h
def F6.k10.to(h:(U .add y7 (v6 wg 1) w λa b=>F6.l9 K y1 y2 y5 a b)):F6.k10 K y1 y2 y5 y7 w:=qq h
def F6.sh(h:(Aq (wt (wm.cells x0) 23) w λa b=>I Z 7 #[] b λc d=>A8 c d λf g=>Af f (K (wd wl) g) (F6.k3 K x1 a g))):I Z 6 #[x0,x1] w K:=BK (A:=F6.ann) (args:=[x0,x1]) (qq h)
end
section
open Go.RowKit
def Kp(lo:Nat)(X:List Nat)(w0 w:wn):Prop:=(∃S:List Nat,Fr S w0 w/\∀s∈S,s<lo)/\∀q∈X,q<lo∨w0.heap.size<=q
section
variable{lo:Nat}{X X':List Nat}{w0 w w':wn}
def Kp.new(h:∀q∈X,q<lo∨w.heap.size<=q):Kp lo X w w:=⟨⟨[],Fr.refl _ _,by simp⟩,h⟩
def Kp.go{S':List Nat}(h:Kp lo X w0 w)(hf:Fr S' w w')(h1:∀s∈S',s∈X∨w.heap.size<=s)(h2:∀q∈X',q∈X∨w.heap.size<=q):Kp lo X' w0 w':=by
 obtain⟨⟨S,f,hS⟩,hX⟩:=h;have sz:=f.size;refine⟨⟨S++S'.filter (λs=>decide (s<lo)),(f.mono λx hx=>List.mem_append_left _ hx).then hf λs hs=>?_,λs hs=>?_⟩,λq hq=>?_⟩
 ·rcases h1 s hs with c|c
  ·rcases hX s c with d|d
   ·exact wr (List.mem_append_right _ (p7.2 ⟨hs,by simpa using d⟩))
   ·exact ws d
  ·exact ws (by omega)
 ·rcases n7.1 hs with c|c
  ·exact hS s c
  ·simpa using (p7.1 c).2
 ·rcases h2 q hq with c|c
  ·exact hX q c
  ·exact ws (by omega)
def Kp.at_(h:Kp lo X w0 w){b:Nat}{o:Obj}(hb:w0.heap[b]?=wh o)(hl:lo<=b):w.heap[b]?=wh o:=by obtain⟨⟨S,f,hS⟩,_⟩:=h;exact f.at_ hb λc=>by have:=hS b c;omega
def Kp.view(h:Kp lo X w0 w){rv nv:wm}{V:Vw}{vs fs:List wm}{l0:Nat}(hl:lo<=l0)(hR:Dq l0 w0 rv V.1 vs)(hN:CV l0 w0 nv V.2 fs):Ev w rv nv V:=by obtain⟨⟨S,f,hS⟩,_⟩:=h;exact⟨(hR.keep f λg hg=>wr (by have:=hS g hg;omega)).rd,(hN.keep f λg hg=>wr (by have:=hS g hg;omega)).rd⟩
end
section
variable{K:VK}{A:Ci}{g:Gw}{cf:Cf}{B:Int}{x:Ma}{w:wn}
def BU.inA{T:Nat}{g g':Gw}{w w':wn}(h:BU A T g w g' w'){y:Nat}(hy:y∈A.all T g'):y∈A.all T g∨w.heap.size<=y:=by
 unfold Ci.all at hy ⊢;simp only[n7]at hy ⊢;rcases hy with c|c|c
 ·exact wr (wr c)
 ·exact wr (ws (wr c))
 ·rcases h.gr y c with d|d
  ·exact wr (ws (ws d))
  ·exact ws d
def Kp.step{lo T:Nat}{w0 w w':wn}{g g':Gw}(h:Kp lo (A.all T g) w0 w)(hT:BU A T g w g' w'):Kp lo (A.all T g') w0 w':=
 h.go hT.fr (λs hs=>wr (Ci.subS hs)) λq hq=>hT.inA hq
def Yy(t:Int):(Instr.build 40 #[(0,v6 wg 14),(1,v6 wg t)]).run Z w=.ok (CN (FS t)) w:=by kernel_rfl
def Y0:(Instr.build 40 #[(0,v6 wg 16),(6,v6 wg 64)]).run Z w=.ok (CN G0) w:=by kernel_rfl
def Xy:(Instr.build 40 #[(0,v6 wg 17)]).run Z w=.ok (CN DY) w:=by kernel_rfl
def BU.own{T:Nat}{g g':Gw}{w w':wn}{v:wm}{e:TypeId}{sz:Nat}{xs:List (List wm)}(h:BU A T g w g' w')(hv:BQ w v e sz xs)(hd:∀q∈BN v,q∉A.all T g):BQ w' v e sz xs/\∀q∈BN v,q∉A.all T g':=
 ⟨hv.keep' h.fr λq hq c=>hd q hq (Ci.subS c),λq hq c=>by
  rcases h.inA c with d|d
  ·exact hd q hq d
  ·have:=hv.mem_lt q hq;omega⟩
def RN{W w0:wn}{g0:Gw}{v:wm}{L:List Ch}(hW:Fr [] W w)(hs:DP W A cf.threads.toNat g)(hm:BS A g cf B w x)(hB:B<=1000000000)(hT:BU A cf.threads.toNat g0 w0 g w)(hL:L.length<=8)(hn:BY w0 v)(hnW:BY W v)(hv:BQ w v 38 5 (HX L))(hd:∀q∈BN v,q∉A.all cf.threads.toNat g)(hk:∀v g' w',BU A cf.threads.toNat g0 w0 g' w'->BS A g' cf (B+64) w' (x.step cf G0).1->K v w'):F64.k7 K (v7 (wh ⟨A.ma,0,wj⟩)) v w:=by refine F64.k7.to (A4 Y0 (Jw hm (by omega) λg1 w1 hT1 hm1=>?_));obtain⟨hv1,hd1⟩:=hT1.own hv hd;have hT2:=hT.trans hT1;refine B4 (hs.fr hW hT1) hnW hv1 (by omega) λv' w2 hf2 hn2 ho2 hf2' hg2=>?_;exact hk v' g1 w2 (hT2.then hf2' λy hy=>hn.blk y hy) (hm1.keep hf2' λq hq c=>hd1 q c hq)
def Q4{W w0:wn}{g0:Gw}{tv:wm}{l:List Int}{x0:Ma}{B0:Int}(hB0:B0<=1000000)(hl8:l.length<=8)(hk:∀v g' w',BU A cf.threads.toNat g0 w0 g' w'->BS A g' cf (B0+64*(l.length:Int)+64) w' (x0.rnd cf l)->K v w'):
  ∀(d i:Nat) (w:wn) (v:wm) (g:Gw) (y:Ma) (L:List Ch),i+d=l.length->Fr [] W w->DP W A cf.threads.toNat g->BS A g cf (B0+64*(i:Int)) w y->BU A cf.threads.toNat g0 w0 g w->BY w0 v->BY W v->BQ w v 38 5 (HX L)->L.length=i->(∀q∈BN v,q∉A.all cf.threads.toNat g)->
   BQ w tv 3 1 (BX l)->(∀q∈BN tv,q∉A.all cf.threads.toNat g)->y.pollL cf (l.drop i)=x0.pollL cf l->
   F64.l3 K (v7 (wh ⟨A.ma,0,wj⟩)) v tv (v6 wg (l.length:Int)) (v6 wg (i:Int)) w:=by
 intro d;induction d with
 | zero=>
  intro i w v g y L hi hW hs hm hT hn hnW hv hL hd htv htd he;refine F64.l3.to ?_;simp only[zv,show ¬((i:Int)<(l.length:Int)) by omega];have ei:i=l.length:=by omega
  subst ei;rw[b6]at he;have he:y=x0.pollL cf l:=he;refine RN (L:=L) hW hs hm (by omega) hT (by omega) hn hnW hv hd λv' g' w' a b=>hk v' g' w' a ?_;rw[he]at b;exact b
 | succ d ih=>
  intro i w v g y L hi hW hs hm hT hn hnW hv hL hd htv htd he;have hlt:i<l.length:=by omega
  refine F64.l3.to ?_;simp only[zv,show ((i:Int)<(l.length:Int)) by omega];refine F64.k4.to (AU htv.rd (by omega) (by rw[zK];exact GC hlt) λgg o cs e fz hg hl1 hs1=>Ad (v:=v6 wg l[i]) hg (by simpa using hs1 0 (by decide)) ?_);refine A4 (Yy _) (Jw hm (by omega) λg1 w1 hT1 hm1=>?_);obtain⟨hv1,hd1⟩:=hT1.own hv hd;obtain⟨htv1,htd1⟩:=hT1.own htv htd;have hW1:=hs.fr hW hT1;have hs1':=hs.step hT1 hW.size
  have hT2:=hT.trans hT1;refine B4 hW1 hnW hv1 (by omega) λv' w2 hf2 hn2 ho2 hf2' hg2=>?_;have hT3:=hT2.then hf2' λy hy=>hn.blk y hy;refine F64.k6.to ?_
  try simp only[A7]
  rw[BO (n:=(i:Int)+1) (by omega),show (i:Int)+1=((i+1:Nat):Int) by omega];have hm2:=hm1.keep hf2' λq hq c=>hd1 q c hq;have e1:B0+64*(i:Int)+64=B0+64*((i+1:Nat):Int):=by omega
  rw[e1]at hm2;have sz:w0.heap.size<=w1.heap.size:=hT2.fr.size;refine ih (i+1) w2 v' g1 _ _ (by omega) hf2 hs1' hm2 hT3 (λq hq=>?_) hn2 ho2 (by simp[hL]) (λq hq c=>?_) ?_ htd1 ?_
  ·rcases hg2 q (Cb.2 hq)with c|c
   ·exact hn.blk q c
   ·omega
  ·rcases hg2 q hq with d'|d'
   ·exact hd1 q d' c
   ·have:=hm1.ltA q c;omega
  ·refine htv1.keep' hf2' λq hq c=>?_;exact htv1.ne hv1 (by decide) q hq c
  ·rw[<-he,xJ hlt];rfl
def VE{W:wn}(hW:Fr [] W w)(hs:DP W A cf.threads.toNat g)(h:BS A g cf B w x)(hB:B<=1000000)(h8:cf.threads<=8)(hk:∀v g' w',BU A cf.threads.toNat g w g' w'->BS A g' cf (B+576) w' (x.rnd cf (x.lives' cf))->K v w'):
  I Z 64 #[v7 (wh ⟨A.ma,0,wj⟩)] w K:=by
 refine F64.sh (Vz h λtv w1 hf1 hn1 ho1=>AH ho1.rd ?_);rw[Ca];have hl8:(x.lives' cf).length<=8:=va (Ij x) (by omega);refine Q4 (W:=W) (x0:=x) (l:=x.lives' cf) hB hl8 (λv g' w' a b=>hk v g' w' a (b.mono (by omega))) (x.lives' cf).length 0 w1 (v8 wj 0 0) g x [] (by omega) (hW.trans hf1) hs ?_ (BU.w hf1) (BY.nil _) (BY.nil _) (BQ.nil _ _ _) rfl (λq hq=>by simp[BN,wm.ownBlock]at hq) ho1 (λq hq c=>?_) rfl
 ·have:=h.keep0 hf1;simpa using this
 ·have:=hn1.blk q hq;have:=h.ltA q c;omega
def KT(n:Nat)(m:Ma):m.fin cf (n+1)=if m.co.phase=0 then m else (m.rnd cf (m.lives' cf)).fin cf n:=rfl
def OZ{W w0:wn}{g0:Gw}{x0:Ma}{B0:Int}{R:Nat}(hB0:0<=B0/\B0+576*(R:Int)<=900000)(h8:cf.threads<=8)(hk:∀n g' w',BU A cf.threads.toNat g0 w0 g' w'->BS A g' cf (B0+576*(R:Int)) w' (x0.fin cf R)->K (wc #[v6 wg n,wd (decide ((x0.fin cf R).co.phase=0))]) w'):
  ∀(d n:Nat) (w:wn) (g:Gw) (y:Ma),n+d=R->Fr [] W w->DP W A cf.threads.toNat g->BS A g cf (B0+576*(n:Int)) w y->BU A cf.threads.toNat g0 w0 g w->y.fin cf d=x0.fin cf R->
   F28.l2 K (v7 (wh ⟨A.ma,0,wj⟩)) (v6 wg (R:Int)) (v6 wg (n:Int)) w:=by
 have out:∀(n:Nat) (w:wn) (g:Gw) (y:Ma),n<=R->BS A g cf (B0+576*(n:Int)) w y->BU A cf.threads.toNat g0 w0 g w->y=x0.fin cf R->F28.k5 K (v7 (wh ⟨A.ma,0,wj⟩)) (v6 wg (n:Int)) w:=λn w g y hn hm hT e=>by
  refine F28.k5.to (KO hm ?_);subst e;simp only[Ay];exact hk _ g w hT (hm.mono (by omega))
 intro d;induction d with
 | zero=>
  intro n w g y hn hW hs hm hT he;refine F28.l2.to (KO hm ?_);have he:y=x0.fin cf R:=he;by_cases h0:y.co.phase=0
  ·simp only[zv,vw,vz,h0,zW];exact out n w g y (by omega) hm hT he
  ·simp only[zv,vz,h0,zX,show ¬((n:Int)<(R:Int)) by omega];exact out n w g y (by omega) hm hT he
 | succ d ih=>
  intro n w g y hn hW hs hm hT he;refine F28.l2.to (KO hm ?_);by_cases h0:y.co.phase=0
  ·rw[KT,vy h0]at he;simp only[zv,vw,vz,h0,zW];exact out n w g y (by omega) hm hT he
  ·rw[KT,vx h0]at he;simp only[zv,vz,h0,zX,show ((n:Int)<(R:Int)) by omega];refine F28.k3.to (VE hW hs hm (by omega) h8 λv g1 w1 hT1 hm1=>?_)
   try simp only[A7]
   rw[BO (n:=(n:Int)+1) (by omega),show (n:Int)+1=((n+1:Nat):Int) by omega];have e1:B0+576*(n:Int)+576=B0+576*((n+1:Nat):Int):=by omega
   rw[e1]at hm1;exact ih (n+1) w1 g1 _ (by omega) (hs.fr hW hT1) (hs.step hT1 hW.size) hm1 (hT.trans hT1) he
def KM{W:wn}{R:Nat}(hW:Fr [] W w)(hs:DP W A cf.threads.toNat g)(h:BS A g cf B w x)(hB:0<=B/\B+576*(R:Int)<=900000)(h8:cf.threads<=8)(hk:∀n g' w',BU A cf.threads.toNat g w g' w'->BS A g' cf (B+576*(R:Int)) w' (x.fin cf R)->K (wc #[v6 wg n,wd (decide ((x.fin cf R).co.phase=0))]) w'):
  I Z 28 #[v7 (wh ⟨A.ma,0,wj⟩),v6 wg (R:Int)] w K:=by refine F28.sh ?_;exact OZ (W:=W) (x0:=x) hB h8 hk R 0 w g x (by omega) hW hs (by simpa using h) (BU.refl _ _ _ _) rfl
def Rs{W:wn}{R:Nat}(hW:Fr [] W w)(hs:DP W A cf.threads.toNat g)(h:BS A g cf B w x)(hB:0<=B/\B+1152*(R:Int)+64<=900000)(h8:cf.threads<=8)(h0:(x.fin cf R).co.phase=0)(hk:∀g' w',BU A cf.threads.toNat g w g' w'->BS A g' cf (B+1152*(R:Int)+64) w' (((x.fin cf R).step cf DY).1.fin cf R)->K (wd (decide ((((x.fin cf R).step cf DY).1.fin cf R).co.phase=0))) w'):
  I Z 30 #[v7 (wh ⟨A.ma,0,wj⟩),v6 wg (R:Int)] w K:=by refine F30.sh (KM hW hs h (by omega) h8 λn g1 w1 hT1 hm1=>?_);have hW1:=hs.fr hW hT1;have hs1:=hs.step hT1 hW.size;rw[ur h0];simp only[zv];refine F30.k4.to (A4 Xy (Jw hm1 (by omega) λg2 w2 hT2 hm2=>?_));have hW2:=hs1.fr hW1 hT2;have hs2:=hs1.step hT2 hW1.size;refine KM hW2 hs2 hm2 (by omega) h8 λn g3 w3 hT3 hm3=>?_;simp only[zv];exact hk g3 w3 ((hT1.trans hT2).trans hT3) (hm3.mono (by omega))
def WV{a b c:Int}(hk:K (v6 wg (if a<b then b else if c<a then c else a)) w):I Z 63 #[v6 wg a,v6 wg b,v6 wg c] w K:=by
 refine F63.sh ?_;by_cases h1:a<b
 ·rw[vy h1]at hk;simp only[zv,h1];exact hk
 rw[vx h1]at hk;simp only[zv,h1];refine F63.k3.to ?_;by_cases h2:c<a
 ·rw[vy h2]at hk;simp only[zv,gt_iff_lt,h2];exact hk
 ·rw[vx h2]at hk;simp only[zv,gt_iff_lt,h2];exact F63.k5.to hk
def Cf.small(cf:Cf):Cf:={ cf with pages:=if cf.pages<2 then 2 else if 8<cf.pages then 8 else cf.pages }
def Yt(hk:∀w',Fr [] w w'->K (we (Dk cf.small).toArray) w'):I Z 27 #[we (Dk cf).toArray] w K:=by
 refine F27.sh (Ar λb w1 hn1=>Ar λb2 w2 hn2=>?_);have l1:=hn1.is;have l2:=hn2.is;have s1:=hn1.fr.size;have lb:=BP hn1.at_;have hb:=hn2.fr.at_ hn1.at_ (by simp);simp only[zv];refine Ad (v:=v6 wg cf.pages) hb rfl (WV ?_);refine AI hb rfl rfl (by simp[Dk,wm.cells]) λw3 hu3=>A3 hu3.at_ (by simp[Dk,wm.cells]) ?_;have f3:Fr [] w w3:=(hn1.fr.trans hn2.fr).then hu3.fr (by simp;omega)
 have hb2:w3.heap[b2]?=wh (wt #[v6 wg 0,v6 wg 0,v6 wg 0,v6 wg 0,v6 wg 0,v6 wg 0,v6 wg 0,v6 wg 0,v6 wg 0,v6 wg 0] 23 (0,0)):=hu3.fr.at_ hn2.at_ (by simp;omega);refine AA (x:=we (Dk cf.small).toArray) hb2 rfl (by simp[Dk,wm.cells,wm.oneCell']) rfl λw4 hu4=>A3 hu4.at_ rfl (hk w4 (f3.then hu4.fr (by simp;omega)))
end
def C3.of{cf:Cf}(L:cf.Legal):C3 cf:=by have h:=L.1;have g:∀i:Nat,i<10->(Gv.getD i (0,0)).1<=(Hc cf).getD i 0/\(Hc cf).getD i 0<=(Gv.getD i (0,0)).2:=h;have h0:=g 0 (by decide);have h6:=g 6 (by decide);have h7:=g 7 (by decide);simp[Gv,Hc]at h0 h6 h7;exact⟨by omega,by omega,by omega⟩
def Legal.t8{cf:Cf}(L:cf.Legal):0<=cf.threads/\cf.threads<=8/\0<=cf.cap:=by have g:∀i:Nat,i<10->(Gv.getD i (0,0)).1<=(Hc cf).getD i 0/\(Hc cf).getD i 0<=(Gv.getD i (0,0)).2:=L.1;have h1:=g 1 (by decide);have h5:=g 5 (by decide);simp[Gv,Hc]at h1 h5;omega
section
variable{K:VK}{w:wn}{cf:Cf}{A:Ci}
end
end
end Go.Proofs.QV
