/- Part 9 of what the law needs: own lemmas, in the order in which they build. -/
import Derived.Test.YtcakfaakbpdklaaGreatDoorProg
import Derived.Test.YtcakfaakbpdklaaGreatDoorTopLike08
set_option linter.defProp false
set_option linter.unusedSimpArgs false
set_option linter.unusedVariables false
set_option maxRecDepth 100000
namespace Go.Proofs.QV
open Go Go.Proofs Go.Proofs.Tryz
open Go.Proofs.Tryz renaming prog->vp
open Go.IntKind renaming i64->vy
open Go.Value renaming int->vq,pointer->vr,slice->vt,tuple->vu,bool->vw,agg->vx
open Option renaming some->vz
open Option renaming none->v6
open Bool renaming true->v7
open Bool renaming false->v8
open Go renaming Value->wc
open Go renaming World->wd
open Go renaming Program->we
open Or renaming inl->wg
open Or renaming inr->wh
open Go.Obj renaming cells->wj
section
open Go.RowKit
def H3(cf:Cf):List Int:=[cf.pages,cf.threads,cf.window,cf.quantum,cf.target,cf.cap,cf.tax,cf.chunk,cf.stack,cf.trigger]
def GE:List (Int × Int):=[(2,64),(1,8),(1,64),(1,16),(0,1000),(0,65535),(0,64),(1,16),(1,256),(0,64)]
structure Cf.Legal(cf:Cf):Prop where
 sp:∀i,i<10->((GE.getD i (0,0)).1<=(H3 cf).getD i 0/\(H3 cf).getD i 0<=(GE.getD i (0,0)).2)
 qu:1000*cf.quantum<=cf.window*(1000-cf.target)
def G7(b:Nat):wc:=vx #[vr (vz ⟨b,0,v6⟩),vq vy 2,vq vy 64,vr (vz ⟨b,1,v6⟩),vq vy 1,vq vy 8,vr (vz ⟨b,2,v6⟩),vq vy 1,vq vy 64,vr (vz ⟨b,3,v6⟩),vq vy 1,vq vy 16,vr (vz ⟨b,4,v6⟩),vq vy 0,vq vy 1000,vr (vz ⟨b,5,v6⟩),vq vy 0,vq vy 65535,vr (vz ⟨b,6,v6⟩),vq vy 0,vq vy 64,vr (vz ⟨b,7,v6⟩),vq vy 1,vq vy 16,vr (vz ⟨b,8,v6⟩),vq vy 1,vq vy 256,vr (vz ⟨b,9,v6⟩),vq vy 0,vq vy 64]
section
variable{K:VK}{w:wd}
def J7(b o:Nat)(lo hi:Int):(Instr.build 111 #[(0,vr (vz ⟨b,o,v6⟩)),(1,vq vy lo),(2,vq vy hi)]).run vp w=.ok (vx #[vr (vz ⟨b,o,v6⟩),vq vy lo,vq vy hi]) w:=by kernel_rfl
def U1{b:Nat}(hk:∀w',Fr [] w w'->K (G7 b) w'):I vp 65 #[vr (vz ⟨b,0,v6⟩)] w K:=by
 refine F65.sh (Ay λx w1 hn1=>A8 (λ_=>True) λw2 hf2 _=>⟨trivial,?_⟩);have l1:=hn1.is
 try simp only[zv]
 refine⟨_,λw' _=>J7 b 0 2 64,⟨_,λw' _=>J7 b 1 1 8,⟨_,λw' _=>J7 b 2 1 64,⟨_,λw' _=>J7 b 3 1 16,⟨_,λw' _=>J7 b 4 0 1000,⟨_,λw' _=>J7 b 5 0 65535,⟨_,λw' _=>J7 b 6 0 64,⟨_,λw' _=>J7 b 7 1 16,⟨_,λw' _=>J7 b 8 1 256,⟨_,λw' _=>J7 b 9 0 64,⟨G7 b,λw' _=>by kernel_rfl,?_⟩⟩⟩⟩⟩⟩⟩⟩⟩⟩⟩
 refine⟨AB (x:=G7 b) (hf2.at_ hn1.at_ (by simp)) rfl (by simp[G7,wc.cells,wc.oneCell']) rfl λw3 hu=>⟨trivial,A5 hu.at_ rfl (hk w3 ((hn1.fr.trans hf2).then hu.fr (by simp;omega)))⟩,trivial⟩
def Xn(b:Nat){i:Nat}(hi:i<10):(Instr.index 112 (G7 b) (vq vy (i:Int))).run vp w=.ok (vx #[vr (vz ⟨b,i,v6⟩),vq vy (GE.getD i (0,0)).1,vq vy (GE.getD i (0,0)).2]) w:=by
 have:i=0∨i=1∨i=2∨i=3∨i=4∨i=5∨i=6∨i=7∨i=8∨i=9:=by omega
 rcases this with h|h|h|h|h|h|h|h|h|h<;>subst h
 ·show (Instr.index 112 (G7 b) (vq vy 0)).run vp w=.ok (vx #[vr (vz ⟨b,0,v6⟩),vq vy 2,vq vy 64]) w;kernel_rfl
 ·show (Instr.index 112 (G7 b) (vq vy 1)).run vp w=.ok (vx #[vr (vz ⟨b,1,v6⟩),vq vy 1,vq vy 8]) w;kernel_rfl
 ·show (Instr.index 112 (G7 b) (vq vy 2)).run vp w=.ok (vx #[vr (vz ⟨b,2,v6⟩),vq vy 1,vq vy 64]) w;kernel_rfl
 ·show (Instr.index 112 (G7 b) (vq vy 3)).run vp w=.ok (vx #[vr (vz ⟨b,3,v6⟩),vq vy 1,vq vy 16]) w;kernel_rfl
 ·show (Instr.index 112 (G7 b) (vq vy 4)).run vp w=.ok (vx #[vr (vz ⟨b,4,v6⟩),vq vy 0,vq vy 1000]) w;kernel_rfl
 ·show (Instr.index 112 (G7 b) (vq vy 5)).run vp w=.ok (vx #[vr (vz ⟨b,5,v6⟩),vq vy 0,vq vy 65535]) w;kernel_rfl
 ·show (Instr.index 112 (G7 b) (vq vy 6)).run vp w=.ok (vx #[vr (vz ⟨b,6,v6⟩),vq vy 0,vq vy 64]) w;kernel_rfl
 ·show (Instr.index 112 (G7 b) (vq vy 7)).run vp w=.ok (vx #[vr (vz ⟨b,7,v6⟩),vq vy 1,vq vy 16]) w;kernel_rfl
 ·show (Instr.index 112 (G7 b) (vq vy 8)).run vp w=.ok (vx #[vr (vz ⟨b,8,v6⟩),vq vy 1,vq vy 256]) w;kernel_rfl
 ·show (Instr.index 112 (G7 b) (vq vy 9)).run vp w=.ok (vx #[vr (vz ⟨b,9,v6⟩),vq vy 0,vq vy 64]) w;kernel_rfl
def UH(cf:Cf){i:Nat}(hi:i<10):(C9 cf).toArray[i]?=vz (vq vy ((H3 cf).getD i 0)):=by
 have:i=0∨i=1∨i=2∨i=3∨i=4∨i=5∨i=6∨i=7∨i=8∨i=9:=by omega
 rcases this with h|h|h|h|h|h|h|h|h|h<;>subst h<;>rfl
def Pj{cf:Cf}{b:Nat}(h0:cf.Legal->∀w',Fr [] w w'->K (vq vy 0) w')(h1:¬cf.Legal->∀n w',n≠0->Fr [] w w'->K (vq vy n) w'):
  ∀(d i:Nat) (w':wd),i+d=10->Fr [] w w'->w'.heap[b]?=vz (wj (C9 cf).toArray 23 (0,0))->(∀j,j<i->((GE.getD j (0,0)).1<=(H3 cf).getD j 0/\(H3 cf).getD j 0<=(GE.getD j (0,0)).2))->
   F36.l2 K (vr (vz ⟨b,0,v6⟩)) (G7 b) (vq vy (i:Int)) w':=by
 intro d;induction d with
 | zero=>
  intro i w' hi hf hb hz;have e:i=10:=by omega
  subst e;refine F36.l2.to ?_;simp only[zv,show ¬(((10:Nat):Int)<10) by omega];refine F36.k7.to ?_;have q2:=hz 2 (by omega);have q3:=hz 3 (by omega);have q4:=hz 4 (by omega);have q2:1<=cf.window/\cf.window<=64:=q2;have q3:1<=cf.quantum/\cf.quantum<=16:=q3;have q4:0<=cf.target/\cf.target<=1000:=q4;have hm:0<=cf.window*(1000-cf.target)/\cf.window*(1000-cf.target)<=64000:=by
   constructor
   ·exact n7 (by omega) (by omega)
   ·exact ur (n4 q2.2 (show 1000-cf.target<=1000 by omega) (by omega) (by omega)) (by decide)
  try simp only[zv]
  refine Ac (v:=vq vy cf.window) hb rfl ?_;refine Ac (v:=vq vy cf.target) hb rfl ?_
  try simp only[zv]
  rw[BN (n:=1000-cf.target) (by omega),BN (n:=cf.window*(1000-cf.target)) (by omega)];refine Ac (v:=vq vy cf.quantum) hb rfl ?_
  try simp only[zv]
  rw[BN (n:=1000*cf.quantum) (by omega)];by_cases c:cf.window*(1000-cf.target)<1000*cf.quantum
  ·simp only[zv,c];exact h1 (λL=>by have:=L.qu;omega) 11 w' (by decide) hf
  ·simp only[zv,c];exact F36.k9.to (h0 ⟨λi hi=>hz i hi,by omega⟩ w' hf)
 | succ d ih=>
  intro i w' hi hf hb hz;have hlt:i<10:=by omega
  refine F36.l2.to ?_;simp only[zv,show (i:Int)<10 by omega];refine F36.k3.to (A7 (Xn b hlt) ?_);generalize hlo:(GE.getD i (0,0)).1=lo;generalize hhi:(GE.getD i (0,0)).2=hi';refine Ay λx w1 hn1=>AB (x:=vx #[vr (vz ⟨b,i,v6⟩),vq vy lo,vq vy hi']) hn1.at_ rfl (by simp[wc.cells,wc.oneCell']) rfl λw2 hu2=>?_;have l1:=hn1.is;have f2:Fr [] w' w2:=hn1.fr.then hu2.fr (by simp;omega);have b2:=f2.at_ hb (by simp)
  have x2:=hu2.at_;refine A8 (λv=>v.heap[x]?=vz (wj #[vr (vz ⟨b,i,v6⟩),vq vy lo,vq vy hi'] 111 (0,0))/\v.heap[b]?=vz (wj (C9 cf).toArray 23 (0,0))) λw3 hf3 _=>⟨⟨hf3.at_ x2 (by simp),hf3.at_ b2 (by simp)⟩,?_⟩
  try simp only[zv]
  have gv:=UH cf hlt;generalize hv:(H3 cf).getD i 0=v at gv;refine Aq (v:=vr (vz ⟨b,i,v6⟩)) (λw' hw=>⟨_,_,_,hw.1,rfl⟩) ?_
  try simp only[An]
  refine Aq (v:=vq vy v) (λw' hw=>⟨_,_,_,hw.2,gv⟩) (Aq (v:=vq vy lo) (λw' hw=>⟨_,_,_,hw.1,rfl⟩) (Aq (v:=vq vy hi') (λw' hw=>⟨_,_,_,hw.1,rfl⟩) (Aq (v:=vr (vz ⟨b,i,v6⟩)) (λw' hw=>⟨_,_,_,hw.1,rfl⟩) ?_)))
  try simp only[An]
  refine Aq (v:=vq vy v) (λw' hw=>⟨_,_,_,hw.2,gv⟩) ⟨Ex ⟨⟨hf3.at_ x2 (by simp),hf3.at_ b2 (by simp)⟩,?_⟩,trivial⟩;have f3:=(hf.trans f2).trans hf3;have ok:(lo<=v/\v<=hi')->F36.k6 K (vr (vz ⟨b,0,v6⟩)) (G7 b) (vq vy (i:Int)) w3:=λhok=>by
   refine F36.k6.to ?_
   try simp only[AC]
   rw[BN (n:=(i:Int)+1) (by omega)];refine ih (i+1) w3 (by omega) f3 (hf3.at_ b2 (by simp)) λj hj=>?_;by_cases e:j=i
   ·subst e;rw[hlo,hhi,hv];exact hok
   ·exact hz j (by omega)
  have lohi:lo<=hi':=by
   rw[<-hlo, <-hhi];have:i=0∨i=1∨i=2∨i=3∨i=4∨i=5∨i=6∨i=7∨i=8∨i=9:=by omega
   rcases this with h|h|h|h|h|h|h|h|h|h<;>subst h<;>decide
  by_cases c:lo<=v/\v<=hi'
  ·rw[vm (by omega),vm (by omega)];simp only[zv,vl,vo,zQ];exact ok c
  ·have ne:(if v<lo then lo else if v>hi' then hi' else v)≠v:=by
    by_cases a:v<lo
    ·rw[vn a];omega
    ·have hv2:v>hi':=by omega
     rw[vm a,vn hv2];omega
   have vlo:((i:Int)+1)≠0:=by omega
   try simp only[AD]
   rw[o8 ne]
   try simp only[Ai]
   rw[BN (n:=(i:Int)+1) (by omega)];exact h1 (λL=>c (by have:=L.sp i hlt;rw[hlo,hhi,hv]at this;exact this)) _ w3 vlo f3
def Ou{cf:Cf}(h0:cf.Legal->∀w',Fr [] w w'->K (vq vy 0) w')(h1:¬cf.Legal->∀n w',n≠0->Fr [] w w'->K (vq vy n) w'):I vp 36 #[vx (C9 cf).toArray] w K:=by refine F36.sh (Ay λb w1 hn1=>U1 λw2 hf2=>?_);exact Pj h0 h1 10 0 w2 (by omega) (hn1.fr.trans hf2) (hf2.at_ hn1.at_ (by simp)) (λj hj=>by omega)
def IC{cf:Cf}(h0:cf.Legal->∀w',Fr [] w w'->K (vq vy 0) w')(h1:¬cf.Legal->∀w',Fr [] w w'->K (vq vy 6) w'):I vp 11 #[vx (C9 cf).toArray] w K:=by
 refine F11.sh (Ay λb w1 hn1=>A5 hn1.at_ rfl (Ou (λL w2 hf2=>?_) λL n w2 hn hf2=>?_))
 ·simp only[zv,vl,vo,zQ];exact F11.k3.to (h0 L w2 (hn1.fr.trans hf2))
 ·simp only[zv,vo,hn,zR];exact h1 L w2 (hn1.fr.trans hf2)
def V0{cf:Cf}(L:cf.Legal)(hk:∀w',Fr [] w w'->K (vq vy cf.most) w'):I vp 43 #[vx (C9 cf).toArray] w K:=by
 refine F43.sh (Ay λb w1 hn1=>A5 hn1.at_ rfl (Ou (λ_ w2 hf2=>?_) λL'=>absurd L L'));have b2:=hf2.at_ hn1.at_ (by simp);simp only[zv,vl,vo,zQ];refine F43.k3.to ?_;have q2:1<=cf.window/\cf.window<=64:=L.sp 2 (by omega);have q4:0<=cf.target/\cf.target<=1000:=L.sp 4 (by omega);have hm:0<=cf.window*(1000-cf.target)/\cf.window*(1000-cf.target)<=64000:=by
  constructor
  ·exact n7 (by omega) (by omega)
  ·exact ur (n4 q2.2 (show 1000-cf.target<=1000 by omega) (by omega) (by omega)) (by decide)
 try simp only[zv]
 refine Ac (v:=vq vy cf.window) b2 rfl ?_;refine Ac (v:=vq vy cf.target) b2 rfl ?_
 try simp only[zv]
 rw[BN (n:=1000-cf.target) (by omega),BN (n:=cf.window*(1000-cf.target)) (by omega)];refine⟨_,DT _ _ _ _ (by decide),?_⟩;have ed:(cf.window*(1000-cf.target)).tdiv 1000=cf.most:=rfl;have em:0<=cf.most/\cf.most<=64000:=by unfold Cf.most;rw[xA hm.1];omega
 rw[ed,BN (n:=cf.most) (by omega)];exact hk w2 (hn1.fr.trans hf2)
end
def C3.up(Q:C3)(N:Nat):C3:={ Q with H:={ Q.H with N:=N } }
def BX.raise{w:wd}{Q:C3}{m:Mv}{cf:Cf}{c:Co}{N:Nat}(h:BX Q m cf w c)(hm:m.all=[])(h1:Q.H.N<=N)(h2:N<=w.heap.size):BX (Q.up N) m cf w c:=by
 have e1:BM m.lv=[]:=by unfold Mv.all at hm;exact (List.append_eq_nil_iff.1 hm).1
 have e2:=(List.append_eq_nil_iff.1 (List.append_eq_nil_iff.1 (show BM m.lv++(CM m.vs++CM m.ts)=[] from hm)).2);obtain⟨cs,b1,b2⟩:=h.blk
 refine⟨⟨h.ok.dj,λx hx=>by have:=h.ok.lo x hx;show x<N;omega⟩,⟨⟨h.hp.ok.nd,h.hp.ok.dj,λx hx=>by have:=h.hp.ok.lo x hx;show x<N;omega⟩,h.hp.st,h.hp.gy,h.hp.tb,h.hp.sb,by rw[e1];simp,h2,h.hp.pg,h.hp.ck⟩,⟨cs,b1,b2.sz,b2.s0,b2.s1,b2.s12,b2.s13,b2.s14,b2.s15,b2.ts,b2.s24,b2.s25,b2.s26,b2.s27⟩,h.rg,h.fb,h.th,h.tl,h.t16,by rw[e2.1];simp,by rw[e2.2];simp⟩
section
variable{K:VK}{w:wd}
def Cf.Legal.fine{cf:Cf}(L:cf.Legal):cf.Fine/\cf.Co:=by
 have q0:2<=cf.pages/\cf.pages<=64:=L.sp 0 (by omega);have q1:1<=cf.threads/\cf.threads<=8:=L.sp 1 (by omega);have q2:1<=cf.window/\cf.window<=64:=L.sp 2 (by omega);have q3:1<=cf.quantum/\cf.quantum<=16:=L.sp 3 (by omega);have q4:0<=cf.target/\cf.target<=1000:=L.sp 4 (by omega);have q5:0<=cf.cap/\cf.cap<=65535:=L.sp 5 (by omega);have q6:0<=cf.tax/\cf.tax<=64:=L.sp 6 (by omega)
 have q7:1<=cf.chunk/\cf.chunk<=16:=L.sp 7 (by omega);have q8:1<=cf.stack/\cf.stack<=256:=L.sp 8 (by omega);have hm:0<=cf.window*(1000-cf.target):=n7 (by omega) (by omega);have hm2:cf.window*(1000-cf.target)<=cf.window*1000:=Int.mul_le_mul_of_nonneg_left (by omega) (by omega);have em:0<=cf.most/\cf.most<=cf.window:=by unfold Cf.most;rw[xA hm];omega
 exact⟨⟨q1,q2,em,by omega,q5,q6⟩,⟨by omega,q1,q7,q8⟩⟩
def Wi(l b:Nat):(Instr.build 94 #[(0,vr (vz ⟨l,0,v6⟩)),(1,vr (vz ⟨b,0,v6⟩))]).run vp w=.ok (vx #[vr (vz ⟨l,0,v6⟩),vr (vz ⟨b,0,v6⟩)]) w:=by kernel_rfl
def Yu(l b co:Nat)(cf:Cf):(Instr.build 96 #[(0,vx #[vr (vz ⟨l,0,v6⟩),vr (vz ⟨b,0,v6⟩)]),(1,vx (C9 cf).toArray),(2,vr (vz ⟨co,0,v6⟩))]).run vp w=.ok (vx #[vr (vz ⟨l,0,v6⟩),vr (vz ⟨b,0,v6⟩),vq vy cf.pages,vq vy cf.threads,vq vy cf.window,vq vy cf.quantum,vq vy cf.target,vq vy cf.cap,vq vy cf.tax,vq vy cf.chunk,vq vy cf.stack,vq vy cf.trigger,vr (vz ⟨co,0,v6⟩)]) w:=by kernel_rfl
def Jo{cf:Cf}(hT:F0 w)(hz:0<w.heap.size)(h1:¬cf.Legal->∀w',Fr [] w w'->K (vu #[vr v6,vq vy 6]) w')(h0:cf.Legal->∀(A:Ci) (g:Gw) w',Fr [] w w'->g.all cf.threads.toNat=[]->(∀x∈A.all cf.threads.toNat g,x=0∨w.heap.size<=x)->BV A g cf 0 w' (Ma.new cf)->K (vu #[vr (vz ⟨A.ma,0,v6⟩),vq vy 0]) w'):
  I vp 16 #[vx (C9 cf).toArray] w K:=by
 refine F16.sh (Ay λy w1 hn1=>A5 hn1.at_ rfl (F41.sh (Ay λy2 w2 hn2=>A5 hn2.at_ rfl (IC (λL w3 hf3=>?_) λL w3 hf3=>?_))))
 ·have hfine:=L.fine;simp only[zv,vl,vo,zQ];have f3:=(hn1.fr.trans hn2.fr).trans hf3;have s3:=f3.size;have l1:=hn1.is;refine TT (hf3.at_ hn2.at_ (by simp)) hfine.2 (hT.keep f3 (by simp)) (by omega) λQ m w4 hf4 hm4 hQ4 h4=>?_;have s4:=hf4.size;have y4:=(hn2.fr.trans (hf3.trans hf4)).at_ hn1.at_ (by simp);simp only[zv,vl,vo,zQ]
  refine F16.k4.to (A8 (λw'=>w'.heap[y]?=vz (wj (C9 cf).toArray 23 (0,0))) λw5 hf5 _=>⟨hf5.at_ y4 (by simp),?_⟩);have s5:=hf5.size
  try simp only[zv]
  refine Aq (v:=vq vy cf.threads) (λw' hw=>⟨_,_,_,hw,rfl⟩) (Aq (v:=vq vy cf.window) (λw' hw=>⟨_,_,_,hw,rfl⟩) (AR (vs:=C9 cf) (λw' hw=>⟨_,_,_,hw,by simp[C9],rfl⟩) (Aq (v:=vq vy cf.cap) (λw' hw=>⟨_,_,_,hw,rfl⟩) (AR (vs:=C9 cf) (λw' hw=>⟨_,_,_,hw,by simp[C9],rfl⟩) ?_))));refine⟨V0 L λw6 hf6=>⟨(hf5.trans hf6).at_ y4 (by simp),?_⟩,trivial⟩;have s6:=hf6.size;have hth:=hfine.1.th
  obtain⟨T,hTh⟩:=xQ (show 0<=cf.threads by omega);rw[hTh];refine⟨RZ T (by omega) cf.window cf.most hfine.1.wi hfine.1.mo λlg bb w7 hf7 hlg hbb hL7=>⟨((hf5.trans hf6).trans hf7).at_ y4 (by simp),?_⟩,trivial⟩;have s7:=hf7.size;have zlg:=BP hL7.obj;obtain⟨bcs,hb7,hbc7⟩:=hL7.bk;have zbb:=BP hb7;refine⟨UC cf.cap λbn w8 hn8=>?_,trivial⟩;have l8:=hn8.is;have s8:=hn8.fr.size;have z8:=BP hn8.at_
  have f48:=((hf5.trans hf6).trans hf7).trans hn8.fr;refine⟨f48.at_ y4 (by simp),⟨_,λw' _=>Wi lg bn,⟨_,λw' _=>Yu lg bn Q.co cf,Ay λma w9 hn9=>⟨(f48.trans hn9.fr).at_ y4 (by simp),?_⟩,trivial⟩⟩⟩;have l9:=hn9.is;have s9:=hn9.fr.size;have z9:=BP hn9.at_;have f49:=f48.trans hn9.fr;have hca:=hfine.1.ca;have ec:Dj cf.cap 0 65535=cf.cap:=by unfold Dj;rw[vm (by omega),vm (by omega)]
  have h9:=(h4.keep0 f49).raise (N:=w9.heap.size) hm4 (by have:=h4.hp.le;omega) (va _);have eT:cf.threads.toNat=T:=by omega
  have sb0:Lr T (λ_=>wc.slice v6 0 0)=[]:=by simp[Lr,BM,wc.ownBlock]
  have lowN:∀x∈Q.fix++(Q.H.fix++Q.H.D.all),x<w4.heap.size:=λx hx=>by have:=h4.low hx;have:=h4.hp.le;omega
  refine h0 L ⟨Q.up w9.heap.size,ma,lg,bb,bn⟩ ⟨m,λ_=>vt v6 0 0⟩ w9 (f3.trans (hf4.trans f49)) ?_ (λx hx=>?_) ⟨⟨?_,λx hx e=>?_,λx hx=>?_⟩,hfine.1,h9,hn9.at_,?_,?_,?_,λt=>by simp[Ma.new],?_,?_⟩
  ·rw[eT];simp only[Gw.all];rw[hm4,sb0];rfl
  ·rw[eT]at hx;simp only[Ci.all,Ci.fix,Gw.all,j4,un,b8,vi,hm4,sb0]at hx;rcases hx with (e|e|e|e)|e
   ·exact wh (by omega)
   ·exact wh (by omega)
   ·exact wh (by omega)
   ·exact wh (by omega)
   ·rcases hQ4 x e with e'|e'
    ·exact wg e'
    ·exact wh (by omega)
  ·have:=hL7.gb;simp only[Ci.fix,j6,un,b8,vi,not_or,zR,List.nodup_nil,and_true];omega
  ·have:=lowN x e;simp only[Ci.fix,un,b8,vi]at hx;rcases hx with e|e|e|e<;>omega
  ·simp only[Ci.fix,un,b8,vi]at hx;show x<w9.heap.size;rcases hx with e|e|e|e<;>omega
  ·rw[eT];exact (hL7.keep0 hn8.fr).keep0 hn9.fr
  ·have:=hn9.fr.at_ hn8.at_ (by simp);rw[ec]at this;exact this
  ·exact⟨⟨by omega,by simp[Ma.new],by simp[Ma.new];omega,by simp[Ma.new],by simp[Ma.new],by simp[Ma.new],by simp[Ma.new],by simp[Ma.new]⟩,by simp[Ma.new],by simp[Ma.new]⟩
  ·rw[eT];simp only;rw[sb0];simp
  ·simp[Ma.new,Co.new]
 ·simp only[zv,vo,show ¬((6:Int)=0) by decide,zR];exact h1 L w3 ((hn1.fr.trans hn2.fr).trans hf3)
end
def Ma.flds(x:Ma)(a:Int):List V2:=(List.range (x.co.s.fields a).toNat).map λi:Nat=>(x.co.s.get a (i:Int)).1
def Ma.sers(x:Ma)(l:List V2):List V2:=l.map λv=>(v.1,(x.told v).2)
section
variable{K:VK}{w:wd}{A:Ci}{g:Gw}{cf:Cf}{B:Int}{x:Ma}
def BH{W0:wd}{v:wc}{l:List V2}{n:V2}(hf:Fr [] W0 w)(hn:Cc W0 v)(hv:BO w v 60 2 (Ck l))(hl:l.length<=1000000)(hk:∀v' w',Fr [] W0 w'->Cc W0 v'->BO w' v' 60 2 (Ck (l++[n]))->Fr (BM v) w w'->(∀g∈BM v',g∈BM v∨w.heap.size<=g)->K v' w'):
  Am vp (Instr.buildSlice 56 1 #[(0,V n.1 n.2)]) w λx w1=>Am vp (Builtin.append_ #[56,56] 56 #[v,x]) w1 K:=
 Bm (x:=[vq vy n.1,vq vy n.2]) (e:=60) (sz:=2) (bytes:=16) (z:=V 0 0) Tryz.underlying56 (by kernel_rfl) rfl (by decide) (Sz n) rfl (by simp[wc.oneCell']) hf hn hv (by rw[Cr];omega) (by rw[Cr];omega) λv' w' a b c d e=>hk v' w' a b (by rw[Lx];exact c) d e
def PQ{W:wd}(h0:BV A g cf B W x){a:Int}{n:Nat}(hn:n<=127)(hk:∀v w',Fr [] W w'->Cc W v->BO w' v 60 2 (Ck ((List.range n).map λi:Nat=>(x.co.s.get a (i:Int)).1))->K v w'){c:Int}(hc:c.toNat=n):
  ∀(d i:Nat) (w:wd) (v:wc),i+d=n->Fr [] W w->Cc W v->BO w v 60 2 (Ck ((List.range i).map λi:Nat=>(x.co.s.get a (i:Int)).1))->
   F50.l3 K (vr (vz ⟨A.ma,0,v6⟩)) (vq vy a) v (vq vy c) (vq vy (i:Int)) w:=by
 intro d;induction d with
 | zero=>
  intro i w v hi hf hn' hv;have e:i=n:=by omega
  subst e;refine F50.l3.to ?_;simp only[zv,show ¬((i:Int)<c) by omega];exact F50.k8.to (hk v w hf hn' hv)
 | succ d ih=>
  intro i w v hi hf hn' hv;have h:=h0.keep0 hf;refine F50.l3.to ?_;simp only[zv,show (i:Int)<c by omega];refine F50.k4.to ?_
  try simp only[zv]
  refine Ac (v:=vr (vz ⟨A.Q.co,0,v6⟩)) h.blk rfl (Oc h.co λw1 hf1=>?_)
  try simp only[zv]
  generalize hgv:(x.co.s.get a (i:Int)).1=gv;refine Ay λy w2 hn2=>AB (x:=V gv.1 gv.2) hn2.at_ rfl Cb rfl λw3 hu3=>A5 hu3.at_ rfl ?_;have l2:=hn2.is;have s1:=hf1.size;have f3:Fr [] w w3:=(hf1.trans hn2.fr).then hu3.fr (by simp;omega);refine BH (n:=gv) (hf.trans f3) hn' (hv.keep f3 (by simp)) (by simp;omega) λv' w4 hf4 hn4 ho4 _ _=>?_;refine F50.k7.to ?_
  try simp only[AC]
  rw[BN (n:=(i:Int)+1) (by omega)];refine ih (i+1) w4 v' (by omega) hf4 hn4 ?_;rw[j7,i9,List.map_singleton,hgv];exact ho4
def H0{a:Int}(h:BV A g cf B w x)(hk:∀v w',Fr [] w w'->Cc w v->BO w' v 60 2 (Ck (x.flds a))->K v w'):I vp 50 #[vr (vz ⟨A.ma,0,v6⟩),vq vy a] w K:=by
 have hr:=GJ (s:=x.co.s) a;refine F50.sh ?_
 try simp only[zv]
 refine Ac (v:=vr (vz ⟨A.Q.co,0,v6⟩)) h.blk rfl (L2 h.co ?_);exact PQ (W:=w) h (n:=(x.co.s.fields a).toNat) (by omega) hk rfl (x.co.s.fields a).toNat 0 w _ (by omega) (Fr.refl _ _) (Cc.nil _) (BO.nil _ _ _)
def OS(l:List V2)(j:Nat)(v:V2):Ck (l.set j v)=(Ck l).set j [vq vy v.1,vq vy v.2]:=by simp[Ck]
def Qu{W:wd}(h0:BV A g cf B W x){u:wc}{l:List V2}(hl:l.length<=1000)(hNu:Cc W u)(hk:∀w',Fr [] W w'->BO w' u 60 2 (Ck (x.sers l))->K u w'):
  ∀(d i:Nat) (w:wd),i+d=l.length->Fr [] W w->BO w u 60 2 (Ck (x.sers (l.take i)++l.drop i))->
   F46.l3 K (vr (vz ⟨A.ma,0,v6⟩)) u u (vq vy (l.length:Int)) (vq vy (i:Int)) w:=by
 intro d;induction d with
 | zero=>
  intro i w hi hf hv;have e:i=l.length:=by omega
  subst e;refine F46.l3.to ?_;simp only[zv,show ¬((l.length:Int)<(l.length:Int)) by omega];rw[d7,zU,List.append_nil]at hv;exact F46.k8.to (hk w hf hv)
 | succ d ih=>
  intro i w hi hf hv;have hlt:i<l.length:=by omega
  have h:=h0.keep0 hf;have hsl:(x.sers (l.take i)).length=i:=by simp[Ma.sers];omega
  have hll:(x.sers (l.take i)++l.drop i).length=l.length:=by rw[yY,hsl,zZ];omega
  have hget:(x.sers (l.take i)++l.drop i)[i]'(by omega)=l[i]:=by rw[xJ (by omega)];simp[hsl]
  refine F46.l3.to ?_;simp only[zv,show (i:Int)<(l.length:Int) by omega];refine F46.k4.to (Bw hv.rd (by omega:i<(x.sers (l.take i)++l.drop i).length) λgg o cs e fz hg hcs ho=>AY hg (by omega) hcs ?_);rw[hget];generalize hgv:l[i]=v;refine Ay λy w1 hn1=>AB (x:=V v.1 v.2) hn1.at_ rfl Cb rfl λw2 hu2=>A5 hu2.at_ rfl ?_;have l1:=hn1.is;have f2:Fr [] w w2:=hn1.fr.then hu2.fr (by simp;omega)
  refine Kr (v:=v) (h.keep0 f2) λw3 hf3=>?_;have s2:=f2.size;have s3:=hf3.size;refine Ay λz w4 hn4=>AB (x:=Cg ⟨0,(x.told v).1,(x.told v).2,0,0⟩) hn4.at_ rfl CU rfl λw5 hu5=>?_;have l4:=hn4.is;have f5:Fr [] w w5:=((f2.trans hf3).trans hn4.fr).then hu5.fr (by simp;omega);have v5:=hv.keep f5 (by simp)
  try simp only[zv]
  refine Ac (v:=vq vy (x.told v).2) hu5.at_ rfl ?_;refine v5.spot (by rw[Cr];omega) λg2 o2 cs2 hg2 hb2 ho2 hc2 hset=>?_;have q0:=hc2 0 (by omega);have e0:((Ck (x.sers (l.take i)++l.drop i))[i]'(by rw[Cr];omega))=[vq vy v.1,vq vy v.2]:=by simp only[Ck,zV];rw[hget,hgv]
  rw[e0]at q0
  try simp only[Ah]
  refine AM hg2 rfl rfl (by omega) λw6 hu6=>?_;have hown:=hset [vq vy v.1,vq vy (x.told v).2] w6 rfl (by simp[wc.oneCell']) (by rw[Jf (by simpa using q0) ho2];exact hu6.at_);refine F46.k7.to ?_
  try simp only[AC]
  rw[BN (n:=(i:Int)+1) (by omega)];refine ih (i+1) w6 (by omega) ((hf.trans f5).then hu6.fr λq hq=>wh ?_) ?_
  ·simp only[yZ]at hq;subst hq;exact hNu.blk _ (by rw[hb2];simp)
  ·have e1:x.sers (l.take (i+1))++l.drop (i+1)=(x.sers (l.take i)++l.drop i).set i (v.1,(x.told v).2):=by rw[List.set_append_right _ _ (by omega),hsl,Nat.sub_self,xG hlt,List.set_cons_zero,zL,xO hlt,hgv];simp[Ma.sers]
   rw[e1,OS];exact hown
def EF{u:wc}{l:List V2}(h:BV A g cf B w x)(hl:l.length<=1000)(hu:BO w u 60 2 (Ck l))(hk:∀v w',Fr [] w w'->Cc w v->BO w' v 60 2 (Ck (x.sers l))->K v w'):I vp 46 #[vr (vz ⟨A.ma,0,v6⟩),u] w K:=by refine F46.sh (Mu hu.rd (by omega) λv w1 hf1 ho1 hn1=>AK ho1.rd ?_);rw[Cr];exact Qu (W:=w) h hl hn1 (λw' hf ho=>hk v w' hf hn1 ho) l.length 0 w1 (by omega) hf1 (by simpa[Ma.sers] using ho1)
end
def CO(out:List Int)(l:List V2):List Int:=l.foldl (λout v=>if v.1=2/\v.2∉out then out++[v.2] else out) out
def Ma.rchGo(x:Ma):Nat->Nat->List Int->List Int
 | 0,_,out=>out
 | d+1,i,out=>if i<out.length then Ma.rchGo x d (i+1) (CO out (x.flds (out.getD i 0))) else out
def Ma.rch0(cf:Cf)(x:Ma):List Int:=(List.range cf.threads.toNat).foldl (λ(out:List Int) (t:Nat)=>CO out (x.co.roots (t:Int))) [x.co.global]
def Ma.rch(cf:Cf)(x:Ma):List Int:=x.rchGo 2050 0 (x.rch0 cf)
def Kn(l:List V2):Prop:=∀v∈l,v.1=2->0<=v.2/\v.2<2048
def Rr(out:List Int)(l k:List V2):CO out (l++k)=CO (CO out l) k:=List.foldl_append
structure DD(out:List Int):Prop where
 ne:out≠[]
 nd:out.tail.Nodup
 rng:∀x∈out.tail,0<=x/\x<2048
theorem K8:∀(n:Nat) (L:List Int),L.Nodup->(∀x∈L,0<=x/\x<n)->L.length<=n
 | 0,L,_,h=>by
  cases L with
  | nil=>simp
  | cons a L=>exact absurd (h a (by simp)) (by omega)
 | n+1,L,hn,h=>by
  have h1:=K8 n (L.erase (n:Int)) (hn.erase _) λx hx=>by
   have:=(hn.mem_erase_iff).1 hx;have:=h x this.2;omega
  have:(L.erase (n:Int)).length=if (n:Int)∈L then L.length-1 else L.length:=List.length_erase;split at this<;>omega
def DD.le{out:List Int}(h:DD out):out.length<=2049:=by have:=K8 2048 out.tail h.nd h.rng;rw[List.length_tail]at this;omega
def DD.add{out:List Int}(h:DD out){a:Int}(ha:0<=a/\a<2048)(hn:a∉out):DD (out++[a]):=by
 obtain⟨x,r,rfl⟩:=List.exists_cons_of_ne_nil h.ne;have h2:=h.nd;have h3:=h.rng;simp only[List.tail_cons]at h2 h3;simp only[un,not_or]at hn;refine⟨by simp,?_,λy hy=>?_⟩
 ·simp only[List.cons_append,List.tail_cons];rw[zK];exact⟨h2,by simp,λy hy z hz=>by simp only[yZ]at hz;rintro rfl;subst hz;exact hn.2 hy⟩
 ·simp only[List.cons_append,List.tail_cons]at hy;rcases j4.1 hy with c|c
  ·exact h3 y c
  ·rw[yZ.1 c];exact ha
theorem DD.note:∀(l:List V2) {out:List Int},DD out->Kn l->DD (CO out l)
 | [],_,h,_=>h
 | v::l,out,h,hl=>by
  have e:CO out (v::l)=CO (if v.1=2/\v.2∉out then out++[v.2] else out) l:=rfl;rw[e];refine DD.note l ?_ λu hu=>hl u (by simp[hu]);split
  ·rename_i hc;exact h.add (hl v (by simp) hc.1) hc.2
  ·exact h
def RI{w:Int}(h:(GS w).1.1=2):0<=(GS w).1.2/\(GS w).1.2<2048:=by
 unfold GS at *;split at h
 ·rename_i hc;rw[vn hc];simp only at h ⊢;rw[h]at hc;unfold D8 at hc;rw[vm (by decide),vm (by decide),vn rfl]at hc;split at hc
  ·rename_i h3;exact h3
  ·cases hc
 ·cases h
def Jv(x:Ma)(a:Int):Kn (x.flds a):=by
 intro v hv h2;unfold Ma.flds at hv;obtain⟨i,_,rfl⟩:=uu.1 hv;unfold St.get at *;split
 ·rename_i hc;rw[vn hc]at h2;exact RI h2
 ·rename_i hc;rw[vm hc]at h2;exact absurd h2 (by decide)
def Sy:DX vp 84=v7:=by kernel_rfl
def I1{f:FuncId}{cap:Array wc}{args:List wc}{w:wd}{K:VK}(hb:DX vp f=v7)(h:I vp f (args++cap.toList).toArray w K):DK vp (.func (.func f) #[] cap) args w K:=by simp only[DK,hb,vf,j5];exact h
section
variable{K:VK}{A:Ci}{g:Gw}{cf:Cf}{B:Int}{x:Ma}
structure FX(W:wd)(yb:Nat)(out:List Int)(w:wd):Prop where
 fr:Fr [] W w
 hy:W.heap.size<=yb
 ex:∃v,w.heap[yb]?=vz (wj #[v] 54 (0,0))/\Cc W v/\BO w v 3 1 (Ca out)
def FX.keep{W w w':wd}{yb:Nat}{out:List Int}(h:FX W yb out w)(hf:Fr [] w w'):FX W yb out w':=by obtain⟨v,v1,v2,v3⟩:=h.ex;exact⟨h.fr.trans hf,h.hy,v,hf.at_ v1 (by simp),v2,v3.keep hf (by simp)⟩
def Qc{W:wd}{yb:Nat}{u:wc}{l:List V2}(hl:l.length<=1000)(hr:Kn l){out0:List Int}(h0:DD out0)(hk:∀w',FX W yb (CO out0 l) w'->K (vu #[]) w'):
  ∀(d i:Nat) (w:wd),i+d=l.length->FX W yb (CO out0 (l.take i)) w->BO w u 60 2 (Ck l)->
   F84.l1 K (vr (vz ⟨yb,0,v6⟩)) u (vq vy (l.length:Int)) (vq vy (i:Int)) w:=by
 intro d;induction d with
 | zero=>
  intro i w hi hs hu;have e:i=l.length:=by omega
  subst e;refine F84.l1.to ?_;simp only[zv,show ¬((l.length:Int)<(l.length:Int)) by omega];rw[d7]at hs;exact hk w hs
 | succ d ih=>
  intro i w hi hs hu;have hlt:i<l.length:=by omega
  have hok:DD (CO out0 (l.take i)):=h0.note _ λv hv=>hr v (yO hv);have e1:CO out0 (l.take (i+1))=if l[i].1=2/\l[i].2∉CO out0 (l.take i) then CO out0 (l.take i)++[l[i].2] else CO out0 (l.take i):=by rw[zL,xO hlt,Rr];rfl
  have next:∀w',FX W yb (CO out0 (l.take (i+1))) w'->BO w' u 60 2 (Ck l)->F84.k6 K (vr (vz ⟨yb,0,v6⟩)) u (vq vy (l.length:Int)) (vq vy (i:Int)) w':=λw' a b=>by
   refine F84.k6.to ?_
   try simp only[AC]
   rw[BN (n:=(i:Int)+1) (by omega)];exact ih (i+1) w' (by omega) a b
  generalize hgv:l[i]=v at e1;refine F84.l1.to ?_;simp only[zv,show (i:Int)<(l.length:Int) by omega];refine F84.k2.to (Bw hu.rd hlt λgg o cs e fz hg hcs ho=>AY hg (by omega) hcs ?_);rw[hgv];refine Ay λy w1 hn1=>AB (x:=V v.1 v.2) hn1.at_ rfl Cb rfl λw2 hu2=>?_;have l1:=hn1.is;have f2:Fr [] w w2:=hn1.fr.then hu2.fr (by simp;omega);have hs2:=hs.keep f2;have hu2':=hu.keep f2 (by simp);obtain⟨sv,s1,s2,s3⟩:=hs2.ex
  try simp only[zv]
  refine Ac (v:=vq vy v.2) hu2.at_ rfl ?_;refine Ac (v:=vq vy v.1) hu2.at_ rfl ?_;by_cases c2:v.1=2
  ·try simp only[zv,vl,c2]
   refine Ac (v:=sv) s1 rfl ?_;refine HX s3.rd ?_;by_cases c3:v.2∈CO out0 (l.take i)
   ·rw[vm (λz=>z.2 c3)]at e1
    try simp only[zv,c3]
    exact next w2 (by rw[e1];exact hs2) hu2'
   ·rw[vn ⟨c2,c3⟩]at e1
    try simp only[zv,c3]
    refine Ac (v:=sv) s1 rfl (Bz hs2.fr s2 s3 (by have:=hok.le;omega) λv' w3 hf3 hn3 ho3 hf3' hb3=>?_);have hyb:yb∉BM sv:=s3.nb s1 (by decide);have y3:=hf3'.at_ s1 hyb;have hu3:BO w3 u 60 2 (Ck l):=hu2'.keep' hf3' (hu2'.ne s3 (by decide));have hyu:yb∉BM u:=hu3.nb y3 (by decide);have hyv:yb∉BM v':=ho3.nb y3 (by decide);refine AM y3 ho3.one.2 ho3.one.1 (by simp) λw4 hu4=>?_
    refine next w4 ?_ (hu3.keep' hu4.fr λq hq c=>hyu (by simp only[yZ]at c;rw[<-c];exact hq))
    rw[e1];exact⟨hf3.then hu4.fr (λq hq=>wh (by simp only[yZ]at hq;have:=hs.hy;omega)),hs.hy,v',hu4.at_,hn3,ho3.keep' hu4.fr λq hq c=>hyv (by simp only[yZ]at c;rw[<-c];exact hq)⟩
  ·rw[vm (λz=>c2 z.1)]at e1
   try simp only[zv,c2]
   exact next w2 (by rw[e1];exact hs2) hu2'
def Qb{W w:wd}{yb:Nat}{u:wc}{l:List V2}(hl:l.length<=1000)(hr:Kn l){out:List Int}(h0:DD out)(hs:FX W yb out w)(hu:BO w u 60 2 (Ck l))(hk:∀w',FX W yb (CO out l) w'->K (vu #[]) w'):
  DK vp (.func (.func 84) #[] #[vr (vz ⟨yb,0,v6⟩)]) [u] w K:=by refine I1 Sy (F84.sh (AK hu.rd ?_));rw[Cr];exact Qc (W:=W) hl hr h0 hk l.length 0 w (by omega) hs hu
end
end
section
open Go.RowKit Go.Sort Go.Shelf
def Em(f:Int->Int)(l:List Int):List Int:=(pdq (ltOf λa b=>f a-f b) l.toArray 0 l.length (Lib.bitLen l.length) v7 v7).toList
def TM(f:Int->Int):SWO (ltOf λa b=>f a-f b):=
 ⟨λx=>by simp[ltOf],λx y z a b=>by simp only[ltOf,zP] at *;omega,λx y z a b=>by simp only[ltOf,xU] at *;omega⟩
def JB{α : Type}(d:Array α){n:Nat}(h:d.size=n):d.extract 0 n=d:=by subst h;simp
def GP(f:Int->Int)(l:List Int):(Em f l).Perm l/\(Em f l).Pairwise λa b=>f a<=f b:=by
 obtain⟨⟨p1,_,p3⟩,h2⟩:=pdq_sorts (ltOf λa b=>f a-f b) (TM f) l.toArray 0 l.toArray.size (Lib.bitLen l.toArray.size) v7 v7 (Nat.zero_le _) (va _) (Or.inl rfl);unfold Em;have e:l.toArray.size=l.length:=by simp
 rw[e]at p1 p3 h2;generalize pdq (ltOf λa b=>f a-f b) l.toArray 0 l.length (Lib.bitLen l.length) v7 v7=d at p1 p3 h2;constructor
 ·rw[JB d (by rw[p1]),JB l.toArray (by simp)]at p3;simpa using p3
 ·rw[xL];intro i j hi hj hij;have hi':i<d.size:=by simpa using hi
  have hj':j<d.size:=by simpa using hj
  have:=h2 i j (Nat.zero_le _) hij (by omega);rw[getElem!_pos d i hi',getElem!_pos d j hj']at this;simp only[ltOf,xU]at this;simp only[Array.getElem_toList];omega
def Jh(f:Int->Int)(l:List Int):(Em f l).length=l.length:=(GP f l).1.length_eq
def SP{w:wd}{g n:Nat}{os:Array Obj}{cur:Array wc}{e:TypeId}{fr:Nat × Nat}(d:Array Int)(hb:w.heap[g]?=vz (wj cur e fr)):
  (sortWorld (wc.int vy) w g 0 n d os).heap[g]?=vz (wj (putCells (wc.int vy) 0 d cur) e fr):=by have hg:g<w.heap.size:=(wY.1 hb).1;unfold sortWorld;rw[heap_grow_old _ _ (by simpa using hg)];simp[putRow,mapBlock,Sort.ahead,yA,hb,onCells]
def QV{w:wd}{g n:Nat}{os:Array Obj}(d:Array Int):Fr [g] w (sortWorld (wc.int vy) w g 0 n d os):=by refine⟨rfl,rfl,rfl,by simp[sortWorld],λk hk hne=>?_⟩;unfold sortWorld;rw[heap_grow_old _ _ (by simpa using hk)];have:g≠k:=λe=>hne (by simp[e]);simp[putRow,mapBlock,Sort.ahead,yA,this]
def Tz(cur:Array wc)(d:Array Int)(h:d.size<=cur.size):(putCells (wc.int vy) 0 d cur).toList.take d.size=d.toList.map (wc.int vy):=by
 apply zF;intro j;by_cases hj:j<d.size
 ·rw[List.getElem?_take_of_lt hj,yB];have h1:d[j]! = d[j]:=getElem!_pos d j hj;simp[putCells,hj,show j<cur.size by omega]
 ·rw[List.getElem?_take_eq_none (by omega),yC (by simp;omega)]
def SE:∀args w,(callFunc 87 args).run vp w=.ok (.enter 87 args) w:=by intro args w;exact enters_of func87 (by kernel_rfl) rfl args w
def KM(s:St)(a:Int) : -1<=s.serial a/\s.serial a<1099511627776:=by
 unfold St.serial St.read;split
 ·unfold Gz;split
  ·simp only;omega
  ·simp only;omega
 ·simp only;omega
section
variable{K:VK}{A:Ci}{g:Gw}{cf:Cf}{B:Int}{x:Ma}{w:wd}
def WL{c:Nat}{a b:Int}{e:TypeId}{fz:Nat × Nat}(h:BV A g cf B w x)(hc:w.heap[c]?=vz (wj #[vr (vz ⟨A.ma,0,v6⟩)] e fz))(hk:K (vq vy (x.co.s.serial a-x.co.s.serial b)) { w with drawn:=w.drawn+1 }):
  I vp 87 #[vq vy a,vq vy b,vr (vz ⟨c,0,v6⟩)] w K:=by
 have h':=h.keep0 (Fr.drew w);have hc':=(Fr.drew w).at_ hc (by simp);have ha:=KM x.co.s a;have hb:=KM x.co.s b;refine F87.sh ⟨λw'=>w'={ w with drawn:=w.drawn+1 },rfl,?_⟩;have hs1:∀w',w'=({ w with drawn:=w.drawn+1 }:wd)->∃cs e fz,w'.heap[c]?=vz (wj cs e fz)/\cs[0]?=vz (vr (vz ⟨A.ma,0,v6⟩)):=λw' hw=>by subst hw;exact⟨_,_,_,hc',rfl⟩
 have hs2:∀w',w'=({ w with drawn:=w.drawn+1 }:wd)->∃cs e fz,w'.heap[A.ma]?=vz (wj cs e fz)/\cs[12]?=vz (vr (vz ⟨A.Q.co,0,v6⟩)):=λw' hw=>by subst hw;exact⟨_,_,_,h'.blk,rfl⟩
 refine Aq hs1 ?_
 try simp only[zv]
 refine Aq hs2 (Aq hs1 ?_)
 try simp only[zv]
 refine Aq hs2 ⟨Hy h'.co ⟨rfl,Hy h'.co ⟨rfl,?_⟩,trivial⟩,trivial⟩
 try simp only[AO]
 rw[BN (by omega)];exact hk
def Sn{W:wd}{c:Nat}{ov:wc}{l:List Int}{e:TypeId}{fz:Nat × Nat}(h0:BV A g cf B W x)(hf:Fr [] W w)(hn:Cc W ov)(ho:BO w ov 3 1 (Ca l))(hc:w.heap[c]?=vz (wj #[vr (vz ⟨A.ma,0,v6⟩)] e fz))(he:e≠3)(hl:l.length<=1000000)(hk:∀w',Fr (BM ov) w w'->BO w' ov 3 1 (Ca (Em x.co.s.serial l))->K (vu #[]) w'):
  I vp 86 #[ov,.func (.func 87) #[] #[vr (vz ⟨c,0,v6⟩)]] w K:=by
 have hcn:c∉BM ov:=ho.nb hc (vk he);obtain⟨⟨h1,h2⟩,h3⟩:=id ho;rw[Cm]at h1 h2;rcases h2 with⟨rfl,h2⟩|⟨g0,cap,cur,rfl,hb,hg,h4,h5,h6,h7⟩
 ·have el:l=[]:=wW h2;subst el;refine (AnyF.slices_SortFunc_none { TK with } v6 0 _ w).mono ?_;rintro e w' ⟨rfl,rfl⟩;refine⟨_,rfl,hk w' (Fr.refl _ _) ?_⟩;have:Em x.co.s.serial []=[]:=wW (Jh _ _);rw[this];exact BO.nil _ _ _
 ·rw[GK,vb]at h7;have hH:=holds_of_blockI hg h7;have hcg:c∉[g0]:=by simpa[BM,wc.ownBlock] using hcn
  have hng:W.heap.size<=g0:=hn.blk g0 (by simp[BM,wc.ownBlock]);have Im:=Any.slices_SortFunc_eq (P:=vp) (ρ := LZ) TK (wc.int vy) (λ_=>rfl) (λa b=>x.co.s.serial a-x.co.s.serial b) (TM _)
   87 #[vr (vz ⟨c,0,v6⟩)] g0 0 cap l.toArray w SE (λm os dk hs a b=>by
    have hf1:=QV (w:=w) (g:=g0) (n:=m) (os:=os) dk;have hW:Fr [] W (sortWorld (wc.int vy) w g0 0 m dk os):=hf.then hf1 λq hq=>wh (by simp only[yZ]at hq;omega);have:=WL (K:=λv W'=>v=vq vy (x.co.s.serial a-x.co.s.serial b)/\W'={ (sortWorld (wc.int vy) w g0 0 m dk os)with drawn:=(sortWorld (wc.int vy) w g0 0 m dk os).drawn+1 }) (a:=a) (b:=b) (h0.keep0 hW) (hf1.at_ hc hcg) ⟨rfl,rfl⟩;refine Calls.mono this ?_
    rintro e W' ⟨v,rfl,rfl,rfl⟩;exact⟨rfl,1, #[],by rw[grow_empty];rfl⟩) hH (BP hg) (by simp;omega)
  have main':Calls vp 86 #[vt (vz ⟨g0,0,v6⟩) l.length cap,.func (.func 87) #[] #[vr (vz ⟨c,0,v6⟩)]] w _:=Im;refine main'.mono ?_;rintro e w' ⟨rfl,n,os,rfl⟩;have hlen:=Jh x.co.s.serial l;unfold Em at hk hlen;simp only[List.size_toArray];generalize pdq (ltOf λa b=>x.co.s.serial a-x.co.s.serial b) l.toArray 0 l.length (Lib.bitLen l.length) v7 v7=d at hk hlen;have ds:d.size=l.length:=by simpa using hlen
  refine⟨_,rfl,hk _ (by simpa[BM,wc.ownBlock] using QV d) ?_⟩;refine BO.of_block (SP d hg) (by rw[Cm,hlen]) h4 (by unfold maxLen at h5;omega) (by simp[putCells,h6]) ?_ ?_
  ·intro y hy;refine⟨?_,IS y hy⟩;simp only[Ca,uu]at hy;obtain⟨z,_,rfl⟩:=hy;rfl
  ·have:=Tz cur d (by rw[ds,h6];omega);rw[ds]at this;rw[vb,GK];exact this
end
end
noncomputable section
variable{K:VK}{w:wd}{x0 x1 y0 y1 y2 y3 y5 y6:wc}
namespace F14
def ann:Cd:=⟨[(3,[2,3]),(5,[2,3,5]),(6,[2,3,5]),(8,[2,3]),(10,[2,3,6]),(11,[2,3,6]),(13,[])],[(4,[2,3,5]),(9,[2,3,6])],[],[(6,(tk [0,2,5,7,1,3,4,6,8,9] (.go 10 (.take 11 .fin) .fin))),(11,(tk [0,2,6,8,1,3,4,5,7,9,10,11,12,13,14,16,20,22,15,17,18,19,21,23,24,25] (.go 26 (tk [27,28] .fin) .fin)))],v6⟩
def code:=cd f14
def BL:=tp f14
variable(K:VK)(y2 y3 y5 y6:wc)(w:wd)
def k3:=nk ann 78 [(2,y2),(3,y3)] w [1,1] code (BL K)
def k8:=nk ann 78 [(2,y2),(3,y3)] w [1,1,1] code (BL K)
def l4:=nl ann 78 [(2,y2),(3,y3),(5,y5)] w [1,1,0,1,0] code (BL K)
def k6:=nk ann 78 [(2,y2),(3,y3),(5,y5)] w [1,1,0,1,0,0,1] code (BL K)
def k5:=nk ann 78 [(2,y2),(3,y3),(5,y5)] w [1,1,0,1,0,0,1,1] code (BL K)
def k13:=nk ann 78 [] w [1,1,1,1] code (BL K)
def l9:=nl ann 78 [(2,y2),(3,y3),(6,y6)] w [1,1,1,0,1,0] code (BL K)
def k11:=nk ann 78 [(2,y2),(3,y3),(6,y6)] w [1,1,1,0,1,0,0,1] code (BL K)
def k10:=nk ann 78 [(2,y2),(3,y3),(6,y6)] w [1,1,1,0,1,0,0,1,1] code (BL K)
attribute [irreducible] k3 k8 l4 k6 k5 k13 l9 k11 k10
end F14
def F14.k3.to(h:(F14.l4 K y2 y3 (vq vy 0) w)):F14.k3 K y2 y3 w:=qq h
def F14.k8.to(h:(F14.l9 K y2 y3 (vq vy 0) w)):F14.k8 K y2 y3 w:=qq h
def F14.l4.to(h:(Ab 0 y2 w λa b=>Ad a b λc d=>AH c d λf g=>U .lss y5 f g λi j=>Af i (F14.k6 K y2 y3 y5 j) (F14.k8 K y2 y3 j))):F14.l4 K y2 y3 y5 w:=by unfold F14.l4 nl;exact BW (qq h)
def F14.k6.to(h:(A4 w λS a=>Ab 0 y2 a λb c=>Ab 0 y3 c λd f=>Al S b f λg i=>A6 1 g y5 i λj k=>Al S j k λm o=>Al S d o λp q=>A6 1 p y5 q λr s=>Al S r s λt u=>(I vp 39 #[m,t] u λv x=>(S x/\
 AE v x λy z=>Af y (K (vw v8) z) (F14.k5 K y2 y3 y5 z)))/\True)):F14.k6 K y2 y3 y5 w:=qq h
def F14.k5.to(h:(U .add y5 (vq vy 1) w λa b=>F14.l4 K y2 y3 a b)):F14.k5 K y2 y3 y5 w:=qq h
def F14.k13.to(h:(K (vw v7) w)):F14.k13 K w:=qq h
def F14.l9.to(h:(Ab 1 y2 w λa b=>Ad a b λc d=>AH c d λf g=>U .lss y6 f g λi j=>Af i (F14.k11 K y2 y3 y6 j) (F14.k13 K j))):F14.l9 K y2 y3 y6 w:=by unfold F14.l9 nl;exact BW (qq h)
def F14.k11.to(h:(A4 w λS a=>Ab 1 y2 a λb c=>Ab 1 y3 c λd f=>Al S b f λg i=>A6 2 g y6 i λj k=>Ab 0 j k λm o=>Al S m o λp q=>Al S d q λr s=>A6 2 r y6 s λt u=>Ab 0 t u λv x=>Al S v x λy z=>U .neq p y z λaa ab=>Aa v8 aa (Ab 1 y2 ab) ab λac ad=>Aa v8 aa (λK=>K y6 ad) ad λae af=>Aa v8 aa (Ab 1 y3 af) af λag ah=>Aa v8 aa (λK=>K y6 ah) ah λai aj=>Aa v8 aa (Al S ac aj) aj λak al=>Aa v8 aa (A6 2 ak ae al) al λam an=>Aa v8 aa (Ab 1 am an) an λao ap=>Aa v8 aa (Al S ao ap) ap λaq ar=>Aa v8 aa (Al S ag ar) ar λau av=>Aa v8 aa (A6 2 au ai av) av λaw ax=>Aa v8 aa (Ab 1 aw ax) ax λay az=>Aa v8 aa (Al S ay az) az λba bb=>(Aa v8 aa (λK=>I vp 39 #[aq,ba] bb K) bb λbc bd=>(S bd/\
 Aa v8 aa (AE bc bd) bd λbe bf=>Ar (vz aa) (vz (vw v7)) (vz be) bf λbg bh=>Af bg (K (vw v8) bh) (F14.k10 K y2 y3 y6 bh)))/\True)):F14.k11 K y2 y3 y6 w:=qq h
def F14.k10.to(h:(U .add y6 (vq vy 1) w λa b=>F14.l9 K y2 y3 a b)):F14.k10 K y2 y3 y6 w:=qq h
def F14.sh(h:(Aw (wj (wc.cells x0) 46) w λa b=>Aw (wj (wc.cells x1) 46) b λc d=>Ab 0 a d λf g=>Ad f g λi j=>AH i j λk m=>Ab 0 c m λo p=>Ad o p λq r=>AH q r λs t=>U .neq k s t λu v=>Aa v8 u (Ab 1 a v) v λx y=>Aa v8 u (Ad x y) y λz aa=>Aa v8 u (AH z aa) aa λab ac=>Aa v8 u (Ab 1 c ac) ac λad ae=>Aa v8 u (Ad ad ae) ae λaf ag=>Aa v8 u (AH af ag) ag λah ai=>Aa v8 u (U .neq ab ah ai) ai λaj ak=>Ar (vz u) (vz (vw v7)) (vz aj) ak λal am=>Af al (K (vw v8) am) (F14.k3 K a c am))):I vp 14 #[x0,x1] w K:=BK (A:=F14.ann) (args:=[x0,x1]) (qq h)
namespace F39
def ann:Cd:=⟨[(3,[0,1]),(5,[0,1,5]),(6,[0,1,5]),(8,[])],[(4,[0,1,5])],[],[(6,(tk [0,1,2,4,5,6,3,7,8] .fin))],v6⟩
def code:=cd f39
def BL:=tp f39
variable(K:VK)(y0 y1 y5:wc)(w:wd)
def k3:=nk ann 26 [(0,y0),(1,y1)] w [1,1] code (BL K)
def k8:=nk ann 26 [] w [1,1,1] code (BL K)
def l4:=nl ann 26 [(0,y0),(1,y1),(5,y5)] w [1,1,0,1,0] code (BL K)
def k6:=nk ann 26 [(0,y0),(1,y1),(5,y5)] w [1,1,0,1,0,0,1] code (BL K)
def k5:=nk ann 26 [(0,y0),(1,y1),(5,y5)] w [1,1,0,1,0,0,1,1] code (BL K)
attribute [irreducible] k3 k8 l4 k6 k5
end F39
def F39.k3.to(h:(F39.l4 K y0 y1 (vq vy 0) w)):F39.k3 K y0 y1 w:=qq h
def F39.k8.to(h:(K (vw v7) w)):F39.k8 K w:=qq h
def F39.l4.to(h:(AH y0 w λa b=>U .lss y5 a b λc d=>Af c (F39.k6 K y0 y1 y5 d) (F39.k8 K d))):F39.l4 K y0 y1 y5 w:=by unfold F39.l4 nl;exact BW (qq h)
def F39.k6.to(h:(A4 w λS a=>A6 2 y0 y5 a λb c=>A6 2 y1 y5 c λd f=>AN S 2 b f λg i=>AN S 2 d i λj k=>∃m,(∀w',S w'->((do eqGuard .neq 60 (.tmp 20) (.tmp 24) g j;binOp .neq 60 g j:Sem wc)).run vp w'=.ok m w')/\(Af m (K (vw v8) k) (F39.k5 K y0 y1 y5 k)))):F39.k6 K y0 y1 y5 w:=qq h
def F39.k5.to(h:(U .add y5 (vq vy 1) w λa b=>F39.l4 K y0 y1 a b)):F39.k5 K y0 y1 y5 w:=qq h
def F39.sh(h:(AH x0 w λa b=>AH x1 b λc d=>U .neq a c d λf g=>Af f (K (vw v8) g) (F39.k3 K x0 x1 g))):I vp 39 #[x0,x1] w K:=BK (A:=F39.ann) (args:=[x0,x1]) (qq h)
end
section
open Go.RowKit
def Cq.one{w:wd}{v:wc}{sz:Nat}{xs:List (List wc)}(h:Cq w v sz xs):v.oneCell'=v7/\v.cells = #[v]:=by obtain⟨A,c,rfl,_⟩:=h;exact⟨rfl,rfl⟩
abbrev Va:=Int × Int
abbrev Nd:=Int × List Va
abbrev Vw:=List (List Va) × List Nd
def K5{α : Type}{a b:List α}{i:Nat}(hl:a.length=b.length)(hi:a.length<=i)(h:∀j,j<i->a[j]?=b[j]?):a=b:=zF λj=>by
 by_cases hj:j<i
 ·exact h j hj
 ·rw[yC (by omega),yC (by omega)]
def ON{α : Type}{a b:List α}{i:Nat}(ha:i<a.length)(hb:i<b.length)(h:∀j,j<i->a[j]?=b[j]?)(he:a[i]=b[i]):∀j,j<i+1->a[j]?=b[j]?:=λj hj=>by
 by_cases e:j=i
 ·subst e;rw[xO ha,xO hb,he]
 ·exact h j (by omega)
def E5(vs:List wc):List (List wc):=vs.map λv=>[v]
def Gc(vs:List wc):(E5 vs).length=vs.length:=by simp[E5]
def HU{vs:List wc}{j:Nat}(h:j<vs.length):(E5 vs)[j]?=vz [vs[j]]:=by simp[E5,h]
def OJ(a b:List wc):E5 (a++b)=E5 a++E5 b:=by simp[E5]
def Dr{l:List Va}{j:Nat}(h:j<l.length):(Ck l)[j]?=vz [vq vy l[j].1,vq vy l[j].2]:=by simp[Ck,h]
def I8(N:List Nd)(fs:List wc):List (List wc):=List.zipWith (λnd f=>[vq vy nd.1,f]) N fs
def Lm{N:List Nd}{fs:List wc}(h:fs.length=N.length):(I8 N fs).length=N.length:=by simp[I8,h]
def UP{N:List Nd}{fs:List wc}{j:Nat}(h:j<N.length)(h':j<fs.length):(I8 N fs)[j]?=vz [vq vy N[j].1,fs[j]]:=by simp[I8,List.getElem?_zipWith,xO h,xO h']
def Fq(w:wd)(rv:wc)(L:List (List Va)):Prop:=∃vs:List wc,Cq w rv 1 (E5 vs)/\vs.length=L.length/\∀i (h:i<L.length) (h':i<vs.length),Cq w vs[i] 2 (Ck L[i])
def Fq.keep{w w':wd}{rv:wc}{L:List (List Va)}(h:Fq w rv L)(hf:Fr [] w w'):Fq w' rv L:=by obtain⟨vs,h1,h2,h3⟩:=h;exact⟨vs,h1.keep hf,h2,λi a b=>(h3 i a b).keep hf⟩
def DQ(w:wd)(nv:wc)(N:List Nd):Prop:=∃fs:List wc,fs.length=N.length/\Cq w nv 2 (I8 N fs)/\∀i (h:i<N.length) (h':i<fs.length),Cq w fs[i] 2 (Ck N[i].2)
def DQ.keep{w w':wd}{nv:wc}{N:List Nd}(h:DQ w nv N)(hf:Fr [] w w'):DQ w' nv N:=by obtain⟨fs,h1,h2,h3⟩:=h;exact⟨fs,h1,h2.keep hf,λi a b=>(h3 i a b).keep hf⟩
structure E9(w:wd)(rv nv:wc)(V:Vw):Prop where
 rows:Fq w rv V.1
 nodes:DQ w nv V.2
def E9.keep{w w':wd}{rv nv:wc}{V:Vw}(h:E9 w rv nv V)(hf:Fr [] w w'):E9 w' rv nv V:=⟨h.rows.keep hf,h.nodes.keep hf⟩
def Fq.one{w:wd}{rv:wc}{L:List (List Va)}(h:Fq w rv L):rv.oneCell'=v7/\rv.cells = #[rv]:=by obtain⟨vs,h1,_⟩:=h;exact h1.one
def DQ.one{w:wd}{nv:wc}{N:List Nd}(h:DQ w nv N):nv.oneCell'=v7/\nv.cells = #[nv]:=by obtain⟨fs,_,h1,_⟩:=h;exact h1.one
def E9.cells{w:wd}{rv nv:wc}{V:Vw}(h:E9 w rv nv V):wc.cells (vx #[rv,nv]) = #[rv,nv]:=by simp[wc.cells]
def E9.ones{w:wd}{rv nv:wc}{V:Vw}(h:E9 w rv nv V):∀u∈(wc.cells (vx #[rv,nv])).toList,u.oneCell'=v7:=by
 rw[h.cells];intro u hu;simp only[un,b8,vi]at hu;rcases hu with rfl|rfl
 ·exact h.rows.one.1
 ·exact h.nodes.one.1
def Fq.le{w:wd}{rv:wc}{L:List (List Va)}(h:Fq w rv L):L.length<=9223372036854775807:=by obtain⟨vs,h1,h2,_⟩:=h;have:=h1.le;rw[Gc]at this;omega
def DQ.le{w:wd}{nv:wc}{N:List Nd}(h:DQ w nv N):N.length<=9223372036854775807:=by
 obtain⟨fs,h1,h2,_⟩:=h;have:=h2.le
 rwa [Lm h1]at this
def VB(w:wd)(b:Nat)(rv nv:wc):Prop:=w.heap[b]?=vz (wj #[rv,nv] 46 (0,0))
def VB.keep{S:List Nat}{w w':wd}{b:Nat}{rv nv:wc}(h:VB w b rv nv)(hf:Fr S w w')(hS:b∉S):VB w' b rv nv:=hf.at_ h hS
section
variable{K:VK}{w:wd}
def VB.f0{b:Nat}{rv nv:wc}(h:VB w b rv nv)(hk:K rv w):Ab 0 (vr (vz ⟨b,0,v6⟩)) w λp w1=>Ad p w1 K:=by simp only[zv];exact Ac h rfl hk
def VB.f1{b:Nat}{rv nv:wc}(h:VB w b rv nv)(hk:K nv w):Ab 1 (vr (vz ⟨b,0,v6⟩)) w λp w1=>Ad p w1 K:=by simp only[zv];exact Ac h rfl hk
def VB.new{rv nv:wc}{V:Vw}(hV:E9 w rv nv V)(hk:∀b w',Fr [] w w'->w.heap.size<=b->VB w' b rv nv->E9 w' rv nv V->K (vr (vz ⟨b,0,v6⟩)) w'):Aw (wj (wc.cells (vx #[rv,nv])) 46) w K:=by refine Ay λb w1 hn=>hk b w1 hn.fr (by have:=hn.is;omega) ?_ (hV.keep hn.fr);have:=hn.at_;rw[hV.cells]at this;exact this
def DQ.len{nv:wc}{N:List Nd}(h:DQ w nv N){w1:wd}(hk:K (vq vy (N.length:Int)) w1):AH nv w1 K:=by obtain⟨fs,h1,⟨A,c,rfl,_⟩,_⟩:=h;rw[Lm h1];simpa only[AW] using hk
def Fq.len{rv:wc}{L:List (List Va)}(h:Fq w rv L){w1:wd}(hk:K (vq vy (L.length:Int)) w1):AH rv w1 K:=by obtain⟨vs,⟨A,c,rfl,_⟩,h2,_⟩:=h;rw[Gc,h2];simpa only[AW] using hk
def Yl(x y:Operand)(a b:Va):(do eqGuard .neq 60 x y (vx #[vq vy a.1,vq vy a.2]) (vx #[vq vy b.1,vq vy b.2]);binOp .neq 60 (vx #[vq vy a.1,vq vy a.2]) (vx #[vq vy b.1,vq vy b.2]):Sem wc).run vp w=.ok (vw (!([a.1,a.2] == [b.1,b.2]))) w:=
 Nf (ks:=[vy,vy]) x y Tryz.underlying60 (by kernel_rfl) (by kernel_rfl) (by kernel_rfl) [a.1,a.2] [b.1,b.2] rfl rfl
def RJ(a b:Va):(!([a.1,a.2] == [b.1,b.2])) = !(decide (a=b)):=by
 by_cases h:a=b
 ·subst h;simp
 ·have:¬(a.1=b.1/\a.2=b.2):=λc=>h (Prod.ext c.1 c.2);rw[m8 h];simp only[m9,zD,beq_eq_false_iff_ne];intro c;simp only[List.cons.injEq,and_true]at c;exact this c
def NA{a b:wc}{xs ys:List Va}(ra:Cq w a 2 (Ck xs))(rb:Cq w b 2 (Ck ys))(hl:xs.length=ys.length)(h:∀w',Fr [] w w'->K (vw (decide (xs=ys))) w'):
  ∀(d i:Nat) (w':wd),xs.length=i+d->Fr [] w w'->(∀j,j<i->xs[j]?=ys[j]?)->F39.l4 K a b (vq vy (i:Int)) w':=by
 have hl2:=ra.le;rw[Cr]at hl2;intro d;induction d with
 | zero=>
  intro i w' hi hf he;refine F39.l4.to (AK (ra.keep hf) ?_);rw[Cr];simp only[zv,show ¬((i:Int)<(xs.length:Int)) by omega];refine F39.k8.to ?_;have e:xs=ys:=zF λj=>by
   by_cases hj:j<i
   ·exact he j hj
   ·rw[yC (by omega),yC (by omega)]
  have:=h w' hf
  rwa [o8 e]at this
 | succ d ih=>
  intro i w' hi hf he;have hix:i<xs.length:=by omega
  have hiy:i<ys.length:=by omega
  refine F39.l4.to (AK (ra.keep hf) ?_);rw[Cr];simp only[zv,show ((i:Int)<(xs.length:Int)) by omega];refine F39.k6.to (A8 (λw2=>Fr [] w w2) λw1 hf1 he1=>⟨hf.trans hf1,?_⟩);have f1:=hf.trans hf1;refine AV (S:=λw2=>Fr [] w w2) (λw2 hw=>ra.keep hw) f1 (by omega) (by rw[zE];exact Dr hix) λga oa hl1 hs1=>?_
  refine AV (S:=λw2=>Fr [] w w2) (λw2 hw=>rb.keep hw) f1 (by omega) (by rw[zE];exact Dr hiy) λgb ob hl2 hs2=>?_;refine Bc hl1 (by omega) hs1 (Bc hl2 (by omega) hs2 ?_);refine⟨_,λw' _=>Yl _ _ _ _,?_⟩;rw[RJ];by_cases hb:xs[i]=ys[i]
  ·rw[hb,o8 rfl];simp only[zv];refine F39.k5.to ?_;simp only[AC];rw[BN (n:=(i:Int)+1) (by omega),show (i:Int)+1=((i+1:Nat):Int) by omega];refine ih (i+1) w1 (by omega) f1 λj hj=>?_;by_cases hji:j=i
   ·subst hji;rw[xO hix,xO hiy,hb]
   ·exact he j (by omega)
  ·rw[m8 hb];simp only[zv];have ne:¬xs=ys:=λe=>hb (by subst e;rfl);have:=h w1 f1
   rwa [m8 ne]at this
def M4{a b:wc}{xs ys:List Va}(ra:Cq w a 2 (Ck xs))(rb:Cq w b 2 (Ck ys))(h:∀w',Fr [] w w'->K (vw (decide (xs=ys))) w'):I vp 39 #[a,b] w K:=by
 refine F39.sh (AK ra (AK rb ?_));rw[Cr,Cr];by_cases e:(xs.length:Int)=(ys.length:Int)
 ·have:¬((xs.length:Int)≠(ys.length:Int)):=λc=>c e;rw[AD,m8 this,Ae];exact F39.k3.to (NA ra rb (by omega) h xs.length 0 w (by omega) (Fr.refl _ _) λj hj=>by omega)
 ·rw[AD,o8 (show (xs.length:Int)≠(ys.length:Int) from e),Ai];have:=h w (Fr.refl _ _)
  rwa [m8 (λc=>e (by rw[c]))]at this
def Fq.getS{W w1:wd}{rv:wc}{L:List (List Va)}{i:Nat}(h:Fq W rv L)(hf:Fr [] W w1)(hi:i<L.length)(hk:∀g o v,Cq W v 2 (Ck L[i])->(∀w',Fr [] W w'->∃cs e fz,w'.heap[g]?=vz (wj cs e fz)/\cs[o]?=vz v)->K (vr (vz ⟨g,o,v6⟩)) w1):A6 1 rv (vq vy (i:Int)) w1 K:=by
 obtain⟨vs,h1,h2,h3⟩:=h;have hi':i<vs.length:=by omega
 refine AV (S:=λw'=>Fr [] W w') (λw' hw=>h1.keep hw) hf (by omega) (by rw[zE];exact HU hi') λg o _ hs=>hk g o vs[i] (h3 i hi hi') λw' hw=>?_;obtain⟨cs,e,fz,x,y⟩:=hs w' hw;exact⟨cs,e,fz,x,by simpa using y 0 (by simp)⟩
def DQ.getS{W w1:wd}{nv:wc}{N:List Nd}{i:Nat}(h:DQ W nv N)(hf:Fr [] W w1)(hi:i<N.length)(hk:∀g o f,Cq W f 2 (Ck N[i].2)->(∀w',Fr [] W w'->∃cs e fz,w'.heap[g]?=vz (wj cs e fz)/\cs[o]?=vz (vq vy N[i].1))->(∀w',Fr [] W w'->∃cs e fz,w'.heap[g]?=vz (wj cs e fz)/\cs[o+1]?=vz f)->K (vr (vz ⟨g,o,v6⟩)) w1):A6 2 nv (vq vy (i:Int)) w1 K:=by
 obtain⟨fs,h1,h2,h3⟩:=h;have hi':i<fs.length:=by omega
 refine AV (S:=λw'=>Fr [] W w') (λw' hw=>h2.keep hw) hf (by omega) (by rw[zE];exact UP hi hi') λg o _ hs=>hk g o fs[i] (h3 i hi hi') (λw' hw=>?_) λw' hw=>?_
 ·obtain⟨cs,e,fz,x,y⟩:=hs w' hw;exact⟨cs,e,fz,x,by simpa using y 0 (by omega)⟩
 ·obtain⟨cs,e,fz,x,y⟩:=hs w' hw;exact⟨cs,e,fz,x,by simpa using y 1 (by omega)⟩
def VB.s{W:wd}{b:Nat}{rv nv:wc}(h:VB W b rv nv){o:Nat}{v:wc}(ho:(#[rv,nv]:Array wc)[o]?=vz v){w1:wd}(hk:K v w1):Al (λw'=>Fr [] W w') (vr (vz ⟨b,o,v6⟩)) w1 K:=
 Aq (λw' hw=>⟨_,_,_,h.keep hw (by simp),ho⟩) hk
def Pg{W:wd}{b c:Nat}{rv nv rv' nv':wc}{V V':Vw}(hV:E9 W rv nv V)(hV':E9 W rv' nv' V')(hb:VB W b rv nv)(hc:VB W c rv' nv')(h1:V.1=V'.1)(hl:V.2.length=V'.2.length)(h:∀w',Fr [] W w'->K (vw (decide (V=V'))) w'):
  ∀(d j:Nat) (w:wd),V.2.length=j+d->Fr [] W w->(∀i,i<j->V.2[i]?=V'.2[i]?)->F14.l9 K (vr (vz ⟨b,0,v6⟩)) (vr (vz ⟨c,0,v6⟩)) (vq vy (j:Int)) w:=by
 have hle:=hV.nodes.le;intro d;induction d with
 | zero=>
  intro j w hj hf he;refine F14.l9.to ((hb.keep hf (by simp)).f1 (hV.nodes.len ?_));simp only[zv,show ¬((j:Int)<(V.2.length:Int)) by omega];refine F14.k13.to ?_;have:=h w hf
  rwa [o8 (Prod.ext h1 (K5 hl (by omega) he))]at this
 | succ d ih=>
  intro j w hj hf he;have jl:j<V.2.length:=by omega
  have jl':j<V'.2.length:=by omega
  refine F14.l9.to ((hb.keep hf (by simp)).f1 (hV.nodes.len ?_));simp only[zv,show ((j:Int)<(V.2.length:Int)) by omega];have no:∀w',Fr [] W w'->¬V.2[j]=V'.2[j]->K (vw v8) w':=λw' hw hne=>by
   have:=h w' hw
   rwa [m8 (λe=>hne (by subst e;rfl))]at this
  have go:∀w',Fr [] W w'->V.2[j]=V'.2[j]->F14.k10 K (vr (vz ⟨b,0,v6⟩)) (vr (vz ⟨c,0,v6⟩)) (vq vy (j:Int)) w':=λw' hw heq=>by
   refine F14.k10.to ?_;simp only[AC];rw[BN (n:=(j:Int)+1) (by omega),show (j:Int)+1=((j+1:Nat):Int) by omega];exact ih (j+1) w' (by omega) hw (ON jl jl' he heq)
  refine F14.k11.to (A8 (λw'=>Fr [] W w') λw1 hf1 he1=>⟨hf.trans hf1,?_⟩);have f1:=hf.trans hf1;simp only[zv];refine hb.s rfl (hV.nodes.getS f1 jl λg o f hr hs0 hs1=>?_);simp only[Ah];refine Aq hs0 (hc.s rfl (hV'.nodes.getS f1 jl' λg' o' f' hr' hs0' hs1'=>?_));simp only[Ah];refine Aq hs0' ?_;by_cases hs:V.2[j].1=V'.2[j].1
  ·have:¬(V.2[j].1≠V'.2[j].1):=λc=>c hs;rw[AD,m8 this];simp only[zv];refine hb.s rfl (hV.nodes.getS f1 jl λg o f hr hs0 hs1=>?_);simp only[Ah];refine Aq hs1 (hc.s rfl (hV'.nodes.getS f1 jl' λg' o' f' hr' hs0' hs1'=>?_));simp only[Ah];refine Aq hs1' ⟨M4 (hr.keep f1) (hr'.keep f1) λw2 hf2=>⟨f1.trans hf2,?_⟩,trivial⟩;by_cases hq:V.2[j].2=V'.2[j].2
   ·rw[o8 hq];simp only[zv];exact go w2 (f1.trans hf2) (Prod.ext hs hq)
   ·rw[m8 hq];simp only[zv];exact no w2 (f1.trans hf2) λe=>hq (by rw[e])
  ·rw[AD,o8 (show V.2[j].1≠V'.2[j].1 from hs)];simp only[zv];exact⟨⟨f1,no w1 f1 λe=>hs (by rw[e])⟩,trivial⟩
def Qx{W:wd}{b c:Nat}{rv nv rv' nv':wc}{V V':Vw}(hV:E9 W rv nv V)(hV':E9 W rv' nv' V')(hb:VB W b rv nv)(hc:VB W c rv' nv')(hl1:V.1.length=V'.1.length)(hl:V.2.length=V'.2.length)(h:∀w',Fr [] W w'->K (vw (decide (V=V'))) w'):
  ∀(d j:Nat) (w:wd),V.1.length=j+d->Fr [] W w->(∀i,i<j->V.1[i]?=V'.1[i]?)->F14.l4 K (vr (vz ⟨b,0,v6⟩)) (vr (vz ⟨c,0,v6⟩)) (vq vy (j:Int)) w:=by
 have hle:=hV.rows.le;intro d;induction d with
 | zero=>
  intro j w hj hf he;refine F14.l4.to ((hb.keep hf (by simp)).f0 (hV.rows.len ?_));simp only[zv,show ¬((j:Int)<(V.1.length:Int)) by omega];exact F14.k8.to (Pg hV hV' hb hc (K5 hl1 (by omega) he) hl h V.2.length 0 w (by omega) hf λi hi=>by omega)
 | succ d ih=>
  intro j w hj hf he;have jl:j<V.1.length:=by omega
  have jl':j<V'.1.length:=by omega
  refine F14.l4.to ((hb.keep hf (by simp)).f0 (hV.rows.len ?_));simp only[zv,show ((j:Int)<(V.1.length:Int)) by omega];refine F14.k6.to (A8 (λw'=>Fr [] W w') λw1 hf1 he1=>⟨hf.trans hf1,?_⟩);have f1:=hf.trans hf1;simp only[zv]
  refine hb.s rfl (hV.rows.getS f1 jl λg o v hr hs=>Aq hs (hc.s rfl (hV'.rows.getS f1 jl' λg' o' v' hr' hs'=>Aq hs' ⟨M4 (hr.keep f1) (hr'.keep f1) λw2 hf2=>⟨f1.trans hf2,?_⟩,trivial⟩)));by_cases hq:V.1[j]=V'.1[j]
  ·rw[o8 hq];simp only[zv];refine F14.k5.to ?_;simp only[AC];rw[BN (n:=(j:Int)+1) (by omega),show (j:Int)+1=((j+1:Nat):Int) by omega];exact ih (j+1) w2 (by omega) (f1.trans hf2) (ON jl jl' he hq)
  ·rw[m8 hq];simp only[zv];have:=h w2 (f1.trans hf2)
   rwa [m8 (λe=>hq (by subst e;rfl))]at this
def Wb{rv nv rv' nv':wc}{V V':Vw}(hV:E9 w rv nv V)(hV':E9 w rv' nv' V')(h:∀w',Fr [] w w'->K (vw (decide (V=V'))) w'):I vp 14 #[vx #[rv,nv],vx #[rv',nv']] w K:=by
 refine F14.sh (VB.new hV λb w1 hf1 _ hb hV1=>VB.new (hV'.keep hf1) λc w2 hf2 _ hc hV2'=>?_);have hb2:=hb.keep hf2 (by simp);have hV2:=hV1.keep hf2;have f2:=hf1.trans hf2;refine hb2.f0 (hV2.rows.len (hc.f0 (hV2'.rows.len ?_)));by_cases e1:V.1.length=V'.1.length
 ·have:¬((V.1.length:Int)≠(V'.1.length:Int)):=by omega
  rw[AD,m8 this];simp only[Ao];refine hb2.f1 (hV2.nodes.len (hc.f1 (hV2'.nodes.len ?_)));by_cases e2:V.2.length=V'.2.length
  ·have:¬((V.2.length:Int)≠(V'.2.length:Int)):=by omega
   rw[AD,m8 this];simp only[zv];exact F14.k3.to (Qx hV2 hV2' hb2 hc e1 e2 (λw' hf=>h w' (f2.trans hf)) V.1.length 0 w2 (by omega) (Fr.refl _ _) λi hi=>by omega)
  ·rw[AD,o8 (show (V.2.length:Int)≠(V'.2.length:Int) by omega)];simp only[zv];have:=h w2 f2
   rwa [m8 (λe=>e2 (by rw[e]))]at this
 ·rw[AD,o8 (show (V.1.length:Int)≠(V'.1.length:Int) by omega)];simp only[zv];have:=h w2 f2
  rwa [m8 (λe=>e1 (by rw[e]))]at this
end
structure CX(lo:Nat)(w:wd)(rv:wc)(L:List (List Va))(vs:List wc):Prop where
 sp:BO w rv 56 1 (E5 vs)
 ge:∀g∈BM rv,lo<=g
 len:vs.length=L.length
 row:∀i (h:i<L.length) (h':i<vs.length),BO w vs[i] 60 2 (Ck L[i])/\∀g∈BM vs[i],lo<=g
structure CP(lo:Nat)(w:wd)(nv:wc)(N:List Nd)(fs:List wc):Prop where
 len:fs.length=N.length
 sp:BO w nv 58 2 (I8 N fs)
 ge:∀g∈BM nv,lo<=g
 row:∀i (h:i<N.length) (h':i<fs.length),BO w fs[i] 60 2 (Ck N[i].2)/\∀g∈BM fs[i],lo<=g
def CX.rd{lo:Nat}{w:wd}{rv:wc}{L:List (List Va)}{vs:List wc}(h:CX lo w rv L vs):Fq w rv L:=⟨vs,h.sp.rd,h.len,λi a b=>(h.row i a b).1.rd⟩
def CP.rd{lo:Nat}{w:wd}{nv:wc}{N:List Nd}{fs:List wc}(h:CP lo w nv N fs):DQ w nv N:=⟨fs,h.len,h.sp.rd,λi a b=>(h.row i a b).1.rd⟩
def CX.keep{lo:Nat}{S:List Nat}{w w':wd}{rv:wc}{L:List (List Va)}{vs:List wc}(h:CX lo w rv L vs)(hf:Fr S w w')(hS:∀g∈S,g<lo∨w.heap.size<=g∨∃cs e fz,w.heap[g]?=vz (wj cs e fz)/\e≠56/\e≠60):CX lo w' rv L vs:=by
 have key:∀ {v:wc} {e:TypeId} {sz:Nat} {xs:List (List wc)},(e=56∨e=60)->BO w v e sz xs->(∀g∈BM v,lo<=g)->BO w' v e sz xs:=λhe ho hl=>ho.keep' hf λg hg c=>by
  rcases hS g c with d|d|⟨cs,e,fz,d,e1,e2⟩
  ·have:=hl g hg;omega
  ·have:=ho.mem_lt g hg;omega
  ·refine ho.nb d (λc=>?_) hg;rcases he with rfl|rfl
   ·exact e1 c.symm
   ·exact e2 c.symm
 exact⟨key (wg rfl) h.sp h.ge,h.ge,h.len,λi a b=>⟨key (wh rfl) (h.row i a b).1 (h.row i a b).2,(h.row i a b).2⟩⟩
def CP.keep{lo:Nat}{S:List Nat}{w w':wd}{nv:wc}{N:List Nd}{fs:List wc}(h:CP lo w nv N fs)(hf:Fr S w w')(hS:∀g∈S,g<lo∨w.heap.size<=g∨∃cs e fz,w.heap[g]?=vz (wj cs e fz)/\e≠58/\e≠60):CP lo w' nv N fs:=by
 have key:∀ {v:wc} {e:TypeId} {sz:Nat} {xs:List (List wc)},(e=58∨e=60)->BO w v e sz xs->(∀g∈BM v,lo<=g)->BO w' v e sz xs:=λhe ho hl=>ho.keep' hf λg hg c=>by
  rcases hS g c with d|d|⟨cs,e,fz,d,e1,e2⟩
  ·have:=hl g hg;omega
  ·have:=ho.mem_lt g hg;omega
  ·refine ho.nb d (λc=>?_) hg;rcases he with rfl|rfl
   ·exact e1 c.symm
   ·exact e2 c.symm
 exact⟨h.len,key (wg rfl) h.sp h.ge,h.ge,λi a b=>⟨key (wh rfl) (h.row i a b).1 (h.row i a b).2,(h.row i a b).2⟩⟩
def CX.snoc{lo:Nat}{w w':wd}{rv rv' v:wc}{L:List (List Va)}{vs:List wc}{l:List Va}(h:CX lo w rv L vs)(hlo:lo<=w.heap.size)(hf:Fr (BM rv) w w')(hg:∀g∈BM rv',g∈BM rv∨w.heap.size<=g)(hs:BO w' rv' 56 1 (E5 vs++[[v]]))(hv:BO w v 60 2 (Ck l))(hvl:∀g∈BM v,lo<=g):
  CX lo w' rv' (L++[l]) (vs++[v]):=by
 refine⟨by rw[OJ];exact hs,λg hgg=>?_,by simp[h.len],λi a b=>?_⟩
 ·rcases hg g hgg with c|c
  ·exact h.ge g c
  ·omega
 ·by_cases e:i<L.length
  ·have e':i<vs.length:=by rw[h.len];exact e
   rw[xP e,xP e'];exact⟨(h.row i e e').1.keep' hf ((h.row i e e').1.ne h.sp (by decide)),(h.row i e e').2⟩
  ·have ei:i=L.length:=by simp at a;omega
   have ei':i=vs.length:=by rw[h.len];exact ei
   rw[xJ (by omega),xJ (by omega)];simp only[ei',Nat.sub_self,h.len,List.getElem_cons_zero];exact⟨hv.keep' hf (hv.ne h.sp (by decide)),hvl⟩
def Tf{N:List Nd}{fs:List wc}(h:fs.length=N.length)(nd:Nd)(f:wc):I8 (N++[nd]) (fs++[f])=I8 N fs++[[vq vy nd.1,f]]:=by unfold I8;rw[List.zipWith_append h.symm];rfl
def CP.snoc{lo:Nat}{w w':wd}{nv nv' v:wc}{N:List Nd}{fs:List wc}{nd:Nd}(h:CP lo w nv N fs)(hlo:lo<=w.heap.size)(hf:Fr (BM nv) w w')(hg:∀g∈BM nv',g∈BM nv∨w.heap.size<=g)(hs:BO w' nv' 58 2 (I8 N fs++[[vq vy nd.1,v]]))(hv:BO w v 60 2 (Ck nd.2))(hvl:∀g∈BM v,lo<=g):
  CP lo w' nv' (N++[nd]) (fs++[v]):=by
 refine⟨by simp[h.len],by rw[Tf h.len];exact hs,λg hgg=>?_,λi a b=>?_⟩
 ·rcases hg g hgg with c|c
  ·exact h.ge g c
  ·omega
 ·by_cases e:i<N.length
  ·have e':i<fs.length:=by rw[h.len];exact e
   rw[xP e,xP e'];exact⟨(h.row i e e').1.keep' hf ((h.row i e e').1.ne h.sp (by decide)),(h.row i e e').2⟩
  ·have ei:i=N.length:=by simp at a;omega
   have ei':i=fs.length:=by rw[h.len];exact ei
   rw[xJ (by omega),xJ (by omega)];simp only[ei',Nat.sub_self,h.len,List.getElem_cons_zero];exact⟨hv.keep' hf (hv.ne h.sp (by decide)),hvl⟩
section
variable{K:VK}{A:Ci}{g:Gw}{cf:Cf}{B:Int}{x:Ma}{w:wd}
def BC{f:Fn}{a b:Array wc}{X:Prop}(hf:∀l,f ≠ .yield l)(h:X):B6 (.func f a b) X:=⟨λl _ _ e=>hf l (by injection e),h⟩
def EV(x:Ma):Prop:=∀t:Int,Kn (x.co.roots t)
def Ma.rchT(x:Ma)(n:Nat):List Int:=(List.range n).foldl (λ(out:List Int) (t:Nat)=>CO out (x.co.roots (t:Int))) [x.co.global]
def H9(x:Ma)(n:Nat):x.rchT (n+1)=CO (x.rchT n) (x.co.roots (n:Int)):=by unfold Ma.rchT;rw[j7,List.foldl_append];rfl
def Ym(a:Int):DD [a]:=⟨by simp,by simp,λx hx=>by cases hx⟩
theorem HT(x:Ma)(hr:EV x):∀n,DD (x.rchT n)
 | 0=>Ym _
 | n+1=>by rw[H9];exact (HT x hr n).note _ (hr _)
def MN(x:Ma)(a:Int):(x.flds a).length<=127:=by have:=GJ (s:=x.co.s) a;unfold Ma.flds;rw[i6,zJ];omega
theorem Ke(x:Ma):∀(d i:Nat) {out:List Int},DD out->DD (x.rchGo d i out)
 | 0,i,out,h=>h
 | d+1,i,out,h=>by
  unfold Ma.rchGo;split
  ·exact Ke x d (i+1) (h.note _ (Jv x _))
  ·exact h
def P6(yb:Nat):wc := .func (.func 84) #[] #[vr (vz ⟨yb,0,v6⟩)]
def N9{W:wd}{c yb:Nat}(h0:BV A g cf B W x)(hr:EV x)(hc:W.heap[c]?=vz (wj #[vr (vz ⟨A.ma,0,v6⟩)] 49 (0,0))){n:Nat}(hn:cf.threads=(n:Int))(hk:∀w',FX W yb (x.rch0 cf) w'->F48.k8 K (vr (vz ⟨c,0,v6⟩)) (vr (vz ⟨yb,0,v6⟩)) (P6 yb) w'):
  ∀(d i:Nat) (w:wd),i+d=n->FX W yb (x.rchT i) w->
   F48.l4 K (vr (vz ⟨c,0,v6⟩)) (vr (vz ⟨yb,0,v6⟩)) (P6 yb) (vq vy (n:Int)) (vq vy (i:Int)) w:=by
 have hth:=h0.fine.th;intro d;induction d with
 | zero=>
  intro i w hi hs;have e:i=n:=by omega
  subst e;refine F48.l4.to ?_;simp only[zv,show ¬((i:Int)<(i:Int)) by omega];refine hk w ?_;have:x.rch0 cf=x.rchT i:=by unfold Ma.rch0 Ma.rchT;rw[hn,zE]
  rw[this];exact hs
 | succ d ih=>
  intro i w hi hs;have h:=h0.keep0 hs.fr;refine F48.l4.to ?_;simp only[zv,show (i:Int)<(n:Int) by omega];refine F48.k5.to (Ac (v:=vr (vz ⟨A.ma,0,v6⟩)) (hs.fr.at_ hc (by simp)) rfl ?_)
  try simp only[zv]
  refine Ac (v:=vr (vz ⟨A.Q.co,0,v6⟩)) h.blk rfl ?_;refine GY h.co λv w1 hf1 ho1 hn1=>?_;refine Qb (by have:=LW h (i:Int);omega) (hr _) (HT x hr i) (hs.keep hf1) ho1 λw2 hs2=>?_;refine F48.k7.to ?_
  try simp only[AC]
  rw[BN (n:=(i:Int)+1) (by omega)];exact ih (i+1) w2 (by omega) (by rw[H9];exact hs2)
def VH{W:wd}{c yb:Nat}(h0:BV A g cf B W x)(hc:W.heap[c]?=vz (wj #[vr (vz ⟨A.ma,0,v6⟩)] 49 (0,0))){fin:List Int}(hk:∀w',FX W yb fin w'->F48.k12 K (vr (vz ⟨c,0,v6⟩)) (vr (vz ⟨yb,0,v6⟩)) w'):
  ∀(d i:Nat) (w:wd) (out:List Int),i+d=2050->DD out->x.rchGo d i out=fin->FX W yb out w->
   F48.l9 K (vr (vz ⟨c,0,v6⟩)) (vr (vz ⟨yb,0,v6⟩)) (P6 yb) (vq vy (i:Int)) w:=by
 intro d;induction d with
 | zero=>
  intro i w out hi hok he hs;obtain⟨v,v1,v2,v3⟩:=hs.ex;have hle:=hok.le;refine F48.l9.to (Ac v1 rfl (AK v3.rd ?_));rw[Cm];simp only[zv,show ¬((i:Int)<(out.length:Int)) by omega];have:out=fin:=he;exact hk w (by rw[<-this];exact hs)
 | succ d ih=>
  intro i w out hi hok he hs;obtain⟨v,v1,v2,v3⟩:=hs.ex;have hle:=hok.le;refine F48.l9.to (Ac v1 rfl (AK v3.rd ?_));rw[Cm];unfold Ma.rchGo at he;by_cases hlt:i<out.length
  ·rw[vn hlt,Dy hlt]at he;simp only[zv,show (i:Int)<(out.length:Int) by omega];refine F48.k11.to (A8 (λw'=>Fr [] W w') λw1 hf1 _=>⟨hs.fr.trans hf1,?_⟩);have hs1:=hs.keep hf1;obtain⟨v,v1,v2,v3⟩:=hs1.ex;refine Aq (λw' hw=>⟨_,_,_,hw.at_ hc (by simp),rfl⟩) ⟨Ac v1 rfl ⟨hs1.fr,?_⟩,trivial⟩;refine Bd v3.rd hlt λg1 o1 cs1 e1 fz1 hg1 hc1=>⟨Ac hg1 hc1 ⟨hs1.fr,?_⟩,trivial⟩
   refine⟨H0 (h0.keep0 hs1.fr) λu w2 hf2 hn2 ho2=>⟨hs1.fr.trans hf2,?_⟩,trivial⟩;refine⟨BC (by intro l e;cases e) (Qb (by have:=MN x out[i];omega) (Jv x _) hok (hs1.keep hf2) ho2 λw3 hs3=>⟨hs3.fr,?_⟩),trivial⟩;refine F48.k10.to ?_
   try simp only[AC]
   rw[BN (n:=(i:Int)+1) (by omega)];exact ih (i+1) w3 _ (by omega) (hok.note _ (Jv x _)) he hs3
  ·rw[vm hlt]at he;simp only[zv,show ¬((i:Int)<(out.length:Int)) by omega];exact hk w (by rw[<-he];exact hs)
def Qq(h:BV A g cf B w x)(hr:EV x)(hk:∀v w',Fr [] w w'->Cc w v->BO w' v 3 1 (Ca (Em x.co.s.serial (x.rch cf)))->K v w'):I vp 48 #[vr (vz ⟨A.ma,0,v6⟩)] w K:=by
 have hth:=h.fine.th;obtain⟨n,hn⟩:=xQ (show 0<=cf.threads by omega);refine F48.sh (Ay λc w1 hn1=>?_);have h1:=h.keep0 hn1.fr;have c1:w1.heap[c]?=vz (wj #[vr (vz ⟨A.ma,0,v6⟩)] 49 (0,0)):=hn1.at_;refine Ac (v:=vr (vz ⟨A.ma,0,v6⟩)) c1 rfl ?_
 try simp only[zv]
 refine Ac (v:=vr (vz ⟨A.Q.co,0,v6⟩)) h1.blk rfl ?_;refine L3 h1.co (A7 (Wo _) ?_);have hw2:=Dz.mk' w1 (wj #[vq vy x.co.global] 3);generalize hW2:w1.alloc (wj #[vq vy x.co.global] 3)=w2 at hw2;refine Ay λyb w3 hn3=>?_;have l3:=hn3.is;have s2:=hw2.fr.size;have ho:BO w2 (vt (vz ⟨w1.heap.size,0,v6⟩) 1 1) 3 1 (Ca [x.co.global]):=BO.of_block (sz:=1) hw2.at_ rfl (by decide) (by decide) rfl (by
  intro y hy;refine⟨?_,IS y hy⟩;simp only[Ca,q9,ut,yZ]at hy;subst hy;rfl) rfl
 have ho3:=ho.keep hn3.fr (by simp);refine AM hn3.at_ rfl rfl (by simp) λw4 hu4=>?_;have hyb:yb∉BM (vt (vz ⟨w1.heap.size,0,v6⟩) 1 1):=ho3.nb hn3.at_ (by decide);have f4:Fr [] w1 w4:=(hw2.fr.trans hn3.fr).then hu4.fr (λq hq=>wh (by simp only[yZ]at hq;omega))
 have hs4:FX w1 yb (x.rchT 0) w4:=⟨f4,by omega,_,hu4.at_,λq hq=>by simp only[wc.ownBlock,zM]at hq;omega,ho3.keep' hu4.fr λq hq c=>hyb (by simp only[yZ]at c;rw[<-c];exact hq)⟩;refine Ac (v:=vr (vz ⟨A.ma,0,v6⟩)) (f4.at_ c1 (by simp)) rfl ?_
 try simp only[zv]
 refine Ac (v:=vq vy cf.threads) (h1.keep0 f4).blk rfl ?_;rw[hn];refine N9 (W:=w1) h1 hr c1 hn (λw5 hs5=>?_) n 0 w4 (by omega) hs4;refine F48.k8.to ?_;have hok:DD (x.rch0 cf):=by
  have:x.rch0 cf=x.rchT n:=by unfold Ma.rch0 Ma.rchT;rw[hn,zE]
  rw[this];exact HT x hr n
 refine VH (W:=w1) (fin:=x.rch cf) h1 c1 (λw6 hs6=>?_) 2050 0 w5 _ (by omega) hok rfl hs5;obtain⟨v,v1,v2,v3⟩:=hs6.ex;have hyv:yb∉BM v:=v3.nb v1 (by decide);refine F48.k12.to (Ac v1 rfl (Sn h1 hs6.fr v2 v3 (hs6.fr.at_ c1 (by simp)) (by decide) (by have:=(Ke x 2050 0 hok).le;unfold Ma.rch;omega) λw7 hf7 ho7=>?_));refine Ac (hf7.at_ v1 hyv) rfl (hk v w7 ?_ (v2.mono hn1.fr.size) ho7)
 exact hn1.fr.trans (hs6.fr.then hf7 λq hq=>wh (v2.blk q hq))
end
def Ma.rowsV(x:Ma)(n:Nat):List (List Va):=(List.range n).map λt:Nat=>x.sers (x.co.roots (t:Int))
def Ma.node(x:Ma)(a:Int):Nd:=(x.co.s.serial a,x.sers (x.flds a))
def Ma.view(cf:Cf)(x:Ma):Vw:=(x.rowsV cf.threads.toNat,(Em x.co.s.serial (x.rch cf)).map x.node)
structure EA(W:wd)(yb:Nat)(L:List (List Va))(N:List Nd)(w:wd):Prop where
 fr:Fr [] W w
 hy:W.heap.size<=yb
 ex:∃rv nv vs fs,w.heap[yb]?=vz (wj #[rv,nv] 46 (0,0))/\CX W.heap.size w rv L vs/\CP W.heap.size w nv N fs
def CX.keep0{lo:Nat}{w w':wd}{rv:wc}{L:List (List Va)}{vs:List wc}(h:CX lo w rv L vs)(hf:Fr [] w w'):CX lo w' rv L vs:=h.keep hf λg hg=>by cases hg
def CP.keep0{lo:Nat}{w w':wd}{nv:wc}{N:List Nd}{fs:List wc}(h:CP lo w nv N fs)(hf:Fr [] w w'):CP lo w' nv N fs:=h.keep hf λg hg=>by cases hg
def EA.keep{W w w':wd}{yb:Nat}{L:List (List Va)}{N:List Nd}(h:EA W yb L N w)(hf:Fr [] w w'):EA W yb L N w':=by obtain⟨rv,nv,vs,fs,e1,e2,e3⟩:=h.ex;exact⟨h.fr.trans hf,h.hy,rv,nv,vs,fs,hf.at_ e1 (by simp),e2.keep0 hf,e3.keep0 hf⟩
def BO.at_blk{w:wd}{v:wc}{e:TypeId}{sz:Nat}{xs:List (List wc)}(h:BO w v e sz xs){q:Nat}(hq:q∈BM v):∃cs e' fz,w.heap[q]?=vz (wj cs e' fz)/\e'=e:=by
 obtain⟨⟨h1,h2⟩,h3⟩:=h;rcases h2 with⟨rfl,h2⟩|⟨g,cap,cur,rfl,hb,hg,h4,h5,h6,h7⟩
 ·simp[BM,wc.ownBlock]at hq
 ·have:q=g:=by simpa[BM,wc.ownBlock] using hq
  subst this;exact⟨_,_,_,hg,rfl⟩
section
variable{K:VK}{A:Ci}{g:Gw}{cf:Cf}{B:Int}{x:Ma}{w:wd}
def TH(A:Option Addr)(n c:Nat):(Instr.buildSlice 43 1 #[(0,vt A n c)]).run vp w=.ok (vt (vz ⟨w.heap.size,0,v6⟩) 1 1) (w.alloc (wj #[vt A n c] 56)):=by kernel_rfl
def X1(s:Int)(A:Option Addr)(n c:Nat):(Instr.buildSlice 44 1 #[(0,vx #[vq vy s,vt A n c])]).run vp w=.ok (vt (vz ⟨w.heap.size,0,v6⟩) 1 1) (w.alloc (wj #[vq vy s,vt A n c] 58)):=by kernel_rfl
def Yv(s:Int)(A:Option Addr)(n c:Nat):(Instr.build 58 #[(0,vq vy s),(1,vt A n c)]).run vp w=.ok (vx #[vq vy s,vt A n c]) w:=by kernel_rfl
def Oi{W:wd}{yb:Nat}{rv nv u s:wc}{vs fs:List wc}{L:List (List Va)}{N:List Nd}{l:List Va}{X:wd->Prop}(hf:Fr [] W w)(hy:W.heap.size<=yb)(hb:w.heap[yb]?=vz (wj #[rv,nv] 46 (0,0)))(hR:CX W.heap.size w rv L vs)(hN:CP W.heap.size w nv N fs)(hL:L.length<=100000)(hu:BO w u 60 2 (Ck l))(hul:Cc W u)(hs:Cq w s 1 (E5 [u]))(hk:∀w',EA W yb (L++[l]) N w'->X w'):
  Am vp (Builtin.append_ #[43,43] 43 #[rv,s]) w λx w1=>(Fr [] W w1/\(Aj 1 (vr (vz ⟨yb,0,v6⟩)) x w1 λw3=>(Fr [] W w3/\X w3))/\True):=by
 have hvl:(E5 vs).length=L.length:=by rw[Gc,hR.len]
 refine Bg (W0:=W) (e:=56) (sz:=1) (bytes:=24) (z:=vt v6 0 0) Tryz.underlying43 (by kernel_rfl) rfl (by decide) hf (λq hq=>hR.ge q (Cl.2 hq)) hR.sp hs ?_ ?_ ?_ λv' w1 hf1 hn1 ho1 hf1' hg1=>⟨hf1,?_⟩
 ·intro y hy u' hu';simp only[E5,q9,ut,yZ]at hy;subst hy;rw[yZ.1 hu'];exact hu.one.1
 ·rw[hvl];simp[E5];omega
 ·rw[hvl];simp[E5];omega
 have hyr:yb∉BM rv:=hR.sp.nb hb (by decide);have hb1:=hf1'.at_ hb hyr;have hR1:=hR.snoc hf.size hf1' hg1 ho1 hu (λq hq=>hul.blk q hq);have hN1:=hN.keep hf1' λq hq=>wh (wh (by
  obtain⟨cs,e,fz,a1,a2⟩:=hR.sp.at_blk hq;exact⟨cs,e,fz,a1,by rw[a2];decide,by rw[a2];decide⟩))
 refine⟨AM hb1 ho1.one.2 ho1.one.1 (by simp) λw3 hu3=>?_,trivial⟩;have hf3:Fr [] W w3:=hf1.then hu3.fr λq hq=>wh (by simp only[yZ]at hq;omega);have hyS:∀q∈[yb],q<W.heap.size∨w1.heap.size<=q∨∃cs e fz,w1.heap[q]?=vz (wj cs e fz)/\e≠56/\e≠60:=λq hq=>by
  rw[yZ.1 hq];exact wh (wh ⟨_,_,_,hb1,by decide,by decide⟩)
 have hyS':∀q∈[yb],q<W.heap.size∨w1.heap.size<=q∨∃cs e fz,w1.heap[q]?=vz (wj cs e fz)/\e≠58/\e≠60:=λq hq=>by
  rw[yZ.1 hq];exact wh (wh ⟨_,_,_,hb1,by decide,by decide⟩)
 exact⟨hf3,hk w3 ⟨hf3,hy,v',nv,vs++[u],fs,hu3.at_,hR1.keep hu3.fr hyS,hN1.keep hu3.fr hyS'⟩⟩
def Mz{W:wd}{yb:Nat}{rv nv u s:wc}{vs fs:List wc}{L:List (List Va)}{N:List Nd}{nd:Nd}{X:wd->Prop}(hf:Fr [] W w)(hy:W.heap.size<=yb)(hb:w.heap[yb]?=vz (wj #[rv,nv] 46 (0,0)))(hR:CX W.heap.size w rv L vs)(hN:CP W.heap.size w nv N fs)(hL:N.length<=100000)(hu:BO w u 60 2 (Ck nd.2))(hul:Cc W u)(hs:Cq w s 2 [[vq vy nd.1,u]])(hk:∀w',EA W yb L (N++[nd]) w'->Fr (yb::BM nv) w w'->X w'):
  Am vp (Builtin.append_ #[44,44] 44 #[nv,s]) w λx w1=>(Fr [] W w1/\(Aj 1 (vr (vz ⟨yb,1,v6⟩)) x w1 λw3=>(Fr [] W w3/\X w3))/\True):=by
 have hvl:(I8 N fs).length=N.length:=Lm hN.len;refine Bg (W0:=W) (e:=58) (sz:=2) (bytes:=32) (z:=vx #[vq vy 0,vt v6 0 0]) Tryz.underlying44 (by kernel_rfl) rfl (by decide) hf (λq hq=>hN.ge q (Cl.2 hq)) hN.sp hs ?_ ?_ ?_ λv' w1 hf1 hn1 ho1 hf1' hg1=>⟨hf1,?_⟩
 ·intro y hy u' hu';rw[yZ.1 hy]at hu';simp only[un,b8,vi]at hu';rcases hu' with rfl|rfl
  ·rfl
  ·exact hu.one.1
 ·rw[hvl];simp;omega
 ·rw[hvl];simp;omega
 have hyr:yb∉BM nv:=hN.sp.nb hb (by decide);have hb1:=hf1'.at_ hb hyr;have hN1:=hN.snoc hf.size hf1' hg1 ho1 hu (λq hq=>hul.blk q hq);have hR1:=hR.keep hf1' λq hq=>wh (wh (by
  obtain⟨cs,e,fz,a1,a2⟩:=hN.sp.at_blk hq;exact⟨cs,e,fz,a1,by rw[a2];decide,by rw[a2];decide⟩))
 refine⟨AM hb1 ho1.one.2 ho1.one.1 (by simp) λw3 hu3=>?_,trivial⟩;have hf3:Fr [] W w3:=hf1.then hu3.fr λq hq=>wh (by simp only[yZ]at hq;omega);have hyS:∀q∈[yb],q<W.heap.size∨w1.heap.size<=q∨∃cs e fz,w1.heap[q]?=vz (wj cs e fz)/\e≠56/\e≠60:=λq hq=>by
  rw[yZ.1 hq];exact wh (wh ⟨_,_,_,hb1,by decide,by decide⟩)
 have hyS':∀q∈[yb],q<W.heap.size∨w1.heap.size<=q∨∃cs e fz,w1.heap[q]?=vz (wj cs e fz)/\e≠58/\e≠60:=λq hq=>by
  rw[yZ.1 hq];exact wh (wh ⟨_,_,_,hb1,by decide,by decide⟩)
 exact⟨hf3,hk w3 ⟨hf3,hy,rv,v',vs,fs++[u],hu3.at_,hR1.keep hu3.fr hyS,hN1.keep hu3.fr hyS'⟩ ((hf1'.mono λq hq=>by simp[hq]).trans (hu3.fr.mono λq hq=>by simp at hq;simp[hq]))⟩
structure J6(W:wd)(yb:Nat)(rv nv:wc)(vs fs:List wc)(L:List (List Va))(N:List Nd)(w:wd):Prop where
 fr:Fr [] W w
 hy:W.heap.size<=yb
 hb:w.heap[yb]?=vz (wj #[rv,nv] 46 (0,0))
 hR:CX W.heap.size w rv L vs
 hN:CP W.heap.size w nv N fs
def J6.keep{W w w':wd}{yb:Nat}{rv nv:wc}{vs fs:List wc}{L:List (List Va)}{N:List Nd}(h:J6 W yb rv nv vs fs L N w)(hf:Fr [] w w'):J6 W yb rv nv vs fs L N w':=
 ⟨h.fr.trans hf,h.hy,hf.at_ h.hb (by simp),h.hR.keep0 hf,h.hN.keep0 hf⟩
section
variable{W:wd}{yb:Nat}{rv nv u:wc}{vs fs:List wc}{L:List (List Va)}{N:List Nd}{l:List Va}{nd:Nd}{X:wd->Prop}
def OI{s u:wc}(w:wd)(hu:u.oneCell'=v7/\∃A n c,u=vt A n c):∃A n c,u=vt A n c/\Cq (w.alloc (wj #[vt A n c] 56)) (vt (vz ⟨w.heap.size,0,v6⟩) 1 1) 1 (E5 [u]):=by obtain⟨_,A,n,c,rfl⟩:=hu;have hw:=Dz.mk' w (wj #[vt A n c] 56);exact⟨A,n,c,rfl,Cq.of_block hw.at_ rfl (by decide) (by decide) (by simp[E5]) rfl⟩
def Kq(h:J6 W yb rv nv vs fs L N w)(hL:L.length<=100000)(hu:BO w u 60 2 (Ck l))(hul:Cc W u)(hk:∀w',EA W yb (L++[l]) N w'->X w'):
  Am vp (Instr.buildSlice 43 1 #[(0,u)]) w λs w0=>(Fr [] W w0/\(Am vp (Builtin.append_ #[43,43] 43 #[rv,s]) w0 λx w1=>(Fr [] W w1/\(Aj 1 (vr (vz ⟨yb,0,v6⟩)) x w1 λw3=>(Fr [] W w3/\X w3))/\True))/\True):=by obtain⟨A,c,e⟩:=hu.len;obtain⟨A,n,c,e,hs⟩:=OI (s:=u) (u:=u) w ⟨hu.one.1,_,_,_,e⟩;subst e;have hw:=Dz.mk' w (wj #[vt A n c] 56);refine A7 (TH A n c) ⟨h.fr.trans hw.fr,?_,trivial⟩;have h1:=h.keep hw.fr;exact Oi h1.fr h1.hy h1.hb h1.hR h1.hN hL (hu.keep hw.fr (by simp)) hul hs hk
def Uv(h:J6 W yb rv nv vs fs L N w)(hL:L.length<=100000)(hu:BO w u 60 2 (Ck l))(hul:Cc W u)(hk:∀w',EA W yb (L++[l]) N w'->X w'):
  Am vp (Instr.buildSlice 43 1 #[(0,u)]) w λs w0=>(Fr [] W w0/\(Ad (vr (vz ⟨yb,0,v6⟩)) w0 λr w0=>(Fr [] W w0/\(Am vp (Builtin.append_ #[43,43] 43 #[r,s]) w0 λx w1=>(Fr [] W w1/\(Aj 1 (vr (vz ⟨yb,0,v6⟩)) x w1 λw3=>(Fr [] W w3/\X w3))/\True))/\True))/\True):=by obtain⟨A,c,e⟩:=hu.len;obtain⟨A,n,c,e,hs⟩:=OI (s:=u) (u:=u) w ⟨hu.one.1,_,_,_,e⟩;subst e;have hw:=Dz.mk' w (wj #[vt A n c] 56);refine A7 (TH A n c) ⟨h.fr.trans hw.fr,?_,trivial⟩;have h1:=h.keep hw.fr;exact Ac (v:=rv) h1.hb rfl ⟨h1.fr,Oi h1.fr h1.hy h1.hb h1.hR h1.hN hL (hu.keep hw.fr (by simp)) hul hs hk,trivial⟩
def Nh(w:wd){u:wc}(s:Int)(A:Option Addr)(n c:Nat)(e:u=vt A n c):Cq (w.alloc (wj #[vq vy s,vt A n c] 58)) (vt (vz ⟨w.heap.size,0,v6⟩) 1 1) 2 [[vq vy s,u]]:=by subst e;have hw:=Dz.mk' w (wj #[vq vy s,vt A n c] 58);exact Cq.of_block hw.at_ rfl (by decide) (by decide) (by simp) rfl
def HL(h:J6 W yb rv nv vs fs L N w)(hL:N.length<=100000)(hu:BO w u 60 2 (Ck nd.2))(hul:Cc W u)(hk:∀w',EA W yb L (N++[nd]) w'->Fr (yb::BM nv) w w'->X w'):
  Am vp (Instr.buildSlice 44 1 #[(0,vx #[vq vy nd.1,u])]) w λs w0=>(Fr [] W w0/\(Am vp (Builtin.append_ #[44,44] 44 #[nv,s]) w0 λx w1=>(Fr [] W w1/\(Aj 1 (vr (vz ⟨yb,1,v6⟩)) x w1 λw3=>(Fr [] W w3/\X w3))/\True))/\True):=by obtain⟨A,c,e⟩:=hu.len;have hs:=Nh w nd.1 A _ c e;generalize (Ck nd.2).length=n at e hs;have hw:=Dz.mk' w (wj #[vq vy nd.1,vt A n c] 58);have hb:=X1 (w:=w) nd.1 A n c;rw[<-e]at hb;refine A7 hb ?_;rw[<-e]at hw hs;refine⟨h.fr.trans hw.fr,?_,trivial⟩;have h1:=h.keep hw.fr;exact Mz h1.fr h1.hy h1.hb h1.hR h1.hN hL (hu.keep hw.fr (by simp)) hul hs λw' a b=>hk w' a (hw.fr.w.trans b)
def Se(h:J6 W yb rv nv vs fs L N w)(hL:N.length<=100000)(hu:BO w u 60 2 (Ck nd.2))(hul:Cc W u)(hk:∀w',EA W yb L (N++[nd]) w'->Fr (yb::BM nv) w w'->X w'):
  Am vp (Instr.buildSlice 44 1 #[(0,vx #[vq vy nd.1,u])]) w λs w0=>(Fr [] W w0/\(Ad (vr (vz ⟨yb,1,v6⟩)) w0 λr w0=>(Fr [] W w0/\(Am vp (Builtin.append_ #[44,44] 44 #[r,s]) w0 λx w1=>(Fr [] W w1/\(Aj 1 (vr (vz ⟨yb,1,v6⟩)) x w1 λw3=>(Fr [] W w3/\X w3))/\True))/\True))/\True):=by
 obtain⟨A,c,e⟩:=hu.len;have hs:=Nh w nd.1 A _ c e;generalize (Ck nd.2).length=n at e hs;have hw:=Dz.mk' w (wj #[vq vy nd.1,vt A n c] 58);have hb:=X1 (w:=w) nd.1 A n c;rw[<-e]at hb;refine A7 hb ?_;rw[<-e]at hw hs;refine⟨h.fr.trans hw.fr,?_,trivial⟩;have h1:=h.keep hw.fr
 exact Ac (v:=nv) h1.hb rfl ⟨h1.fr,Mz h1.fr h1.hy h1.hb h1.hR h1.hN hL (hu.keep hw.fr (by simp)) hul hs λw' a b=>hk w' a (hw.fr.w.trans b),trivial⟩
def Wh(s:Int){u:wc}{A:Option Addr}{n c:Nat}(e:u=vt A n c):(Instr.build 58 #[(0,vq vy s),(1,u)]).run vp w=.ok (vx #[vq vy s,u]) w:=by subst e;exact Yv s A n c
end
end
section
variable{K:VK}{A:Ci}{g:Gw}{cf:Cf}{B:Int}{x:Ma}{w:wd}
def EA.spec{W:wd}{yb:Nat}{L:List (List Va)}{N:List Nd}(h:EA W yb L N w):∃rv nv vs fs,J6 W yb rv nv vs fs L N w:=by obtain⟨rv,nv,vs,fs,e1,e2,e3⟩:=h.ex;exact⟨rv,nv,vs,fs,h.fr,h.hy,e1,e2,e3⟩
def NB{W:wd}{yb y2:Nat}(h0:BV A g cf B W x){n:Nat}(hn:cf.threads=(n:Int))(hk:∀w',EA W yb (x.rowsV n) [] w'->F17.k9 K (vr (vz ⟨A.ma,0,v6⟩)) (vr (vz ⟨y2,0,v6⟩)) (vr (vz ⟨yb,0,v6⟩)) w'):
  ∀(d i:Nat) (w:wd),i+d=n->EA W yb (x.rowsV i) [] w->
   F17.l5 K (vr (vz ⟨A.ma,0,v6⟩)) (vr (vz ⟨y2,0,v6⟩)) (vr (vz ⟨yb,0,v6⟩)) (vq vy (n:Int)) (vq vy (i:Int)) w:=by
 have hth:=h0.fine.th;intro d;induction d with
 | zero=>
  intro i w hi hs;have e:i=n:=by omega
  subst e;refine F17.l5.to ?_;simp only[zv,show ¬((i:Int)<(i:Int)) by omega];exact hk w hs
 | succ d ih=>
  intro i w hi hs;refine F17.l5.to ?_;simp only[zv,show (i:Int)<(n:Int) by omega];refine F17.k6.to (A8 (λw'=>Fr [] W w') λw1 hf1 _=>⟨hs.fr.trans hf1,?_⟩);obtain⟨rv,nv,vs,fs,h1⟩:=(hs.keep hf1).spec;have hma:=h0.keep0 h1.fr;have hL:(x.rowsV i).length<=100000:=by unfold Ma.rowsV;rw[i6,zJ];omega
  have fin:∀w',EA W yb (x.rowsV i++[x.sers (x.co.roots (i:Int))]) [] w'->F17.k8 K (vr (vz ⟨A.ma,0,v6⟩)) (vr (vz ⟨y2,0,v6⟩)) (vr (vz ⟨yb,0,v6⟩)) (vq vy (n:Int)) (vq vy (i:Int)) w':=λw' hv=>by
   refine F17.k8.to ?_
   try simp only[AC]
   rw[BN (n:=(i:Int)+1) (by omega)];refine ih (i+1) w' (by omega) ?_;have:x.rowsV (i+1)=x.rowsV i++[x.sers (x.co.roots (i:Int))]:=by unfold Ma.rowsV;rw[j7,i9];rfl
   rw[this];exact hv
  have hlen:=LW hma (i:Int)
  try simp only[zv]
  refine Aq (v:=vr (vz ⟨A.Q.co,0,v6⟩)) (λw' hw=>⟨_,_,_,(h0.keep0 hw).blk,rfl⟩) ?_;refine⟨Ac (v:=rv) h1.hb rfl ⟨h1.fr,?_,trivial⟩,?_,trivial⟩
  ·refine GY hma.co λv w2 hf2 ho2 hn2=>⟨h1.fr.trans hf2,?_,trivial⟩;have h2:=h1.keep hf2;refine EF (h0.keep0 h2.fr) (by omega) ho2 λu w3 hf3 hn3 ho3=>⟨h2.fr.trans hf3,?_,trivial⟩;have h3:=h2.keep hf3;exact Kq h3 hL ho3 (hn3.mono h2.fr.size) fin
  ·refine GY hma.co λv w2 hf2 ho2 hn2=>⟨h1.fr.trans hf2,Ac (v:=rv) (h1.keep hf2).hb rfl ⟨h1.fr.trans hf2,?_,trivial⟩,?_,trivial⟩
   ·have h2:=h1.keep hf2;refine EF (h0.keep0 h2.fr) (by omega) ho2 λu w3 hf3 hn3 ho3=>⟨h2.fr.trans hf3,?_,trivial⟩;exact Kq (h2.keep hf3) hL ho3 (hn3.mono h2.fr.size) fin
   ·have h2:=h1.keep hf2;refine EF (h0.keep0 h2.fr) (by omega) ho2 λu w3 hf3 hn3 ho3=>⟨h2.fr.trans hf3,?_⟩;have h3:=h2.keep hf3;exact⟨Ac (v:=rv) h3.hb rfl ⟨h3.fr,Kq h3 hL ho3 (hn3.mono h2.fr.size) fin,trivial⟩,Uv h3 hL ho3 (hn3.mono h2.fr.size) fin,trivial⟩
def M5{W:wd}{yb y2:Nat}{lv:wc}{l:List Int}{L:List (List Va)}(h0:BV A g cf B W x)(hll:l.length<=3000)(hnl:Cc W lv)(hk:∀w',EA W yb L (l.map x.node) w'->F17.k14 K (vr (vz ⟨y2,0,v6⟩)) (vr (vz ⟨yb,0,v6⟩)) w'):
  ∀(d i:Nat) (w:wd),i+d=l.length->EA W yb L ((l.take i).map x.node) w->BO w lv 3 1 (Ca l)->
   F17.l10 K (vr (vz ⟨A.ma,0,v6⟩)) (vr (vz ⟨y2,0,v6⟩)) (vr (vz ⟨yb,0,v6⟩)) lv (vq vy (l.length:Int)) (vq vy (i:Int)) w:=by
 intro d;induction d with
 | zero=>
  intro i w hi hs hl;have e:i=l.length:=by omega
  subst e;refine F17.l10.to ?_;simp only[zv,show ¬((l.length:Int)<(l.length:Int)) by omega];rw[d7]at hs;exact hk w hs
 | succ d ih=>
  intro i w hi hs hl;have hlt:i<l.length:=by omega
  refine F17.l10.to ?_;simp only[zv,show (i:Int)<(l.length:Int) by omega];refine F17.k11.to (Bd hl.rd hlt λgg o cs e fz hg hc=>Ac hg hc ?_);refine A8 (λw'=>Fr [] W w') λw1 hf1 _=>⟨hs.fr.trans hf1,?_⟩;obtain⟨rv,nv,vs,fs,h1⟩:=(hs.keep hf1).spec;have hl1:=hl.keep hf1 (by simp);have hma:=h0.keep0 h1.fr;have hN:((l.take i).map x.node).length<=100000:=by rw[i6,b7];omega
  have hfl:=MN x l[i];have hnl2:∀q∈BM lv,q∉yb::BM nv:=λq hq c=>by
   rcases un.1 c with rfl|c
   ·exact hl1.nb h1.hb (by decide) hq
   ·exact hl1.ne h1.hN.sp (by decide) q hq c
  have fin:∀w2,Fr [] w1 w2->∀w',EA W yb L ((l.take i).map x.node++[x.node l[i]]) w'->Fr (yb::BM nv) w2 w'->F17.k13 K (vr (vz ⟨A.ma,0,v6⟩)) (vr (vz ⟨y2,0,v6⟩)) (vr (vz ⟨yb,0,v6⟩)) lv (vq vy (l.length:Int)) (vq vy (i:Int)) w':=λw2 hf2 w' hv hfv=>by
   refine F17.k13.to ?_
   try simp only[AC]
   rw[BN (n:=(i:Int)+1) (by omega)];refine ih (i+1) w' (by omega) ?_ ((hl1.keep hf2 (by simp)).keep' hfv hnl2);rw[zL,xO hlt,i9];exact hv
  try simp only[zv]
  refine Aq (v:=vr (vz ⟨A.Q.co,0,v6⟩)) (λw' hw=>⟨_,_,_,(h0.keep0 hw).blk,rfl⟩) ?_;have hse:∀w',Fr [] W w'->∀ {K':VK},K' (vq vy (x.co.s.serial l[i])) w'->I vp 49 #[vr (vz ⟨A.Q.co,0,v6⟩),vq vy l[i]] w' K':=λw' hw K' hk'=>Hy (h0.keep0 hw).co hk'
  have tl:∀w2 u,Fr [] w1 w2->Cc W u->BO w2 u 60 2 (Ck (x.sers (x.flds l[i])))->∃x53,(∀w',Fr [] W w'->(Instr.build 58 #[(0,vq vy (x.co.s.serial l[i])),(1,u)]).run vp w'=.ok x53 w')/\x53=vx #[vq vy (x.node l[i]).1,u]:=λw2 u hf2 hn2 ho2=>by
   obtain⟨A',c',e'⟩:=ho2.len;exact⟨_,λw' _=>Wh _ e',rfl⟩
  refine⟨Ac (v:=nv) h1.hb rfl ⟨h1.fr,hse _ h1.fr ⟨h1.fr,?_,trivial⟩,trivial⟩,hse _ h1.fr ⟨h1.fr,Ac (v:=nv) h1.hb rfl ⟨h1.fr,?_,trivial⟩,?_,trivial⟩,trivial⟩
  ·refine H0 hma λf w2 hf2 hn2 ho2=>⟨h1.fr.trans hf2,EF (h0.keep0 (h1.fr.trans hf2)) (by omega) ho2 λu w3 hf3 hn3 ho3=>⟨(h1.fr.trans hf2).trans hf3,?_⟩,trivial⟩;have h3:=(h1.keep hf2).keep hf3;have hn3':=hn3.mono (h1.fr.trans hf2).size;obtain⟨v53,t1,rfl⟩:=tl w3 u (hf2.trans hf3) hn3' ho3;exact⟨_,t1,HL h3 hN ho3 hn3' (fin w3 (hf2.trans hf3)),trivial⟩
  ·refine H0 hma λf w2 hf2 hn2 ho2=>⟨h1.fr.trans hf2,EF (h0.keep0 (h1.fr.trans hf2)) (by omega) ho2 λu w3 hf3 hn3 ho3=>⟨(h1.fr.trans hf2).trans hf3,?_⟩,trivial⟩;have h3:=(h1.keep hf2).keep hf3;have hn3':=hn3.mono (h1.fr.trans hf2).size;obtain⟨v53,t1,rfl⟩:=tl w3 u (hf2.trans hf3) hn3' ho3;exact⟨_,t1,HL h3 hN ho3 hn3' (fin w3 (hf2.trans hf3)),trivial⟩
  ·refine H0 hma λf w2 hf2 hn2 ho2=>⟨h1.fr.trans hf2,Ac (v:=nv) (h1.keep hf2).hb rfl ⟨h1.fr.trans hf2,?_,trivial⟩,?_,trivial⟩
   ·refine EF (h0.keep0 (h1.fr.trans hf2)) (by omega) ho2 λu w3 hf3 hn3 ho3=>⟨(h1.fr.trans hf2).trans hf3,?_⟩;have h3:=(h1.keep hf2).keep hf3;have hn3':=hn3.mono (h1.fr.trans hf2).size;obtain⟨v53,t1,rfl⟩:=tl w3 u (hf2.trans hf3) hn3' ho3;exact⟨_,t1,HL h3 hN ho3 hn3' (fin w3 (hf2.trans hf3)),trivial⟩
   ·refine EF (h0.keep0 (h1.fr.trans hf2)) (by omega) ho2 λu w3 hf3 hn3 ho3=>⟨(h1.fr.trans hf2).trans hf3,?_⟩;have h3:=(h1.keep hf2).keep hf3;have hn3':=hn3.mono (h1.fr.trans hf2).size;obtain⟨v53,t1,rfl⟩:=tl w3 u (hf2.trans hf3) hn3' ho3;exact⟨_,t1,Ac (v:=nv) h3.hb rfl ⟨h3.fr,HL h3 hN ho3 hn3' (fin w3 (hf2.trans hf3)),trivial⟩,Se h3 hN ho3 hn3' (fin w3 (hf2.trans hf3)),trivial⟩
def Tq(hr:EV x):(Em x.co.s.serial (x.rch cf)).length<=2049:=by
 rw[Jh];have hok:DD (x.rch0 cf):=by have:x.rch0 cf=x.rchT cf.threads.toNat:=rfl;rw[this];exact HT x hr _
 exact (Ke x 2050 0 hok).le
def Uf(h:BV A g cf B w x)(hr:EV x)(hk:∀rv nv vs fs w',Fr [] w w'->CX w.heap.size w' rv (x.view cf).1 vs->CP w.heap.size w' nv (x.view cf).2 fs->K (vx #[rv,nv]) w'):I vp 17 #[vr (vz ⟨A.ma,0,v6⟩)] w K:=by
 have hth:=h.fine.th;obtain⟨n,hn⟩:=xQ (show 0<=cf.threads by omega);refine F17.sh (Ay λy2 w1 hn1=>TB (h.keep0 hn1.fr) ?_);have l1:=hn1.is
 try simp only[zv]
 refine F17.k3.to (Ay λyb w2 hn2=>?_);have l2:=hn2.is;have h2:=h.keep0 (hn1.fr.trans hn2.fr)
 try simp only[zv]
 refine Ac (v:=vq vy cf.threads) h2.blk rfl ?_;rw[hn];have hs2:EA w1 yb (x.rowsV 0) [] w2:=⟨hn2.fr,by omega,vt v6 0 0,vt v6 0 0,[],[],hn2.at_,⟨BO.nil _ _ _,by simp[BM,wc.ownBlock],rfl,λi a=>by simp[Ma.rowsV]at a⟩,⟨rfl,BO.nil _ _ _,by simp[BM,wc.ownBlock],λi a=>by simp at a⟩⟩;have hma1:=h.keep0 hn1.fr;refine NB (W:=w1) (yb:=yb) (y2:=y2) hma1 hn (λw3 hs3=>?_) n 0 w2 (by omega) hs2
 refine F17.k9.to (Qq (hma1.keep0 hs3.fr) hr λlv w4 hf4 hn4 ho4=>AK ho4.rd ?_);rw[Cm];have hlen:=Tq (x:=x) (cf:=cf) hr;refine M5 (W:=w1) (yb:=yb) (y2:=y2) (L:=x.rowsV n) hma1 (by omega) (hn4.mono hs3.fr.size) (λw5 hs5=>?_) (Em x.co.s.serial (x.rch cf)).length 0 w4 (by omega) (hs3.keep hf4) ho4;obtain⟨rv,nv,vs,fs,e1,e2,e3⟩:=hs5.ex
 have b2:w5.heap[y2]?=vz (wj #[vt v6 0 0,vt v6 0 0] 46 (0,0)):=hs5.fr.at_ hn1.at_ (by simp);have y2l:y2<w1.heap.size:=(wY.1 hn1.at_).1;have hne:y2≠yb:=by have:=hs5.hy;omega
 have hone:∀u∈(wc.cells (vx #[rv,nv])).toList,u.oneCell'=v7:=E9.ones (w:=w5) (V:=(x.rowsV n,(Em x.co.s.serial (x.rch cf)).map x.node)) ⟨e2.rd,e3.rd⟩;have hcells:wc.cells (vx #[rv,nv]) = #[rv,nv]:=E9.cells (w:=w5) (V:=(x.rowsV n,(Em x.co.s.serial (x.rch cf)).map x.node)) ⟨e2.rd,e3.rd⟩;refine F17.k14.to (A5 e1 rfl (AB (x:=vx #[rv,nv]) b2 (by rw[hcells];rfl) hone rfl λw6 hu6=>?_));rw[hcells]at hu6
 refine A5 hu6.at_ rfl (hk rv nv vs fs w6 ((hn1.fr.trans hs5.fr).then hu6.fr λq hq=>wh (by simp only[yZ]at hq;omega)) ?_ ?_)
 ·have:(x.view cf).1=x.rowsV n:=by unfold Ma.view;rw[hn,zE]
  rw[this];have h6:CX w1.heap.size w6 rv (x.rowsV n) vs:=e2.keep hu6.fr λq hq=>wg (by simp only[yZ]at hq;omega);exact⟨h6.sp,λq hq=>uw hn1.fr.size (h6.ge q hq),h6.len,λi a b=>⟨(h6.row i a b).1,λq hq=>uw hn1.fr.size ((h6.row i a b).2 q hq)⟩⟩
 ·have h6:CP w1.heap.size w6 nv ((Em x.co.s.serial (x.rch cf)).map x.node) fs:=e3.keep hu6.fr λq hq=>wg (by simp only[yZ]at hq;omega);exact⟨h6.len,h6.sp,λq hq=>uw hn1.fr.size (h6.ge q hq),λi a b=>⟨(h6.row i a b).1,λq hq=>uw hn1.fr.size ((h6.row i a b).2 q hq)⟩⟩
end
section
variable{K:VK}{A:Ci}{g:Gw}{cf:Cf}{B:Int}{x:Ma}{w:wd}
def X2(a:Int):(Instr.buildSlice 52 1 #[(0,vq vy a)]).run vp w=.ok (vt (vz ⟨w.heap.size,0,v6⟩) 1 1) (w.alloc (wj #[vq vy a] 2)):=by kernel_rfl
def BJ{W0:wd}{v:wc}{l:List Int}{n:Int}(hf:Fr [] W0 w)(hn:Cc W0 v)(hv:BO w v 2 1 (Ca l))(hl:l.length<=17592186044415)(hk:∀v' w',Fr [] W0 w'->Cc W0 v'->BO w' v' 2 1 (Ca (l++[n]))->Fr (BM v) w w'->(∀g∈BM v',g∈BM v∨w.heap.size<=g)->K v' w'):
  Am vp (Instr.buildSlice 52 1 #[(0,vq vy n)]) w λx w1=>Am vp (Builtin.append_ #[52,52] 52 #[v,x]) w1 K:=
 Bm (x:=[vq vy n]) (e:=2) (sz:=1) (bytes:=8) (z:=vq vy 0) Tryz.underlying52 (by kernel_rfl) rfl (by decide) (X2 n) rfl (by simp[wc.oneCell']) hf hn hv (by rw[Cm];omega) (by rw[Cm];omega) λv' w' a b c d e=>hk v' w' a b (by rw[JU];exact c) d e
end
section
variable{A A':Ci}{g g' g1:Gw}{cf cf':Cf}{B B':Int}{w w':wd}{x x':Ma}{T:Nat}
def Ci.subS{y:Nat}(hy:y∈A.S T g):y∈A.all T g:=by
 simp only[Ci.S,j4]at hy;simp only[Ci.all,Ci.low,j4];rcases hy with c|c|c|c|c
 ·exact wg c
 ·exact wh (wg (wg c))
 ·exact wh (wg (wh (wg c)))
 ·exact wh (wg (wh (wh (List.mem_of_mem_tail c))))
 ·exact wh (wh c)
def Ci.all_cases{y:Nat}(hy:y∈A.all T g):y=0∨y∈A.S T g:=by
 simp only[Ci.all,Ci.low,j4]at hy;simp only[Ci.S,j4];rcases hy with c|(c|c|c)|c
 ·exact wh (wg c)
 ·exact wh (wh (wg c))
 ·exact wh (wh (wh (wg c)))
 ·unfold D6.all at c;rcases un.1 c with c|c
  ·exact wg c
  ·exact wh (wh (wh (wh (wg c))))
 ·exact wh (wh (wh (wh (wh c))))
def BV.s0(h:BV A g cf B w x):0∉A.S cf.threads.toNat g:=by
 have h0:0∈A.Q.H.D.all:=by simp[D6.all]
 have hN:0<A.Q.H.N:=h.co.hp.ok.lo 0 (by simp[h0]);intro c;simp only[Ci.S,j4]at c;rcases c with c|c|c|c|c
 ·exact h.ok.dj 0 c (by simp[Ci.low,h0])
 ·exact h.co.ok.dj 0 c (by simp[h0])
 ·exact h.co.hp.ok.dj 0 c h0
 ·exact h.co.hp.st.ok.z c
 ·simp only[Gw.all,Mv.all,j4]at c;rcases c with (c|c|c)|c
  ·have:=h.co.hp.hi 0 c;omega
  ·have:=h.co.hv 0 c;omega
  ·have:=h.co.ht 0 c;omega
  ·have:=h.hs 0 c;omega
def Fs(W:wd)(A:Ci)(T:Nat)(g:Gw):Prop:=∀y∈A.S T g,W.heap.size<=y
def Fs.of(h:BV A g cf B w x){W:wd}(hn:∀y∈A.all cf.threads.toNat g,y=0∨W.heap.size<=y):Fs W A cf.threads.toNat g:=λy hy=>by
 rcases hn y (Ci.subS hy)with e|e
 ·subst e;exact absurd hy h.s0
 ·exact e
def BU.inS(h:BU A T g w g' w'){y:Nat}(hy:y∈A.S T g'):y∈A.S T g∨w.heap.size<=y:=by
 simp only[Ci.S,j4]at hy ⊢;rcases hy with c|c|c|c|c
 ·exact wg (wg c)
 ·exact wg (wh (wg c))
 ·exact wg (wh (wh (wg c)))
 ·exact wg (wh (wh (wh (wg c))))
 ·rcases h.gr y c with d|d
  ·exact wg (wh (wh (wh (wh d))))
  ·exact wh d
def Fs.step{W:wd}(h:Fs W A T g)(hf:BU A T g w g' w')(hs:W.heap.size<=w.heap.size):Fs W A T g':=λy hy=>by
 rcases hf.inS hy with c|c
 ·exact h y c
 ·omega
def Fs.fr{W:wd}(h:Fs W A T g)(hW:Fr [] W w)(hf:BU A T g w g' w'):Fr [] W w':=hW.then hf.fr λy hy=>wh (h y hy)
end
def Ma.ans(cf:Cf):Ma->List BY->List BZ
 | _,[]=>[]
 | m,x::l=>(m.step cf x).2::Ma.ans cf (m.step cf x).1 l
def DY:Cf:=⟨16,4,20,4,700,100,4,4,16,4⟩
def Gs:List BY:=[⟨1,0,0,0,0,0,0⟩,⟨3,0,0,0,0,1,2⟩,⟨17,0,0,0,0,0,0⟩,⟨14,0,0,0,0,0,0⟩,⟨14,0,0,0,0,0,0⟩,⟨16,0,0,0,0,0,64⟩]
set_option maxRecDepth 1000000 in
def Q5:∃a b c d e,Ma.ans DY (Ma.new DY) Gs=[a,⟨0,2,1,0,0⟩,b,c,d,⟨0,0,0,2,e⟩]:=by
 have h:(Ma.ans DY (Ma.new DY) Gs).length=6/\(Ma.ans DY (Ma.new DY) Gs)[1]?=vz ⟨0,2,1,0,0⟩/\((Ma.ans DY (Ma.new DY) Gs)[5]?).map (λa=>(a.code,a.kd,a.n,a.done))=vz (0,0,0,2):=
  of_decide_eq_true (by kernel_rfl)
 generalize Ma.ans DY (Ma.new DY) Gs=l at h;obtain⟨h1,h2,h3⟩:=h
 match l,h1 with
 | [a,x,b,c,d,y],_=>
  simp only[xR,xS,zM,j8,uq]at h2 h3;refine⟨a,b,c,d,y.credit,?_⟩;rw[h2];obtain⟨y1,y2,y3,y4,y5⟩:=y;simp only at h3;obtain⟨rfl,rfl,rfl,rfl⟩:=h3;rfl
end
noncomputable section
variable{K:VK}{w:wd}{x0 x1 x2 y1 y2 y8 y10 y27 y28 y29:wc}
def F9.sh(h:(Aw (wj (wc.cells x0) 23) w λa b=>Ak 10 a b λc d=>I vp 32 #[c,x1,(.func (.func 33) #[] #[])] d λf g=>Av 0 f g λi j=>Av 1 f j λk m=>K (vu #[i,k]) m)):I vp 9 #[x0,x1] w K:=BK (A:=A0) (args:=[x0,x1]) (qq h)
namespace F32
def ann:Cd:=⟨[(6,[1,2,8]),(9,[2,8,10,27,28,29]),(12,[2,8,10,27,28,29]),(13,[10])],[(8,[2,8,10,27,28,29])],[],[],v6⟩
def code:=cd f32
def BL:=tp f32
variable(K:VK)(y1 y2 y8 y10 y27 y28 y29:wc)(w:wd)
def k6:=nk ann 45 [(1,y1),(2,y2),(8,y8)] w [1,1,1] code (BL K)
def k13:=nk ann 45 [(10,y10)] w [1,1,1,1,1] code (BL K)
def l8:=nl ann 45 [(2,y2),(8,y8),(10,y10),(27,y27),(28,y28),(29,y29)] w [1,1,1,1,0,1,0] code (BL K)
def k9:=nk ann 45 [(2,y2),(8,y8),(10,y10),(27,y27),(28,y28),(29,y29)] w [1,1,1,1,0,1,0,0,1,1] code (BL K)
def k12:=nk ann 45 [(2,y2),(8,y8),(10,y10),(27,y27),(28,y28),(29,y29)] w [1,1,1,1,0,1,0,0,1,1,1] code (BL K)
attribute [irreducible] k6 k13 l8 k9 k12
end F32
def F32.k6.to(h:(AH y1 w λa b=>F32.l8 K y2 y8 (vt v6 0 0) y1 a (vq vy 0) b)):F32.k6 K y1 y2 y8 w:=qq h
def F32.k13.to(h:(K (vu #[y10,(vq vy 0)]) w)):F32.k13 K y10 w:=qq h
def F32.l8.to(h:(U .lss y29 y28 w λa b=>Af a (F32.k9 K y2 y8 y10 y27 y28 y29 b) (F32.k13 K y10 b))):F32.l8 K y2 y8 y10 y27 y28 y29 w:=by unfold F32.l8 nl;exact BW (qq h)
def F32.k9.to(h:(A6 7 y27 y29 w λa b=>Ak 7 a b λc d=>Aw (wj #[vq vy 0,vq vy 0,vq vy 0,vq vy 0,vq vy 0,vq vy 0,vq vy 0] 40) d λf g=>Aj 7 f c g λi=>Ak 7 f i λj k=>I vp 20 #[y8,j] k λm o=>Aw (wj #[vq vy 0,vq vy 0,vq vy 0,vq vy 0,vq vy 0] 38) o λp q=>Aj 5 p m q λr=>Ak 5 p r λs t=>DK vp y2 [y8,s] t λu v=>Am vp (Instr.buildSlice 27 1 #[(0,u)]) v λx y=>Am vp (Builtin.append_ #[27,27] 27 #[y10,x]) y λz aa=>F32.k12 K y2 y8 z y27 y28 y29 aa)):F32.k9 K y2 y8 y10 y27 y28 y29 w:=qq h
def F32.k12.to(h:(U .add y29 (vq vy 1) w λa b=>F32.l8 K y2 y8 y10 y27 y28 a b)):F32.k12 K y2 y8 y10 y27 y28 y29 w:=qq h
def F32.sh(h:(Aw (wj (wc.cells x0) 23) w λa b=>Ak 10 a b λc d=>I vp 16 #[c] d λf g=>Av 0 f g λi j=>Av 1 f j λk m=>U .neq k (vq vy 0) m λo p=>Af o (K (vu #[(vt v6 0 0),k]) p) (AH x1 p λq r=>U .gtr q (vq vy 256) r λs t=>Af s (K (vu #[(vt v6 0 0),(vq vy 3)]) t) (F32.k6 K x1 x2 i t)))):I vp 32 #[x0,x1,x2] w K:=BK (A:=F32.ann) (args:=[x0,x1,x2]) (qq h)
def F33.sh(h:(Aw (wj (wc.cells x1) 38) w λa b=>Aw (wj #[vq vy 0,vq vy 0,vq vy 0,vq vy 0,vq vy 0] 38) b λc d=>Ak 5 a d λf g=>Aj 5 c f g λi=>Ak 5 c i λr5 _=>K r5 i)):I vp 33 #[x0,x1] w K:=BK (A:=A0) (args:=[x0,x1]) (qq h)
def F10.sh(h:(Aw (wj (wc.cells x0) 23) w λa b=>Ak 10 a b λc d=>I vp 34 #[c,x1,(.func (.func 35) #[] #[])] d λf g=>Av 0 f g λi j=>Av 1 f j λk m=>K (vu #[i,k]) m)):I vp 10 #[x0,x1] w K:=BK (A:=A0) (args:=[x0,x1]) (qq h)
namespace F34
def ann:Cd:=⟨[(6,[1,2,8]),(9,[2,8,10,27,28,29]),(12,[2,8,10,27,28,29]),(13,[10])],[(8,[2,8,10,27,28,29])],[],[],v6⟩
def code:=cd f34
def BL:=tp f34
variable(K:VK)(y1 y2 y8 y10 y27 y28 y29:wc)(w:wd)
def k6:=nk ann 45 [(1,y1),(2,y2),(8,y8)] w [1,1,1] code (BL K)
def k13:=nk ann 45 [(10,y10)] w [1,1,1,1,1] code (BL K)
def l8:=nl ann 45 [(2,y2),(8,y8),(10,y10),(27,y27),(28,y28),(29,y29)] w [1,1,1,1,0,1,0] code (BL K)
def k9:=nk ann 45 [(2,y2),(8,y8),(10,y10),(27,y27),(28,y28),(29,y29)] w [1,1,1,1,0,1,0,0,1,1] code (BL K)
def k12:=nk ann 45 [(2,y2),(8,y8),(10,y10),(27,y27),(28,y28),(29,y29)] w [1,1,1,1,0,1,0,0,1,1,1] code (BL K)
attribute [irreducible] k6 k13 l8 k9 k12
end F34
def F34.k6.to(h:(AH y1 w λa b=>F34.l8 K y2 y8 (vt v6 0 0) y1 a (vq vy 0) b)):F34.k6 K y1 y2 y8 w:=qq h
def F34.k13.to(h:(K (vu #[y10,(vq vy 0)]) w)):F34.k13 K y10 w:=qq h
def F34.l8.to(h:(U .lss y29 y28 w λa b=>Af a (F34.k9 K y2 y8 y10 y27 y28 y29 b) (F34.k13 K y10 b))):F34.l8 K y2 y8 y10 y27 y28 y29 w:=by unfold F34.l8 nl;exact BW (qq h)
def F34.k9.to(h:(A6 7 y27 y29 w λa b=>Ak 7 a b λc d=>Aw (wj #[vq vy 0,vq vy 0,vq vy 0,vq vy 0,vq vy 0,vq vy 0,vq vy 0] 40) d λf g=>Aj 7 f c g λi=>Ak 7 f i λj k=>I vp 20 #[y8,j] k λm o=>Aw (wj #[vq vy 0,vq vy 0,vq vy 0,vq vy 0,vq vy 0] 38) o λp q=>Aj 5 p m q λr=>Ak 5 p r λs t=>DK vp y2 [y8,s] t λu v=>Am vp (Instr.buildSlice 31 1 #[(0,u)]) v λx y=>Am vp (Builtin.append_ #[31,31] 31 #[y10,x]) y λz aa=>F34.k12 K y2 y8 z y27 y28 y29 aa)):F34.k9 K y2 y8 y10 y27 y28 y29 w:=qq h
def F34.k12.to(h:(U .add y29 (vq vy 1) w λa b=>F34.l8 K y2 y8 y10 y27 y28 a b)):F34.k12 K y2 y8 y10 y27 y28 y29 w:=qq h
def F34.sh(h:(Aw (wj (wc.cells x0) 23) w λa b=>Ak 10 a b λc d=>I vp 16 #[c] d λf g=>Av 0 f g λi j=>Av 1 f j λk m=>U .neq k (vq vy 0) m λo p=>Af o (K (vu #[(vt v6 0 0),k]) p) (AH x1 p λq r=>U .gtr q (vq vy 256) r λs t=>Af s (K (vu #[(vt v6 0 0),(vq vy 3)]) t) (F34.k6 K x1 x2 i t)))):I vp 34 #[x0,x1,x2] w K:=BK (A:=F34.ann) (args:=[x0,x1,x2]) (qq h)
def F35.sh(h:(Aw (wj (wc.cells x1) 38) w λa b=>Aw (wj #[vt v6 0 0,vt v6 0 0] 46) b λc d=>I vp 17 #[x0] d λf g=>Aj 2 c f g λi=>Ak 2 c i λr5 _=>K r5 i)):I vp 35 #[x0,x1] w K:=BK (A:=A0) (args:=[x0,x1]) (qq h)
end
section
open Go.RowKit
def En(l:List BY):List (List wc):=l.map λx=>[vq vy x.kd,vq vy x.t,vq vy x.i,vq vy x.f,vq vy x.j,vq vy x.cost,vq vy x.n]
def Gt(l:List BZ):List (List wc):=l.map λa=>[vq vy a.code,vq vy a.kd,vq vy a.n,vq vy a.done,vq vy a.credit]
def E6(l:List BY):(En l).length=l.length:=by simp[En]
def KZ(l:List BZ):(Gt l).length=l.length:=by simp[Gt]
def GW{l:List BY}{j:Nat}(h:j<l.length):(En l)[j]?=vz [vq vy l[j].kd,vq vy l[j].t,vq vy l[j].i,vq vy l[j].f,vq vy l[j].j,vq vy l[j].cost,vq vy l[j].n]:=by simp[En,h]
def Ov{l:List BZ}{j:Nat}(h:j<l.length):(Gt l)[j]?=vz [vq vy l[j].code,vq vy l[j].kd,vq vy l[j].n,vq vy l[j].done,vq vy l[j].credit]:=by simp[Gt,h]
def U9(a b:List BZ):Gt (a++b)=Gt a++Gt b:=by simp[Gt]
def Sw:DX vp 33=v7:=by kernel_rfl
def Nx{x:BY}:∀v∈(C5 x).cells.toList,v.oneCell'=v7:=by intro v hv;simp only[C5,wc.cells,un,b8,vi]at hv;rcases hv with rfl|rfl|rfl|rfl|rfl|rfl|rfl<;>rfl
section
variable{K:VK}{A:Ci}{g:Gw}{cf:Cf}{B:Int}{x:Ma}{w:wd}
def Y4(a:BZ):(Instr.buildSlice 27 1 #[(0,Cg a)]).run vp w=.ok (vt (vz ⟨w.heap.size,0,v6⟩) 1 1) (w.alloc (wj #[vq vy a.code,vq vy a.kd,vq vy a.n,vq vy a.done,vq vy a.credit] 38)):=by kernel_rfl
def BE{W0:wd}{v:wc}{l:List BZ}{n:BZ}(hf:Fr [] W0 w)(hn:Cc W0 v)(hv:BO w v 38 5 (Gt l))(hl:l.length<=1000000)(hk:∀v' w',Fr [] W0 w'->Cc W0 v'->BO w' v' 38 5 (Gt (l++[n]))->Fr (BM v) w w'->(∀g∈BM v',g∈BM v∨w.heap.size<=g)->K v' w'):
  Am vp (Instr.buildSlice 27 1 #[(0,Cg n)]) w λx w1=>Am vp (Builtin.append_ #[27,27] 27 #[v,x]) w1 K:=
 Bm (x:=[vq vy n.code,vq vy n.kd,vq vy n.n,vq vy n.done,vq vy n.credit]) (e:=38) (sz:=5) (bytes:=40) (z:=Cg BZ.ok) Tryz.underlying27 (by kernel_rfl) rfl (by decide) (Y4 n) rfl (by simp[wc.oneCell']) hf hn hv (by rw[KZ];omega) (by rw[KZ];omega) λv' w' a b c d e=>hk v' w' a b (by rw[U9];exact c) d e
def BA{u:wc}{l:List BY}{i:Nat}(h:Cq w u 7 (En l))(hi:i<l.length)(hk:K (C5 l[i]) w):A6 7 u (vq vy (i:Int)) w λp w1=>Ak 7 p w1 K:=by refine AS h (by omega) (by rw[zE];exact GW hi) λgg o cs e fz hg hl hs=>?_;exact Bt (x:=[vq vy l[i].kd,vq vy l[i].t,vq vy l[i].i,vq vy l[i].f,vq vy l[i].j,vq vy l[i].cost,vq vy l[i].n]) hg rfl (by omega) hs hk
def VY{p:wc}{a:BZ}(hk:∀w',Fr [] w w'->K (Cg a) w'):DK vp (.func (.func 33) #[] #[]) [p,Cg a] w K:=by refine I1 Sw (F33.sh (Ay λb w1 hn1=>Ay λb2 w2 hn2=>?_));have l1:=hn1.is;have l2:=hn2.is;have h1:=hn2.fr.at_ hn1.at_ (by simp);refine A5 h1 rfl (AB (x:=Cg a) hn2.at_ rfl CU rfl λw3 hu3=>A5 hu3.at_ rfl (hk w3 ?_));have s1:=hn1.fr.size;exact (hn1.fr.trans hn2.fr).then hu3.fr λq hq=>wh (by simp only[yZ]at hq;omega)
def Ci.zero_in{T:Nat}:0∈A.all T g:=by simp[Ci.all,Ci.low,D6.all]
def Sl{W:wd}{u:wc}{l:List BY}(hl:l.length<=256)(hu:Cq W u 7 (En l))(hk:∀v w',Fr [] W w'->Cc W v->BO w' v 38 5 (Gt (Ma.ans cf x l))->K (vu #[v,vq vy 0]) w'):
  ∀(d i:Nat) (w:wd) (v:wc) (g:Gw) (B:Int) (y:Ma) (L:List BZ),i+d=l.length->Fr [] W w->BV A g cf B w y->Fs W A cf.threads.toNat g->B<=64*i->Cc W v->BO w v 38 5 (Gt L)->L.length=i->L++Ma.ans cf y (l.drop i)=Ma.ans cf x l->
   (∀q∈BM v,q∉A.all cf.threads.toNat g)->
   F32.l8 K (.func (.func 33) #[] #[]) (vr (vz ⟨A.ma,0,v6⟩)) v u (vq vy (l.length:Int)) (vq vy (i:Int)) w:=by
 intro d;induction d with
 | zero=>
  intro i w v g B y L hi hf hm hs hB hn hv hL he hd;have e:i=l.length:=by omega
  subst e;refine F32.l8.to ?_;simp only[zv,show ¬((l.length:Int)<(l.length:Int)) by omega];rw[zU]at he;simp only[Ma.ans,List.append_nil]at he;rw[he]at hv;exact F32.k13.to (hk v w hf hn hv)
 | succ d ih=>
  intro i w v g B y L hi hf hm hs hB hn hv hL he hd;have hlt:i<l.length:=by omega
  refine F32.l8.to ?_;simp only[zv,show (i:Int)<(l.length:Int) by omega];refine F32.k9.to (BA (hu.keep hf) hlt ?_);generalize hgs:l[i]=s;refine Ay λb w1 hn1=>AB (x:=C5 s) hn1.at_ rfl Nx rfl λw2 hu2=>A5 hu2.at_ rfl ?_;have l1:=hn1.is;have s1:=hn1.fr.size;have f2:Fr [] w w2:=hn1.fr.then hu2.fr (by simp;omega);have hm2:=hm.keep0 f2;refine Qv hm2 (by omega) λg3 w3 hT3 hm3=>?_;have hF3:=hs.fr (hf.trans f2) hT3
  have s2:=f2.size;have hv2:=hv.keep f2 (by simp);have hv3:=hv2.keep' hT3.fr λq hq c=>hd q hq (Ci.subS c);refine Ay λb4 w4 hn4=>AB (x:=Cg (y.step cf s).2) hn4.at_ rfl CU rfl λw5 hu5=>A5 hu5.at_ rfl ?_;have l4:=hn4.is;have s4:=hn4.fr.size;have f5:Fr [] w3 w5:=hn4.fr.then hu5.fr (by simp;omega);refine VY λw6 hf6=>?_;have f6:=f5.trans hf6;have hv6:=hv3.keep f6 (by simp);have hm6:=hm3.keep0 f6
  refine BE (hF3.trans f6) hn hv6 (by omega) λv' w7 hf7 hn7 ho7 hf7' hg7=>?_;have hvA:∀q∈BM v,q∉A.all cf.threads.toNat g3:=λq hq c=>by
   rcases Ci.all_cases c with rfl|c
   ·have:=hn.blk _ hq;have:=hs;exact absurd (Ci.zero_in (A:=A) (T:=cf.threads.toNat) (g:=g)) (hd _ hq)
   ·rcases hT3.inS c with d|d
    ·exact hd q hq (Ci.subS d)
    ·have:=hv2.mem_lt q hq;omega
  have hm7:=hm6.keep hf7' λq hq c=>hvA q c hq;refine F32.k12.to ?_
  try simp only[AC]
  rw[BN (n:=(i:Int)+1) (by omega)];refine ih (i+1) w7 v' g3 (B+64) (y.step cf s).1 (L++[(y.step cf s).2]) (by omega) hf7 hm7 (hs.step hT3 (hf.trans f2).size) (by omega) hn7 ho7 (by simp[hL]) ?_ λq hq c=>?_
  ·rw[<-he,xG hlt,hgs];simp[Ma.ans]
  ·rcases hg7 q hq with d|d
   ·exact hvA q d c
   ·have:=hm6.ltA q c;omega
def TF{u:wc}{l:List BY}(L:cf.Legal)(hT:F0 w)(hz:0<w.heap.size)(hl:l.length<=256)(hu:Cq w u 7 (En l))(hk:∀v w',Fr [] w w'->Cc w v->BO w' v 38 5 (Gt (Ma.ans cf (Ma.new cf) l))->K (vu #[v,vq vy 0]) w'):
  I vp 9 #[vx (C9 cf).toArray,u] w K:=by
 refine F9.sh (Ay λb w1 hn1=>A5 hn1.at_ rfl (F32.sh (Ay λb2 w2 hn2=>A5 hn2.at_ rfl ?_)));have f2:=hn1.fr.trans hn2.fr;refine Jo (hT.keep f2 (by simp)) (zA hz f2.size) (λL'=>absurd L L') λ_ A g w3 hf3 hg3 hn3 hm3=>?_;have f3:=f2.trans hf3;simp only[zv,vl,vo,zQ];refine AK (hu.keep f3) ?_;rw[E6];simp only[zv,show ¬((256:Int)<(l.length:Int)) by omega];refine F32.k6.to (AK (hu.keep f3) ?_);rw[E6]
 have hs3:Fs w A cf.threads.toNat g:=Fs.of hm3 λy hy=>(hn3 y hy).imp id λh=>uw f2.size h;refine Sl (W:=w) (x:=Ma.new cf) hl hu (λv w4 hf4 hn4 ho4=>?_) l.length 0 w3 _ g 0 (Ma.new cf) [] (by omega) f3 hm3 hs3 (by omega) (Cc.nil _) (BO.nil _ _ _) rfl (by simp) (by simp[BM,wc.ownBlock]);simp only[zv];exact hk v w4 hf4 hn4 ho4
def NN:DY.Legal:=by
 refine⟨λi hi=>?_,by decide⟩;have h:∀i:Fin 10,(GE.getD i.val (0,0)).1<=(H3 DY).getD i.val 0/\(H3 DY).getD i.val 0<=(GE.getD i.val (0,0)).2:=by decide
 exact h ⟨i,hi⟩
def Wj:(Instr.build 23 #[(0,vq vy 16),(1,vq vy 4),(2,vq vy 20),(3,vq vy 4),(4,vq vy 700),(5,vq vy 100),(6,vq vy 4),(7,vq vy 4),(8,vq vy 16),(9,vq vy 4)]).run vp w=.ok (vx (C9 DY).toArray) w:=by kernel_rfl
def U4(hk:∀w',Fr [] w w'->K (vx (C9 DY).toArray) w'):I vp 31 #[] w K:=by refine F31.sh (Ay λb w1 hn1=>A7 Wj ?_);have l1:=hn1.is;refine AB (x:=vx (C9 DY).toArray) hn1.at_ rfl (by simp[C9,wc.cells,wc.oneCell']) rfl λw2 hu2=>A5 hu2.at_ rfl (hk w2 (hn1.fr.then hu2.fr (by simp;omega)))
def XK(a b c d e f:BY):(Instr.buildSlice 24 6 #[(0,C5 a),(1,C5 b),(2,C5 c),(3,C5 d),(4,C5 e),(5,C5 f)]).run vp w=.ok (vt (vz ⟨w.heap.size,0,v6⟩) 6 6) (w.alloc (wj (En [a,b,c,d,e,f]).flatten.toArray 40)):=by kernel_rfl
def Yw:(Instr.build 40 #[(0,vq vy 1)]).run vp w=.ok (C5 ⟨1,0,0,0,0,0,0⟩) w:=by kernel_rfl
def Yx:(Instr.build 40 #[(0,vq vy 3),(6,vq vy 2),(5,vq vy 1)]).run vp w=.ok (C5 ⟨3,0,0,0,0,1,2⟩) w:=by kernel_rfl
def Yy:(Instr.build 40 #[(0,vq vy 17)]).run vp w=.ok (C5 ⟨17,0,0,0,0,0,0⟩) w:=by kernel_rfl
def Xz:(Instr.build 40 #[(0,vq vy 14)]).run vp w=.ok (C5 ⟨14,0,0,0,0,0,0⟩) w:=by kernel_rfl
def Yz:(Instr.build 40 #[(0,vq vy 16),(6,vq vy 64)]).run vp w=.ok (C5 ⟨16,0,0,0,0,0,64⟩) w:=by kernel_rfl
def Yq:(Instr.build 38 #[(1,vq vy 2),(2,vq vy 1)]).run vp w=.ok (Cg ⟨0,2,1,0,0⟩) w:=by kernel_rfl
def Y5(x y:Operand)(a b:BZ):(do eqGuard .eql 38 x y (Cg a) (Cg b);binOp .eql 38 (Cg a) (Cg b):Sem wc).run vp w=.ok (vw (([a.code,a.kd,a.n,a.done,a.credit] == [b.code,b.kd,b.n,b.done,b.credit]))) w:=
 Ld (ks:=[vy,vy,vy,vy,vy]) x y Tryz.underlying38 (by kernel_rfl) (by kernel_rfl) (by kernel_rfl) [a.code,a.kd,a.n,a.done,a.credit] [b.code,b.kd,b.n,b.done,b.credit] rfl rfl
def TO(hT:F0 w)(hz:0<w.heap.size)(hk:∀w',Fr [] w w'->K (vw v7) w'):I vp 7 #[] w K:=by
 refine F7.sh (U4 λw1 hf1=>Ay λb w2 hn2=>AB (x:=vx (C9 DY).toArray) hn2.at_ rfl (by simp[C9,wc.cells,wc.oneCell']) rfl λw3 hu3=>A5 hu3.at_ rfl ?_);have l2:=hn2.is;have s2:=hn2.fr.size;have f3:Fr [] w1 w3:=hn2.fr.then hu3.fr (by simp;omega);refine A7 Yw (A7 Yx (A7 Yy (A7 Xz (A7 Xz (A7 Yz (A7 (XK _ _ _ _ _ _) ?_))))));have hw4:=Dz.mk' w3 (wj (En Gs).flatten.toArray 40)
 have hu:Cq (w3.alloc (wj (En Gs).flatten.toArray 40)) (vt (vz ⟨w3.heap.size,0,v6⟩) 6 6) 7 (En Gs):=Cq.of_block hw4.at_ rfl (by decide) (by decide) (by
  intro y hy;simp only[En,uu]at hy;obtain⟨z,_,rfl⟩:=hy;rfl) (by kernel_rfl)
 have f4:=(hf1.trans f3).trans hw4.fr;refine TF NN (hT.keep f4 (by simp)) (zA hz f4.size) (by decide) hu λv w5 hf5 hn5 ho5=>?_;obtain⟨a,b,c,d,e,ha⟩:=Q5;rw[ha]at ho5;have hr:=ho5.rd;simp only[zv,vl];refine AK hr ?_;rw[show ((Gt [a,⟨0,2,1,0,0⟩,b,c,d,⟨0,0,0,2,e⟩]).length:Int)=6 from rfl];simp only[zv,vl]
 refine AS (i:=1) (x:=[vq vy 0,vq vy 2,vq vy 1,vq vy 0,vq vy 0]) hr (by decide) rfl λgg o cs ee fz hg hl hs=>?_;refine Bt (x:=[vq vy 0,vq vy 2,vq vy 1,vq vy 0,vq vy 0]) hg rfl (by omega) hs (A7 Yq ⟨_,Y5 _ _ ⟨0,2,1,0,0⟩ ⟨0,2,1,0,0⟩,?_⟩);rw[show (([0,2,1,0,0]:List Int) == [0,2,1,0,0])=v7 by decide];simp only[zv]
 refine AS (i:=5) (x:=[vq vy 0,vq vy 0,vq vy 0,vq vy 2,vq vy e]) hr (by decide) rfl λg2 o2 cs2 ee2 fz2 hg2 hl2 hs2=>?_;simp only[Ah];refine Ac (v:=vq vy 0) hg2 (by have:=hs2 0 (by simp);simpa using this) ?_;simp only[zv,vl];refine AS (i:=5) (x:=[vq vy 0,vq vy 0,vq vy 0,vq vy 2,vq vy e]) hr (by decide) rfl λg2 o2 cs2 ee2 fz2 hg2 hl2 hs2=>?_;simp only[Ah]
 refine Ac (v:=vq vy 2) hg2 (by have:=hs2 3 (by simp);simpa using this) ?_;simp only[zv,vl];exact hk w5 (f4.trans hf5)
end
def RA{T x:List wc}{o sz f:Nat}{u:wc}(hx:x.length=sz)(hf:f<sz)(ho:o+sz<=T.length)(h:∀i,i<sz->T[o+i]?=x[i]?):CD T (o+f) [u]=CD T o (x.set f u):=by
 unfold CD;simp only[zY,i7,i8];apply zF;intro i;have l1:(T.take (o+f)).length=o+f:=List.length_take_of_le (by omega);have l2:(T.take o).length=o:=List.length_take_of_le (by omega);by_cases c1:i<o
 ·rw[List.append_assoc,List.append_assoc,xH (by omega),xH (by omega),yX,yX,vn (by omega),vn c1]
 ·rw[List.append_assoc,List.append_assoc];by_cases c2:i<o+f
  ·rw[xH (by omega),yX,vn c2,xD (by omega),l2,xH (by simp;omega),zI,vm (by omega), <-h (i-o) (by omega),show o+(i-o)=i by omega]
  ·rw[xD (by omega),l1];by_cases c3:i=o+f
   ·subst c3;rw[xH (by simp),xD (by omega),l2,xH (by simp;omega),zI,vn (by omega),vn (by omega)];simp
   ·rw[xD (by simp;omega),yW];simp only[zY,i7];rw[xD (by omega),l2];by_cases c4:i<o+sz
    ·rw[xH (by simp;omega),zI,vm (by omega), <-h (i-o) (by omega)];congr 1;omega
    ·rw[xD (by simp;omega),yW];congr 1;simp only[i8];omega
def B9{P:we}{K:wd->Prop}{w:wd}{v u:wc}{e:TypeId}{sz:Nat}{xs:List (List wc)}{k:IntKind}{j:Int}{f:Nat}(ho:BO w v e sz xs)(h0:0<=j){x:List wc}(hx:xs[j.toNat]?=vz x)(hf:f<sz)(hu1:u.oneCell'=v7)(huc:u.cells = #[u])(hk:∀w',BO w' v e sz (xs.set j.toNat (x.set f u))->Fr (BM v) w w'->w'.heap.size=w.heap.size->K w'):A6 sz v (vq k j) w λp w1=>Ab f p w1 λq w2=>Aj 1 q u w2 K:=by
 have hj:j.toNat<xs.length:=(xI.1 hx).1;have hrd:=ho.rd;obtain⟨⟨h2,h3⟩,h4⟩:=ho;have hxl:x.length=sz:=(h4 x (yN hx)).1;rcases h3 with⟨rfl,h3⟩|⟨g,cap,cur,rfl,hb,hh,h5,h6,h7,h8⟩
 ·omega
 ·simp only[Bo,Ah];have hle:(j.toNat+1)*sz<=cap*sz:=yP _ (by omega);have hle2:(j.toNat+1)*sz<=xs.length*sz:=yP _ hj;have hle3:xs.length*sz<=cap*sz:=yP _ h5;rw[u9]at hle hle2;refine⟨⟨h0,by omega⟩,Bq (n:=1) hh (by rw[huc];rfl) (λy hy=>by rw[huc]at hy;simp at hy;rw[hy];exact hu1) (by omega) λw' hu=>hk w' ?_ (hu.fr.mono (by simp[BM,wc.ownBlock])) hu.sz⟩;have huc':u.cells.toList=[u]:=by rw[huc]
  rw[huc',uy]at hu;have hcur:∀i,i<sz->cur.toList[j.toNat*sz+i]?=x[i]?:=λi hi=>by
   have:=Ep xs (λy hy=>(h4 y hy).1) j.toNat x hx i hi;rw[<-this, <-h8,yX,vn (by omega)]
  have e1:=RA (T:=cur.toList) (o:=j.toNat*sz) (u:=u) hxl hf (by rw[Array.length_toList];omega) hcur;rw[e1]at hu;have hyl:(x.set f u).length=sz:=by rw[i8];exact hxl
  have hsz:(CD cur.toList (j.toNat*sz) (x.set f u)).length=cur.toList.length:=E4 (by rw[hyl,Array.length_toList];omega);have ht:(cur.toList.take (xs.length*sz)).length=xs.length*sz:=List.length_take_of_le (by simp;omega);refine BO.of_block (n:=xs.length) hu.at_ (by simp) h5 (by unfold maxLen at h6;omega) (by rw[List.size_toArray,hsz];simpa using h7) (λy hy=>?_) ?_
  ·rcases xK hy with hy|rfl
   ·exact h4 y hy
   ·refine⟨hyl,λy hy=>?_⟩;rcases xK hy with hy|rfl
    ·exact (h4 x (yN hx)).2 y hy
    ·exact hu1
  ·rw[Gf hyl xs (λy hy=>(h4 y hy).1) _ hj, <-h8];show (CD cur.toList (j.toNat*sz) (x.set f u)).take (xs.length*sz)=CD (cur.toList.take (xs.length*sz)) (j.toNat*sz) (x.set f u);generalize hT:cur.toList.take (xs.length*sz)=T at *;have hc:cur.toList=T++cur.toList.drop (xs.length*sz):=by rw[<-hT];exact (yH _ _).symm
   rw[hc,Hr (by rw[hyl,ht];omega)];exact List.take_left' (by rw[E4 (by rw[hyl,ht];omega),ht])
def FU(th:List (Bool × List V2))(hs:List wc):List (List wc):=List.zipWith (λt h=>[vw t.1,h]) th hs
def GX{th:List (Bool × List V2)}{hs:List wc}(h:hs.length=th.length):(FU th hs).length=th.length:=by unfold FU;rw[List.length_zipWith];omega
def Lu{th:List (Bool × List V2)}{hs:List wc}{j:Nat}(h1:j<th.length)(h2:j<hs.length):(FU th hs)[j]?=vz [vw th[j].1,hs[j]]:=by unfold FU;rw[List.getElem?_zipWith,xO h1,xO h2]
def Vi{α β γ : Type}(f : α -> β -> γ)(th:List α)(hs:List β)(j:Nat)(t : α)(h : β):List.zipWith f (th.set j t) (hs.set j h)=(List.zipWith f th hs).set j (f t h):=by
 apply zF;intro i;simp only[List.getElem?_zipWith,zI,List.length_zipWith];by_cases e:j=i
 ·subst e;simp only[vj];by_cases h1:j<th.length<;>by_cases h2:j<hs.length
  ·rw[vn h1,vn h2,vn (by omega)]
  ·rw[vn h1,vm h2,vm (by omega)]
  ·rw[vm h1,vn h2,vm (by omega)]
  ·rw[vm h1,vm h2,vm (by omega)]
 ·simp only[e,vg]
def Lv{th:List (Bool × List V2)}{hs:List wc}(j:Nat)(t:Bool × List V2)(h:wc):FU (th.set j t) (hs.set j h)=(FU th hs).set j [vw t.1,h]:=Vi _ th hs j t h
def I7(th:List (Bool × List V2)):List (List (List wc)):=th.map λt=>Ck t.2
structure CE(lo:Nat)(w:wd)(cf:Cf)(p:Nat)(tv nv:wc)(hs ns:List wc)(g:BR):Prop where
 blk:w.heap[p]?=vz (wj (C9 cf++[tv,nv]).toArray 79 (0,0))
 th:BO w tv 83 2 (FU g.th hs)
 nd:BO w nv 56 1 (E5 ns)
 hf:ER w 60 2 hs (I7 g.th)
 nf:ER w 60 2 ns (g.nd.map Ck)
 dj:∀x∈CM hs,x∉CM ns
 ge:lo<=p/\(∀x∈BM tv,lo<=x)/\(∀x∈BM nv,lo<=x)/\(∀x∈CM hs,lo<=x)/\∀x∈CM ns,lo<=x
def DM(n:Nat)(v:V2):Prop:=v.1=2->0<=v.2/\v.2.toNat<n
structure C8(g:BR):Prop where
 th:∀r∈g.th,r.2.length<=16/\∀v∈r.2,DM g.nd.length v
 nd:∀l∈g.nd,l.length<=127/\∀v∈l,DM g.nd.length v
 ne:1<=g.nd.length
section
variable{K:VK}{w:wd}{cf:Cf}{lo p:Nat}{tv nv:wc}{hs ns:List wc}{g:BR}
def CE.lens(h:CE lo w cf p tv nv hs ns g):hs.length=g.th.length/\ns.length=g.nd.length:=by have h1:=h.hf.len;have h2:=h.nf.len;unfold I7 at h1;rw[i6]at h1 h2;exact⟨h1,h2⟩
def CE.keep0{w':wd}(h:CE lo w cf p tv nv hs ns g)(hf:Fr [] w w'):CE lo w' cf p tv nv hs ns g:=
 ⟨hf.at_ h.blk (by simp),h.th.keep hf (by simp),h.nd.keep hf (by simp),h.hf.keep hf (by simp),h.nf.keep hf (by simp),h.dj,h.ge⟩
def CE.s10(h:CE lo w cf p tv nv hs ns g){w1:wd}(hk:K tv w1):Al (λw'=>Fr [] w w') (vr (vz ⟨p,0+10,v6⟩)) w1 K:=
 Aq (λw' hw=>⟨_,_,_,(h.keep0 hw).blk,by simp[C9]⟩) hk
def CE.s11(h:CE lo w cf p tv nv hs ns g){w1:wd}(hk:K nv w1):Al (λw'=>Fr [] w w') (vr (vz ⟨p,0+11,v6⟩)) w1 K:=
 Aq (λw' hw=>⟨_,_,_,(h.keep0 hw).blk,by simp[C9]⟩) hk
def CE.l10(h:CE lo w cf p tv nv hs ns g)(hk:K tv w):Ad (vr (vz ⟨p,0+10,v6⟩)) w K:=
 Ac h.blk (by simp[C9]) hk
def CE.l11(h:CE lo w cf p tv nv hs ns g)(hk:K nv w):Ad (vr (vz ⟨p,0+11,v6⟩)) w K:=
 Ac h.blk (by simp[C9]) hk
def CE.idxT(h:CE lo w cf p tv nv hs ns g){w1:wd}(hf:Fr [] w w1){t:Nat}(ht:t<g.th.length)(ht':t<hs.length)(hk:∀b o,(∀w',Fr [] w w'->∃cs e fz,w'.heap[b]?=vz (wj cs e fz)/\cs[o]?=vz (vw g.th[t].1)/\cs[o+1]?=vz hs[t])->K (vr (vz ⟨b,o,v6⟩)) w1):A6 2 tv (vq vy (t:Int)) w1 K:=by refine AV (S:=λw'=>Fr [] w w') (λw' hw=>(h.keep0 hw).th.rd) hf (by omega) (by rw[zE];exact Lu ht ht') λb o hl hsr=>hk b o λw' hw=>?_;obtain⟨cs,e,fz,a,c⟩:=hsr w' hw;exact⟨cs,e,fz,a,by simpa using c 0 (by decide),by simpa using c 1 (by decide)⟩
def CE.idxN(h:CE lo w cf p tv nv hs ns g){w1:wd}(hf:Fr [] w w1){n:Int}(h0:0<=n)(hn:n.toNat<ns.length)(hk:∀b o,(∀w',Fr [] w w'->∃cs e fz,w'.heap[b]?=vz (wj cs e fz)/\cs[o]?=vz ns[n.toNat])->K (vr (vz ⟨b,o,v6⟩)) w1):A6 1 nv (vq vy n) w1 K:=by refine AV (S:=λw'=>Fr [] w w') (λw' hw=>(h.keep0 hw).nd.rd) hf h0 (HU hn) λb o hl hsr=>hk b o λw' hw=>?_;obtain⟨cs,e,fz,a,c⟩:=hsr w' hw;exact⟨cs,e,fz,a,by simpa using c 0 (by decide)⟩
def CE.heldO(h:CE lo w cf p tv nv hs ns g){t:Nat}(ht:t<g.th.length)(ht':t<hs.length):BO w hs[t] 60 2 (Ck g.th[t].2):=by have:=h.hf.row t ht' (by unfold I7;simpa using ht);simpa[I7] using this
def CE.nodeO(h:CE lo w cf p tv nv hs ns g){n:Nat}(hn:n<g.nd.length)(hn':n<ns.length):BO w ns[n] 60 2 (Ck g.nd[n]):=by have:=h.nf.row n hn' (by simpa using hn);simpa using this
def BR.held_eq{t:Nat}(ht:t<g.th.length):g.held (t:Int)=g.th[t].2:=by unfold BR.held;rw[zE,xC,xO ht];rfl
def BR.live_eq{t:Nat}(ht:t<g.th.length):g.live (t:Int)=g.th[t].1:=by unfold BR.live;rw[zE,xC,xO ht];rfl
def BR.node_eq{n:Int}(hn:n.toNat<g.nd.length):g.node n=g.nd[n.toNat]:=by unfold BR.node;rw[xC,xO hn];rfl
end
end
end Go.Proofs.QV
