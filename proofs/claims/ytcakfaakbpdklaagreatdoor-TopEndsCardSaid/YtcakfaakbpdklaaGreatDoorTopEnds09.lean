/- Part 9 of what the law needs: own lemmas, in the order in which they build. -/
import Derived.Shelf.SortM.Plain
import Derived.Sort.OwnSortedInts
import Derived.Test.YtcakfaakbpdklaaGreatDoorProg
import Derived.Test.YtcakfaakbpdklaaGreatDoorTopEnds08
set_option linter.defProp false
set_option linter.unusedSimpArgs false
set_option linter.unusedVariables false
set_option maxRecDepth 100000
namespace Go.Proofs.QV
open Go Go.Proofs Go.Proofs.Tryz
open Go.Proofs.Tryz renaming prog->Z
open Go.IntKind renaming i64->wg
open Go.Value renaming int->v6,pointer->v7,slice->v8,bool->wd,agg->we
open Option renaming some->wh
open Option renaming none->wj
open Bool renaming true->wk
open Bool renaming false->wl
open Go renaming Value->wm
open Go renaming World->wn
open Or renaming inr->ws
open Go.Obj renaming cells->wt
section
open Go.RowKit
def mks:List Int:=[0,1,1,49,33,1,1,3,1,7,15,11,3,33,1,49,32,0]
def G8(s:Cd):wm:=we #[v6 wg s.t,v6 wg s.i,v6 wg s.f,v6 wg s.j,v6 wg s.cost]
section
variable{K:VK}{w:wn}
def XE(s:Cd){i:Nat}(hi:i<5):(Instr.index 158 (G8 s) (v6 wg (i:Int))).run Z w=.ok (v6 wg (s.small.getD i 0)) w:=by
 have:i=0∨i=1∨i=2∨i=3∨i=4:=by omega
 rcases this with h|h|h|h|h<;>subst h
 ·show (Instr.index 158 (G8 s) (v6 wg 0)).run Z w=.ok (v6 wg s.t) w;kernel_rfl
 ·show (Instr.index 158 (G8 s) (v6 wg 1)).run Z w=.ok (v6 wg s.i) w;kernel_rfl
 ·show (Instr.index 158 (G8 s) (v6 wg 2)).run Z w=.ok (v6 wg s.f) w;kernel_rfl
 ·show (Instr.index 158 (G8 s) (v6 wg 3)).run Z w=.ok (v6 wg s.j) w;kernel_rfl
 ·show (Instr.index 158 (G8 s) (v6 wg 4)).run Z w=.ok (v6 wg s.cost) w;kernel_rfl
def KY{k:Int}(h1:1<=k)(h2:k<=17):k=1∨k=2∨k=3∨k=4∨k=5∨k=6∨k=7∨k=8∨k=9∨k=10∨k=11∨k=12∨k=13∨k=14∨k=15∨k=16∨k=17:=by omega
def Y6{k:Int}(h1:1<=k)(h2:k<=17):(Instr.index 213 (we #[v6 wg 0,v6 wg 1,v6 wg 1,v6 wg 49,v6 wg 33,v6 wg 1,v6 wg 1,v6 wg 3,v6 wg 1,v6 wg 7,v6 wg 15,v6 wg 11,v6 wg 3,v6 wg 33,v6 wg 1,v6 wg 49,v6 wg 32,v6 wg 0]) (v6 wg k)).run Z w=.ok (v6 wg (mks.getD k.toNat 0)) w:=by rcases KY h1 h2 with h|h|h|h|h|h|h|h|h|h|h|h|h|h|h|h|h<;>subst h<;>kernel_rfl
def Rx{k:Int}(h1:1<=k)(h2:k<=17)(h:K (v6 wg (mks.getD k.toNat 0)) w):I Z 96 #[v6 wg k] w K:=by refine F96.sh (A4 (w':=w) (v:=we #[v6 wg 0,v6 wg 1,v6 wg 1,v6 wg 49,v6 wg 33,v6 wg 1,v6 wg 1,v6 wg 3,v6 wg 1,v6 wg 7,v6 wg 15,v6 wg 11,v6 wg 3,v6 wg 33,v6 wg 1,v6 wg 49,v6 wg 32,v6 wg 0]) (by kernel_rfl) (A4 (Y6 h1 h2) h))
def YT{k:Int}(h1:1<=k)(h2:k<=17){i:Nat}(hi:i<5)(x y x' y':Operand):∃a b:Int,(∀w,(do eqGuard .shr 3 x y (v6 wg (mks.getD k.toNat 0)) (v6 wg (i:Int));binOp .shr 3 (v6 wg (mks.getD k.toNat 0)) (v6 wg (i:Int)):Sem wm).run Z w=.ok (v6 wg a) w)/\
  (∀w,(do eqGuard .and 3 x' y' (v6 wg a) (v6 wg 1);binOp .and 3 (v6 wg a) (v6 wg 1):Sem wm).run Z w=.ok (v6 wg b) w)/\(b=0↔(CP k).getD i wl=wl):=by
 have sh:∀(m:Int) (j:Nat),j<5->∀w,(do eqGuard .shr 3 x y (v6 wg m) (v6 wg (j:Int));binOp .shr 3 (v6 wg m) (v6 wg (j:Int)):Sem wm).run Z w=.ok (v6 wg (m / 2 ^ j)) w:=λm j hj w=>by
  simp only[vf,Cx,zT];show (Op.shift .shr wg m wg j).run Z w=_;have a1:¬((j:Int)<0):=by omega
  have a2:min (j:Int).toNat 64=j:=by omega
  simp[]
 refine⟨_,_,sh _ i hi,λw=>NR _ _ _,?_⟩;rcases KY h1 h2 with h|h|h|h|h|h|h|h|h|h|h|h|h|h|h|h|h<;>subst h<;>(match i,hi with
  | 0,_=>decide
  | 1,_=>decide
  | 2,_=>decide
  | 3,_=>decide
  | 4,_=>decide)
def PH{s:Cd}(h:∀w',Fr [] w w'->K (G8 s) w'):I Z 97 #[CN s] w K:=by
 refine F97.sh (Ar λy w1 hn1=>Ar λr w2 hn2=>?_);have l1:=hn1.is;have l2:=hn2.is;have s1:=hn1.fr.size;have y2:=hn2.fr.at_ hn1.at_ (by simp)
 try simp only[zv]
 refine Ad (v:=v6 wg s.t) y2 rfl ?_;refine Ad (v:=v6 wg s.i) y2 rfl ?_;refine Ad (v:=v6 wg s.f) y2 rfl ?_;refine Ad (v:=v6 wg s.j) y2 rfl ?_;refine Ad (v:=v6 wg s.cost) y2 rfl (A4 (w':=w2) (v:=G8 s) (by kernel_rfl) ?_);refine AA (x:=G8 s) hn2.at_ rfl (by simp[G8,wm.cells,wm.oneCell']) rfl λw3 hu=>A3 hu.at_ rfl (h w3 ((hn1.fr.trans hn2.fr).then hu.fr (by simp;omega)))
def JT(s:Cd):s.small.length=5:=rfl
def TC{s:Cd}{y:Nat}{m:wm}(h1:s.small.any (λn=>decide (n<0) || decide (255<n))=wk->K (v6 wg 4) w)(h2:s.small.any (λn=>decide (n<0) || decide (255<n))=wl->F55.k10 K (v7 (wh ⟨y,0,wj⟩)) m w):
  ∀(d i:Nat),i+d=5->(s.small.take i).any (λn=>decide (n<0) || decide (255<n))=wl->F55.l5 K (v7 (wh ⟨y,0,wj⟩)) m (G8 s) (v6 wg (i:Int)) w:=by
 intro d;induction d with
 | zero=>
  intro i hi hz;have e:i=5:=by omega
  subst e;refine F55.l5.to ?_;simp only[zv,show ¬(((5:Nat):Int)<5) by omega];exact h2 (by simpa[yB (show s.small.length<=5 from vl _)] using hz)
 | succ d ih=>
  intro i hi hz;have hlt:i<s.small.length:=by rw[JT];omega
  have e1:s.small.take (i+1)=s.small.take i++[s.small[i]]:=by rw[zR,xS hlt];rfl
  have eg:s.small.getD i 0=s.small[i]:=by simp[List.getD,hlt]
  refine F55.l5.to ?_;simp only[zv,show (i:Int)<5 by omega];refine F55.k6.to (A4 (XE s (by omega)) ?_);rw[eg];have bad:(s.small[i]<0∨255<s.small[i])->K (v6 wg 4) w:=λhb=>h1 (List.any_eq_true.2 ⟨_,d7 hlt,by simpa using hb⟩);by_cases c1:s.small[i]<0
  ·simp only[zv,c1];exact bad (.inl c1)
  ·by_cases c2:s.small[i]>255
   ·simp only[zv,c1,c2];exact bad (ws c2)
   ·simp only[zv,c1,c2];refine F55.k9.to ?_
    try simp only[A7]
    rw[BO (n:=(i:Int)+1) (by omega)];refine ih (i+1) (by omega) ?_;rw[e1,List.any_append,hz];simp;omega
def T5{s:Cd}{y:Nat}(hk1:1<=s.kd)(hk2:s.kd<=17)(h1:(s.small.zip (CP s.kd)).any (λy=>decide (y.1≠0) && !y.2)=wk->K (v6 wg 16) w)(h2:(s.small.zip (CP s.kd)).any (λy=>decide (y.1≠0) && !y.2)=wl->F55.k16 K (v7 (wh ⟨y,0,wj⟩)) (v6 wg (mks.getD s.kd.toNat 0)) w):
  ∀(d i:Nat),i+d=5->((s.small.zip (CP s.kd)).take i).any (λy=>decide (y.1≠0) && !y.2)=wl->F55.l11 K (v7 (wh ⟨y,0,wj⟩)) (v6 wg (mks.getD s.kd.toNat 0)) (G8 s) (v6 wg (i:Int)) w:=by
 have kl:(CP s.kd).length=6:=by
  unfold CP
  repeat' split
  all_goals rfl
 have zl:(s.small.zip (CP s.kd)).length=5:=by rw[List.length_zip,JT,kl];rfl
 intro d;induction d with
 | zero=>
  intro i hi hz;have e:i=5:=by omega
  subst e;refine F55.l11.to ?_;simp only[zv,show ¬(((5:Nat):Int)<5) by omega];exact h2 (by rw[yB (by omega)]at hz;exact hz)
 | succ d ih=>
  intro i hi hz;have hlt:i<s.small.length:=by rw[JT];omega
  have hlk:i<(CP s.kd).length:=by omega
  have hlz:i<(s.small.zip (CP s.kd)).length:=by omega
  have ez:(s.small.zip (CP s.kd))[i]=(s.small[i],(CP s.kd)[i]):=by simp
  have e1:(s.small.zip (CP s.kd)).take (i+1)=(s.small.zip (CP s.kd)).take i++[(s.small[i],(CP s.kd)[i])]:=by rw[zR,xS hlz,ez];rfl
  have eg:s.small.getD i 0=s.small[i]:=by simp[List.getD,hlt]
  have ek:(CP s.kd).getD i wl=(CP s.kd)[i]:=by simp[List.getD,hlk]
  refine F55.l11.to ?_;simp only[zv,show (i:Int)<5 by omega];refine F55.k12.to (A4 (XE s (by omega)) ?_);rw[eg];have next:(decide (s.small[i]≠0) && !(CP s.kd)[i])=wl->F55.k15 K (v7 (wh ⟨y,0,wj⟩)) (v6 wg (mks.getD s.kd.toNat 0)) (G8 s) (v6 wg (i:Int)) w:=λhb=>by
   refine F55.k15.to ?_
   try simp only[A7]
   rw[BO (n:=(i:Int)+1) (by omega)];refine ih (i+1) (by omega) ?_;rw[e1,List.any_append,hz];simpa using hb
  by_cases c1:s.small[i]=0
  ·simp only[zv,vw,c1,vz,zW];exact next (by simp[c1])
  ·simp only[zv,c1,vz,zX];obtain⟨a,b,q1,q2,q3⟩:=YT hk1 hk2 (i:=i) (by omega) (.tmp 40) (.tmp 41) (.tmp 42) (.const (v6 wg 1));refine⟨_,q1 w,?_⟩;refine⟨_,q2 w,?_⟩
   try simp only[Ay]
   rw[ek]at q3;by_cases c2:b=0
   ·simp only[zv,vw,c2];exact h1 (List.any_eq_true.2 ⟨_,d7 hlz,by rw[ez];simp[c1,q3.1 c2]⟩)
   ·simp only[zv,c2];refine next ?_
    cases hh:(CP s.kd)[i] with
    | true=>simp
    | false=>exact absurd (q3.2 hh) c2
def Y1{k:Int}(h1:1<=k)(h2:k<=17)(x y:Operand):∃b:Int,(∀w,(do eqGuard .and 3 x y (v6 wg (mks.getD k.toNat 0)) (v6 wg 32);binOp .and 3 (v6 wg (mks.getD k.toNat 0)) (v6 wg 32):Sem wm).run Z w=.ok (v6 wg b) w)/\(b=0↔(CP k).getD 5 wl=wl):=by
 have go:∀(m b:Int),(Op.intBits .and wg m 32:Sem wm)=pure (v6 wg b)->∀w,(do eqGuard .and 3 x y (v6 wg m) (v6 wg 32);binOp .and 3 (v6 wg m) (v6 wg 32):Sem wm).run Z w=.ok (v6 wg b) w:=λm b hb w=>by
  simp only[vf,Cx,zT];show (Op.intBits .and wg m 32).run Z w=_;rw[hb];rfl
 rcases KY h1 h2 with h|h|h|h|h|h|h|h|h|h|h|h|h|h|h|h|h<;>subst h<;>first|exact⟨32,go _ _ (by rfl),by decide⟩|exact⟨0,go _ _ (by rfl),by decide⟩
def Vl{s:Cd}(hk:∀w',Fr [] w w'->K (v6 wg s.check) w'):I Z 55 #[CN s] w K:=by
 refine F55.sh (Ar λy w1 hn1=>?_);have l1:=hn1.is;have y1:=hn1.at_;unfold Cd.check at hk
 try simp only[zv]
 refine Ad (v:=v6 wg s.kd) y1 rfl ?_;by_cases c1:s.kd<1
 ·simp only[zv,c1];rw[vy (.inl c1)]at hk;exact hk w1 hn1.fr
 simp only[zv,c1];refine Ad (v:=v6 wg s.kd) y1 rfl ?_;by_cases c2:s.kd>17
 ·simp only[zv,c2];rw[vy (ws c2)]at hk;exact hk w1 hn1.fr
 simp only[zv,c2];rw[vx (show ¬(s.kd<1∨17<s.kd) by omega)]at hk;have k1:1<=s.kd:=by omega
 have k2:s.kd<=17:=by omega
 refine F55.k3.to ?_
 try simp only[zv]
 refine Ad (v:=v6 wg s.kd) y1 rfl (Rx k1 k2 (A3 y1 rfl (PH (s:=s) λw2 hf2=>?_)));have f2:=hn1.fr.trans hf2;have y2:=hf2.at_ y1 (by simp);refine TC (s:=s) (λhb=>?_) (λhb=>?_) 5 0 (by omega) (by simp)
 ·rw[vy hb]at hk;exact hk w2 f2
 rw[vx (by rw[hb];simp)]at hk;refine F55.k10.to (A3 y2 rfl (PH (s:=s) λw3 hf3=>?_));have f3:=f2.trans hf3;have y3:=hf3.at_ y2 (by simp);refine T5 (s:=s) k1 k2 (λhc=>?_) (λhc=>?_) 5 0 (by omega) (by simp)
 ·rw[vy hc]at hk;exact hk w3 f3
 rw[vx (by rw[hc];simp)]at hk;refine F55.k16.to ?_
 try simp only[zv]
 refine Ad (v:=v6 wg s.n) y3 rfl ?_;by_cases c3:s.n=0
 ·rw[vx (λe=>e.1 c3)]at hk;simp only[zv,vw,c3,vz,zW];exact F55.k18.to (hk w3 f3)
 ·simp only[zv,c3,vz,zX];obtain⟨b,q1,q2⟩:=Y1 k1 k2 (.tmp 51) (.const (v6 wg 32));refine⟨_,q1 w3,?_⟩
  try simp only[Ay]
  by_cases c4:b=0
  ·rw[vy ⟨c3,q2.1 c4⟩]at hk;simp only[zv,vw,c4];exact hk w3 f3
  ·rw[vx (λe=>c4 (q2.2 e.2))]at hk;simp only[zv,c4];exact F55.k18.to (hk w3 f3)
end
section
variable{K:VK}{w w':wn}{A:Ci}{g:Gw}{cf:Cf}{B:Int}{x:Ma}
def QC(c:Co)(t:Int):(c.attach t).r.l.length=c.r.l.length:=by unfold Co.attach Rg.attach;split<;>simp
def QM(cf:Cf)(c:Co)(t:Int):(c.detach cf t).r.l.length=c.r.l.length:=by
 unfold Co.detach;split
 ·show (Co.advance cf 4 _).r.l.length=_;rw[Mp];unfold Rg.detach;split<;>simp
 ·rfl
def U7(cf:Cf)(c:Co)(t:Int):(c.poll cf t).r.l.length=c.r.l.length:=by
 have cl:(c.r.confirm t).1.l.length=c.r.l.length:=by unfold Rg.confirm;split<;>simp
 unfold Co.poll;split
 ·show (Co.advance cf 4 _).r.l.length=_;rw[Mp];simp only;split
  ·exact cl
  ·split
   ·exact cl
   ·exact cl
 ·rfl
def YC(c:Co)(t:Int):(c.pop t).1.r=c.r:=by
 unfold Co.pop;split
 ·split<;>rfl
 ·rfl
def YP{s:Cd}(h:BS A g cf B w x)(hB:B<=1000000000000)(hi:0<=s.i)(hj:0<=s.j)(hth:s.kd=16∨s.kd=17∨∃t:Nat,s.t=(t:Int)/\t<cf.threads.toNat)(hk:∀g' w',BU A cf.threads.toNat g w g' w'->BS A g' cf (B+64) w' (x.doS cf s).1->K (C6 (x.doS cf s).2) w'):
  I Z 57 #[v7 (wh ⟨A.ma,0,wj⟩),CN s] w K:=by
 have up:∀ {g':Gw} {w':wn} {x':Ma},BS A g' cf B w' x'->BS A g' cf (B+64) w' x':=λh=>h.mono (by omega);refine F57.sh (Ar λy w1 hn1=>Ar λr w2 hn2=>?_);have l1:=hn1.is;have l2:=hn2.is;have s1:=hn1.fr.size;have lr:=BP hn2.at_;have f2:=hn1.fr.trans hn2.fr;have h2:=h.keep0 f2;have e2:EJ w2 y r s:=⟨hn2.fr.at_ hn1.at_ (by simp),_,hn2.at_,rfl⟩;have yl2:Db A cf.threads.toNat g y w2:=h.loc (by omega) (BP e2.y)
 have rl2:Db A cf.threads.toNat g r w2:=h.loc (by omega) lr;have S2:∀w',Fr [] w2 w'->w'.heap[A.ma]?=wh (Er A cf)/\w'.heap[y]?=wh (wt (CN s).cells 40 (0,0)):=λw' hf=>⟨hf.at_ h2.blk (by simp),hf.at_ e2.y (by simp)⟩;unfold Ma.doS at hk
 have put:∀(a:Ch) g3 w3 (x3:Ma),BU A cf.threads.toNat g w2 g3 w3->BS A g3 cf (B+64) w3 x3->(∀g' w',BU A cf.threads.toNat g w g' w'->BS A g' cf (B+64) w' x3->K (C6 a) w')->Aj 5 (v7 (wh ⟨r,0,wj⟩)) (C6 a) w3 λw4=>Ak 5 (v7 (wh ⟨r,0,wj⟩)) w4 λr _=>K r w4:=λa g3 w3 x3 t3 h3 hk=>by
  have e3:=e2.to t3 yl2 rl2;obtain⟨cr,r3,rs3⟩:=e3.r;exact Ex (a:=a) ((BU.w f2).trans t3) h3 (rl2.step t3) (by omega) r3 rs3 λw' ht' h'=>hk _ w' ht' h'
 have okEnd:∀g3 w3 (x3:Ma),BU A cf.threads.toNat g w2 g3 w3->BS A g3 cf (B+64) w3 x3->(∀g' w',BU A cf.threads.toNat g w g' w'->BS A g' cf (B+64) w' x3->K (C6 Ch.ok) w')->F57.k27 K (v7 (wh ⟨r,0,wj⟩)) w3:=λg3 w3 x3 t3 h3 hk=>F57.k27.to (A4 Kf (put Ch.ok g3 w3 x3 t3 h3 hk));have th:s.kd≠16->s.kd≠17->∃t:Nat,s.t=(t:Int)/\t<cf.threads.toNat:=λa b=>by
  rcases hth with e|e|e
  ·exact absurd e a
  ·exact absurd e b
  ·exact e
 try simp only[zv]
 refine Ad (v:=v6 wg s.kd) e2.y rfl ?_;by_cases k1:s.kd=1
 ·rw[vy k1]at hk;simp only[zv,vw,k1];refine A9 (λw'=>w'.heap[A.ma]?=wh (Er A cf)/\w'.heap[y]?=wh (wt (CN s).cells 40 (0,0))) λw3 hf3 _=>⟨S2 w3 hf3,?_⟩;have h3:=h2.keep0 hf3;refine Au (v:=v7 (wh ⟨A.Q.co,0,wj⟩)) (λw' hw=>⟨_,_,_,hw.1,rfl⟩) (Au (v:=v6 wg s.t) (λw' hw=>⟨_,_,_,hw.2,rfl⟩) ⟨Tw h3.co λw4 ht4 h4=>?_,trivial⟩);have h4':=h3.setC ht4 h4 (QC _ _)
  have t4:BU A cf.threads.toNat g w3 _ w4:=BU.c ht4;exact⟨⟨h4'.blk,(yl2.fr hf3).at_ t4 (S2 w3 hf3).2⟩,okEnd _ w4 _ ((BU.w hf3).trans t4) (up h4') hk⟩
 rw[vx k1]at hk;simp only[zv,k1];by_cases k2:s.kd=2
 ·rw[vy k2]at hk;simp only[zv,vw,k2];refine A9 (λw'=>w'.heap[A.ma]?=wh (Er A cf)/\w'.heap[y]?=wh (wt (CN s).cells 40 (0,0))) λw3 hf3 _=>⟨S2 w3 hf3,?_⟩;have h3:=h2.keep0 hf3;refine Au (v:=v7 (wh ⟨A.Q.co,0,wj⟩)) (λw' hw=>⟨_,_,_,hw.1,rfl⟩) (Au (v:=v6 wg s.t) (λw' hw=>⟨_,_,_,hw.2,rfl⟩) ⟨T1 h3.co λm' w4 ht4 h4=>?_,trivial⟩);have h4':=h3.setC ht4 h4 (QM _ _ _)
  have t4:BU A cf.threads.toNat g w3 { g with m:=m' } w4:=BU.c ht4;exact⟨⟨h4'.blk,(yl2.fr hf3).at_ t4 (S2 w3 hf3).2⟩,okEnd _ w4 _ ((BU.w hf3).trans t4) (up h4') hk⟩
 rw[vx k2]at hk;simp only[zv,k2];by_cases k3:s.kd=3
 ·rw[vy k3]at hk;simp only[zv,vw,k3];obtain⟨t,et,ht⟩:=th (by omega) (by omega);exact A3 e2.y rfl (Vi (s:=s) (t:=t) h2 hB et ht λg3 w3 t3 h3=>put _ g3 w3 _ t3 (up h3) hk)
 rw[vx k3]at hk;simp only[zv,k3];have psh:(s.kd=4∨s.kd=5∨s.kd=6∨s.kd=7∨s.kd=9)->Ak 7 (v7 (wh ⟨y,0,wj⟩)) w2 λx42 w27=>I Z 101 #[v7 (wh ⟨A.ma,0,wj⟩),x42] w27 λx43 w28=>Aj 5 (v7 (wh ⟨r,0,wj⟩)) x43 w28 λw29=>Ak 5 (v7 (wh ⟨r,0,wj⟩)) w29 λr30 _=>K r30 w29:=λhp=>by
  rw[vy hp]at hk;exact A3 e2.y rfl (V8 (s:=s) h2 hi λg3 w3 t3 h3=>put _ g3 w3 _ t3 (up h3) hk)
 by_cases k4:s.kd=4
 ·simp only[zv,vw,k4];exact psh (by omega)
 simp only[zv,k4];by_cases k5:s.kd=5
 ·simp only[zv,vw,k5];exact psh (by omega)
 simp only[zv,k5];by_cases k6:s.kd=6
 ·simp only[zv,vw,k6];exact psh (by omega)
 simp only[zv,k6];by_cases k7:s.kd=7
 ·simp only[zv,vw,k7];exact psh (by omega)
 simp only[zv,k7];by_cases k9:s.kd=9
 ·simp only[zv,vw,k9];exact psh (by omega)
 rw[vx (by omega)]at hk;simp only[zv,k9];by_cases k8:s.kd=8
 ·rw[vy k8]at hk;simp only[zv,vw,k8];refine A9 (λw'=>w'.heap[A.ma]?=wh (Er A cf)/\w'.heap[y]?=wh (wt (CN s).cells 40 (0,0))) λw3 hf3 _=>⟨S2 w3 hf3,?_⟩;have h3:=h2.keep0 hf3;have e3:=e2.fr hf3;have yl3:=yl2.fr hf3;have rl3:=rl2.fr hf3;have fin:∀(b:Bool) (v:V2) z g4 w4 (x4:Ma),BU A cf.threads.toNat g w3 g4 w4->BS A g4 cf B w4 x4->w4.heap[z]?=wh (wt (V v.1 v.2).cells 60 (0,0))->
    (b=wl->∀g' w',BU A cf.threads.toNat g w g' w'->BS A g' cf (B+64) w' x4->K (C6 (Ch.err 4)) w')->(b=wk->∀g' w',BU A cf.threads.toNat g w g' w'->BS A g' cf (B+64) w' x4->K (C6 ⟨0,(x4.told v).1,(x4.told v).2,0,0⟩) w')->
    F57.k17 K (v7 (wh ⟨A.ma,0,wj⟩)) (v7 (wh ⟨r,0,wj⟩)) (v7 (wh ⟨z,0,wj⟩)) (wd b) w4:=λb v z g4 w4 x4 t4 h4 hz hk0 hk1=>by
   have e4:=e3.to t4 yl3 rl3;obtain⟨cr,r4,rs4⟩:=e4.r;refine F57.k17.to ?_;cases b with
   | false=>
    simp only[zv];exact EM (e:=4) (((BU.w f2).trans (BU.w hf3)).trans t4) h4 (rl3.step t4) (by omega) r4 rs4 λw' ht' h'=>hk0 rfl _ w' ht' (up h')
   | true=>
    simp only[zv];refine F57.k19.to (A3 hz rfl (Ly (v:=v) h4 λw5 hf5=>?_));exact put _ g4 w5 x4 (((BU.w hf3).trans t4).trans (BU.w hf5)) (up (h4.keep0 hf5)) (hk1 rfl)
  have okr:∀(c':Co) (o:Option V2),x.co.pop s.t=(c',o)->c'.r.l.length=x.co.r.l.length:=λc' o e=>by have:=YC x.co s.t;rw[e]at this;simp only at this;rw[this]
  refine Au (v:=v7 (wh ⟨A.Q.co,0,wj⟩)) (λw' hw=>⟨_,_,_,hw.1,rfl⟩) (Au (v:=v6 wg s.t) (λw' hw=>⟨_,_,_,hw.2,rfl⟩) ⟨UY h3.co λm' w4 ht4 h4=>?_,Ar λz w4 hn4=>?_,trivial⟩)
  ·have h4':=h3.setC ht4 h4 (okr _ _ rfl);have t4:BU A cf.threads.toNat g w3 { g with m:=m' } w4:=BU.c ht4;have y4:=yl3.at_ t4 e3.y;refine⟨⟨h4'.blk,y4⟩,?_⟩;cases ep:x.co.pop s.t with
   | mk c' o=>
    rw[ep]at hk h4';cases o with
    | none=>
     have e0:c'=x.co:=by
      unfold Co.pop at ep;split at ep
      ·split at ep
       ·simp at ep
       ·simp only[uz]at ep;exact ep.1.symm
      ·simp only[uz]at ep;exact ep.1.symm
     subst e0;simp only at hk
     try simp only[zv]
     refine⟨Ar λz w5 hn5=>⟨⟨hn5.fr.at_ h4'.blk (by simp),hn5.fr.at_ y4 (by simp)⟩,AA (x:=V 0 0) hn5.at_ rfl Cc rfl λw6 hu6=>?_,trivial⟩,trivial⟩;have l5:=hn5.is;have f46:Fr [] w4 w6:=hn5.fr.then hu6.fr (by simp;omega);have h6:=h4'.keep0 f46;exact⟨⟨h6.blk,f46.at_ y4 (by simp)⟩,fin wl (0,0) z _ w6 _ (t4.trans (BU.w f46)) h6 hu6.at_ (λ_=>hk) (λe=>by cases e)⟩
    | some v=>
     simp only at hk
     try simp only[zv]
     refine⟨Ar λz w5 hn5=>⟨⟨hn5.fr.at_ h4'.blk (by simp),hn5.fr.at_ y4 (by simp)⟩,AA (x:=V v.1 v.2) hn5.at_ rfl Cc rfl λw6 hu6=>?_,trivial⟩,trivial⟩;have l5:=hn5.is;have f46:Fr [] w4 w6:=hn5.fr.then hu6.fr (by simp;omega);have h6:=h4'.keep0 f46;exact⟨⟨h6.blk,f46.at_ y4 (by simp)⟩,fin wk v z _ w6 _ (t4.trans (BU.w f46)) h6 hu6.at_ (λe=>by cases e) (λ_=>hk)⟩
  ·have l4:=hn4.is;have s3:=hf3.size;have s2:=f2.size;have h4:=h3.keep0 hn4.fr;have y4:=hn4.fr.at_ e3.y (by simp);have zl4:Db A cf.threads.toNat g z w4:=h3.loc (by omega) (BP hn4.at_);refine⟨⟨h4.blk,y4⟩,UY h4.co λm' w5 ht5 h5=>?_,trivial⟩;have h5':=h4.setC ht5 h5 (okr _ _ rfl);have t5:BU A cf.threads.toNat g w4 { g with m:=m' } w5:=BU.c ht5;have y5:=(yl3.fr hn4.fr).at_ t5 y4;have z5:=zl4.at_ t5 hn4.at_
   have zl5:=zl4.step t5;have hzy:z≠y:=by have:=yl3.lt;omega
   have hza:z≠A.ma:=by have:=BP h3.blk;omega
   refine⟨⟨h5'.blk,y5⟩,?_⟩;cases ep:x.co.pop s.t with
   | mk c' o=>
    rw[ep]at hk h5';cases o with
    | none=>
     have e0:c'=x.co:=by
      unfold Co.pop at ep;split at ep
      ·split at ep
       ·simp at ep
       ·simp only[uz]at ep;exact ep.1.symm
      ·simp only[uz]at ep;exact ep.1.symm
     subst e0;simp only at hk
     try simp only[zv]
     refine⟨AA (x:=V 0 0) z5 rfl Cc rfl λw6 hu6=>?_,trivial⟩;have h6:=h5'.keepL hu6.fr zl5;exact⟨⟨h6.blk,hu6.fr.at_ y5 (by simpa using vv hzy)⟩,fin wl (0,0) z _ w6 _ (((BU.w hn4.fr).trans t5).then hu6.fr (by simp;omega)) h6 hu6.at_ (λ_=>hk) (λe=>by cases e)⟩
    | some v=>
     simp only at hk
     try simp only[zv]
     refine⟨AA (x:=V v.1 v.2) z5 rfl Cc rfl λw6 hu6=>?_,trivial⟩;have h6:=h5'.keepL hu6.fr zl5;exact⟨⟨h6.blk,hu6.fr.at_ y5 (by simpa using vv hzy)⟩,fin wk v z _ w6 _ (((BU.w hn4.fr).trans t5).then hu6.fr (by simp;omega)) h6 hu6.at_ (λe=>by cases e) (λ_=>hk)⟩
 rw[vx k8]at hk;simp only[zv,k8];by_cases k10:s.kd=10
 ·rw[vy k10]at hk;simp only[zv,vw,k10];exact A3 e2.y rfl (TH (s:=s) h2 hi hj λg3 w3 t3 h3=>put _ g3 w3 _ t3 (up h3) hk)
 rw[vx k10]at hk;simp only[zv,k10];have asks:(s.kd=11∨s.kd=12)->Ak 7 (v7 (wh ⟨y,0,wj⟩)) w2 λx42 w27=>I Z 104 #[v7 (wh ⟨A.ma,0,wj⟩),x42] w27 λx43 w28=>Aj 5 (v7 (wh ⟨r,0,wj⟩)) x43 w28 λw29=>Ak 5 (v7 (wh ⟨r,0,wj⟩)) w29 λr30 _=>K r30 w29:=λhp=>by
  rw[vy hp]at hk;exact A3 e2.y rfl (Yk (s:=s) h2 hp hi hj λw3 t3 h3=>put _ g w3 _ t3 (up h3) hk)
 by_cases k11:s.kd=11
 ·simp only[zv,vw,k11];exact asks (.inl k11)
 simp only[zv,k11];by_cases k12:s.kd=12
 ·simp only[zv,vw,k12];exact asks (ws k12)
 rw[vx (λe=>e.elim k11 k12)]at hk;simp only[zv,k12];by_cases k14:s.kd=14
 ·rw[vy k14]at hk;simp only[zv,vw,k14];refine A9 (λw'=>w'.heap[A.ma]?=wh (Er A cf)/\w'.heap[y]?=wh (wt (CN s).cells 40 (0,0))) λw3 hf3 _=>⟨S2 w3 hf3,?_⟩;have h3:=h2.keep0 hf3;refine Au (v:=v7 (wh ⟨A.Q.co,0,wj⟩)) (λw' hw=>⟨_,_,_,hw.1,rfl⟩) (Au (v:=v6 wg s.t) (λw' hw=>⟨_,_,_,hw.2,rfl⟩) ⟨WZ h3.co λb m' w4 ht4 h4=>?_,trivial⟩);have h4':=h3.setC ht4 h4 (U7 _ _ _)
  have t4:BU A cf.threads.toNat g w3 { g with m:=m' } w4:=BU.c ht4;exact⟨⟨h4'.blk,(yl2.fr hf3).at_ t4 (S2 w3 hf3).2⟩,okEnd _ w4 _ ((BU.w hf3).trans t4) (up h4') hk⟩
 rw[vx k14]at hk;simp only[zv,k14];exact A3 e2.y rfl (TG (s:=s) h2 hB hth λg3 w3 t3 h3=>put _ g3 w3 _ t3 h3 hk)
def Jw{s:Cd}(h:BS A g cf B w x)(hB:B<=1000000000000)(hk:∀g' w',BU A cf.threads.toNat g w g' w'->BS A g' cf (B+64) w' (x.step cf s).1->K (C6 (x.step cf s).2) w'):
  I Z 20 #[v7 (wh ⟨A.ma,0,wj⟩),CN s] w K:=by
 have up:∀ {g':Gw} {w':wn} {x':Ma},BS A g' cf B w' x'->BS A g' cf (B+64) w' x':=λh=>h.mono (by omega);refine F20.sh (Ar λy w1 hn1=>Ar λr w2 hn2=>?_);have l1:=hn1.is;have l2:=hn2.is;have s1:=hn1.fr.size;have lr:=BP hn2.at_;have f2:=hn1.fr.trans hn2.fr;have h2:=h.keep0 f2;have e2:EJ w2 y r s:=⟨hn2.fr.at_ hn1.at_ (by simp),_,hn2.at_,rfl⟩;have yl2:Db A cf.threads.toNat g y w2:=h.loc (by omega) (BP e2.y)
 have rl2:Db A cf.threads.toNat g r w2:=h.loc (by omega) lr;unfold Ma.step at hk
 have err:∀(e:Int) w3,Fr [] w2 w3->(∀g' w',BU A cf.threads.toNat g w g' w'->BS A g' cf (B+64) w' x->K (C6 (Ch.err e)) w')->I Z 54 #[v6 wg e] w3 λx1 w1=>Aj 5 (v7 (wh ⟨r,0,wj⟩)) x1 w1 λw2=>Ak 5 (v7 (wh ⟨r,0,wj⟩)) w2 λr _=>K r w2:=λe w3 hf3 hk=>EM (e:=e) (BU.w (f2.trans hf3)) (h2.keep0 hf3) (rl2.fr hf3) (by omega) (hf3.at_ hn2.at_ (by simp)) rfl λw' ht' h'=>hk g w' ht' (up h');refine Lu h2 ?_
 try simp only[zv]
 refine F20.k3.to (A3 e2.y rfl (Vl (s:=s) λw3 hf3=>?_))
 try simp only[AG]
 by_cases c1:s.check=0
 ·rw[vx (by simp[c1])]at hk;simp only[zv,vw,c1,vz,zW];have h3:=h2.keep0 hf3;refine F20.k6.to (A3 (hf3.at_ e2.y (by simp)) rfl (Yw (s:=s) h3 λw4 hf4=>?_));have f24:=hf3.trans hf4;have h4:=h2.keep0 f24
  try simp only[AG]
  by_cases c2:x.who cf s=0
  ·rw[vx (by simp[c2])]at hk;simp only at hk;simp only[zv,vw,c2,vz,zW];have hsm:¬(s.kd<1∨17<s.kd)/\s.small.any (λn=>decide (n<0) || decide (255<n))=wl:=by
    unfold Cd.check at c1;by_cases a1:s.kd<1∨17<s.kd
    ·rw[vy a1]at c1;exact absurd c1 (by decide)
    ·rw[vx a1]at c1;refine⟨a1,?_⟩;cases hh:s.small.any (λn=>decide (n<0) || decide (255<n)) with
     | false=>rfl
     | true=>rw[vy hh]at c1;exact absurd c1 (by decide)
   have rng:0<=s.t/\0<=s.i/\0<=s.j:=by have:=hsm.2;simp only[Cd.small,List.any_cons,List.any_nil,Bool.or_false,Bool.or_eq_false_iff,xY]at this;omega
   have hth:s.kd=16∨s.kd=17∨∃t:Nat,s.t=(t:Int)/\t<cf.threads.toNat:=by
    by_cases a1:16<=s.kd
    ·have:=hsm.1;omega
    ·unfold Ma.who at c2;rw[vx a1]at c2;by_cases a2:cf.threads<=s.t
     ·rw[vy a2]at c2;exact absurd c2 (by decide)
     ·exact ws (ws ⟨s.t.toNat,by omega,by omega⟩)
   refine F20.k9.to (A3 (f24.at_ e2.y (by simp)) rfl (YP (s:=s) h4 hB rng.2.1 rng.2.2 hth λg5 w5 t5 h5=>?_));have e5:=(e2.fr f24).to t5 (yl2.fr f24) (rl2.fr f24);have yl5:=(yl2.fr f24).step t5;have rl5:=(rl2.fr f24).step t5;have tt5:=(BU.w (f2.trans f24)).trans t5;have sz5:=tt5.fr.size;generalize x.doS cf s=p at *;obtain⟨x5,a5⟩:=p;simp only at hk h5 ⊢
   refine Ar λz w6 hn6=>AA (x:=C6 a5) hn6.at_ rfl EA rfl λw7 hu7=>?_;have l6:=hn6.is;have f57:Fr [] w5 w7:=hn6.fr.then hu7.fr (by simp;omega);have h7:=h5.keep0 f57;have e7:=e5.fr f57;have z7:=hu7.at_;have zl7:Db A cf.threads.toNat g5 z w7:=h5.loc (by omega) (BP z7);have tt7:=tt5.trans (BU.w f57)
   have fin:∀g8 w8 (x8:Ma),BU A cf.threads.toNat g5 w7 g8 w8->BS A g8 cf (B+64) w8 x8->(∀g' w',BU A cf.threads.toNat g w g' w'->BS A g' cf (B+64) w' x8->K (C6 a5) w')->F20.k12 K (v7 (wh ⟨r,0,wj⟩)) (v7 (wh ⟨z,0,wj⟩)) w8:=λg8 w8 x8 t8 h8 hk=>by
    have e8:=e7.to t8 (yl5.fr f57) (rl5.fr f57);obtain⟨cr,r8,rs8⟩:=e8.r;exact F20.k12.to (A3 (zl7.at_ t8 z7) rfl (Ex (a:=a5) (tt7.trans t8) h8 ((rl5.fr f57).step t8) (by omega) r8 rs8 λw' ht' h'=>hk _ w' ht' h'))
   try simp only[zv]
   refine Ad (v:=v6 wg s.kd) e7.y rfl ?_;by_cases d1:3<=s.kd
   ·simp only[zv,show s.kd≥3 from d1];refine Ad (v:=v6 wg s.kd) e7.y rfl ?_;by_cases d2:s.kd<=12
    ·simp only[zv,d2];refine Ad (v:=v6 wg a5.code) z7 rfl ?_;by_cases d3:a5.code=0
     ·rw[vy ⟨d1,d2,d3⟩]at hk;simp only[zv,vw,d3];obtain⟨t,et,ht⟩:∃t:Nat,s.t=(t:Int)/\t<cf.threads.toNat:=by
       rcases hth with e|e|e
       ·omega
       ·omega
       ·exact e
      refine A9 (λw'=>w'.heap[A.ma]?=wh (Er A cf)/\w'.heap[y]?=wh (wt (CN s).cells 40 (0,0))) λw8 hf8 _=>⟨⟨hf8.at_ h7.blk (by simp),hf8.at_ e7.y (by simp)⟩,?_⟩;have h8:=h7.keep0 hf8;refine AO (vs:=[v7 (wh ⟨A.lg,0,wj⟩),v7 (wh ⟨A.bn,0,wj⟩)]) (λw' hw=>BS.prS hw.1) (Au (v:=v6 wg s.t) (λw' hw=>⟨_,_,_,hw.2,rfl⟩) ?_);rw[et]at hk ⊢
      refine⟨UX h8 ht (by omega) (by omega) λg9 w9 t9 h9=>?_,trivial⟩;have e9:=(e7.fr hf8).to t9 ((yl5.fr f57).fr hf8) ((rl5.fr f57).fr hf8);exact⟨⟨h9.blk,e9.y⟩,fin g9 w9 _ ((BU.w hf8).trans t9) h9 hk⟩
     ·rw[vx (λe=>d3 e.2.2)]at hk;simp only[zv,d3];exact fin g5 w7 x5 (BU.refl _ _ _ _) h7 hk
    ·rw[vx (λe=>d2 e.2.1)]at hk;simp only[zv,d2];exact fin g5 w7 x5 (BU.refl _ _ _ _) h7 hk
   ·rw[vx (λe=>d1 e.1)]at hk;simp only[zv,show ¬s.kd≥3 from d1];exact fin g5 w7 x5 (BU.refl _ _ _ _) h7 hk
  ·rw[vy c2]at hk;simp only[zv,c2,vz,zX];exact err _ w4 f24 hk
 ·rw[vy c1]at hk;simp only[zv,c1,vz,zX];exact err _ w3 hf3 hk
end
section
variable{K:VK}{w:wn}
def Ou(n:Nat)(v:Int):BX (List.replicate n v)=List.replicate n [v6 wg v]:=by simp[BX]
def I7{n:Int}{hi:Int}(h0:0<=n)(h1:n<=hi):(if n<0 then 0 else if n>hi then hi else n)=n:=by rw[vx (by omega),vx (by omega)]
def WY{n:Nat}(hn:n<=64)(hk:∀b kv w',Fr [] w w'->w.heap.size<=b->b<w'.heap.size->(∀x∈BN kv,w.heap.size<=x/\x<w'.heap.size)->Dg w' b kv (List.replicate n 0)->K (v7 (wh ⟨b,0,wj⟩)) w'):
  I Z 170 #[v6 wg (n:Int)] w K:=by
 refine F170.sh (EI ?_);rw[I7 (by omega) (by omega)];refine Bf (e:=3) (sz:=1) (bytes:=8) (z:=v6 wg 0) n Tryz.underlying54 (by kernel_rfl) rfl (by decide) (by simp[wm.cells,wm.oneCell']) (by omega) (by omega) λg w1 hn1 ho1=>?_;refine A4 (w':=w1) (v:=we #[wd wk,v8 (wh ⟨g,0,wj⟩) n n]) (by kernel_rfl) (Ar λb w2 hn2=>?_);have l1:=hn1.is;have l2:=hn2.is;have s1:=hn1.fr.size;have z2:=BP hn2.at_
 refine hk b (v8 (wh ⟨g,0,wj⟩) n n) w2 (hn1.fr.trans hn2.fr) (by omega) z2 (λx hx=>?_) ⟨hn2.at_,?_,?_⟩
 ·simp[BN,wm.ownBlock]at hx;have:=BP hn1.at_;omega
 ·rw[Ou];exact ho1.keep hn2.fr (by simp)
 ·simpa using hn
def WS{n:Nat}(hn:n<=2048)(hk:∀b mv w',Fr [] w w'->w.heap.size<=b->b<w'.heap.size->(∀x∈BN mv,w.heap.size<=x/\x<w'.heap.size)->CF w' b mv (List.replicate n 0)->K (v7 (wh ⟨b,0,wj⟩)) w'):
  I Z 172 #[v6 wg (n:Int)] w K:=by
 refine F172.sh (EI ?_);rw[I7 (by omega) (by omega)];refine Bf (e:=2) (sz:=1) (bytes:=8) (z:=v6 wg 0) n Tryz.underlying52 (by kernel_rfl) rfl (by decide) (by simp[wm.cells,wm.oneCell']) (by omega) (by omega) λg w1 hn1 ho1=>?_;refine A4 (w':=w1) (v:=we #[wd wk,v8 (wh ⟨g,0,wj⟩) n n]) (by kernel_rfl) (Ar λb w2 hn2=>?_);have l1:=hn1.is;have l2:=hn2.is;have s1:=hn1.fr.size;have z2:=BP hn2.at_
 refine hk b (v8 (wh ⟨g,0,wj⟩) n n) w2 (hn1.fr.trans hn2.fr) (by omega) z2 (λx hx=>?_) ⟨hn2.at_,?_,?_,?_⟩
 ·simp[BN,wm.ownBlock]at hx;have:=BP hn1.at_;omega
 ·rw[Ou];exact ho1.keep hn2.fr (by simp)
 ·simpa using hn
 ·intro x hx;simp at hx;omega
def YV:(Instr.buildSlice 54 0 #[]).run Z w=.ok (v8 (wh ⟨w.heap.size,0,wj⟩) 0 0) (w.alloc (wt #[] 3)):=by kernel_rfl
def T0{v:wm}{l:List Int}(hv:Cp w v 1 (BX l))(hl:l.length<=1000000)(h:∀v' w',Fr [] w w'->BQ w' v' 3 1 (BX l)->BY w v'->K v' w'):I Z 240 #[v] w K:=by
 have hv':=hv;obtain⟨A,c,rfl,h1,h2,h3⟩:=hv;refine F240.sh ⟨_,HC (e:=3) _ _ _ _ _ Tryz.underlying54,?_⟩;cases A with
 | none=>
  have:l=[]:=by
   cases l with
   | nil=>rfl
   | cons x l=>obtain⟨g,o,cs,e,fz,hA,_⟩:=h3 (by simp[BX]);cases hA
  subst this;simp only[Option.isNone_none,Ah];exact h _ w (Fr.refl _ _) (BQ.nil w 3 1) (BY.nil w)
 | some a=>
  simp only[Option.isNone_some,Ag];refine F240.k3.to (A4 YV ?_);have hn:=DE.mk' w (wt #[] 3);refine Bm (xs:=[]) (e:=3) (sz:=1) (bytes:=8) (z:=v6 wg 0) Tryz.underlying54 (by kernel_rfl) rfl (by decide) (BQ.of_block hn.at_ rfl (by simp) (by simp) rfl (by simp) (by simp)) (hv'.keep hn.fr) Ot (by rw[Ca];simp;omega) (by rw[Ca];simp;omega) λv' w' ho hf hb _=>?_
  refine h v' w' (hn.fr.then hf λx hx=>?_) (by simpa using ho) λg hg=>?_
  ·rw[Cb]at hx;simp only[wm.ownBlock,zS]at hx;exact ws (by omega)
  ·rcases hb with hb|⟨g',hb,hle⟩
   ·rw[hb]at hg;simp only[wm.ownBlock,zS]at hg;omega
   ·rw[hg]at hb;simp only[zS]at hb;have:=hn.fr.size;omega
end
def YN(p:Nat):(List.replicate 64 ((0:Int),(0:Int))).getD p (0,0)=(0,0):=by
 unfold List.getD;cases h:(List.replicate 64 ((0:Int),(0:Int)))[p]? with
 | none=>rfl
 | some v=>exact xR (yR h)
def QI(b mb tb:Nat):Array wm := #[v7 (wh ⟨b,0,wj⟩),v7 (wh ⟨mb,0,wj⟩),v6 wg 0,v6 wg 0,v6 wg 0,v6 wg 0,v6 wg 0,v6 wg 0,v6 wg 0,v6 wg 0,v6 wg 0,v6 wg 0,v6 wg 0,v6 wg 0,v6 wg 0,v6 wg 0,v6 wg 0,v6 wg 0,v6 wg 0,v6 wg 0,v6 wg 0,v6 wg 0,v6 wg 0,v6 wg 0,v6 wg 0,v6 wg 0,v6 wg 0,v6 wg 0,v6 wg 0,v6 wg 0,v6 wg 0,v6 wg 0,v6 wg 0,v6 wg 0,v6 wg 0,v6 wg 0,v6 wg 0,v6 wg 0,v6 wg 0,v6 wg 0,v6 wg 0,v6 wg 0,v6 wg 0,v6 wg 0,v6 wg 0,v6 wg 0,v6 wg 0,v6 wg 0,v6 wg 0,v6 wg 0,v6 wg 0,v6 wg 0,v6 wg 0,v6 wg 0,v6 wg 0,v6 wg 0,v6 wg 0,v6 wg 0,v6 wg 0,v6 wg 0,v6 wg 0,v6 wg 0,v6 wg 0,v6 wg 0,v6 wg 0,v6 wg 0,v6 wg 0,v6 wg 0,v6 wg 0,v6 wg 0,v6 wg 0,v6 wg 0,v6 wg 0,v6 wg 0,v6 wg 0,v6 wg 0,v6 wg 0,v6 wg 0,v6 wg 0,v6 wg 0,v6 wg 0,v6 wg 0,v6 wg 0,v6 wg 0,v6 wg 0,v6 wg 0,v6 wg 0,v6 wg 0,v6 wg 0,v6 wg 0,v6 wg 0,v6 wg 0,v6 wg 0,v6 wg 0,v6 wg 0,v6 wg 0,v6 wg 0,v6 wg 0,v6 wg 0,v6 wg 0,v6 wg 0,v6 wg 0,v6 wg 0,v6 wg 0,v6 wg 0,v6 wg 0,v6 wg 0,v6 wg 0,v6 wg 0,v6 wg 0,v6 wg 0,v6 wg 0,v6 wg 0,v6 wg 0,v6 wg 0,v6 wg 0,v6 wg 0,v6 wg 0,v6 wg 0,v6 wg 0,v6 wg 0,v6 wg 0,v6 wg 0,v6 wg 0,v6 wg 0,v6 wg 0,v6 wg 0,v6 wg 0,v6 wg 0,v6 wg 0,v7 (wh ⟨tb,0,wj⟩)]
def XA(b mb tb:Nat):wm:=we (QI b mb tb)
def QJ(b mb tb:Nat):(XA b mb tb).cells=QI b mb tb:=by rfl
def YR{w:wn}(b mb tb:Nat):(Instr.build 244 #[(0,we #[v7 (wh ⟨b,0,wj⟩)]),(1,v7 (wh ⟨mb,0,wj⟩)),(3,v7 (wh ⟨tb,0,wj⟩))]).run Z w=.ok (XA b mb tb) w:=by kernel_rfl
def TR(b mb tb:Nat):∀p,p<64->(QI b mb tb)[2+p*2]?=wh (v6 wg 0)/\(QI b mb tb)[2+p*2+1]?=wh (v6 wg 0)
 | 0,_ | 1,_ | 2,_ | 3,_ | 4,_ | 5,_ | 6,_ | 7,_ | 8,_ | 9,_ | 10,_ | 11,_ | 12,_ | 13,_ | 14,_ | 15,_ | 16,_ | 17,_ | 18,_ | 19,_ | 20,_ | 21,_ | 22,_ | 23,_ | 24,_ | 25,_ | 26,_ | 27,_ | 28,_ | 29,_ | 30,_ | 31,_ | 32,_ | 33,_ | 34,_ | 35,_ | 36,_ | 37,_ | 38,_ | 39,_ | 40,_ | 41,_ | 42,_ | 43,_ | 44,_ | 45,_ | 46,_ | 47,_ | 48,_ | 49,_ | 50,_ | 51,_ | 52,_ | 53,_ | 54,_ | 55,_ | 56,_ | 57,_ | 58,_ | 59,_ | 60,_ | 61,_ | 62,_ | 63,_=>⟨rfl,rfl⟩
 | p+64,h=>by omega
section
variable{K:VK}{w:wn}
def WK{n:Nat}(hn:n<=64)(hk:∀(A:EH) w',Fr [] w w'->(∀x∈A.all,w.heap.size<=x/\x<w'.heap.size)->Ct A w' (Ce.new n)->K (v7 (wh ⟨A.cel,0,wj⟩)) w'):
  I Z 112 #[v6 wg (n:Int)] w K:=by
 refine F112.sh (WY hn λb kv w1 hf1 hb1 hb1' hk1 hp1=>?_);refine F171.sh ⟨_,Ck _ _ _ Tryz.underlying234,?_⟩
 try simp only[zv]
 refine F171.k3.to ?_
 try simp only[zv]
 refine Ad (v:=kv) hp1.blk rfl (T0 hp1.own.rd (by simp;omega) λv2 w2 hf2 ho2 hn2=>AH ho2.rd ?_);rw[Ca,yJ]
 try simp only[AP]
 rw[BO (n:=(n:Int)*32) (by omega),show (n:Int)*32=((n*32:Nat):Int) by omega];refine A4 (w':=w2) (v:=we #[v7 (wh ⟨b,0,wj⟩)]) (by kernel_rfl) (WS (n:=n*32) (by omega) λmb mv w3 hf3 hb3 hb3' hk3 hm3=>?_);refine Rp (by omega) (by omega) λtb w4 hf4 e4 s4 ht4=>?_;refine A4 (YR b mb tb) (Ar λcb w5 hn5=>?_);have l5:=hn5.is;have s1:=hf1.size;have s2:=hf2.size;have s3:=hf3.size;have s5:=hn5.fr.size;have z5:=BP hn5.at_
 have f15:=((hf2.trans hf3).trans hf4).trans hn5.fr;refine hk ⟨cb,b,mb,tb,kv,mv⟩ w5 (hf1.trans f15) (λx hx=>?_) ?_
 ·simp only[EH.all,ux,n7]at hx;rcases hx with rfl|rfl|rfl|rfl|hx|hx
  ·omega
  ·omega
  ·omega
  ·omega
  ·have:=hk1 x hx;omega
  ·have:=hk3 x hx;omega
 ·have nn:(Ce.new (n:Int)).n=((n*32:Nat):Int):=by simp[Ce.n,Ce.new]
  have hb:=hn5.at_;rw[QJ]at hb;refine⟨⟨_,hb,rfl,rfl,rfl,rfl,λp hp=>?_⟩,?_,?_,?_,by simp[Ce.new],by simp[Ce.new],λp=>?_⟩
  ·have e0:(Ce.new (n:Int)).ch.getD p (0,0)=(0,0):=YN p;rw[e0];exact TR b mb tb p hp
  ·have:=hp1.keep0 f15;simpa[Ce.new] using this
  ·have:=hm3.keep0 (hf4.trans hn5.fr);simpa[Ce.new] using this
  ·rw[nn];exact ht4.keep hn5.fr (by simp)
  ·have e0:(Ce.new (n:Int)).ch.getD p (0,0)=(0,0):=YN p;rw[e0];simp
end
section
variable{K:VK}{w:wn}
def Sx(n:Nat):Dt (List.replicate n 0)=(n:Int):=by unfold Dt;congr 1;rw[List.countP_eq_length.2 (by intro a ha;simp[xR ha]),yJ]
def Xj{n:Nat}{nt:Int}(hn:n<=64)(h0:0<=nt)(h9:nt<=9)(hT:GY w)(hz:0<w.heap.size)(hk:∀(D:DG) w',Fr [] w w'->(∀x∈D.all,x=0∨(w.heap.size<=x/\x<w'.heap.size))->C8 D n nt w' ⟨Ce.new n,λ_=>wj,0⟩->K (v7 (wh ⟨D.st,0,wj⟩)) w'):
  I Z 73 #[v6 wg (n:Int),v6 wg nt] w K:=by
 refine F73.sh (WK hn λA w1 hf1 hA1 hc1=>WW λob om w2 hf2 ho2 hm2 hne h2=>?_);rw[I7 h0 (by omega)]at h2;have s1:=hf1.size;have s2:=hf2.size;have lo2:=h2.lt;have c2:=hc1.keep0 hf2;refine A4 (w':=w2) (v:=we #[v7 (wh ⟨A.cel,0,wj⟩),v7 (wh ⟨ob,0,wj⟩),v6 wg 0,v6 wg 0,v6 wg 0]) (by kernel_rfl) (Ar λst w3 hn3=>?_);have l3:=hn3.is;have c3:=c2.keep0 hn3.fr;have o3:=h2.keep hn3.fr (by simp) (by simp)
 try simp only[zv]
 refine Ad (v:=v7 (wh ⟨A.cel,0,wj⟩)) hn3.at_ rfl (Py c3 λw4 hf4=>?_);rw[show (Ce.new (n:Int)).ks=List.replicate n 0 by simp[Ce.new],Sx];have b4:=hf4.at_ hn3.at_ (by simp);refine AI b4 rfl rfl (by simp[wm.cells]) λw5 hu5=>?_;refine A4 (La _ _ _ _ _) (A4 (O1 _ _ _ _ _) ?_);rw[show min (max nt 0) 9=nt by omega];refine AI hu5.at_ rfl rfl (by simp[wm.cells]) λw6 hu6=>?_;have z3:=BP hn3.at_;have s4:=hf4.size
 have s5:=hu5.fr.size;have s6:=hu6.fr.size;have f6:Fr [] w w6:=((((hf1.trans hf2).trans hn3.fr).trans hf4).then hu5.fr (by simp;omega)).then hu6.fr (by simp;omega);have nA:∀x∈A.all,x≠st:=λx hx=>by have:=hA1 x hx;omega
 have c6:Ct A w6 (Ce.new (n:Int)):=((c3.keep0 hf4).keepA hu5.fr (λx hx=>by simpa using nA x hx)).keepA hu6.fr (λx hx=>by simpa using nA x hx);have o6:EX w6 ob om nt (λ_=>wj):=((o3.keep hf4 (by simp) (by simp)).keep hu5.fr (by simp;omega) (by simp;omega)).keep hu6.fr (by simp;omega) (by simp;omega)
 refine hk ⟨A,st,ob,om⟩ w6 f6 (λx hx=>?_) ⟨⟨by simp only;omega,by simp only;omega,hne,λe=>?_,λe=>?_,λe=>?_,λe=>?_⟩,?_,c6,o6,hn,hT.keep f6 (by simp)⟩
 ·simp only[DG.all,ux]at hx;rcases hx with rfl|rfl|rfl|rfl|hx
  ·exact .inl rfl
  ·exact ws (by omega)
  ·exact ws (by omega)
  ·exact ws (by omega)
  ·have:=hA1 x hx;exact ws (by omega)
 ·have:=hA1 _ e;simp only at this;omega
 ·have:=hA1 _ e;simp only at this;omega
 ·have:=hA1 _ e;simp only at this;omega
 ·simp only[ux]at e;rcases e with e|e|e|e
  ·omega
  ·omega
  ·omega
  ·have:=hA1 0 e;omega
 ·have:=hu6.at_;simpa[wm.cells] using this
end
section
variable{K:VK}{w:wn}
def IL{n lo hi:Int}(h0:lo<=n)(h1:n<=hi):(if n<lo then lo else if n>hi then hi else n)=n:=by rw[vx (by omega),vx (by omega)]
def WP{room:Int}(h1:1<=room)(h2:room<=256)(hk:∀(G:CR) w',Fr [] w w'->[G.gr,G.wa,G.sk,G.mb].Nodup->(∀x∈[G.gr,G.wa,G.sk,G.mb],w.heap.size<=x/\x<w'.heap.size)->CY G (v8 wj 0 0) room w' ⟨[],wl,λ_=>wl⟩->K (v7 (wh ⟨G.gr,0,wj⟩)) w'):
  I Z 74 #[v6 wg room] w K:=by
 refine F74.sh (F115.sh (EI ?_));rw[IL h1 h2];refine A4 (w':=w) (v:=we #[v8 wj 0 0,v6 wg room,wd wl]) (by kernel_rfl) (Ar λsk w1 hn1=>?_);refine A4 (w':=w1) (v:=we #[v7 (wh ⟨sk,0,wj⟩)]) (by kernel_rfl) (Ar λwa w2 hn2=>?_);refine Rp (n:=2048) (by omega) (by omega) λmb w3 hf3 e3 s3 hm3=>?_;refine A4 (w':=w3) (v:=we #[v7 (wh ⟨wa,0,wj⟩),v7 (wh ⟨mb,0,wj⟩)]) (by kernel_rfl) (Ar λgr w4 hn4=>?_)
 have l1:=hn1.is;have l2:=hn2.is;have l4:=hn4.is;have s1:=hn1.fr.size;have s2:=hn2.fr.size;have z1:=BP hn1.at_;have z2:=BP hn2.at_;have z4:=BP hn4.at_;have s34:=hn4.fr.size;refine hk ⟨gr,wa,sk,mb⟩ w4 (((hn1.fr.trans hn2.fr).trans hf3).trans hn4.fr) ?_ (λx hx=>?_) ⟨hn4.at_,?_,⟨?_,BQ.nil _ _ _,⟨h1,h2⟩,by simp;omega⟩,hm3.keep hn4.fr (by simp)⟩
 ·simp only[o7,ux,i9,vt,not_or,zX,List.nodup_nil,and_true];omega
 ·simp only[ux,i9,vt]at hx;rcases hx with rfl|rfl|rfl|rfl<;>omega
 ·exact hn4.fr.at_ (hf3.at_ hn2.at_ (by simp)) (by simp)
 ·exact hn4.fr.at_ (hf3.at_ (hn2.fr.at_ hn1.at_ (by simp)) (by simp)) (by simp)
def WM{n:Nat}(hn:n<=8)(hk:∀re rv w',Fr [] w w'->w.heap.size<=re->re<w'.heap.size->(∀x∈BN rv,w.heap.size<=x/\x<w'.heap.size)->D5 re rv w' ⟨0,List.replicate n (wl,0)⟩->K (v7 (wh ⟨re,0,wj⟩)) w'):
  I Z 75 #[v6 wg (n:Int)] w K:=by
 refine F75.sh (EI ?_);rw[I7 (by omega) (by omega)];refine Bf (e:=212) (sz:=2) (bytes:=16) (z:=we #[wd wl,v6 wg 0]) n Tryz.underlying181 (by kernel_rfl) rfl (by decide) (by simp[wm.cells,wm.oneCell']) (by omega) (by omega) λg w1 hn1 ho1=>?_;refine A4 (w':=w1) (v:=we #[wd wk,v6 wg 0,v8 (wh ⟨g,0,wj⟩) n n]) (by kernel_rfl) (Ar λb w2 hn2=>?_);have l1:=hn1.is;have l2:=hn2.is;have s1:=hn1.fr.size;have z1:=BP hn1.at_
 have z2:=BP hn2.at_;have s2:=hn2.fr.size;refine hk b (v8 (wh ⟨g,0,wj⟩) n n) w2 (hn1.fr.trans hn2.fr) (by omega) z2 (λx hx=>?_) ⟨hn2.at_,?_,by simpa using hn⟩
 ·simp[BN,wm.ownBlock]at hx;omega
 ·have e:HK (List.replicate n (wl,0))=List.replicate n [wd wl,v6 wg 0]:=by simp[HK]
  rw[e];exact ho1.keep hn2.fr (by simp)
def WN{n:Nat}(hn:n<=8)(hk:∀bu bv w',Fr [] w w'->w.heap.size<=bu->bu<w'.heap.size->(∀x∈BN bv,w.heap.size<=x/\x<w'.heap.size)->D1 bu bv (List.replicate n (v8 wj 0 0)) w' (List.replicate n [])->K (v7 (wh ⟨bu,0,wj⟩)) w'):
  I Z 76 #[v6 wg (n:Int)] w K:=by
 refine F76.sh (EI ?_);rw[I7 (by omega) (by omega)];refine Bf (e:=54) (sz:=1) (bytes:=24) (z:=v8 wj 0 0) n Tryz.underlying184 (by kernel_rfl) rfl (by decide) (by simp[wm.cells,wm.oneCell']) (by omega) (by omega) λg w1 hn1 ho1=>?_;refine A4 (w':=w1) (v:=we #[wd wk,v8 (wh ⟨g,0,wj⟩) n n]) (by kernel_rfl) (Ar λb w2 hn2=>?_);have l1:=hn1.is;have l2:=hn2.is;have s1:=hn1.fr.size;have z1:=BP hn1.at_;have z2:=BP hn2.at_
 have s2:=hn2.fr.size;have nob:∀v∈List.replicate n (wm.slice wj 0 0),BN v=[]:=λv hv=>by rw[xR hv];rfl
 refine hk b (v8 (wh ⟨g,0,wj⟩) n n) w2 (hn1.fr.trans hn2.fr) (by omega) z2 (λx hx=>?_) ⟨hn2.at_,?_,⟨by simp,λi h1 h2=>?_,λi j h1 h2 _ x hx=>?_⟩,by simpa using hn,λl hl=>?_⟩
 ·simp[BN,wm.ownBlock]at hx;omega
 ·have e:GI (List.replicate n (v8 wj 0 0))=List.replicate n [v8 wj 0 0]:=by simp[GI]
  rw[e];exact ho1.keep hn2.fr (by simp)
 ·have e1:(List.replicate n (wm.slice wj 0 0))[i]=v8 wj 0 0:=by simp
  have e2:((List.replicate n ([]:List Int)).map BX)[i]=[]:=by simp[BX]
  rw[e1,e2];exact BQ.nil _ _ _
 ·rw[nob _ (d7 h1)]at hx;simp at hx
 ·rw[xR hl];simp
def Xp{st gr:Nat}{pages chunk:Int}(h1:1<=pages/\pages<=64)(h2:1<=chunk/\chunk<=16)(hk:∀tr w',DE w tr (wt #[v7 (wh ⟨st,0,wj⟩),v7 (wh ⟨gr,0,wj⟩),v6 wg pages,v6 wg chunk,v6 wg (-1)] 188) w'->K (v7 (wh ⟨tr,0,wj⟩)) w'):
  I Z 77 #[v7 (wh ⟨st,0,wj⟩),v7 (wh ⟨gr,0,wj⟩),v6 wg pages,v6 wg chunk] w K:=by refine F77.sh (EI ?_);rw[IL h1.1 h1.2];refine EI ?_;rw[IL h2.1 h2.2];exact A4 (w':=w) (v:=we #[v7 (wh ⟨st,0,wj⟩),v7 (wh ⟨gr,0,wj⟩),v6 wg pages,v6 wg chunk,v6 wg (-1)]) (by kernel_rfl) (Ar hk)
def Xv{st gr:Nat}{pages:Int}(h1:1<=pages/\pages<=64)(hk:∀sw w',DE w sw (wt #[v7 (wh ⟨st,0,wj⟩),v7 (wh ⟨gr,0,wj⟩),v6 wg pages,v6 wg pages,v6 wg 0] 190) w'->K (v7 (wh ⟨sw,0,wj⟩)) w'):
  I Z 78 #[v7 (wh ⟨st,0,wj⟩),v7 (wh ⟨gr,0,wj⟩),v6 wg pages] w K:=by refine F78.sh (EI ?_);rw[IL h1.1 h1.2];exact A4 (w':=w) (v:=we #[v7 (wh ⟨st,0,wj⟩),v7 (wh ⟨gr,0,wj⟩),v6 wg pages,v6 wg pages,v6 wg 0]) (by kernel_rfl) (Ar hk)
end
end
noncomputable section
variable{K:VK}{w:wn}{x0 y1:wm}
namespace F41
def ann:Cg:=⟨[(4,[1])],[],[],[(4,(tk [0,2,6,1,3,4,7,10] (.go 5 (.go 8 (tk [9,11] (.go 12 (.take 13 .fin) .fin)) .fin) .fin))),(5,(tk [0,1,2,5,3,6] (.go 4 (.go 7 (tk [8,9] (.go 10 (tk [11,12] (.go 13 .fin .fin)) .fin)) .fin) .fin))),(6,(tk [0,1,2,3,4,5,7,8,9,10,12,14,17,18,19,20,22,23,24,25,27,6,11,13,15,21,26,28] (.go 16 (.go 29 (tk [30,31] (.go 32 (tk [33,34] (.go 35 .fin .fin)) .fin)) .fin) .fin))),(7,(tk [0,1,2,3,4,6,5,7] (.go 8 (tk [9,10,11,12,13] (.go 14 .fin .fin)) .fin)))],wj⟩
def code:=cd f41
def BM:=tp f41
variable(K:VK)(y1:wm)(w:wn)
@[irreducible]def k4:=nk ann 85 [(1,y1)] w [1,1] code (BM K)
end F41
def F41.k4.to(h:(A2 w λS a=>Ab 0 y1 a λb c=>Ab 1 y1 c λd f=>Ab 8 y1 f λg i=>An S b i λj k=>An S d k λm o=>U .add m (v6 wg 1) o λp q=>An S g q λr s=>AM S 10 y1 s λt u=>(I Z 73 #[j,p] u λv x=>(S x/\
 (I Z 74 #[r] x λy z=>(S z/\
 ∃aa,(∀w',S w'->(Instr.build 123 #[(0,v),(1,y)]).run Z w'=.ok aa w')/\(∃ab,(∀w',S w'->(Instr.build 132 #[(0,aa),(1,t)]).run Z w'=.ok ab w')/\((Aq (wt (wm.cells ab) 132) z λac ad=>(S ad/\
 A2 ad λS ae=>Ab 1 y1 ae λaf ag=>Ab 1 y1 ag λah ai=>An S af ai λaj ak=>An S ah ak λal am=>(I Z 75 #[aj] am λan ao=>(S ao/\
 (I Z 76 #[al] ao λap aq=>(S aq/\
 Ae ac aq λar au=>Ab 12 ar au λav aw=>(Aj 1 av an aw λax=>(S ax/\
 Ae ac ax λay az=>Ab 13 ay az λba bb=>(Aj 1 ba ap bb λbc=>(S bc/\
 A2 bc λS bd=>Ae ac bd λbe bf=>Ab 0 be bf λbg bh=>Ab 0 bg bh λbi bj=>Ae ac bj λbk bl=>Ab 0 bk bl λbm bn=>Ab 1 bm bn λbo bp=>Ab 0 y1 bp λbq br=>Ab 7 y1 br λbs bt=>Ae ac bt λbu bv=>Ab 0 bu bv λbw bx=>Ab 0 bw bx λbz ca=>Ae ac ca λcb cc=>Ab 0 cb cc λce cf=>Ab 1 ce cf λcg ch=>Ab 0 y1 ch λci cj=>An S bi cj λck cl=>An S bo cl λcm cn=>An S bq cn λco cp=>An S bs cp λcq cr=>An S bz cr λcs ct=>An S cg ct λcu cv=>An S ci cv λcw cx=>(I Z 77 #[ck,cm,co,cq] cx λcy cz=>(S cz/\
 (I Z 78 #[cs,cu,cw] cz λda db=>(S db/\
 Ae ac db λdc dd=>Ab 14 dc dd λde df=>(Aj 1 de cy df λdg=>(S dg/\
 Ae ac dg λdh di=>Ab 15 dh di λdj dk=>(Aj 1 dj da dk λdl=>(S dl/\
 A2 dl λS dm=>Ae ac dm λdn dp=>Ab 0 dn dp λdq dr=>Ab 0 dq dr λds dt=>Ab 1 y1 dt λdu dv=>An S ds dv λdw dx=>An S du dx λdy dz=>(I Z 79 #[dw,dy,(v6 wg 4)] dz λea eb=>(S eb/\
 Ao 0 ea eb λec ed=>Ao 1 ea ed λee ef=>Ae ac ef λeg eh=>Ab 24 eg eh λei ej=>(Aj 1 ei ec ej λek=>(S ek/\
 K (.tuple #[ac,(v6 wg 0)]) ek))/\True))/\True))/\True))/\True))/\True))/\True))/\True))/\True))/\True))/\True))/\True))))/\True))/\True)):F41.k4 K y1 w:=qq h
def F41.sh(h:(Aq (wt (wm.cells x0) 23) w λa b=>Ak 10 a b λc d=>I Z 11 #[c] d λf g=>U .neq f (v6 wg 0) g λi j=>Af i (K (.tuple #[(v7 wj),f]) j) (F41.k4 K a j))):I Z 41 #[x0] w K:=BK (A:=F41.ann) (args:=[x0]) (qq h)
end
section
open Go.RowKit
def XB(st gr:Nat)(cf:Cf):Array wm := #[v7 (wh ⟨st,0,wj⟩),v7 (wh ⟨gr,0,wj⟩),v6 wg cf.pages,v6 wg cf.threads,v6 wg cf.window,v6 wg cf.quantum,v6 wg cf.target,v6 wg cf.cap,v6 wg cf.tax,v6 wg cf.chunk,v6 wg cf.stack,v6 wg cf.trigger,v7 wj,v7 wj,v7 wj,v7 wj,v8 wj 0 0,v8 wj 0 0,v8 wj 0 0,v8 wj 0 0,v8 wj 0 0,v8 wj 0 0,v8 wj 0 0,v8 wj 0 0,v6 wg 0,v6 wg 0,v6 wg 0,v6 wg 0]
section
variable{K:VK}{w:wn}
def Yx(st gr:Nat):(Instr.build 123 #[(0,v7 (wh ⟨st,0,wj⟩)),(1,v7 (wh ⟨gr,0,wj⟩))]).run Z w=.ok (we #[v7 (wh ⟨st,0,wj⟩),v7 (wh ⟨gr,0,wj⟩)]) w:=by kernel_rfl
def Z0(st gr:Nat)(cf:Cf):(Instr.build 132 #[(0,we #[v7 (wh ⟨st,0,wj⟩),v7 (wh ⟨gr,0,wj⟩)]),(1,we (Dk cf).toArray)]).run Z w=.ok (we (XB st gr cf)) w:=by kernel_rfl
structure Cf.Co(cf:Cf):Prop where
 pg:1<=cf.pages/\cf.pages<=64
 th:1<=cf.threads/\cf.threads<=8
 ck:1<=cf.chunk/\cf.chunk<=16
 sk:1<=cf.stack/\cf.stack<=256
def Vm{y:Nat}{cf:Cf}(hy:w.heap[y]?=wh (wt (Dk cf).toArray 23 (0,0)))(hc:cf.Co)(hT:GY w)(hz:0<w.heap.size)(hk:∀(Q:C4) (m:Mv) w',Fr [] w w'->m.all=[]->(∀x∈Q.fix++(Q.H.fix++Q.H.D.all),x=0∨w.heap.size<=x)->BZ Q m cf w' (Co.new cf)->K (.tuple #[v7 (wh ⟨Q.co,0,wj⟩),v6 wg 0]) w'):
  F41.k4 K (v7 (wh ⟨y,0,wj⟩)) w:=by
 have Y:∀w',Fr [] w w'->w'.heap[y]?=wh (wt (Dk cf).toArray 23 (0,0)):=λw' hf=>hf.at_ hy (by simp);have ly:=BP hy;obtain⟨⟨p1,p2⟩,⟨t1,t2⟩,ck,sk⟩:=hc;obtain⟨np,hnp⟩:=xU (show 0<=cf.pages by omega);obtain⟨nt,hnt⟩:=xU (show 0<=cf.threads by omega);refine F41.k4.to (A9 (λw'=>w'.heap[y]?=wh (wt (Dk cf).toArray 23 (0,0))) λw1 hf1 _=>⟨Y w1 hf1,?_⟩)
 try simp only[zv]
 refine Au (v:=v6 wg cf.pages) (λw' hw=>⟨_,_,_,hw,rfl⟩) (Au (v:=v6 wg cf.threads) (λw' hw=>⟨_,_,_,hw,rfl⟩) ?_)
 try simp only[A7]
 refine Au (v:=v6 wg cf.stack) (λw' hw=>⟨_,_,_,hw,rfl⟩) (AO (vs:=Dk cf) (λw' hw=>⟨_,_,_,hw,by simp[Dk],rfl⟩) ?_);rw[BO (n:=cf.threads+1) (by omega),hnp];have s1:=hf1.size;refine⟨Xj (n:=np) (nt:=cf.threads+1) (by omega) (by omega) (by omega) (hT.keep hf1 (by simp)) (by omega) λD w2 hf2 hD2 h2=>⟨hf2.at_ (Y w1 hf1) (by simp),?_⟩,trivial⟩;have s2:=hf2.size
 refine⟨WP sk.1 sk.2 λG w3 hf3 nd3 hG3 h3=>?_,trivial⟩;have s3:=hf3.size;have f3:=(hf1.trans hf2).trans hf3;refine⟨Y w3 f3,⟨_,λw' _=>Yx D.st G.gr,⟨_,λw' _=>Z0 D.st G.gr cf,Ar λco w4 hn4=>⟨Y w4 (f3.trans hn4.fr),?_⟩,trivial⟩⟩⟩;have l4:=hn4.is;have s4:=hn4.fr.size;have z4:=BP hn4.at_;have f4:=f3.trans hn4.fr
 refine A9 (λw'=>w'.heap[y]?=wh (wt (Dk cf).toArray 23 (0,0))) λw5 hf5 _=>⟨Y w5 (f4.trans hf5),?_⟩;have s5:=hf5.size;have f5:=f4.trans hf5
 try simp only[zv]
 refine Au (v:=v6 wg cf.threads) (λw' hw=>⟨_,_,_,hw,rfl⟩) (Au (v:=v6 wg cf.threads) (λw' hw=>⟨_,_,_,hw,rfl⟩) ?_);rw[hnt];refine⟨WM (n:=nt) (by omega) λre rv w6 hf6 hr6 hr6' hv6 h6=>⟨Y w6 (f5.trans hf6),?_⟩,trivial⟩;have s6:=hf6.size;refine⟨WN (n:=nt) (by omega) λbu bv w7 hf7 hb7 hb7' hv7 h7=>⟨Y w7 ((f5.trans hf6).trans hf7),?_⟩,trivial⟩;have s7:=hf7.size;have f7:=(f5.trans hf6).trans hf7
 have c7:=((hf5.trans hf6).trans hf7).at_ hn4.at_ (by simp);refine⟨AI c7 rfl rfl (by simp[wm.cells,XB]) λw8 hu8=>⟨?_,?_⟩,trivial⟩
 ·exact hu8.fr.at_ (Y w7 f7) (by simp;omega)
 refine⟨AI hu8.at_ rfl rfl (by simp[wm.cells,XB]) λw9 hu9=>⟨?_,?_⟩,trivial⟩
 ·exact hu9.fr.at_ (hu8.fr.at_ (Y w7 f7) (by simp;omega)) (by simp;omega)
 have Y9:=hu9.fr.at_ (hu8.fr.at_ (Y w7 f7) (by simp;omega)) (by simp;omega)
 have c9:w9.heap[co]?=wh (wt #[v7 (wh ⟨D.st,0,wj⟩),v7 (wh ⟨G.gr,0,wj⟩),v6 wg cf.pages,v6 wg cf.threads,v6 wg cf.window,v6 wg cf.quantum,v6 wg cf.target,v6 wg cf.cap,v6 wg cf.tax,v6 wg cf.chunk,v6 wg cf.stack,v6 wg cf.trigger,v7 (wh ⟨re,0,wj⟩),v7 (wh ⟨bu,0,wj⟩),v7 wj,v7 wj,v8 wj 0 0,v8 wj 0 0,v8 wj 0 0,v8 wj 0 0,v8 wj 0 0,v8 wj 0 0,v8 wj 0 0,v8 wj 0 0,v6 wg 0,v6 wg 0,v6 wg 0,v6 wg 0] 132 (0,0)):=hu9.at_
 have f79:Fr [co] w7 w9:=hu8.fr.trans hu9.fr;have s9:=f79.size;refine A9 (λw'=>w'.heap[y]?=wh (wt (Dk cf).toArray 23 (0,0))/\∃cs:Array wm,w'.heap[co]?=wh (wt cs 132 (0,0))/\cs[0]?=wh (v7 (wh ⟨D.st,0,wj⟩))/\cs[1]?=wh (v7 (wh ⟨G.gr,0,wj⟩))) λw10 hf10 _=>⟨⟨hf10.at_ Y9 (by simp),_,hf10.at_ c9 (by simp),rfl,rfl⟩,?_⟩;have s10:=hf10.size
 refine Au (v:=v7 (wh ⟨D.st,0,wj⟩)) (λw' hw=>by obtain⟨_,cs,a,b,_⟩:=hw;exact⟨cs,_,_,a,b⟩) ?_;refine Au (v:=v7 (wh ⟨G.gr,0,wj⟩)) (λw' hw=>by obtain⟨_,cs,a,_,b⟩:=hw;exact⟨cs,_,_,a,b⟩) ?_;refine Au (v:=v6 wg cf.pages) (λw' hw=>⟨_,_,_,hw.1,rfl⟩) (Au (v:=v6 wg cf.chunk) (λw' hw=>⟨_,_,_,hw.1,rfl⟩) ?_)
 refine Au (v:=v7 (wh ⟨D.st,0,wj⟩)) (λw' hw=>by obtain⟨_,cs,a,b,_⟩:=hw;exact⟨cs,_,_,a,b⟩) (Au (v:=v7 (wh ⟨G.gr,0,wj⟩)) (λw' hw=>by obtain⟨_,cs,a,_,b⟩:=hw;exact⟨cs,_,_,a,b⟩) (Au (v:=v6 wg cf.pages) (λw' hw=>⟨_,_,_,hw.1,rfl⟩) ?_))
 refine⟨Xp ⟨p1,p2⟩ ck λtr w11 hn11=>⟨⟨hn11.fr.at_ (hf10.at_ Y9 (by simp)) (by simp),_,hn11.fr.at_ (hf10.at_ c9 (by simp)) (by simp),rfl,rfl⟩,?_⟩,trivial⟩;have l11:=hn11.is;have s11:=hn11.fr.size;have z11:=BP hn11.at_;refine⟨Xv ⟨p1,p2⟩ λsw w12 hn12=>?_,trivial⟩;have l12:=hn12.is;have s12:=hn12.fr.size;have z12:=BP hn12.at_;have f9c:=(hf10.trans hn11.fr).trans hn12.fr
 have Y12:=f9c.at_ Y9 (by simp);have c12:=f9c.at_ c9 (by simp);refine⟨⟨Y12,_,c12,rfl,rfl⟩,?_⟩;refine⟨AI c12 rfl rfl (by simp) λw13 hu13=>⟨⟨hu13.fr.at_ Y12 (by simp;omega),_,hu13.at_,rfl,rfl⟩,?_⟩,trivial⟩;refine⟨AI hu13.at_ rfl rfl (by simp) λw14 hu14=>⟨⟨hu14.fr.at_ (hu13.fr.at_ Y12 (by simp;omega)) (by simp;omega),_,hu14.at_,rfl,rfl⟩,?_⟩,trivial⟩
 have Y14:=hu14.fr.at_ (hu13.fr.at_ Y12 (by simp;omega)) (by simp;omega)
 have c14:w14.heap[co]?=wh (wt #[v7 (wh ⟨D.st,0,wj⟩),v7 (wh ⟨G.gr,0,wj⟩),v6 wg cf.pages,v6 wg cf.threads,v6 wg cf.window,v6 wg cf.quantum,v6 wg cf.target,v6 wg cf.cap,v6 wg cf.tax,v6 wg cf.chunk,v6 wg cf.stack,v6 wg cf.trigger,v7 (wh ⟨re,0,wj⟩),v7 (wh ⟨bu,0,wj⟩),v7 (wh ⟨tr,0,wj⟩),v7 (wh ⟨sw,0,wj⟩),v8 wj 0 0,v8 wj 0 0,v8 wj 0 0,v8 wj 0 0,v8 wj 0 0,v8 wj 0 0,v8 wj 0 0,v8 wj 0 0,v6 wg 0,v6 wg 0,v6 wg 0,v6 wg 0] 132 (0,0)):=hu14.at_
 have fce:Fr [co] w12 w14:=hu13.fr.trans hu14.fr;have s14:=fce.size;refine A9 (λw'=>w'.heap[y]?=wh (wt (Dk cf).toArray 23 (0,0))/\∃cs:Array wm,w'.heap[co]?=wh (wt cs 132 (0,0))/\cs[0]?=wh (v7 (wh ⟨D.st,0,wj⟩))) λw15 hf15 _=>⟨⟨hf15.at_ Y14 (by simp),_,hf15.at_ c14 (by simp),rfl⟩,?_⟩;have s15:=hf15.size
 refine Au (v:=v7 (wh ⟨D.st,0,wj⟩)) (λw' hw=>by obtain⟨_,cs,a,b⟩:=hw;exact⟨cs,_,_,a,b⟩) (Au (v:=v6 wg cf.threads) (λw' hw=>⟨_,_,_,hw.1,rfl⟩) ?_);have nco:∀x∈D.all,x≠co:=λx hx=>by rcases hD2 x hx with e | e<;>omega
 have h14:C8 D np (cf.threads+1) w15 ⟨Ce.new np,λ_=>wj,0⟩:=((((h2.keep0 ((((hf3.trans hn4.fr).trans hf5).trans hf6).trans hf7)).keep f79 (λx hx=>by simpa using nco x hx)).keep0 f9c).keep fce (λx hx=>by simpa using nco x hx)).keep0 hf15;refine⟨PG h14 λw16 hf16 h16=>?_,trivial⟩;have s16:=hf16.size;have nD:∀x,w2.heap.size<=x->x∉D.S:=λx hx e=>by rcases hD2 x (D.sub x e)with e' | e'<;>omega
 have nDy:y∉D.S:=λe=>by
  rcases hD2 y (D.sub y e)with e'|e'
  ·exact h14.ok.z (e' ▸ by have:=D.subT y e;simpa[DG.all] using this)
  ·omega
 have c15:=hf15.at_ c14 (by simp);have c16:=hf16.at_ c15 (nD co (by omega));refine⟨⟨hf16.at_ (hf15.at_ Y14 (by simp)) nDy,_,c16,rfl⟩,?_⟩
 try simp only[zv]
 refine⟨AI c16 rfl rfl (by simp) λw17 hu17=>⟨⟨hu17.fr.at_ (hf16.at_ (hf15.at_ Y14 (by simp)) nDy) (by simp;omega),_,hu17.at_,rfl⟩,?_⟩,trivial⟩;have s17:=hu17.fr.size;generalize hr:St.slow np (cf.threads+1) ⟨Ce.new np,λ_=>wj,0⟩ cf.threads 4=r at *;have en:Co.new cf=⟨r.1,⟨[],wl,λ_=>wl⟩,⟨0,List.replicate nt (wl,0)⟩,List.replicate nt [], -1,cf.pages,0,List.replicate 8 [],r.2.1,0,0,0⟩:=by
  have e1:cf.pages.toNat=np:=by omega
  have e2:cf.threads.toNat=nt:=by omega
  unfold Co.new;simp only[e1,e2];rw[show Ce.new cf.pages=Ce.new (np:Int) by rw[hnp],hr]
 have nz:∀x∈D.S,w1.heap.size<=x/\x<w2.heap.size:=λx hx=>by
  rcases hD2 x (D.sub x hx)with e|e
  ·exact absurd (e ▸ (by have:=D.subT x hx;simpa[DG.all] using this):(0:Nat)∈D.st::D.ob::D.om::D.A.all) h14.ok.z
  ·exact e
 have one:∀ {a b:wn},Fr [co] a b->Fr (co::D.S) a b:=λh=>h.mono λx hx=>by simp only[zF]at hx;simp[hx]
 have tl:∀ {a b:wn},Fr D.S a b->Fr (co::D.S) a b:=λh=>h.mono λx hx=>by simp[hx]
 have fc7:Fr (co::D.S) w12 w17:=(((one fce).trans hf15.w).trans (tl hf16)).trans (one hu17.fr);have f7e:Fr (co::D.S) w7 w17:=((one f79).trans f9c.w).trans fc7;have f11e:Fr (co::D.S) w11 w17:=hn12.fr.w.trans fc7;have f3e:Fr (co::D.S) w3 w17:=((((hn4.fr.trans hf5).trans hf6).trans hf7).w).trans f7e;have fT:Fr [] w w17:=f7.then f7e (λx hx=>by
  simp only[ux]at hx;rcases hx with e|e
  ·exact ws (by omega)
  ·exact ws (by have:=nz x e;omega))
 have nD2:∀x,w2.heap.size<=x->x∉D.all:=λx hx e=>by rcases hD2 x e with e' | e'<;>omega
 have gx:∀x∈[G.gr,G.wa,G.sk,G.mb],x∉co::D.S:=λx hx e=>by
  have:=hG3 x hx;simp only[ux]at e;rcases e with e|e
  ·omega
  ·have:=nz x e;omega
 have frng:∀x∈[co,re,bu]++(BN rv++BN bv)++[tr,sw] ,w3.heap.size<=x/\x<w17.heap.size:=λx hx=>by
  simp only[n7,ux,i9,vt]at hx;rcases hx with ((e|e|e)|(e|e))|(e|e)
  ·omega
  ·omega
  ·omega
  ·have:=hv6 x e;omega
  ·have:=hv7 x e;omega
  ·omega
  ·omega
 have nx7:∀x,w4.heap.size<=x->x∉co::D.S:=λx hx e=>by
  simp only[ux]at e;rcases e with e|e
  ·omega
  ·have:=nz x e;omega
 rw[en]at hk;have c17:=hu17.at_;refine hk ⟨⟨D,G,tr,sw,w17.heap.size⟩,co,re,bu,rv,bv⟩ ⟨v8 wj 0 0,List.replicate nt (v8 wj 0 0),List.replicate 8 (v8 wj 0 0)⟩ w17 fT ?_ ?_ ?_
 ·simp[Mv.all,Dv,BN,wm.ownBlock]
 ·intro x hx;simp only[C4.fix,Cm.fix,n7,ux,i9,vt]at hx;rcases hx with (e|e|e|e|e)|(e|e|e|e|e|e)|e
  ·exact ws (by omega)
  ·exact ws (by omega)
  ·exact ws (by omega)
  ·exact ws (by have:=hv6 x e;omega)
  ·exact ws (by have:=hv7 x e;omega)
  ·exact ws (by omega)
  ·exact ws (by omega)
  ·exact ws (by have:=hG3 x (by simp[e]);omega)
  ·exact ws (by have:=hG3 x (by simp[e]);omega)
  ·exact ws (by have:=hG3 x (by simp[e]);omega)
  ·exact ws (by have:=hG3 x (by simp[e]);omega)
  ·rcases hD2 x e with e'|e'
   ·exact .inl e'
   ·exact ws (by omega)
 ·have hNof:∀n,Dv (List.replicate n (wm.slice wj 0 0))=[]:=λn=>by simp[Dv,BN,wm.ownBlock]
  have stF:=h16.keep hu17.fr (λx hx=>by simpa using nco x hx);have gyF:CY G (v8 wj 0 0) cf.stack w17 ⟨[],wl,λ_=>wl⟩:=h3.keep f3e (λx hx=>gx x (by
   simp only[CR.all,CR.S,BN,wm.ownBlock,ux,i9,vt]at hx;simp only[ux,i9,vt];omega))
  have hNd:∀x∈[tr,sw,G.gr,G.wa,G.sk,G.mb],x∉D.all:=λx hx=>nD2 x (by
   simp only[ux,i9,vt]at hx;rcases hx with e|e|e|e|e|e
   ·omega
   ·omega
   all_goals have:=hG3 x (by simp[e]);omega)
  have hG4:=hG3;refine⟨⟨λx hx=>?_,λx hx=>?_⟩,⟨⟨?_,hNd,λx hx=>?_⟩,?_,gyF,?_,?_,by simp[BN,wm.ownBlock],vl _,⟨p1,p2⟩,ck⟩,⟨_,c17,rfl,rfl,rfl,rfl,rfl,rfl,rfl,λj hj=>?_,rfl,rfl,rfl,rfl⟩,?_,?_,⟨by simp,λi a b=>?_,λi j a b _ x hx=>?_⟩,by simp,λl hl=>?_,?_,?_⟩
  ·have hx':w3.heap.size<=x/\x<w7.heap.size:=by
    simp only[C4.fix,n7,ux]at hx;rcases hx with e|e|e|e|e
    ·omega
    ·omega
    ·omega
    ·have:=hv6 x e;omega
    ·have:=hv7 x e;omega
   intro e;simp only[Cm.fix,n7,ux,i9,vt]at e;rcases e with (e|e|e|e|e|e)|e
   ·omega
   ·omega
   ·have:=hG3 x (by simp[e]);omega
   ·have:=hG3 x (by simp[e]);omega
   ·have:=hG3 x (by simp[e]);omega
   ·have:=hG3 x (by simp[e]);omega
   ·exact nD2 x (by omega) e
  ·simp only[C4.fix,n7,ux]at hx;simp only;rcases hx with e|e|e|e|e
   ·omega
   ·omega
   ·omega
   ·have:=hv6 x e;omega
   ·have:=hv7 x e;omega
  ·have q1:=hG3 G.gr (by simp);have q2:=hG3 G.wa (by simp);have q3:=hG3 G.sk (by simp);have q4:=hG3 G.mb (by simp);simp only[Cm.fix];rw[o7,o7];refine⟨?_,?_,nd3⟩
   ·simp only[ux,i9,vt];omega
   ·simp only[ux,i9,vt];omega
  ·simp only[Cm.fix,n7,ux,i9,vt]at hx;simp only;rcases hx with (e|e|e|e|e|e)|e
   ·omega
   ·omega
   ·have:=hG3 x (by simp[e]);omega
   ·have:=hG3 x (by simp[e]);omega
   ·have:=hG3 x (by simp[e]);omega
   ·have:=hG3 x (by simp[e]);omega
   ·rcases hD2 x e with e'|e'<;>omega
  ·have e1:cf.pages.toNat=np:=by omega
   rw[e1];exact stF
  ·exact f11e.at_ hn11.at_ (nx7 tr (by omega))
  ·exact fc7.at_ hn12.at_ (nx7 sw (by omega))
  ·have:j=0∨j=1∨j=2∨j=3∨j=4∨j=5∨j=6∨j=7:=by omega
   rcases this with h|h|h|h|h|h|h|h<;>subst h<;>rfl
  ·exact h6.keep (hf7.w.trans f7e) (nx7 _ (by omega)) (λx hx=>nx7 x (by have:=hv6 x hx;omega))
  ·exact h7.keep f7e (nx7 _ (by omega)) (λx hx=>nx7 x (by have:=hv7 x hx;omega)) (by rw[hNof];simp)
  ·have e1:(List.replicate 8 (wm.slice wj 0 0))[i]=v8 wj 0 0:=yA _;have e2:((List.replicate 8 ([]:List V2)).map Cz)[i]=[]:=by rw[b8,yA];rfl
   rw[e1,e2];exact BQ.nil _ _ _
  ·have e1:(List.replicate 8 (wm.slice wj 0 0))[i]=v8 wj 0 0:=yA _;rw[e1]at hx;simp[BN,wm.ownBlock]at hx
  ·rw[xR hl];simp
  ·simp only;rw[hNof];simp
  ·simp only;rw[hNof];simp
end
section
variable{K:VK}{w:wn}
def TQ(a b:Int)(A:Option Addr)(n c:Nat):(Instr.build 141 #[(0,v6 wg a),(1,v6 wg b),(2,v8 A n c)]).run Z w=.ok (we #[v6 wg a,v6 wg b,v8 A n c]) w:=by kernel_rfl
def T7(T:Nat)(hT:T<=8)(win most:Int)(hw:1<=win/\win<=64)(hm:0<=most/\most<=win)(h:∀g bb w',Fr [] w w'->w.heap.size<=g->w.heap.size<=bb->Ew w' g bb T win most (λ_=>v8 wj 0 0) (λ_=>[])->K (v7 (wh ⟨g,0,wj⟩)) w'):
  I Z 42 #[v6 wg (T:Int),v6 wg win,v6 wg most] w K:=by
 refine F42.sh (FZ _ _ _ ?_);rw[show Dn win 1 64=win by unfold Dn;omega];refine FZ _ _ _ ?_;rw[show Dn most 0 win=most by unfold Dn;omega];refine FZ _ _ _ ?_;rw[show Dn (T:Int) 0 8=T by unfold Dn;omega]
 refine Bf (e:=231) (sz:=3) (bytes:=40) (z:=we #[v8 wj 0 0,v6 wg 0,v6 wg 0]) T Tryz.underlying139 (by kernel_rfl) rfl (by decide) (by intro u hu;simp only[wm.cells,ux,i9,vt]at hu;rcases hu with rfl | rfl | rfl<;>rfl) (by omega) (by omega) λbb w1 hn1 ho1=>?_;refine A4 (TQ _ _ _ _ _) (Ar λg w2 hn2=>?_);have lb:=BP hn1.at_
 refine h g bb w2 (hn1.fr.trans hn2.fr) (by have:=hn2.is;have:=hn1.fr.size;omega) (by have:=hn1.is;omega) ⟨hn2.at_,⟨_,hn2.fr.at_ hn1.at_ (by simp),?_,λt ht=>?_⟩,λt _=>BQ.nil _ _ _,by have:=hn2.is;omega,by simp[BN,wm.ownBlock],by simp[BN,wm.ownBlock]⟩
 ·simp[size_madeCells]
 ·have e:∀k,k<3->(madeCells #[v8 wj 0 0,v6 wg 0,v6 wg 0] (T*3))[t*3+k]?=(#[v8 wj 0 0,v6 wg 0,v6 wg 0]:Array wm)[k]?:=λk hk=>by
   unfold madeCells;rw[Array.getElem?_map,Array.getElem?_range,vy (by omega)];simp only[o9];have:(t*3+k) % (#[v8 wj 0 0,v6 wg 0,v6 wg 0]:Array wm).size=k:=by show (t*3+k) % 3=k;omega
   rw[this]
   match k,hk with
   | 0,_=>rfl
   | 1,_=>rfl
   | 2,_=>rfl
  exact⟨e 0 (by omega),⟨0,e 1 (by omega)⟩,⟨0,e 2 (by omega)⟩⟩
end
section
variable{K:VK}{w:wn}{A:Ci}{g:Gw}{cf:Cf}{B:Int}{x:Ma}
def KO(h:BS A g cf B w x)(hk:K (v6 wg x.co.phase) w):I Z 23 #[v7 (wh ⟨A.ma,0,wj⟩)] w K:=by
 refine F23.sh (Lu h ?_)
 try simp only[zv]
 refine F23.k3.to ?_
 try simp only[zv]
 exact Ad (v:=v7 (wh ⟨A.Q.co,0,wj⟩)) h.blk rfl (IJ h.co hk)
def Ma.lives(cf:Cf)(x:Ma):List Int:=((List.range cf.threads.toNat).filter λt:Nat=>x.co.r.live (t:Int)).map Int.ofNat
def R3{W:wn}(h0:BS A g cf B W x){n:Nat}(hn:cf.threads=(n:Int))(hk:∀v w',Fr [] W w'->BY W v->BQ w' v 3 1 (BX (x.lives cf))->K v w'):
  ∀(d i:Nat) (w:wn) (v:wm),i+d=n->Fr [] W w->BY W v->BQ w v 3 1 (BX (((List.range i).filter λt:Nat=>x.co.r.live (t:Int)).map Int.ofNat))->
   F19.l5 K (v7 (wh ⟨A.ma,0,wj⟩)) v (v6 wg (n:Int)) (v6 wg (i:Int)) w:=by
 have hth:=h0.fine.th;intro d;induction d with
 | zero=>
  intro i w v hi hf hn' hv;have e:i=n:=by omega
  subst e;refine F19.l5.to ?_;simp only[zv,show ¬((i:Int)<(i:Int)) by omega];refine F19.k10.to (hk v w hf hn' ?_);unfold Ma.lives;rw[hn,zK];exact hv
 | succ d ih=>
  intro i w v hi hf hn' hv;have h:=h0.keep0 hf;refine F19.l5.to ?_;simp only[zv,show (i:Int)<(n:Int) by omega];refine F19.k6.to ?_
  try simp only[zv]
  refine Ad (v:=v7 (wh ⟨A.Q.co,0,wj⟩)) h.blk rfl (Fq h.co ?_);have hl:(((List.range i).filter λt:Nat=>x.co.r.live (t:Int)).map Int.ofNat).length<=8:=by rw[j9];exact va (yI _ _) (by rw[zP];omega)
  have e1:List.map Int.ofNat ((List.range (i+1)).filter λt:Nat=>x.co.r.live (t:Int))=((List.range i).filter λt:Nat=>x.co.r.live (t:Int)).map Int.ofNat++if x.co.r.live (i:Int) then[(i:Int)] else[]:=by rw[o8,zA,m9];congr 1;rw[List.filter_cons];cases x.co.r.live (i:Int)<;>simp
  have step:∀w' v',Fr [] W w'->BY W v'->BQ w' v' 3 1 (BX (((List.range (i+1)).filter λt:Nat=>x.co.r.live (t:Int)).map Int.ofNat))->F19.k9 K (v7 (wh ⟨A.ma,0,wj⟩)) v' (v6 wg (n:Int)) (v6 wg (i:Int)) w':=λw' v' hf' hn'' hv'=>by
   refine F19.k9.to ?_
   try simp only[A7]
   rw[BO (n:=(i:Int)+1) (by omega)];exact ih (i+1) w' v' (by omega) hf' hn'' hv'
  rw[e1]at step;cases z:x.co.r.live (i:Int) with
  | true=>
   rw[z]at step;simp only[Ah];exact Bn hf hn' hv (by omega) λv' w' hf' hn'' ho _ _=>step w' v' hf' hn'' (by simpa using ho)
  | false=>
   rw[z]at step;simp only[Ag];exact step w v hf hn' (by simpa using hv)
def Vz(h:BS A g cf B w x)(hk:∀v w',Fr [] w w'->BY w v->BQ w' v 3 1 (BX (x.lives cf))->K v w'):I Z 19 #[v7 (wh ⟨A.ma,0,wj⟩)] w K:=by
 have hth:=h.fine.th;obtain⟨n,hn⟩:=xU (show 0<=cf.threads by omega);refine F19.sh (Lu h ?_)
 try simp only[zv]
 refine F19.k3.to ?_
 try simp only[zv]
 refine Ad (v:=v6 wg cf.threads) h.blk rfl ?_;rw[hn];exact R3 (W:=w) h hn hk n 0 w _ (by omega) (Fr.refl _ _) (BY.nil _) (BQ.nil _ _ _)
end
end
noncomputable section
variable{K:VK}{w:wn}{x0 y0 y1 y5 y6:wm}
namespace F11
def ann:=a1 [(3,[])]
def code:=cd f11
def BM:=tp f11
variable(K:VK)(w:wn)
@[irreducible]def k3:=nk ann 6 [] w [1,1] code (BM K)
end F11
def F11.k3.to(h:(K (v6 wg 0) w)):F11.k3 K w:=qq h
def F11.sh(h:(Aq (wt (wm.cells x0) 23) w λa b=>Ak 10 a b λc d=>I Z 36 #[c] d λf g=>U .neq f (v6 wg 0) g λi j=>Af i (K (v6 wg 6) j) (F11.k3 K j))):I Z 11 #[x0] w K:=BK (A:=F11.ann) (args:=[x0]) (qq h)
def F31.sh(h:(Aq (wt #[v6 wg 0,v6 wg 0,v6 wg 0,v6 wg 0,v6 wg 0,v6 wg 0,v6 wg 0,v6 wg 0,v6 wg 0,v6 wg 0] 23) w λa b=>Am Z (Instr.build 23 #[(0,(v6 wg 16)),(1,(v6 wg 4)),(2,(v6 wg 20)),(3,(v6 wg 4)),(4,(v6 wg 700)),(5,(v6 wg 100)),(6,(v6 wg 4)),(7,(v6 wg 4)),(8,(v6 wg 16)),(9,(v6 wg 4))]) b λc d=>Aj 10 a c d λf=>Ak 10 a f λr4 _=>K r4 f)):I Z 31 #[] w K:=BK (A:=A0) (args:=[]) (qq h)
namespace F36
def ann:Cg:=⟨[(3,[1,5,6]),(6,[1,5,6]),(7,[1]),(9,[])],[(2,[1,5,6])],[],[(4,(tk [0,4,6,9,1,2,3,5,7,10,11,12] (.go 8 (.take 13 .fin) .fin)))],wj⟩
def code:=cd f36
def BM:=tp f36
variable(K:VK)(y1 y5 y6:wm)(w:wn)
def k7:=nk ann 37 [(1,y1)] w [1,1] code (BM K)
def l2:=nl ann 37 [(1,y1),(5,y5),(6,y6)] w [1,0,1,0] code (BM K)
def k3:=nk ann 37 [(1,y1),(5,y5),(6,y6)] w [1,0,1,0,0,1,1] code (BM K)
def k6:=nk ann 37 [(1,y1),(5,y5),(6,y6)] w [1,0,1,0,0,1,1,1] code (BM K)
def k9:=nk ann 37 [] w [1,1,1] code (BM K)
attribute [irreducible] k7 l2 k3 k6 k9
end F36
def F36.k7.to(h:(Ab 2 y1 w λa b=>Ac a b λc d=>Ab 4 y1 d λf g=>Ac f g λi j=>U .sub (v6 wg 1000) i j λk m=>U .mul c k m λo p=>Ab 3 y1 p λq r=>Ac q r λs t=>U .mul (v6 wg 1000) s t λu v=>U .lss o u v λx y=>Af x (K (v6 wg 11) y) (F36.k9 K y))):F36.k7 K y1 w:=qq h
def F36.l2.to(h:(U .lss y6 (v6 wg 10) w λa b=>Af a (F36.k3 K y1 y5 y6 b) (F36.k7 K y1 b))):F36.l2 K y1 y5 y6 w:=by unfold F36.l2 nl;exact BW (qq h)
def F36.k3.to(h:(Am Z (Instr.index 112 y5 y6) w λa b=>Aq (wt #[v7 wj,v6 wg 0,v6 wg 0] 111) b λc d=>Aj 3 c a d λf=>A2 f λS g=>Ab 0 c g λi j=>Ab 1 c j λk m=>Ab 2 c m λo p=>Ab 0 c p λq r=>An S i r λs t=>Ae s t λu v=>An S u v λx y=>An S k y λz aa=>An S o aa λab ac=>An S q ac λad ae=>Ae ad ae λaf ag=>An S af ag λah ai=>(I Z 66 #[x,z,ab] ai λaj ak=>(S ak/\
 U .neq aj ah ak λal am=>Af al (U .add y6 (v6 wg 1) am λan ao=>K an ao) (F36.k6 K y1 y5 y6 am)))/\True)):F36.k3 K y1 y5 y6 w:=qq h
def F36.k6.to(h:(U .add y6 (v6 wg 1) w λa b=>F36.l2 K y1 y5 a b)):F36.k6 K y1 y5 y6 w:=qq h
def F36.k9.to(h:(K (v6 wg 0) w)):F36.k9 K w:=qq h
def F36.sh(h:(Aq (wt (wm.cells x0) 23) w λa b=>I Z 65 #[a] b λc d=>F36.l2 K a c (v6 wg 0) d)):I Z 36 #[x0] w K:=BK (A:=F36.ann) (args:=[x0]) (qq h)
namespace F43
def ann:=a1 [(3,[1])]
def code:=cd f43
def BM:=tp f43
variable(K:VK)(y1:wm)(w:wn)
@[irreducible]def k3:=nk ann 13 [(1,y1)] w [1,1] code (BM K)
end F43
def F43.k3.to(h:(Ab 2 y1 w λa b=>Ac a b λc d=>Ab 4 y1 d λf g=>Ac f g λi j=>U .sub (v6 wg 1000) i j λk m=>U .mul c k m λo p=>AB Z .quo 3 (.tmp 11) (.const (v6 wg 1000)) o (v6 wg 1000) p λq r=>K q r)):F43.k3 K y1 w:=qq h
def F43.sh(h:(Aq (wt (wm.cells x0) 23) w λa b=>Ak 10 a b λc d=>I Z 36 #[c] d λf g=>U .neq f (v6 wg 0) g λi j=>Af i (K (v6 wg 0) j) (F43.k3 K a j))):I Z 43 #[x0] w K:=BK (A:=F43.ann) (args:=[x0]) (qq h)
namespace F65
def ann:Cg:=⟨[],[],[],[(1,(tk [0,1,2,4,5,6,8,9,10,12,13,14,16,17,18,20,21,22,24,25,26,28,29,30,32,33,34,36,37,38,3,7,11,15,19,23,27,31,35,39,40] (.go 41 .fin .fin)))],wj⟩
end F65
def F65.sh(h:(Aq (wt #[v7 wj,v6 wg 0,v6 wg 0,v7 wj,v6 wg 0,v6 wg 0,v7 wj,v6 wg 0,v6 wg 0,v7 wj,v6 wg 0,v6 wg 0,v7 wj,v6 wg 0,v6 wg 0,v7 wj,v6 wg 0,v6 wg 0,v7 wj,v6 wg 0,v6 wg 0,v7 wj,v6 wg 0,v6 wg 0,v7 wj,v6 wg 0,v6 wg 0,v7 wj,v6 wg 0,v6 wg 0] 112) w λa b=>A2 b λS c=>Ae x0 c λd f=>Ab 0 d f λg i=>Ae x0 i λj k=>Ab 1 j k λm o=>Ae x0 o λp q=>Ab 2 p q λr s=>Ae x0 s λt u=>Ab 3 t u λv x=>Ae x0 x λy z=>Ab 4 y z λaa ab=>Ae x0 ab λac ad=>Ab 5 ac ad λae af=>Ae x0 af λag ah=>Ab 6 ag ah λai aj=>Ae x0 aj λak al=>Ab 7 ak al λam an=>Ae x0 an λao ap=>Ab 8 ao ap λaq ar=>Ae x0 ar λau av=>Ab 9 au av λaw ax=>
 ∃ay,(∀w',S w'->(Instr.build 111 #[(0,g),(1,(v6 wg 2)),(2,(v6 wg 64))]).run Z w'=.ok ay w')/\(∃az,(∀w',S w'->(Instr.build 111 #[(0,m),(1,(v6 wg 1)),(2,(v6 wg 8))]).run Z w'=.ok az w')/\(∃ba,(∀w',S w'->(Instr.build 111 #[(0,r),(1,(v6 wg 1)),(2,(v6 wg 64))]).run Z w'=.ok ba w')/\(∃bb,(∀w',S w'->(Instr.build 111 #[(0,v),(1,(v6 wg 1)),(2,(v6 wg 16))]).run Z w'=.ok bb w')/\(∃bc,(∀w',S w'->(Instr.build 111 #[(0,aa),(1,(v6 wg 0)),(2,(v6 wg 1000))]).run Z w'=.ok bc w')/\(∃bd,(∀w',S w'->(Instr.build 111 #[(0,ae),(1,(v6 wg 0)),(2,(v6 wg 65535))]).run Z w'=.ok bd w')/\(∃be,(∀w',S w'->(Instr.build 111 #[(0,ai),(1,(v6 wg 0)),(2,(v6 wg 64))]).run Z w'=.ok be w')/\(∃bf,(∀w',S w'->(Instr.build 111 #[(0,am),(1,(v6 wg 1)),(2,(v6 wg 16))]).run Z w'=.ok bf w')/\(∃bg,(∀w',S w'->(Instr.build 111 #[(0,aq),(1,(v6 wg 1)),(2,(v6 wg 256))]).run Z w'=.ok bg w')/\(∃bh,(∀w',S w'->(Instr.build 111 #[(0,aw),(1,(v6 wg 0)),(2,(v6 wg 64))]).run Z w'=.ok bh w')/\(∃bi,(∀w',S w'->(Instr.build 112 #[(0,ay),(1,az),(2,ba),(3,bb),(4,bc),(5,bd),(6,be),(7,bf),(8,bg),(9,bh)]).run Z w'=.ok bi w')/\((Aj 30 a bi ax λbj=>
 (S bj/\
 Ak 30 a bj λr35 _=>K r35 bj))/\True))))))))))))):I Z 65 #[x0] w K:=BK (A:=F65.ann) (args:=[x0]) (qq h)
def F7.sh(h:(I Z 31 #[] w λa b=>Aq (wt #[v6 wg 0,v6 wg 0,v6 wg 0,v6 wg 0,v6 wg 0,v6 wg 0,v6 wg 0,v6 wg 0,v6 wg 0,v6 wg 0] 23) b λc d=>Aj 10 c a d λf=>Ak 10 c f λg i=>Am Z (Instr.build 40 #[(0,(v6 wg 1))]) i λj k=>Am Z (Instr.build 40 #[(0,(v6 wg 3)),(6,(v6 wg 2)),(5,(v6 wg 1))]) k λm o=>Am Z (Instr.build 40 #[(0,(v6 wg 17))]) o λp q=>Am Z (Instr.build 40 #[(0,(v6 wg 14))]) q λr s=>Am Z (Instr.build 40 #[(0,(v6 wg 14))]) s λt u=>Am Z (Instr.build 40 #[(0,(v6 wg 16)),(6,(v6 wg 64))]) u λv x=>Am Z (Instr.buildSlice 24 6 #[(0,j),(1,m),(2,p),(3,r),(4,t),(5,v)]) x λy z=>I Z 9 #[g,y] z λaa ab=>Ao 0 aa ab λac ad=>Ao 1 aa ad λae af=>U .eql ae (v6 wg 0) af λag ah=>Aa wk ag (λK=>K ac ah) ah λai aj=>Aa wk ag (AD ai aj) aj λak al=>Aa wk ag (U .eql ak (v6 wg 6) al) al λam an=>Aw (wh ag) (wh am) (wh (wd wl)) an λao ap=>Aa wk ao (λK=>K ac ap) ap λaq ar=>Aa wk ao (AC 5 aq (v6 wg 1) ar) ar λau av=>
 Aa wk ao (Ak 5 au av) av λaw ax=>Aa wk ao (λK=>Am Z (Instr.build 38 #[(1,(v6 wg 2)),(2,(v6 wg 1))]) ax K) ax λay az=>Aa wk ao (AB Z .eql 38 (.tmp 27) (.tmp 28) aw ay az) az λba bb=>Aw (wh ao) (wh ba) (wh (wd wl)) bb λbc bd=>Aa wk bc (λK=>K ac bd) bd λbe bf=>Aa wk bc (AC 5 be (v6 wg 5) bf) bf λbg bh=>Aa wk bc (Ab 0 bg bh) bh λbi bj=>Aa wk bc (Ac bi bj) bj λbk bl=>Aa wk bc (U .eql bk (v6 wg 0) bl) bl λbm bn=>Aw (wh bc) (wh bm) (wh (wd wl)) bn λbo bp=>Aa wk bo (λK=>K ac bp) bp λbq br=>Aa wk bo (AC 5 bq (v6 wg 5) br) br λbs bt=>Aa wk bo (Ab 3 bs bt) bt λbu bv=>Aa wk bo (Ac bu bv) bv λbw bx=>Aa wk bo (U .eql bw (v6 wg 2) bx) bx λbz ca=>Aw (wh bo) (wh bz) (wh (wd wl)) ca λcb cc=>K cb cc)):I Z 7 #[] w K:=BK (A:=A0) (args:=[]) (qq h)
namespace F8
def ann:=a1 [(3,[0])]
def code:=cd f8
def BM:=tp f8
variable(K:VK)(y0:wm)(w:wn)
@[irreducible]def k3:=nk ann 9 [(0,y0)] w [1,1] code (BM K)
end F8
def F8.k3.to(h:(K y0 w)):F8.k3 K y0 w:=qq h
def F8.sh(h:(AD x0 w λa b=>U .gtr a (v6 wg 70) b λc d=>Af c (Am Z (Instr.sliceAt 24 x0 wj (wh (v6 wg 70)) wj) d λf g=>K f g) (F8.k3 K x0 d))):I Z 8 #[x0] w K:=BK (A:=F8.ann) (args:=[x0]) (qq h)
end
section
open Go.RowKit
def Hc(cf:Cf):List Int:=[cf.pages,cf.threads,cf.window,cf.quantum,cf.target,cf.cap,cf.tax,cf.chunk,cf.stack,cf.trigger]
def Gv:List (Int × Int):=[(2,64),(1,8),(1,64),(1,16),(0,1000),(0,65535),(0,64),(1,16),(1,256),(0,64)]
structure Cf.Legal(cf:Cf):Prop where
 sp:∀i,i<10->((Gv.getD i (0,0)).1<=(Hc cf).getD i 0/\(Hc cf).getD i 0<=(Gv.getD i (0,0)).2)
 qu:1000*cf.quantum<=cf.window*(1000-cf.target)
def Hm(b:Nat):wm:=we #[v7 (wh ⟨b,0,wj⟩),v6 wg 2,v6 wg 64,v7 (wh ⟨b,1,wj⟩),v6 wg 1,v6 wg 8,v7 (wh ⟨b,2,wj⟩),v6 wg 1,v6 wg 64,v7 (wh ⟨b,3,wj⟩),v6 wg 1,v6 wg 16,v7 (wh ⟨b,4,wj⟩),v6 wg 0,v6 wg 1000,v7 (wh ⟨b,5,wj⟩),v6 wg 0,v6 wg 65535,v7 (wh ⟨b,6,wj⟩),v6 wg 0,v6 wg 64,v7 (wh ⟨b,7,wj⟩),v6 wg 1,v6 wg 16,v7 (wh ⟨b,8,wj⟩),v6 wg 1,v6 wg 256,v7 (wh ⟨b,9,wj⟩),v6 wg 0,v6 wg 64]
section
variable{K:VK}{w:wn}
def K2(b o:Nat)(lo hi:Int):(Instr.build 111 #[(0,v7 (wh ⟨b,o,wj⟩)),(1,v6 wg lo),(2,v6 wg hi)]).run Z w=.ok (we #[v7 (wh ⟨b,o,wj⟩),v6 wg lo,v6 wg hi]) w:=by kernel_rfl
def VM{b:Nat}(hk:∀w',Fr [] w w'->K (Hm b) w'):I Z 65 #[v7 (wh ⟨b,0,wj⟩)] w K:=by
 refine F65.sh (Ar λx w1 hn1=>A9 (λ_=>True) λw2 hf2 _=>⟨trivial,?_⟩);have l1:=hn1.is
 try simp only[zv]
 refine⟨_,λw' _=>K2 b 0 2 64,⟨_,λw' _=>K2 b 1 1 8,⟨_,λw' _=>K2 b 2 1 64,⟨_,λw' _=>K2 b 3 1 16,⟨_,λw' _=>K2 b 4 0 1000,⟨_,λw' _=>K2 b 5 0 65535,⟨_,λw' _=>K2 b 6 0 64,⟨_,λw' _=>K2 b 7 1 16,⟨_,λw' _=>K2 b 8 1 256,⟨_,λw' _=>K2 b 9 0 64,⟨Hm b,λw' _=>by kernel_rfl,?_⟩⟩⟩⟩⟩⟩⟩⟩⟩⟩⟩
 refine⟨AA (x:=Hm b) (hf2.at_ hn1.at_ (by simp)) rfl (by simp[Hm,wm.cells,wm.oneCell']) rfl λw3 hu=>⟨trivial,A3 hu.at_ rfl (hk w3 ((hn1.fr.trans hf2).then hu.fr (by simp;omega)))⟩,trivial⟩
def Y7(b:Nat){i:Nat}(hi:i<10):(Instr.index 112 (Hm b) (v6 wg (i:Int))).run Z w=.ok (we #[v7 (wh ⟨b,i,wj⟩),v6 wg (Gv.getD i (0,0)).1,v6 wg (Gv.getD i (0,0)).2]) w:=by
 have:i=0∨i=1∨i=2∨i=3∨i=4∨i=5∨i=6∨i=7∨i=8∨i=9:=by omega
 rcases this with h|h|h|h|h|h|h|h|h|h<;>subst h
 ·show (Instr.index 112 (Hm b) (v6 wg 0)).run Z w=.ok (we #[v7 (wh ⟨b,0,wj⟩),v6 wg 2,v6 wg 64]) w;kernel_rfl
 ·show (Instr.index 112 (Hm b) (v6 wg 1)).run Z w=.ok (we #[v7 (wh ⟨b,1,wj⟩),v6 wg 1,v6 wg 8]) w;kernel_rfl
 ·show (Instr.index 112 (Hm b) (v6 wg 2)).run Z w=.ok (we #[v7 (wh ⟨b,2,wj⟩),v6 wg 1,v6 wg 64]) w;kernel_rfl
 ·show (Instr.index 112 (Hm b) (v6 wg 3)).run Z w=.ok (we #[v7 (wh ⟨b,3,wj⟩),v6 wg 1,v6 wg 16]) w;kernel_rfl
 ·show (Instr.index 112 (Hm b) (v6 wg 4)).run Z w=.ok (we #[v7 (wh ⟨b,4,wj⟩),v6 wg 0,v6 wg 1000]) w;kernel_rfl
 ·show (Instr.index 112 (Hm b) (v6 wg 5)).run Z w=.ok (we #[v7 (wh ⟨b,5,wj⟩),v6 wg 0,v6 wg 65535]) w;kernel_rfl
 ·show (Instr.index 112 (Hm b) (v6 wg 6)).run Z w=.ok (we #[v7 (wh ⟨b,6,wj⟩),v6 wg 0,v6 wg 64]) w;kernel_rfl
 ·show (Instr.index 112 (Hm b) (v6 wg 7)).run Z w=.ok (we #[v7 (wh ⟨b,7,wj⟩),v6 wg 1,v6 wg 16]) w;kernel_rfl
 ·show (Instr.index 112 (Hm b) (v6 wg 8)).run Z w=.ok (we #[v7 (wh ⟨b,8,wj⟩),v6 wg 1,v6 wg 256]) w;kernel_rfl
 ·show (Instr.index 112 (Hm b) (v6 wg 9)).run Z w=.ok (we #[v7 (wh ⟨b,9,wj⟩),v6 wg 0,v6 wg 64]) w;kernel_rfl
def We(cf:Cf){i:Nat}(hi:i<10):(Dk cf).toArray[i]?=wh (v6 wg ((Hc cf).getD i 0)):=by
 have:i=0∨i=1∨i=2∨i=3∨i=4∨i=5∨i=6∨i=7∨i=8∨i=9:=by omega
 rcases this with h|h|h|h|h|h|h|h|h|h<;>subst h<;>rfl
def QA{cf:Cf}{b:Nat}(h0:cf.Legal->∀w',Fr [] w w'->K (v6 wg 0) w')(h1:¬cf.Legal->∀n w',n≠0->Fr [] w w'->K (v6 wg n) w'):
  ∀(d i:Nat) (w':wn),i+d=10->Fr [] w w'->w'.heap[b]?=wh (wt (Dk cf).toArray 23 (0,0))->(∀j,j<i->((Gv.getD j (0,0)).1<=(Hc cf).getD j 0/\(Hc cf).getD j 0<=(Gv.getD j (0,0)).2))->
   F36.l2 K (v7 (wh ⟨b,0,wj⟩)) (Hm b) (v6 wg (i:Int)) w':=by
 intro d;induction d with
 | zero=>
  intro i w' hi hf hb hz;have e:i=10:=by omega
  subst e;refine F36.l2.to ?_;simp only[zv,show ¬(((10:Nat):Int)<10) by omega];refine F36.k7.to ?_;have q2:=hz 2 (by omega);have q3:=hz 3 (by omega);have q4:=hz 4 (by omega);have q2:1<=cf.window/\cf.window<=64:=q2;have q3:1<=cf.quantum/\cf.quantum<=16:=q3;have q4:0<=cf.target/\cf.target<=1000:=q4;have hm:0<=cf.window*(1000-cf.target)/\cf.window*(1000-cf.target)<=64000:=by
   constructor
   ·exact uo (by omega) (by omega)
   ·exact u4 (un q2.2 (show 1000-cf.target<=1000 by omega) (by omega) (by omega)) (by decide)
  try simp only[zv]
  refine Ad (v:=v6 wg cf.window) hb rfl ?_;refine Ad (v:=v6 wg cf.target) hb rfl ?_
  try simp only[zv]
  rw[BO (n:=1000-cf.target) (by omega),BO (n:=cf.window*(1000-cf.target)) (by omega)];refine Ad (v:=v6 wg cf.quantum) hb rfl ?_
  try simp only[zv]
  rw[BO (n:=1000*cf.quantum) (by omega)];by_cases c:cf.window*(1000-cf.target)<1000*cf.quantum
  ·simp only[zv,c];exact h1 (λL=>by have:=L.qu;omega) 11 w' (by decide) hf
  ·simp only[zv,c];exact F36.k9.to (h0 ⟨λi hi=>hz i hi,by omega⟩ w' hf)
 | succ d ih=>
  intro i w' hi hf hb hz;have hlt:i<10:=by omega
  refine F36.l2.to ?_;simp only[zv,show (i:Int)<10 by omega];refine F36.k3.to (A4 (Y7 b hlt) ?_);generalize hlo:(Gv.getD i (0,0)).1=lo;generalize hhi:(Gv.getD i (0,0)).2=hi';refine Ar λx w1 hn1=>AA (x:=we #[v7 (wh ⟨b,i,wj⟩),v6 wg lo,v6 wg hi']) hn1.at_ rfl (by simp[wm.cells,wm.oneCell']) rfl λw2 hu2=>?_;have l1:=hn1.is;have f2:Fr [] w' w2:=hn1.fr.then hu2.fr (by simp;omega);have b2:=f2.at_ hb (by simp)
  have x2:=hu2.at_;refine A9 (λv=>v.heap[x]?=wh (wt #[v7 (wh ⟨b,i,wj⟩),v6 wg lo,v6 wg hi'] 111 (0,0))/\v.heap[b]?=wh (wt (Dk cf).toArray 23 (0,0))) λw3 hf3 _=>⟨⟨hf3.at_ x2 (by simp),hf3.at_ b2 (by simp)⟩,?_⟩
  try simp only[zv]
  have gv:=We cf hlt;generalize hv:(Hc cf).getD i 0=v at gv;refine Au (v:=v7 (wh ⟨b,i,wj⟩)) (λw' hw=>⟨_,_,_,hw.1,rfl⟩) ?_
  try simp only[Al]
  refine Au (v:=v6 wg v) (λw' hw=>⟨_,_,_,hw.2,gv⟩) (Au (v:=v6 wg lo) (λw' hw=>⟨_,_,_,hw.1,rfl⟩) (Au (v:=v6 wg hi') (λw' hw=>⟨_,_,_,hw.1,rfl⟩) (Au (v:=v7 (wh ⟨b,i,wj⟩)) (λw' hw=>⟨_,_,_,hw.1,rfl⟩) ?_)))
  try simp only[Al]
  refine Au (v:=v6 wg v) (λw' hw=>⟨_,_,_,hw.2,gv⟩) ⟨EI ⟨⟨hf3.at_ x2 (by simp),hf3.at_ b2 (by simp)⟩,?_⟩,trivial⟩;have f3:=(hf.trans f2).trans hf3;have ok:(lo<=v/\v<=hi')->F36.k6 K (v7 (wh ⟨b,0,wj⟩)) (Hm b) (v6 wg (i:Int)) w3:=λhok=>by
   refine F36.k6.to ?_
   try simp only[A7]
   rw[BO (n:=(i:Int)+1) (by omega)];refine ih (i+1) w3 (by omega) f3 (hf3.at_ b2 (by simp)) λj hj=>?_;by_cases e:j=i
   ·subst e;rw[hlo,hhi,hv];exact hok
   ·exact hz j (by omega)
  have lohi:lo<=hi':=by
   rw[<-hlo, <-hhi];have:i=0∨i=1∨i=2∨i=3∨i=4∨i=5∨i=6∨i=7∨i=8∨i=9:=by omega
   rcases this with h|h|h|h|h|h|h|h|h|h<;>subst h<;>decide
  by_cases c:lo<=v/\v<=hi'
  ·rw[vx (by omega),vx (by omega)];simp only[zv,vw,vz,zW];exact ok c
  ·have ne:(if v<lo then lo else if v>hi' then hi' else v)≠v:=by
    by_cases a:v<lo
    ·rw[vy a];omega
    ·have hv2:v>hi':=by omega
     rw[vx a,vy hv2];omega
   have vlo:((i:Int)+1)≠0:=by omega
   try simp only[AG]
   rw[ur ne]
   try simp only[Ah]
   rw[BO (n:=(i:Int)+1) (by omega)];exact h1 (λL=>c (by have:=L.sp i hlt;rw[hlo,hhi,hv]at this;exact this)) _ w3 vlo f3
def PK{cf:Cf}(h0:cf.Legal->∀w',Fr [] w w'->K (v6 wg 0) w')(h1:¬cf.Legal->∀n w',n≠0->Fr [] w w'->K (v6 wg n) w'):I Z 36 #[we (Dk cf).toArray] w K:=by refine F36.sh (Ar λb w1 hn1=>VM λw2 hf2=>?_);exact QA h0 h1 10 0 w2 (by omega) (hn1.fr.trans hf2) (hf2.at_ hn1.at_ (by simp)) (λj hj=>by omega)
def ME{cf:Cf}(h0:cf.Legal->∀w',Fr [] w w'->K (v6 wg 0) w')(h1:¬cf.Legal->∀w',Fr [] w w'->K (v6 wg 6) w'):I Z 11 #[we (Dk cf).toArray] w K:=by
 refine F11.sh (Ar λb w1 hn1=>A3 hn1.at_ rfl (PK (λL w2 hf2=>?_) λL n w2 hn hf2=>?_))
 ·simp only[zv,vw,vz,zW];exact F11.k3.to (h0 L w2 (hn1.fr.trans hf2))
 ·simp only[zv,vz,hn,zX];exact h1 L w2 (hn1.fr.trans hf2)
def WU{cf:Cf}(L:cf.Legal)(hk:∀w',Fr [] w w'->K (v6 wg cf.most) w'):I Z 43 #[we (Dk cf).toArray] w K:=by
 refine F43.sh (Ar λb w1 hn1=>A3 hn1.at_ rfl (PK (λ_ w2 hf2=>?_) λL'=>absurd L L'));have b2:=hf2.at_ hn1.at_ (by simp);simp only[zv,vw,vz,zW];refine F43.k3.to ?_;have q2:1<=cf.window/\cf.window<=64:=L.sp 2 (by omega);have q4:0<=cf.target/\cf.target<=1000:=L.sp 4 (by omega);have hm:0<=cf.window*(1000-cf.target)/\cf.window*(1000-cf.target)<=64000:=by
  constructor
  ·exact uo (by omega) (by omega)
  ·exact u4 (un q2.2 (show 1000-cf.target<=1000 by omega) (by omega) (by omega)) (by decide)
 try simp only[zv]
 refine Ad (v:=v6 wg cf.window) b2 rfl ?_;refine Ad (v:=v6 wg cf.target) b2 rfl ?_
 try simp only[zv]
 rw[BO (n:=1000-cf.target) (by omega),BO (n:=cf.window*(1000-cf.target)) (by omega)];refine⟨_,DR _ _ _ _ (by decide),?_⟩;have ed:(cf.window*(1000-cf.target)).tdiv 1000=cf.most:=rfl;have em:0<=cf.most/\cf.most<=64000:=by unfold Cf.most;rw[xD hm.1];omega
 rw[ed,BO (n:=cf.most) (by omega)];exact hk w2 (hn1.fr.trans hf2)
end
def C4.up(Q:C4)(N:Nat):C4:={ Q with H:={ Q.H with N:=N } }
def BZ.raise{w:wn}{Q:C4}{m:Mv}{cf:Cf}{c:Co}{N:Nat}(h:BZ Q m cf w c)(hm:m.all=[])(h1:Q.H.N<=N)(h2:N<=w.heap.size):BZ (Q.up N) m cf w c:=by
 have e1:BN m.lv=[]:=by unfold Mv.all at hm;exact (List.append_eq_nil_iff.1 hm).1
 have e2:=(List.append_eq_nil_iff.1 (List.append_eq_nil_iff.1 (show BN m.lv++(Dv m.vs++Dv m.ts)=[] from hm)).2);obtain⟨cs,b1,b2⟩:=h.blk
 refine⟨⟨h.ok.dj,λx hx=>by have:=h.ok.lo x hx;show x<N;omega⟩,⟨⟨h.hp.ok.nd,h.hp.ok.dj,λx hx=>by have:=h.hp.ok.lo x hx;show x<N;omega⟩,h.hp.st,h.hp.gy,h.hp.tb,h.hp.sb,by rw[e1];simp,h2,h.hp.pg,h.hp.ck⟩,⟨cs,b1,b2.sz,b2.s0,b2.s1,b2.s12,b2.s13,b2.s14,b2.s15,b2.ts,b2.s24,b2.s25,b2.s26,b2.s27⟩,h.rg,h.fb,h.th,h.tl,h.t16,by rw[e2.1];simp,by rw[e2.2];simp⟩
section
variable{K:VK}{w:wn}
def Cf.Legal.fine{cf:Cf}(L:cf.Legal):cf.Fine/\cf.Co:=by
 have q0:2<=cf.pages/\cf.pages<=64:=L.sp 0 (by omega);have q1:1<=cf.threads/\cf.threads<=8:=L.sp 1 (by omega);have q2:1<=cf.window/\cf.window<=64:=L.sp 2 (by omega);have q3:1<=cf.quantum/\cf.quantum<=16:=L.sp 3 (by omega);have q4:0<=cf.target/\cf.target<=1000:=L.sp 4 (by omega);have q5:0<=cf.cap/\cf.cap<=65535:=L.sp 5 (by omega);have q6:0<=cf.tax/\cf.tax<=64:=L.sp 6 (by omega)
 have q7:1<=cf.chunk/\cf.chunk<=16:=L.sp 7 (by omega);have q8:1<=cf.stack/\cf.stack<=256:=L.sp 8 (by omega);have hm:0<=cf.window*(1000-cf.target):=uo (by omega) (by omega);have hm2:cf.window*(1000-cf.target)<=cf.window*1000:=Int.mul_le_mul_of_nonneg_left (by omega) (by omega);have em:0<=cf.most/\cf.most<=cf.window:=by unfold Cf.most;rw[xD hm];omega
 exact⟨⟨q1,q2,em,by omega,q5,q6⟩,⟨by omega,q1,q7,q8⟩⟩
def X1(l b:Nat):(Instr.build 94 #[(0,v7 (wh ⟨l,0,wj⟩)),(1,v7 (wh ⟨b,0,wj⟩))]).run Z w=.ok (we #[v7 (wh ⟨l,0,wj⟩),v7 (wh ⟨b,0,wj⟩)]) w:=by kernel_rfl
def Z1(l b co:Nat)(cf:Cf):(Instr.build 96 #[(0,we #[v7 (wh ⟨l,0,wj⟩),v7 (wh ⟨b,0,wj⟩)]),(1,we (Dk cf).toArray),(2,v7 (wh ⟨co,0,wj⟩))]).run Z w=.ok (we #[v7 (wh ⟨l,0,wj⟩),v7 (wh ⟨b,0,wj⟩),v6 wg cf.pages,v6 wg cf.threads,v6 wg cf.window,v6 wg cf.quantum,v6 wg cf.target,v6 wg cf.cap,v6 wg cf.tax,v6 wg cf.chunk,v6 wg cf.stack,v6 wg cf.trigger,v7 (wh ⟨co,0,wj⟩)]) w:=by kernel_rfl
def P8{cf:Cf}(hT:GY w)(hz:0<w.heap.size)(h1:¬cf.Legal->∀w',Fr [] w w'->K (.tuple #[v7 wj,v6 wg 6]) w')(h0:cf.Legal->∀(A:Ci) (g:Gw) w',Fr [] w w'->g.all cf.threads.toNat=[]->(∀x∈A.all cf.threads.toNat g,x=0∨w.heap.size<=x)->BS A g cf 0 w' (Ma.new cf)->K (.tuple #[v7 (wh ⟨A.ma,0,wj⟩),v6 wg 0]) w'):
  I Z 16 #[we (Dk cf).toArray] w K:=by
 refine F16.sh (Ar λy w1 hn1=>A3 hn1.at_ rfl (F41.sh (Ar λy2 w2 hn2=>A3 hn2.at_ rfl (ME (λL w3 hf3=>?_) λL w3 hf3=>?_))))
 ·have hfine:=L.fine;simp only[zv,vw,vz,zW];have f3:=(hn1.fr.trans hn2.fr).trans hf3;have s3:=f3.size;have l1:=hn1.is;refine Vm (hf3.at_ hn2.at_ (by simp)) hfine.2 (hT.keep f3 (by simp)) (by omega) λQ m w4 hf4 hm4 hQ4 h4=>?_;have s4:=hf4.size;have y4:=(hn2.fr.trans (hf3.trans hf4)).at_ hn1.at_ (by simp);simp only[zv,vw,vz,zW]
  refine F16.k4.to (A9 (λw'=>w'.heap[y]?=wh (wt (Dk cf).toArray 23 (0,0))) λw5 hf5 _=>⟨hf5.at_ y4 (by simp),?_⟩);have s5:=hf5.size
  try simp only[zv]
  refine Au (v:=v6 wg cf.threads) (λw' hw=>⟨_,_,_,hw,rfl⟩) (Au (v:=v6 wg cf.window) (λw' hw=>⟨_,_,_,hw,rfl⟩) (AO (vs:=Dk cf) (λw' hw=>⟨_,_,_,hw,by simp[Dk],rfl⟩) (Au (v:=v6 wg cf.cap) (λw' hw=>⟨_,_,_,hw,rfl⟩) (AO (vs:=Dk cf) (λw' hw=>⟨_,_,_,hw,by simp[Dk],rfl⟩) ?_))));refine⟨WU L λw6 hf6=>⟨(hf5.trans hf6).at_ y4 (by simp),?_⟩,trivial⟩;have s6:=hf6.size;have hth:=hfine.1.th
  obtain⟨T,hTh⟩:=xU (show 0<=cf.threads by omega);rw[hTh];refine⟨T7 T (by omega) cf.window cf.most hfine.1.wi hfine.1.mo λlg bb w7 hf7 hlg hbb hL7=>⟨((hf5.trans hf6).trans hf7).at_ y4 (by simp),?_⟩,trivial⟩;have s7:=hf7.size;have zlg:=BP hL7.obj;obtain⟨bcs,hb7,hbc7⟩:=hL7.bk;have zbb:=BP hb7;refine⟨VZ cf.cap λbn w8 hn8=>?_,trivial⟩;have l8:=hn8.is;have s8:=hn8.fr.size;have z8:=BP hn8.at_
  have f48:=((hf5.trans hf6).trans hf7).trans hn8.fr;refine⟨f48.at_ y4 (by simp),⟨_,λw' _=>X1 lg bn,⟨_,λw' _=>Z1 lg bn Q.co cf,Ar λma w9 hn9=>⟨(f48.trans hn9.fr).at_ y4 (by simp),?_⟩,trivial⟩⟩⟩;have l9:=hn9.is;have s9:=hn9.fr.size;have z9:=BP hn9.at_;have f49:=f48.trans hn9.fr;have hca:=hfine.1.ca;have ec:Dn cf.cap 0 65535=cf.cap:=by unfold Dn;rw[vx (by omega),vx (by omega)]
  have h9:=(h4.keep0 f49).raise (N:=w9.heap.size) hm4 (by have:=h4.hp.le;omega) (vl _);have eT:cf.threads.toNat=T:=by omega
  have sb0:M5 T (λ_=>wm.slice wj 0 0)=[]:=by simp[M5,BN,wm.ownBlock]
  have lowN:∀x∈Q.fix++(Q.H.fix++Q.H.D.all),x<w4.heap.size:=λx hx=>by have:=h4.low hx;have:=h4.hp.le;omega
  refine h0 L ⟨Q.up w9.heap.size,ma,lg,bb,bn⟩ ⟨m,λ_=>v8 wj 0 0⟩ w9 (f3.trans (hf4.trans f49)) ?_ (λx hx=>?_) ⟨⟨?_,λx hx e=>?_,λx hx=>?_⟩,hfine.1,h9,hn9.at_,?_,?_,?_,λt=>by simp[Ma.new],?_,?_⟩
  ·rw[eT];simp only[Gw.all];rw[hm4,sb0];rfl
  ·rw[eT]at hx;simp only[Ci.all,Ci.fix,Gw.all,n7,ux,i9,vt,hm4,sb0]at hx;rcases hx with (e|e|e|e)|e
   ·exact ws (by omega)
   ·exact ws (by omega)
   ·exact ws (by omega)
   ·exact ws (by omega)
   ·rcases hQ4 x e with e'|e'
    ·exact .inl e'
    ·exact ws (by omega)
  ·have:=hL7.gb;simp only[Ci.fix,o7,ux,i9,vt,not_or,zX,List.nodup_nil,and_true];omega
  ·have:=lowN x e;simp only[Ci.fix,ux,i9,vt]at hx;rcases hx with e|e|e|e<;>omega
  ·simp only[Ci.fix,ux,i9,vt]at hx;show x<w9.heap.size;rcases hx with e|e|e|e<;>omega
  ·rw[eT];exact (hL7.keep0 hn8.fr).keep0 hn9.fr
  ·have:=hn9.fr.at_ hn8.at_ (by simp);rw[ec]at this;exact this
  ·exact⟨⟨by omega,by simp[Ma.new],by simp[Ma.new];omega,by simp[Ma.new],by simp[Ma.new],by simp[Ma.new],by simp[Ma.new],by simp[Ma.new]⟩,by simp[Ma.new],by simp[Ma.new]⟩
  ·rw[eT];simp only;rw[sb0];simp
  ·simp[Ma.new,Co.new]
 ·simp only[zv,vz,show ¬((6:Int)=0) by decide,zX];exact h1 L w3 ((hn1.fr.trans hn2.fr).trans hf3)
end
def Ma.flds(x:Ma)(a:Int):List V2:=(List.range (x.co.s.fields a).toNat).map λi:Nat=>(x.co.s.get a (i:Int)).1
def Ma.sers(x:Ma)(l:List V2):List V2:=l.map λv=>(v.1,(x.told v).2)
section
variable{K:VK}{w:wn}{A:Ci}{g:Gw}{cf:Cf}{B:Int}{x:Ma}
def BB{W0:wn}{v:wm}{l:List V2}{n:V2}(hf:Fr [] W0 w)(hn:BY W0 v)(hv:BQ w v 60 2 (Cz l))(hl:l.length<=1000000)(hk:∀v' w',Fr [] W0 w'->BY W0 v'->BQ w' v' 60 2 (Cz (l++[n]))->Fr (BN v) w w'->(∀g∈BN v',g∈BN v∨w.heap.size<=g)->K v' w'):
  Am Z (Instr.buildSlice 56 1 #[(0,V n.1 n.2)]) w λx w1=>Am Z (Builtin.append_ #[56,56] 56 #[v,x]) w1 K:=
 Br (x:=[v6 wg n.1,v6 wg n.2]) (e:=60) (sz:=2) (bytes:=16) (z:=V 0 0) Tryz.underlying56 (by kernel_rfl) rfl (by decide) (TP n) rfl (by simp[wm.oneCell']) hf hn hv (by rw[CE];omega) (by rw[CE];omega) λv' w' a b c d e=>hk v' w' a b (by rw[Qo];exact c) d e
def Ry{W:wn}(h0:BS A g cf B W x){a:Int}{n:Nat}(hn:n<=127)(hk:∀v w',Fr [] W w'->BY W v->BQ w' v 60 2 (Cz ((List.range n).map λi:Nat=>(x.co.s.get a (i:Int)).1))->K v w'){c:Int}(hc:c.toNat=n):
  ∀(d i:Nat) (w:wn) (v:wm),i+d=n->Fr [] W w->BY W v->BQ w v 60 2 (Cz ((List.range i).map λi:Nat=>(x.co.s.get a (i:Int)).1))->
   F50.l3 K (v7 (wh ⟨A.ma,0,wj⟩)) (v6 wg a) v (v6 wg c) (v6 wg (i:Int)) w:=by
 intro d;induction d with
 | zero=>
  intro i w v hi hf hn' hv;have e:i=n:=by omega
  subst e;refine F50.l3.to ?_;simp only[zv,show ¬((i:Int)<c) by omega];exact F50.k8.to (hk v w hf hn' hv)
 | succ d ih=>
  intro i w v hi hf hn' hv;have h:=h0.keep0 hf;refine F50.l3.to ?_;simp only[zv,show (i:Int)<c by omega];refine F50.k4.to ?_
  try simp only[zv]
  refine Ad (v:=v7 (wh ⟨A.Q.co,0,wj⟩)) h.blk rfl (P6 h.co λw1 hf1=>?_)
  try simp only[zv]
  generalize hgv:(x.co.s.get a (i:Int)).1=gv;refine Ar λy w2 hn2=>AA (x:=V gv.1 gv.2) hn2.at_ rfl Cc rfl λw3 hu3=>A3 hu3.at_ rfl ?_;have l2:=hn2.is;have s1:=hf1.size;have f3:Fr [] w w3:=(hf1.trans hn2.fr).then hu3.fr (by simp;omega);refine BB (n:=gv) (hf.trans f3) hn' (hv.keep f3 (by simp)) (by simp;omega) λv' w4 hf4 hn4 ho4 _ _=>?_;refine F50.k7.to ?_
  try simp only[A7]
  rw[BO (n:=(i:Int)+1) (by omega)];refine ih (i+1) w4 v' (by omega) hf4 hn4 ?_;rw[o8,m9,List.map_singleton,hgv];exact ho4
def HU{a:Int}(h:BS A g cf B w x)(hk:∀v w',Fr [] w w'->BY w v->BQ w' v 60 2 (Cz (x.flds a))->K v w'):I Z 50 #[v7 (wh ⟨A.ma,0,wj⟩),v6 wg a] w K:=by
 have hr:=Hv (s:=x.co.s) a;refine F50.sh ?_
 try simp only[zv]
 refine Ad (v:=v7 (wh ⟨A.Q.co,0,wj⟩)) h.blk rfl (MF h.co ?_);exact Ry (W:=w) h (n:=(x.co.s.fields a).toNat) (by omega) hk rfl (x.co.s.fields a).toNat 0 w _ (by omega) (Fr.refl _ _) (BY.nil _) (BQ.nil _ _ _)
def WB(l:List V2)(j:Nat)(v:V2):Cz (l.set j v)=(Cz l).set j [v6 wg v.1,v6 wg v.2]:=by simp[Cz]
def RQ{W:wn}(h0:BS A g cf B W x){u:wm}{l:List V2}(hl:l.length<=1000)(hNu:BY W u)(hk:∀w',Fr [] W w'->BQ w' u 60 2 (Cz (x.sers l))->K u w'):
  ∀(d i:Nat) (w:wn),i+d=l.length->Fr [] W w->BQ w u 60 2 (Cz (x.sers (l.take i)++l.drop i))->
   F46.l3 K (v7 (wh ⟨A.ma,0,wj⟩)) u u (v6 wg (l.length:Int)) (v6 wg (i:Int)) w:=by
 intro d;induction d with
 | zero=>
  intro i w hi hf hv;have e:i=l.length:=by omega
  subst e;refine F46.l3.to ?_;simp only[zv,show ¬((l.length:Int)<(l.length:Int)) by omega];rw[j4,b6,j8]at hv;exact F46.k8.to (hk w hf hv)
 | succ d ih=>
  intro i w hi hf hv;have hlt:i<l.length:=by omega
  have h:=h0.keep0 hf;have hsl:(x.sers (l.take i)).length=i:=by simp[Ma.sers];omega
  have hll:(x.sers (l.take i)++l.drop i).length=l.length:=by rw[zE,hsl,i7];omega
  have hget:(x.sers (l.take i)++l.drop i)[i]'(by omega)=l[i]:=by rw[xN (by omega)];simp[hsl]
  refine F46.l3.to ?_;simp only[zv,show (i:Int)<(l.length:Int) by omega];refine F46.k4.to (Bp hv.rd (by omega:i<(x.sers (l.take i)++l.drop i).length) λgg o cs e fz hg hcs ho=>AS hg (by omega) hcs ?_);rw[hget];generalize hgv:l[i]=v;refine Ar λy w1 hn1=>AA (x:=V v.1 v.2) hn1.at_ rfl Cc rfl λw2 hu2=>A3 hu2.at_ rfl ?_;have l1:=hn1.is;have f2:Fr [] w w2:=hn1.fr.then hu2.fr (by simp;omega)
  refine Ly (v:=v) (h.keep0 f2) λw3 hf3=>?_;have s2:=f2.size;have s3:=hf3.size;refine Ar λz w4 hn4=>AA (x:=C6 ⟨0,(x.told v).1,(x.told v).2,0,0⟩) hn4.at_ rfl EA rfl λw5 hu5=>?_;have l4:=hn4.is;have f5:Fr [] w w5:=((f2.trans hf3).trans hn4.fr).then hu5.fr (by simp;omega);have v5:=hv.keep f5 (by simp)
  try simp only[zv]
  refine Ad (v:=v6 wg (x.told v).2) hu5.at_ rfl ?_;refine v5.spot (by rw[CE];omega) λg2 o2 cs2 hg2 hb2 ho2 hc2 hset=>?_;have q0:=hc2 0 (by omega);have e0:((Cz (x.sers (l.take i)++l.drop i))[i]'(by rw[CE];omega))=[v6 wg v.1,v6 wg v.2]:=by simp only[Cz,b8];rw[hget,hgv]
  rw[e0]at q0
  try simp only[Ai]
  refine AI hg2 rfl rfl (by omega) λw6 hu6=>?_;have hown:=hset [v6 wg v.1,v6 wg (x.told v).2] w6 rfl (by simp[wm.oneCell']) (by rw[JS (by simpa using q0) ho2];exact hu6.at_);refine F46.k7.to ?_
  try simp only[A7]
  rw[BO (n:=(i:Int)+1) (by omega)];refine ih (i+1) w6 (by omega) ((hf.trans f5).then hu6.fr λq hq=>ws ?_) ?_
  ·simp only[zF]at hq;subst hq;exact hNu.blk _ (by rw[hb2];simp)
  ·have e1:x.sers (l.take (i+1))++l.drop (i+1)=(x.sers (l.take i)++l.drop i).set i (v.1,(x.told v).2):=by rw[List.set_append_right _ _ (by omega),hsl,vh,xJ hlt,List.set_cons_zero,zR,xS hlt,hgv];simp[Ma.sers]
   rw[e1,WB];exact hown
def EW{u:wm}{l:List V2}(h:BS A g cf B w x)(hl:l.length<=1000)(hu:BQ w u 60 2 (Cz l))(hk:∀v w',Fr [] w w'->BY w v->BQ w' v 60 2 (Cz (x.sers l))->K v w'):I Z 46 #[v7 (wh ⟨A.ma,0,wj⟩),u] w K:=by refine F46.sh (NC hu.rd (by omega) λv w1 hf1 ho1 hn1=>AH ho1.rd ?_);rw[CE];exact RQ (W:=w) h hl hn1 (λw' hf ho=>hk v w' hf hn1 ho) l.length 0 w1 (by omega) hf1 (by simpa[Ma.sers] using ho1)
end
def CM(out:List Int)(l:List V2):List Int:=l.foldl (λout v=>if v.1=2/\v.2∉out then out++[v.2] else out) out
def Ma.rchGo(x:Ma):Nat->Nat->List Int->List Int
 | 0,_,out=>out
 | d+1,i,out=>if i<out.length then Ma.rchGo x d (i+1) (CM out (x.flds (out.getD i 0))) else out
def Ma.rch0(cf:Cf)(x:Ma):List Int:=(List.range cf.threads.toNat).foldl (λ(out:List Int) (t:Nat)=>CM out (x.co.roots (t:Int))) [x.co.global]
def Ma.rch(cf:Cf)(x:Ma):List Int:=x.rchGo 2050 0 (x.rch0 cf)
def Lw(l:List V2):Prop:=∀v∈l,v.1=2->0<=v.2/\v.2<2048
def SJ(out:List Int)(l k:List V2):CM out (l++k)=CM (CM out l) k:=List.foldl_append
structure DO(out:List Int):Prop where
 ne:out≠[]
 nd:out.tail.Nodup
 rng:∀x∈out.tail,0<=x/\x<2048
theorem LL:∀(n:Nat) (L:List Int),L.Nodup->(∀x∈L,0<=x/\x<n)->L.length<=n
 | 0,L,_,h=>by
  cases L with
  | nil=>simp
  | cons a L=>exact absurd (h a (by simp)) (by omega)
 | n+1,L,hn,h=>by
  have h1:=LL n (L.erase (n:Int)) (hn.erase _) λx hx=>by
   have:=(hn.mem_erase_iff).1 hx;have:=h x this.2;omega
  have:(L.erase (n:Int)).length=if (n:Int)∈L then L.length-1 else L.length:=List.length_erase;split at this<;>omega
def DO.le{out:List Int}(h:DO out):out.length<=2049:=by have:=LL 2048 out.tail h.nd h.rng;rw[List.length_tail]at this;omega
def DO.add{out:List Int}(h:DO out){a:Int}(ha:0<=a/\a<2048)(hn:a∉out):DO (out++[a]):=by
 obtain⟨x,r,rfl⟩:=List.exists_cons_of_ne_nil h.ne;have h2:=h.nd;have h3:=h.rng;simp only[List.tail_cons]at h2 h3;simp only[ux,not_or]at hn;refine⟨by simp,?_,λy hy=>?_⟩
 ·simp only[List.cons_append,List.tail_cons];rw[zQ];exact⟨h2,by simp,λy hy z hz=>by simp only[zF]at hz;rintro rfl;subst hz;exact hn.2 hy⟩
 ·simp only[List.cons_append,List.tail_cons]at hy;rcases n7.1 hy with c|c
  ·exact h3 y c
  ·rw[zF.1 c];exact ha
theorem DO.note:∀(l:List V2) {out:List Int},DO out->Lw l->DO (CM out l)
 | [],_,h,_=>h
 | v::l,out,h,hl=>by
  have e:CM out (v::l)=CM (if v.1=2/\v.2∉out then out++[v.2] else out) l:=rfl;rw[e];refine DO.note l ?_ λu hu=>hl u (by simp[hu]);split
  ·rename_i hc;exact h.add (hl v (by simp) hc.1) hc.2
  ·exact h
def Tm{w:Int}(h:(H1 w).1.1=2):0<=(H1 w).1.2/\(H1 w).1.2<2048:=by
 unfold H1 at *;split at h
 ·rename_i hc;rw[vy hc];simp only at h ⊢;rw[h]at hc;unfold DL at hc;rw[vx (by decide),vx (by decide),vy rfl]at hc;split at hc
  ·rename_i h3;exact h3
  ·cases hc
 ·cases h
def Kl(x:Ma)(a:Int):Lw (x.flds a):=by
 intro v hv h2;unfold Ma.flds at hv;obtain⟨i,_,rfl⟩:=u7.1 hv;unfold St.get at *;split
 ·rename_i hc;rw[vy hc]at h2;exact Tm h2
 ·rename_i hc;rw[vx hc]at h2;exact absurd h2 (by decide)
def TN:DK Z 84=wk:=by kernel_rfl
def Me{f:FuncId}{cap:Array wm}{args:List wm}{w:wn}{K:VK}(hb:DK Z f=wk)(h:I Z f (args++cap.toList).toArray w K):Du Z (.func (.func f) #[] cap) args w K:=by simp only[Du,hb,vp,n9];exact h
section
variable{K:VK}{A:Ci}{g:Gw}{cf:Cf}{B:Int}{x:Ma}
structure G7(W:wn)(yb:Nat)(out:List Int)(w:wn):Prop where
 fr:Fr [] W w
 hy:W.heap.size<=yb
 ex:∃v,w.heap[yb]?=wh (wt #[v] 54 (0,0))/\BY W v/\BQ w v 3 1 (BX out)
def G7.keep{W w w':wn}{yb:Nat}{out:List Int}(h:G7 W yb out w)(hf:Fr [] w w'):G7 W yb out w':=by obtain⟨v,v1,v2,v3⟩:=h.ex;exact⟨h.fr.trans hf,h.hy,v,hf.at_ v1 (by simp),v2,v3.keep hf (by simp)⟩
def RB{W:wn}{yb:Nat}{u:wm}{l:List V2}(hl:l.length<=1000)(hr:Lw l){out0:List Int}(h0:DO out0)(hk:∀w',G7 W yb (CM out0 l) w'->K (.tuple #[]) w'):
  ∀(d i:Nat) (w:wn),i+d=l.length->G7 W yb (CM out0 (l.take i)) w->BQ w u 60 2 (Cz l)->
   F84.l1 K (v7 (wh ⟨yb,0,wj⟩)) u (v6 wg (l.length:Int)) (v6 wg (i:Int)) w:=by
 intro d;induction d with
 | zero=>
  intro i w hi hs hu;have e:i=l.length:=by omega
  subst e;refine F84.l1.to ?_;simp only[zv,show ¬((l.length:Int)<(l.length:Int)) by omega];rw[j4]at hs;exact hk w hs
 | succ d ih=>
  intro i w hi hs hu;have hlt:i<l.length:=by omega
  have hok:DO (CM out0 (l.take i)):=h0.note _ λv hv=>hr v (yS hv);have e1:CM out0 (l.take (i+1))=if l[i].1=2/\l[i].2∉CM out0 (l.take i) then CM out0 (l.take i)++[l[i].2] else CM out0 (l.take i):=by rw[zR,xS hlt,SJ];rfl
  have next:∀w',G7 W yb (CM out0 (l.take (i+1))) w'->BQ w' u 60 2 (Cz l)->F84.k6 K (v7 (wh ⟨yb,0,wj⟩)) u (v6 wg (l.length:Int)) (v6 wg (i:Int)) w':=λw' a b=>by
   refine F84.k6.to ?_
   try simp only[A7]
   rw[BO (n:=(i:Int)+1) (by omega)];exact ih (i+1) w' (by omega) a b
  generalize hgv:l[i]=v at e1;refine F84.l1.to ?_;simp only[zv,show (i:Int)<(l.length:Int) by omega];refine F84.k2.to (Bp hu.rd hlt λgg o cs e fz hg hcs ho=>AS hg (by omega) hcs ?_);rw[hgv];refine Ar λy w1 hn1=>AA (x:=V v.1 v.2) hn1.at_ rfl Cc rfl λw2 hu2=>?_;have l1:=hn1.is;have f2:Fr [] w w2:=hn1.fr.then hu2.fr (by simp;omega);have hs2:=hs.keep f2;have hu2':=hu.keep f2 (by simp);obtain⟨sv,s1,s2,s3⟩:=hs2.ex
  try simp only[zv]
  refine Ad (v:=v6 wg v.2) hu2.at_ rfl ?_;refine Ad (v:=v6 wg v.1) hu2.at_ rfl ?_;by_cases c2:v.1=2
  ·try simp only[zv,vw,c2]
   refine Ad (v:=sv) s1 rfl ?_;refine II s3.rd ?_;by_cases c3:v.2∈CM out0 (l.take i)
   ·rw[vx (λz=>z.2 c3)]at e1
    try simp only[zv,c3]
    exact next w2 (by rw[e1];exact hs2) hu2'
   ·rw[vy ⟨c2,c3⟩]at e1
    try simp only[zv,c3]
    refine Ad (v:=sv) s1 rfl (Bn hs2.fr s2 s3 (by have:=hok.le;omega) λv' w3 hf3 hn3 ho3 hf3' hb3=>?_);have hyb:yb∉BN sv:=s3.nb s1 (by decide);have y3:=hf3'.at_ s1 hyb;have hu3:BQ w3 u 60 2 (Cz l):=hu2'.keep' hf3' (hu2'.ne s3 (by decide));have hyu:yb∉BN u:=hu3.nb y3 (by decide);have hyv:yb∉BN v':=ho3.nb y3 (by decide);refine AI y3 ho3.one.2 ho3.one.1 (by simp) λw4 hu4=>?_
    refine next w4 ?_ (hu3.keep' hu4.fr λq hq c=>hyu (by simp only[zF]at c;rw[<-c];exact hq))
    rw[e1];exact⟨hf3.then hu4.fr (λq hq=>ws (by simp only[zF]at hq;have:=hs.hy;omega)),hs.hy,v',hu4.at_,hn3,ho3.keep' hu4.fr λq hq c=>hyv (by simp only[zF]at c;rw[<-c];exact hq)⟩
  ·rw[vx (λz=>c2 z.1)]at e1
   try simp only[zv,c2]
   exact next w2 (by rw[e1];exact hs2) hu2'
def RA{W w:wn}{yb:Nat}{u:wm}{l:List V2}(hl:l.length<=1000)(hr:Lw l){out:List Int}(h0:DO out)(hs:G7 W yb out w)(hu:BQ w u 60 2 (Cz l))(hk:∀w',G7 W yb (CM out l) w'->K (.tuple #[]) w'):
  Du Z (.func (.func 84) #[] #[v7 (wh ⟨yb,0,wj⟩)]) [u] w K:=by refine Me TN (F84.sh (AH hu.rd ?_));rw[CE];exact RB (W:=W) hl hr h0 hk l.length 0 w (by omega) hs hu
end
end
section
open Go.RowKit Go.Sort Go.Shelf
def E7(f:Int->Int)(l:List Int):List Int:=(pdq (ltOf λa b=>f a-f b) l.toArray 0 l.length (Lib.bitLen l.length) wk wk).toList
def Vf(f:Int->Int):SWO (ltOf λa b=>f a-f b):=
 ⟨λx=>by simp[ltOf],λx y z a b=>by simp only[ltOf,zV] at *;omega,λx y z a b=>by simp only[ltOf,xY] at *;omega⟩
def K8{α : Type}(d:Array α){n:Nat}(h:d.size=n):d.extract 0 n=d:=by subst h;simp
def Gx(f:Int->Int)(l:List Int):(E7 f l).Perm l/\(E7 f l).Pairwise λa b=>f a<=f b:=by
 obtain⟨⟨p1,_,p3⟩,h2⟩:=pdq_sorts (ltOf λa b=>f a-f b) (Vf f) l.toArray 0 l.toArray.size (Lib.bitLen l.toArray.size) wk wk (Nat.zero_le _) (vl _) (Or.inl rfl);unfold E7;have e:l.toArray.size=l.length:=by simp
 rw[e]at p1 p3 h2;generalize pdq (ltOf λa b=>f a-f b) l.toArray 0 l.length (Lib.bitLen l.length) wk wk=d at p1 p3 h2;constructor
 ·rw[K8 d (by rw[p1]),K8 l.toArray (by simp)]at p3;simpa using p3
 ·rw[xP];intro i j hi hj hij;have hi':i<d.size:=by simpa using hi
  have hj':j<d.size:=by simpa using hj
  have:=h2 i j (Nat.zero_le _) hij (by omega);rw[getElem!_pos d i hi',getElem!_pos d j hj']at this;simp only[ltOf,xY]at this;simp only[Array.getElem_toList];omega
def JU(f:Int->Int)(l:List Int):(E7 f l).length=l.length:=(Gx f l).1.length_eq
def Ul{w:wn}{g n:Nat}{os:Array Obj}{cur:Array wm}{e:TypeId}{fr:Nat × Nat}(d:Array Int)(hb:w.heap[g]?=wh (wt cur e fr)):
  (sortWorld (wm.int wg) w g 0 n d os).heap[g]?=wh (wt (putCells (wm.int wg) 0 d cur) e fr):=by have hg:g<w.heap.size:=(xB.1 hb).1;unfold sortWorld;rw[heap_grow_old _ _ (by simpa using hg)];simp[putRow,mapBlock,Sort.ahead,yE,hb,onCells]
def Sv{w:wn}{g n:Nat}{os:Array Obj}(d:Array Int):Fr [g] w (sortWorld (wm.int wg) w g 0 n d os):=by refine⟨rfl,rfl,rfl,by simp[sortWorld],λk hk hne=>?_⟩;unfold sortWorld;rw[heap_grow_old _ _ (by simpa using hk)];have:g≠k:=λe=>hne (by simp[e]);simp[putRow,mapBlock,Sort.ahead,yE,this]
def UL(cur:Array wm)(d:Array Int)(h:d.size<=cur.size):(putCells (wm.int wg) 0 d cur).toList.take d.size=d.toList.map (wm.int wg):=by
 apply zL;intro j;by_cases hj:j<d.size
 ·rw[List.getElem?_take_of_lt hj,yF];have h1:d[j]! = d[j]:=getElem!_pos d j hj;simp[putCells,hj,show j<cur.size by omega]
 ·rw[List.getElem?_take_eq_none (by omega),yG (by simp;omega)]
def Ua:∀args w,(callFunc 87 args).run Z w=.ok (.enter 87 args) w:=by intro args w;exact enters_of func87 (by kernel_rfl) rfl args w
def Mb(s:St)(a:Int) : -1<=s.serial a/\s.serial a<1099511627776:=by
 unfold St.serial St.read;split
 ·unfold Gs;split
  ·simp only;omega
  ·simp only;omega
 ·simp only;omega
section
variable{K:VK}{A:Ci}{g:Gw}{cf:Cf}{B:Int}{x:Ma}{w:wn}
def Yl{c:Nat}{a b:Int}{e:TypeId}{fz:Nat × Nat}(h:BS A g cf B w x)(hc:w.heap[c]?=wh (wt #[v7 (wh ⟨A.ma,0,wj⟩)] e fz))(hk:K (v6 wg (x.co.s.serial a-x.co.s.serial b)) { w with drawn:=w.drawn+1 }):
  I Z 87 #[v6 wg a,v6 wg b,v7 (wh ⟨c,0,wj⟩)] w K:=by
 have h':=h.keep0 (Fr.drew w);have hc':=(Fr.drew w).at_ hc (by simp);have ha:=Mb x.co.s a;have hb:=Mb x.co.s b;refine F87.sh ⟨λw'=>w'={ w with drawn:=w.drawn+1 },rfl,?_⟩;have hs1:∀w',w'=({ w with drawn:=w.drawn+1 }:wn)->∃cs e fz,w'.heap[c]?=wh (wt cs e fz)/\cs[0]?=wh (v7 (wh ⟨A.ma,0,wj⟩)):=λw' hw=>by subst hw;exact⟨_,_,_,hc',rfl⟩
 have hs2:∀w',w'=({ w with drawn:=w.drawn+1 }:wn)->∃cs e fz,w'.heap[A.ma]?=wh (wt cs e fz)/\cs[12]?=wh (v7 (wh ⟨A.Q.co,0,wj⟩)):=λw' hw=>by subst hw;exact⟨_,_,_,h'.blk,rfl⟩
 refine Au hs1 ?_
 try simp only[zv]
 refine Au hs2 (Au hs1 ?_)
 try simp only[zv]
 refine Au hs2 ⟨GV h'.co ⟨rfl,GV h'.co ⟨rfl,?_⟩,trivial⟩,trivial⟩
 try simp only[AN]
 rw[BO (by omega)];exact hk
def TF{W:wn}{c:Nat}{ov:wm}{l:List Int}{e:TypeId}{fz:Nat × Nat}(h0:BS A g cf B W x)(hf:Fr [] W w)(hn:BY W ov)(ho:BQ w ov 3 1 (BX l))(hc:w.heap[c]?=wh (wt #[v7 (wh ⟨A.ma,0,wj⟩)] e fz))(he:e≠3)(hl:l.length<=1000000)(hk:∀w',Fr (BN ov) w w'->BQ w' ov 3 1 (BX (E7 x.co.s.serial l))->K (.tuple #[]) w'):
  I Z 86 #[ov,.func (.func 87) #[] #[v7 (wh ⟨c,0,wj⟩)]] w K:=by
 have hcn:c∉BN ov:=ho.nb hc (vv he);obtain⟨⟨h1,h2⟩,h3⟩:=id ho;rw[Ca]at h1 h2;rcases h2 with⟨rfl,h2⟩|⟨g0,cap,cur,rfl,hb,hg,h4,h5,h6,h7⟩
 ·have el:l=[]:=wW h2;subst el;refine (AnyF.slices_SortFunc_none { Vc with } wj 0 _ w).mono ?_;rintro e w' ⟨rfl,rfl⟩;refine⟨_,rfl,hk w' (Fr.refl _ _) ?_⟩;have:E7 x.co.s.serial []=[]:=wW (JU _ _);rw[this];exact BQ.nil _ _ _
 ·rw[FJ,vm]at h7;have hH:=holds_of_blockI hg h7;have hcg:c∉[g0]:=by simpa[BN,wm.ownBlock] using hcn
  have hng:W.heap.size<=g0:=hn.blk g0 (by simp[BN,wm.ownBlock]);have M0:=Any.slices_SortFunc_eq (P:=Z) (ρ := Nl) Vc (wm.int wg) (λ_=>rfl) (λa b=>x.co.s.serial a-x.co.s.serial b) (Vf _)
   87 #[v7 (wh ⟨c,0,wj⟩)] g0 0 cap l.toArray w Ua (λm os dk hs a b=>by
    have hf1:=Sv (w:=w) (g:=g0) (n:=m) (os:=os) dk;have hW:Fr [] W (sortWorld (wm.int wg) w g0 0 m dk os):=hf.then hf1 λq hq=>ws (by simp only[zF]at hq;omega);have:=Yl (K:=λv W'=>v=v6 wg (x.co.s.serial a-x.co.s.serial b)/\W'={ (sortWorld (wm.int wg) w g0 0 m dk os)with drawn:=(sortWorld (wm.int wg) w g0 0 m dk os).drawn+1 }) (a:=a) (b:=b) (h0.keep0 hW) (hf1.at_ hc hcg) ⟨rfl,rfl⟩;refine Calls.mono this ?_
    rintro e W' ⟨v,rfl,rfl,rfl⟩;exact⟨rfl,1, #[],by rw[grow_empty];rfl⟩) hH (BP hg) (by simp;omega)
  have main':Calls Z 86 #[v8 (wh ⟨g0,0,wj⟩) l.length cap,.func (.func 87) #[] #[v7 (wh ⟨c,0,wj⟩)]] w _:=M0;refine main'.mono ?_;rintro e w' ⟨rfl,n,os,rfl⟩;have hlen:=JU x.co.s.serial l;unfold E7 at hk hlen;simp only[List.size_toArray];generalize pdq (ltOf λa b=>x.co.s.serial a-x.co.s.serial b) l.toArray 0 l.length (Lib.bitLen l.length) wk wk=d at hk hlen;have ds:d.size=l.length:=by simpa using hlen
  refine⟨_,rfl,hk _ (by simpa[BN,wm.ownBlock] using Sv d) ?_⟩;refine BQ.of_block (Ul d hg) (by rw[Ca,hlen]) h4 (by unfold maxLen at h5;omega) (by simp[putCells,h6]) ?_ ?_
  ·intro y hy;refine⟨?_,Ig y hy⟩;simp only[BX,u7]at hy;obtain⟨z,_,rfl⟩:=hy;rfl
  ·have:=UL cur d (by rw[ds,h6];omega);rw[ds]at this;rw[vm,FJ];exact this
end
end
noncomputable section
variable{K:VK}{w:wn}{x0 x1 y0 y1 y2 y3 y5 y6:wm}
namespace F14
def ann:Cg:=⟨[(3,[2,3]),(5,[2,3,5]),(6,[2,3,5]),(8,[2,3]),(10,[2,3,6]),(11,[2,3,6]),(13,[])],[(4,[2,3,5]),(9,[2,3,6])],[],[(6,(tk [0,2,5,7,1,3,4,6,8,9] (.go 10 (.take 11 .fin) .fin))),(11,(tk [0,2,6,8,1,3,4,5,7,9,10,11,12,13,14,16,20,22,15,17,18,19,21,23,24,25] (.go 26 (tk [27,28] .fin) .fin)))],wj⟩
def code:=cd f14
def BM:=tp f14
variable(K:VK)(y2 y3 y5 y6:wm)(w:wn)
def k3:=nk ann 78 [(2,y2),(3,y3)] w [1,1] code (BM K)
def k8:=nk ann 78 [(2,y2),(3,y3)] w [1,1,1] code (BM K)
def l4:=nl ann 78 [(2,y2),(3,y3),(5,y5)] w [1,1,0,1,0] code (BM K)
def k6:=nk ann 78 [(2,y2),(3,y3),(5,y5)] w [1,1,0,1,0,0,1] code (BM K)
def k5:=nk ann 78 [(2,y2),(3,y3),(5,y5)] w [1,1,0,1,0,0,1,1] code (BM K)
def k13:=nk ann 78 [] w [1,1,1,1] code (BM K)
def l9:=nl ann 78 [(2,y2),(3,y3),(6,y6)] w [1,1,1,0,1,0] code (BM K)
def k11:=nk ann 78 [(2,y2),(3,y3),(6,y6)] w [1,1,1,0,1,0,0,1] code (BM K)
def k10:=nk ann 78 [(2,y2),(3,y3),(6,y6)] w [1,1,1,0,1,0,0,1,1] code (BM K)
attribute [irreducible] k3 k8 l4 k6 k5 k13 l9 k11 k10
end F14
def F14.k3.to(h:(F14.l4 K y2 y3 (v6 wg 0) w)):F14.k3 K y2 y3 w:=qq h
def F14.k8.to(h:(F14.l9 K y2 y3 (v6 wg 0) w)):F14.k8 K y2 y3 w:=qq h
def F14.l4.to(h:(Ab 0 y2 w λa b=>Ac a b λc d=>AD c d λf g=>U .lss y5 f g λi j=>Af i (F14.k6 K y2 y3 y5 j) (F14.k8 K y2 y3 j))):F14.l4 K y2 y3 y5 w:=by unfold F14.l4 nl;exact BW (qq h)
def F14.k6.to(h:(A2 w λS a=>Ab 0 y2 a λb c=>Ab 0 y3 c λd f=>An S b f λg i=>AC 1 g y5 i λj k=>An S j k λm o=>An S d o λp q=>AC 1 p y5 q λr s=>An S r s λt u=>(I Z 39 #[m,t] u λv x=>(S x/\
 A8 v x λy z=>Af y (K (wd wl) z) (F14.k5 K y2 y3 y5 z)))/\True)):F14.k6 K y2 y3 y5 w:=qq h
def F14.k5.to(h:(U .add y5 (v6 wg 1) w λa b=>F14.l4 K y2 y3 a b)):F14.k5 K y2 y3 y5 w:=qq h
def F14.k13.to(h:(K (wd wk) w)):F14.k13 K w:=qq h
def F14.l9.to(h:(Ab 1 y2 w λa b=>Ac a b λc d=>AD c d λf g=>U .lss y6 f g λi j=>Af i (F14.k11 K y2 y3 y6 j) (F14.k13 K j))):F14.l9 K y2 y3 y6 w:=by unfold F14.l9 nl;exact BW (qq h)
def F14.k11.to(h:(A2 w λS a=>Ab 1 y2 a λb c=>Ab 1 y3 c λd f=>An S b f λg i=>AC 2 g y6 i λj k=>Ab 0 j k λm o=>An S m o λp q=>An S d q λr s=>AC 2 r y6 s λt u=>Ab 0 t u λv x=>An S v x λy z=>U .neq p y z λaa ab=>Aa wl aa (Ab 1 y2 ab) ab λac ad=>Aa wl aa (λK=>K y6 ad) ad λae af=>Aa wl aa (Ab 1 y3 af) af λag ah=>Aa wl aa (λK=>K y6 ah) ah λai aj=>Aa wl aa (An S ac aj) aj λak al=>Aa wl aa (AC 2 ak ae al) al λam an=>Aa wl aa (Ab 1 am an) an λao ap=>Aa wl aa (An S ao ap) ap λaq ar=>Aa wl aa (An S ag ar) ar λau av=>Aa wl aa (AC 2 au ai av) av λaw ax=>Aa wl aa (Ab 1 aw ax) ax λay az=>Aa wl aa (An S ay az) az λba bb=>(Aa wl aa (λK=>I Z 39 #[aq,ba] bb K) bb λbc bd=>(S bd/\
 Aa wl aa (A8 bc bd) bd λbe bf=>Aw (wh aa) (wh (wd wk)) (wh be) bf λbg bh=>Af bg (K (wd wl) bh) (F14.k10 K y2 y3 y6 bh)))/\True)):F14.k11 K y2 y3 y6 w:=qq h
def F14.k10.to(h:(U .add y6 (v6 wg 1) w λa b=>F14.l9 K y2 y3 a b)):F14.k10 K y2 y3 y6 w:=qq h
def F14.sh(h:(Aq (wt (wm.cells x0) 46) w λa b=>Aq (wt (wm.cells x1) 46) b λc d=>Ab 0 a d λf g=>Ac f g λi j=>AD i j λk m=>Ab 0 c m λo p=>Ac o p λq r=>AD q r λs t=>U .neq k s t λu v=>Aa wl u (Ab 1 a v) v λx y=>Aa wl u (Ac x y) y λz aa=>Aa wl u (AD z aa) aa λab ac=>Aa wl u (Ab 1 c ac) ac λad ae=>Aa wl u (Ac ad ae) ae λaf ag=>Aa wl u (AD af ag) ag λah ai=>Aa wl u (U .neq ab ah ai) ai λaj ak=>Aw (wh u) (wh (wd wk)) (wh aj) ak λal am=>Af al (K (wd wl) am) (F14.k3 K a c am))):I Z 14 #[x0,x1] w K:=BK (A:=F14.ann) (args:=[x0,x1]) (qq h)
namespace F39
def ann:Cg:=⟨[(3,[0,1]),(5,[0,1,5]),(6,[0,1,5]),(8,[])],[(4,[0,1,5])],[],[(6,(tk [0,1,2,4,5,6,3,7,8] .fin))],wj⟩
def code:=cd f39
def BM:=tp f39
variable(K:VK)(y0 y1 y5:wm)(w:wn)
def k3:=nk ann 26 [(0,y0),(1,y1)] w [1,1] code (BM K)
def k8:=nk ann 26 [] w [1,1,1] code (BM K)
def l4:=nl ann 26 [(0,y0),(1,y1),(5,y5)] w [1,1,0,1,0] code (BM K)
def k6:=nk ann 26 [(0,y0),(1,y1),(5,y5)] w [1,1,0,1,0,0,1] code (BM K)
def k5:=nk ann 26 [(0,y0),(1,y1),(5,y5)] w [1,1,0,1,0,0,1,1] code (BM K)
attribute [irreducible] k3 k8 l4 k6 k5
end F39
def F39.k3.to(h:(F39.l4 K y0 y1 (v6 wg 0) w)):F39.k3 K y0 y1 w:=qq h
def F39.k8.to(h:(K (wd wk) w)):F39.k8 K w:=qq h
def F39.l4.to(h:(AD y0 w λa b=>U .lss y5 a b λc d=>Af c (F39.k6 K y0 y1 y5 d) (F39.k8 K d))):F39.l4 K y0 y1 y5 w:=by unfold F39.l4 nl;exact BW (qq h)
def F39.k6.to(h:(A2 w λS a=>AC 2 y0 y5 a λb c=>AC 2 y1 y5 c λd f=>AM S 2 b f λg i=>AM S 2 d i λj k=>∃m,(∀w',S w'->((do eqGuard .neq 60 (.tmp 20) (.tmp 24) g j;binOp .neq 60 g j:Sem wm)).run Z w'=.ok m w')/\(Af m (K (wd wl) k) (F39.k5 K y0 y1 y5 k)))):F39.k6 K y0 y1 y5 w:=qq h
def F39.k5.to(h:(U .add y5 (v6 wg 1) w λa b=>F39.l4 K y0 y1 a b)):F39.k5 K y0 y1 y5 w:=qq h
def F39.sh(h:(AD x0 w λa b=>AD x1 b λc d=>U .neq a c d λf g=>Af f (K (wd wl) g) (F39.k3 K x0 x1 g))):I Z 39 #[x0,x1] w K:=BK (A:=F39.ann) (args:=[x0,x1]) (qq h)
end
section
open Go.RowKit
def Cp.one{w:wn}{v:wm}{sz:Nat}{xs:List (List wm)}(h:Cp w v sz xs):v.oneCell'=wk/\v.cells = #[v]:=by obtain⟨A,c,rfl,_⟩:=h;exact⟨rfl,rfl⟩
abbrev Va:=Int × Int
abbrev Nd:=Int × List Va
abbrev Vw:=List (List Va) × List Nd
def IY{α : Type}{a b:List α}{i:Nat}(hl:a.length=b.length)(hi:a.length<=i)(h:∀j,j<i->a[j]?=b[j]?):a=b:=zL λj=>by
 by_cases hj:j<i
 ·exact h j hj
 ·rw[yG (by omega),yG (by omega)]
def M8{α : Type}{a b:List α}{i:Nat}(ha:i<a.length)(hb:i<b.length)(h:∀j,j<i->a[j]?=b[j]?)(he:a[i]=b[i]):∀j,j<i+1->a[j]?=b[j]?:=λj hj=>by
 by_cases e:j=i
 ·subst e;rw[xS ha,xS hb,he]
 ·exact h j (by omega)
def G4(vs:List wm):List (List wm):=vs.map λv=>[v]
def M7(vs:List wm):(G4 vs).length=vs.length:=by simp[G4]
def W3{vs:List wm}{j:Nat}(h:j<vs.length):(G4 vs)[j]?=wh [vs[j]]:=by simp[G4,h]
def W2(a b:List wm):G4 (a++b)=G4 a++G4 b:=by simp[G4]
def MA{l:List Va}{j:Nat}(h:j<l.length):(Cz l)[j]?=wh [v6 wg l[j].1,v6 wg l[j].2]:=by simp[Cz,h]
def JF(N:List Nd)(fs:List wm):List (List wm):=List.zipWith (λnd f=>[v6 wg nd.1,f]) N fs
def M1{N:List Nd}{fs:List wm}(h:fs.length=N.length):(JF N fs).length=N.length:=by simp[JF,h]
def Qa{N:List Nd}{fs:List wm}{j:Nat}(h:j<N.length)(h':j<fs.length):(JF N fs)[j]?=wh [v6 wg N[j].1,fs[j]]:=by simp[JF,List.getElem?_zipWith,xS h,xS h']
def FG(w:wn)(rv:wm)(L:List (List Va)):Prop:=∃vs:List wm,Cp w rv 1 (G4 vs)/\vs.length=L.length/\∀i (h:i<L.length) (h':i<vs.length),Cp w vs[i] 2 (Cz L[i])
def FG.keep{w w':wn}{rv:wm}{L:List (List Va)}(h:FG w rv L)(hf:Fr [] w w'):FG w' rv L:=by obtain⟨vs,h1,h2,h3⟩:=h;exact⟨vs,h1.keep hf,h2,λi a b=>(h3 i a b).keep hf⟩
def DB(w:wn)(nv:wm)(N:List Nd):Prop:=∃fs:List wm,fs.length=N.length/\Cp w nv 2 (JF N fs)/\∀i (h:i<N.length) (h':i<fs.length),Cp w fs[i] 2 (Cz N[i].2)
def DB.keep{w w':wn}{nv:wm}{N:List Nd}(h:DB w nv N)(hf:Fr [] w w'):DB w' nv N:=by obtain⟨fs,h1,h2,h3⟩:=h;exact⟨fs,h1,h2.keep hf,λi a b=>(h3 i a b).keep hf⟩
structure Ev(w:wn)(rv nv:wm)(V:Vw):Prop where
 rows:FG w rv V.1
 nodes:DB w nv V.2
def Ev.keep{w w':wn}{rv nv:wm}{V:Vw}(h:Ev w rv nv V)(hf:Fr [] w w'):Ev w' rv nv V:=⟨h.rows.keep hf,h.nodes.keep hf⟩
def FG.one{w:wn}{rv:wm}{L:List (List Va)}(h:FG w rv L):rv.oneCell'=wk/\rv.cells = #[rv]:=by obtain⟨vs,h1,_⟩:=h;exact h1.one
def DB.one{w:wn}{nv:wm}{N:List Nd}(h:DB w nv N):nv.oneCell'=wk/\nv.cells = #[nv]:=by obtain⟨fs,_,h1,_⟩:=h;exact h1.one
def Ev.cells{w:wn}{rv nv:wm}{V:Vw}(h:Ev w rv nv V):wm.cells (we #[rv,nv]) = #[rv,nv]:=by simp[wm.cells]
def Ev.ones{w:wn}{rv nv:wm}{V:Vw}(h:Ev w rv nv V):∀u∈(wm.cells (we #[rv,nv])).toList,u.oneCell'=wk:=by
 rw[h.cells];intro u hu;simp only[ux,i9,vt]at hu;rcases hu with rfl|rfl
 ·exact h.rows.one.1
 ·exact h.nodes.one.1
def FG.le{w:wn}{rv:wm}{L:List (List Va)}(h:FG w rv L):L.length<=9223372036854775807:=by obtain⟨vs,h1,h2,_⟩:=h;have:=h1.le;rw[M7]at this;omega
def DB.le{w:wn}{nv:wm}{N:List Nd}(h:DB w nv N):N.length<=9223372036854775807:=by
 obtain⟨fs,h1,h2,_⟩:=h;have:=h2.le
 rwa [M1 h1]at this
def VB(w:wn)(b:Nat)(rv nv:wm):Prop:=w.heap[b]?=wh (wt #[rv,nv] 46 (0,0))
def VB.keep{S:List Nat}{w w':wn}{b:Nat}{rv nv:wm}(h:VB w b rv nv)(hf:Fr S w w')(hS:b∉S):VB w' b rv nv:=hf.at_ h hS
section
variable{K:VK}{w:wn}
def VB.f0{b:Nat}{rv nv:wm}(h:VB w b rv nv)(hk:K rv w):Ab 0 (v7 (wh ⟨b,0,wj⟩)) w λp w1=>Ac p w1 K:=by simp only[zv];exact Ad h rfl hk
def VB.f1{b:Nat}{rv nv:wm}(h:VB w b rv nv)(hk:K nv w):Ab 1 (v7 (wh ⟨b,0,wj⟩)) w λp w1=>Ac p w1 K:=by simp only[zv];exact Ad h rfl hk
def VB.all{b:Nat}{rv nv:wm}(h:VB w b rv nv)(hk:K (we #[rv,nv]) w):Ak 2 (v7 (wh ⟨b,0,wj⟩)) w K:=A3 h rfl hk
def VB.new{rv nv:wm}{V:Vw}(hV:Ev w rv nv V)(hk:∀b w',Fr [] w w'->w.heap.size<=b->VB w' b rv nv->Ev w' rv nv V->K (v7 (wh ⟨b,0,wj⟩)) w'):Aq (wt (wm.cells (we #[rv,nv])) 46) w K:=by refine Ar λb w1 hn=>hk b w1 hn.fr (by have:=hn.is;omega) ?_ (hV.keep hn.fr);have:=hn.at_;rw[hV.cells]at this;exact this
def DB.len{nv:wm}{N:List Nd}(h:DB w nv N){w1:wn}(hk:K (v6 wg (N.length:Int)) w1):AD nv w1 K:=by obtain⟨fs,h1,⟨A,c,rfl,_⟩,_⟩:=h;rw[M1 h1];simpa only[AT] using hk
def FG.len{rv:wm}{L:List (List Va)}(h:FG w rv L){w1:wn}(hk:K (v6 wg (L.length:Int)) w1):AD rv w1 K:=by obtain⟨vs,⟨A,c,rfl,_⟩,h2,_⟩:=h;rw[M7,h2];simpa only[AT] using hk
def DB.get{nv:wm}{N:List Nd}{i:Nat}(h:DB w nv N)(hi:i<N.length)(hk:∀g o cs e fz f,w.heap[g]?=wh (wt cs e fz)->cs[o]?=wh (v6 wg N[i].1)->cs[o+1]?=wh f->Cp w f 2 (Cz N[i].2)->K (v7 (wh ⟨g,o,wj⟩)) w):AC 2 nv (v6 wg (i:Int)) w K:=by
 obtain⟨fs,h1,h2,h3⟩:=h;have hi':i<fs.length:=by omega
 refine AU h2 (by omega) (by rw[zK];exact Qa hi hi') λg o cs e fz hg _ hc=>hk g o cs e fz fs[i] hg ?_ ?_ (h3 i hi hi')
 ·simpa using hc 0 (by omega)
 ·simpa using hc 1 (by omega)
def Zt(x y:Operand)(a b:Va):(do eqGuard .neq 60 x y (we #[v6 wg a.1,v6 wg a.2]) (we #[v6 wg b.1,v6 wg b.2]);binOp .neq 60 (we #[v6 wg a.1,v6 wg a.2]) (we #[v6 wg b.1,v6 wg b.2]):Sem wm).run Z w=.ok (wd (!([a.1,a.2] == [b.1,b.2]))) w:=
 U1 (ks:=[wg,wg]) x y Tryz.underlying60 (by kernel_rfl) (by kernel_rfl) (by kernel_rfl) [a.1,a.2] [b.1,b.2] rfl rfl
def Yf(a b:Va):(!([a.1,a.2] == [b.1,b.2])) = !(decide (a=b)):=by
 by_cases h:a=b
 ·subst h;simp
 ·have:¬(a.1=b.1/\a.2=b.2):=λc=>h (Prod.ext c.1 c.2);rw[p9 h];simp only[q9,zJ,beq_eq_false_iff_ne];intro c;simp only[List.cons.injEq,and_true]at c;exact this c
def Pc{a b:wm}{xs ys:List Va}(ra:Cp w a 2 (Cz xs))(rb:Cp w b 2 (Cz ys))(hl:xs.length=ys.length)(h:∀w',Fr [] w w'->K (wd (decide (xs=ys))) w'):
  ∀(d i:Nat) (w':wn),xs.length=i+d->Fr [] w w'->(∀j,j<i->xs[j]?=ys[j]?)->F39.l4 K a b (v6 wg (i:Int)) w':=by
 have hl2:=ra.le;rw[CE]at hl2;intro d;induction d with
 | zero=>
  intro i w' hi hf he;refine F39.l4.to (AH (ra.keep hf) ?_);rw[CE];simp only[zv,show ¬((i:Int)<(xs.length:Int)) by omega];refine F39.k8.to ?_;have e:xs=ys:=zL λj=>by
   by_cases hj:j<i
   ·exact he j hj
   ·rw[yG (by omega),yG (by omega)]
  have:=h w' hf
  rwa [ur e]at this
 | succ d ih=>
  intro i w' hi hf he;have hix:i<xs.length:=by omega
  have hiy:i<ys.length:=by omega
  refine F39.l4.to (AH (ra.keep hf) ?_);rw[CE];simp only[zv,show ((i:Int)<(xs.length:Int)) by omega];refine F39.k6.to (A9 (λw2=>Fr [] w w2) λw1 hf1 he1=>⟨hf.trans hf1,?_⟩);have f1:=hf.trans hf1;refine Bc (S:=λw2=>Fr [] w w2) (λw2 hw=>ra.keep hw) f1 (by omega) (by rw[zK];exact MA hix) λga oa hl1 hs1=>?_
  refine Bc (S:=λw2=>Fr [] w w2) (λw2 hw=>rb.keep hw) f1 (by omega) (by rw[zK];exact MA hiy) λgb ob hl2 hs2=>?_;refine Bv hl1 (by omega) hs1 (Bv hl2 (by omega) hs2 ?_);refine⟨_,λw' _=>Zt _ _ _ _,?_⟩;rw[Yf];by_cases hb:xs[i]=ys[i]
  ·rw[hb,ur rfl];simp only[zv];refine F39.k5.to ?_;simp only[A7];rw[BO (n:=(i:Int)+1) (by omega),show (i:Int)+1=((i+1:Nat):Int) by omega];refine ih (i+1) w1 (by omega) f1 λj hj=>?_;by_cases hji:j=i
   ·subst hji;rw[xS hix,xS hiy,hb]
   ·exact he j (by omega)
  ·rw[p9 hb];simp only[zv];have ne:¬xs=ys:=λe=>hb (by subst e;rfl);have:=h w1 f1
   rwa [p9 ne]at this
def NO{a b:wm}{xs ys:List Va}(ra:Cp w a 2 (Cz xs))(rb:Cp w b 2 (Cz ys))(h:∀w',Fr [] w w'->K (wd (decide (xs=ys))) w'):I Z 39 #[a,b] w K:=by
 refine F39.sh (AH ra (AH rb ?_));rw[CE,CE];by_cases e:(xs.length:Int)=(ys.length:Int)
 ·have:¬((xs.length:Int)≠(ys.length:Int)):=λc=>c e;rw[AG,p9 this,Ag];exact F39.k3.to (Pc ra rb (by omega) h xs.length 0 w (by omega) (Fr.refl _ _) λj hj=>by omega)
 ·rw[AG,ur (show (xs.length:Int)≠(ys.length:Int) from e),Ah];have:=h w (Fr.refl _ _)
  rwa [p9 (λc=>e (by rw[c]))]at this
def FG.getS{W w1:wn}{rv:wm}{L:List (List Va)}{i:Nat}(h:FG W rv L)(hf:Fr [] W w1)(hi:i<L.length)(hk:∀g o v,Cp W v 2 (Cz L[i])->(∀w',Fr [] W w'->∃cs e fz,w'.heap[g]?=wh (wt cs e fz)/\cs[o]?=wh v)->K (v7 (wh ⟨g,o,wj⟩)) w1):AC 1 rv (v6 wg (i:Int)) w1 K:=by
 obtain⟨vs,h1,h2,h3⟩:=h;have hi':i<vs.length:=by omega
 refine Bc (S:=λw'=>Fr [] W w') (λw' hw=>h1.keep hw) hf (by omega) (by rw[zK];exact W3 hi') λg o _ hs=>hk g o vs[i] (h3 i hi hi') λw' hw=>?_;obtain⟨cs,e,fz,x,y⟩:=hs w' hw;exact⟨cs,e,fz,x,by simpa using y 0 (by simp)⟩
def DB.getS{W w1:wn}{nv:wm}{N:List Nd}{i:Nat}(h:DB W nv N)(hf:Fr [] W w1)(hi:i<N.length)(hk:∀g o f,Cp W f 2 (Cz N[i].2)->(∀w',Fr [] W w'->∃cs e fz,w'.heap[g]?=wh (wt cs e fz)/\cs[o]?=wh (v6 wg N[i].1))->(∀w',Fr [] W w'->∃cs e fz,w'.heap[g]?=wh (wt cs e fz)/\cs[o+1]?=wh f)->K (v7 (wh ⟨g,o,wj⟩)) w1):AC 2 nv (v6 wg (i:Int)) w1 K:=by
 obtain⟨fs,h1,h2,h3⟩:=h;have hi':i<fs.length:=by omega
 refine Bc (S:=λw'=>Fr [] W w') (λw' hw=>h2.keep hw) hf (by omega) (by rw[zK];exact Qa hi hi') λg o _ hs=>hk g o fs[i] (h3 i hi hi') (λw' hw=>?_) λw' hw=>?_
 ·obtain⟨cs,e,fz,x,y⟩:=hs w' hw;exact⟨cs,e,fz,x,by simpa using y 0 (by omega)⟩
 ·obtain⟨cs,e,fz,x,y⟩:=hs w' hw;exact⟨cs,e,fz,x,by simpa using y 1 (by omega)⟩
def VB.s{W:wn}{b:Nat}{rv nv:wm}(h:VB W b rv nv){o:Nat}{v:wm}(ho:(#[rv,nv]:Array wm)[o]?=wh v){w1:wn}(hk:K v w1):An (λw'=>Fr [] W w') (v7 (wh ⟨b,o,wj⟩)) w1 K:=
 Au (λw' hw=>⟨_,_,_,h.keep hw (by simp),ho⟩) hk
def Q8{W:wn}{b c:Nat}{rv nv rv' nv':wm}{V V':Vw}(hV:Ev W rv nv V)(hV':Ev W rv' nv' V')(hb:VB W b rv nv)(hc:VB W c rv' nv')(h1:V.1=V'.1)(hl:V.2.length=V'.2.length)(h:∀w',Fr [] W w'->K (wd (decide (V=V'))) w'):
  ∀(d j:Nat) (w:wn),V.2.length=j+d->Fr [] W w->(∀i,i<j->V.2[i]?=V'.2[i]?)->F14.l9 K (v7 (wh ⟨b,0,wj⟩)) (v7 (wh ⟨c,0,wj⟩)) (v6 wg (j:Int)) w:=by
 have hle:=hV.nodes.le;intro d;induction d with
 | zero=>
  intro j w hj hf he;refine F14.l9.to ((hb.keep hf (by simp)).f1 (hV.nodes.len ?_));simp only[zv,show ¬((j:Int)<(V.2.length:Int)) by omega];refine F14.k13.to ?_;have:=h w hf
  rwa [ur (Prod.ext h1 (IY hl (by omega) he))]at this
 | succ d ih=>
  intro j w hj hf he;have jl:j<V.2.length:=by omega
  have jl':j<V'.2.length:=by omega
  refine F14.l9.to ((hb.keep hf (by simp)).f1 (hV.nodes.len ?_));simp only[zv,show ((j:Int)<(V.2.length:Int)) by omega];have no:∀w',Fr [] W w'->¬V.2[j]=V'.2[j]->K (wd wl) w':=λw' hw hne=>by
   have:=h w' hw
   rwa [p9 (λe=>hne (by subst e;rfl))]at this
  have go:∀w',Fr [] W w'->V.2[j]=V'.2[j]->F14.k10 K (v7 (wh ⟨b,0,wj⟩)) (v7 (wh ⟨c,0,wj⟩)) (v6 wg (j:Int)) w':=λw' hw heq=>by
   refine F14.k10.to ?_;simp only[A7];rw[BO (n:=(j:Int)+1) (by omega),show (j:Int)+1=((j+1:Nat):Int) by omega];exact ih (j+1) w' (by omega) hw (M8 jl jl' he heq)
  refine F14.k11.to (A9 (λw'=>Fr [] W w') λw1 hf1 he1=>⟨hf.trans hf1,?_⟩);have f1:=hf.trans hf1;simp only[zv];refine hb.s rfl (hV.nodes.getS f1 jl λg o f hr hs0 hs1=>?_);simp only[Ai];refine Au hs0 (hc.s rfl (hV'.nodes.getS f1 jl' λg' o' f' hr' hs0' hs1'=>?_));simp only[Ai];refine Au hs0' ?_;by_cases hs:V.2[j].1=V'.2[j].1
  ·have:¬(V.2[j].1≠V'.2[j].1):=λc=>c hs;rw[AG,p9 this];simp only[zv];refine hb.s rfl (hV.nodes.getS f1 jl λg o f hr hs0 hs1=>?_);simp only[Ai];refine Au hs1 (hc.s rfl (hV'.nodes.getS f1 jl' λg' o' f' hr' hs0' hs1'=>?_));simp only[Ai];refine Au hs1' ⟨NO (hr.keep f1) (hr'.keep f1) λw2 hf2=>⟨f1.trans hf2,?_⟩,trivial⟩;by_cases hq:V.2[j].2=V'.2[j].2
   ·rw[ur hq];simp only[zv];exact go w2 (f1.trans hf2) (Prod.ext hs hq)
   ·rw[p9 hq];simp only[zv];exact no w2 (f1.trans hf2) λe=>hq (by rw[e])
  ·rw[AG,ur (show V.2[j].1≠V'.2[j].1 from hs)];simp only[zv];exact⟨⟨f1,no w1 f1 λe=>hs (by rw[e])⟩,trivial⟩
def RS{W:wn}{b c:Nat}{rv nv rv' nv':wm}{V V':Vw}(hV:Ev W rv nv V)(hV':Ev W rv' nv' V')(hb:VB W b rv nv)(hc:VB W c rv' nv')(hl1:V.1.length=V'.1.length)(hl:V.2.length=V'.2.length)(h:∀w',Fr [] W w'->K (wd (decide (V=V'))) w'):
  ∀(d j:Nat) (w:wn),V.1.length=j+d->Fr [] W w->(∀i,i<j->V.1[i]?=V'.1[i]?)->F14.l4 K (v7 (wh ⟨b,0,wj⟩)) (v7 (wh ⟨c,0,wj⟩)) (v6 wg (j:Int)) w:=by
 have hle:=hV.rows.le;intro d;induction d with
 | zero=>
  intro j w hj hf he;refine F14.l4.to ((hb.keep hf (by simp)).f0 (hV.rows.len ?_));simp only[zv,show ¬((j:Int)<(V.1.length:Int)) by omega];exact F14.k8.to (Q8 hV hV' hb hc (IY hl1 (by omega) he) hl h V.2.length 0 w (by omega) hf λi hi=>by omega)
 | succ d ih=>
  intro j w hj hf he;have jl:j<V.1.length:=by omega
  have jl':j<V'.1.length:=by omega
  refine F14.l4.to ((hb.keep hf (by simp)).f0 (hV.rows.len ?_));simp only[zv,show ((j:Int)<(V.1.length:Int)) by omega];refine F14.k6.to (A9 (λw'=>Fr [] W w') λw1 hf1 he1=>⟨hf.trans hf1,?_⟩);have f1:=hf.trans hf1;simp only[zv]
  refine hb.s rfl (hV.rows.getS f1 jl λg o v hr hs=>Au hs (hc.s rfl (hV'.rows.getS f1 jl' λg' o' v' hr' hs'=>Au hs' ⟨NO (hr.keep f1) (hr'.keep f1) λw2 hf2=>⟨f1.trans hf2,?_⟩,trivial⟩)));by_cases hq:V.1[j]=V'.1[j]
  ·rw[ur hq];simp only[zv];refine F14.k5.to ?_;simp only[A7];rw[BO (n:=(j:Int)+1) (by omega),show (j:Int)+1=((j+1:Nat):Int) by omega];exact ih (j+1) w2 (by omega) (f1.trans hf2) (M8 jl jl' he hq)
  ·rw[p9 hq];simp only[zv];have:=h w2 (f1.trans hf2)
   rwa [p9 (λe=>hq (by subst e;rfl))]at this
def Xu{rv nv rv' nv':wm}{V V':Vw}(hV:Ev w rv nv V)(hV':Ev w rv' nv' V')(h:∀w',Fr [] w w'->K (wd (decide (V=V'))) w'):I Z 14 #[we #[rv,nv],we #[rv',nv']] w K:=by
 refine F14.sh (VB.new hV λb w1 hf1 _ hb hV1=>VB.new (hV'.keep hf1) λc w2 hf2 _ hc hV2'=>?_);have hb2:=hb.keep hf2 (by simp);have hV2:=hV1.keep hf2;have f2:=hf1.trans hf2;refine hb2.f0 (hV2.rows.len (hc.f0 (hV2'.rows.len ?_)));by_cases e1:V.1.length=V'.1.length
 ·have:¬((V.1.length:Int)≠(V'.1.length:Int)):=by omega
  rw[AG,p9 this];simp only[Ax];refine hb2.f1 (hV2.nodes.len (hc.f1 (hV2'.nodes.len ?_)));by_cases e2:V.2.length=V'.2.length
  ·have:¬((V.2.length:Int)≠(V'.2.length:Int)):=by omega
   rw[AG,p9 this];simp only[zv];exact F14.k3.to (RS hV2 hV2' hb2 hc e1 e2 (λw' hf=>h w' (f2.trans hf)) V.1.length 0 w2 (by omega) (Fr.refl _ _) λi hi=>by omega)
  ·rw[AG,ur (show (V.2.length:Int)≠(V'.2.length:Int) by omega)];simp only[zv];have:=h w2 f2
   rwa [p9 (λe=>e2 (by rw[e]))]at this
 ·rw[AG,ur (show (V.1.length:Int)≠(V'.1.length:Int) by omega)];simp only[zv];have:=h w2 f2
  rwa [p9 (λe=>e1 (by rw[e]))]at this
def NQ{a b:wm}{xs ys:List Int}(ra:Cp w a 1 (BX xs))(rb:Cp w b 1 (BX ys))(hl:xs.length=ys.length)(h:∀w',Fr [] w w'->K (wd (decide (xs=ys))) w'):
  ∀(d i:Nat) (w':wn),xs.length=i+d->Fr [] w w'->(∀j,j<i->xs[j]?=ys[j]?)->F21.l4 K a b (v6 wg (i:Int)) w':=by
 have hl2:=ra.le;rw[Ca]at hl2;intro d;induction d with
 | zero=>
  intro i w' hi hf he;refine F21.l4.to (AH (ra.keep hf) ?_);rw[Ca];simp only[zv,show ¬((i:Int)<(xs.length:Int)) by omega];refine F21.k8.to ?_;have:=h w' hf
  rwa [ur (IY hl (by omega) he)]at this
 | succ d ih=>
  intro i w' hi hf he;have hix:i<xs.length:=by omega
  have hiy:i<ys.length:=by omega
  refine F21.l4.to (AH (ra.keep hf) ?_);rw[Ca];simp only[zv,show ((i:Int)<(xs.length:Int)) by omega];refine F21.k6.to (A9 (λw2=>Fr [] w w2) λw1 hf1 he1=>⟨hf.trans hf1,?_⟩);have f1:=hf.trans hf1;refine Bc (S:=λw2=>Fr [] w w2) (λw2 hw=>ra.keep hw) f1 (by omega) (by rw[zK];exact GC hix) λga oa _ hs1=>?_
  refine Bc (S:=λw2=>Fr [] w w2) (λw2 hw=>rb.keep hw) f1 (by omega) (by rw[zK];exact GC hiy) λgb ob _ hs2=>?_;refine Au (v:=v6 wg xs[i]) (λw' hw=>by obtain⟨cs,e,fz,x,y⟩:=hs1 w' hw;exact⟨cs,e,fz,x,by simpa using y 0 (by simp)⟩) ?_;refine Au (v:=v6 wg ys[i]) (λw' hw=>by obtain⟨cs,e,fz,x,y⟩:=hs2 w' hw;exact⟨cs,e,fz,x,by simpa using y 0 (by simp)⟩) ?_;by_cases hb:xs[i]=ys[i]
  ·have:¬(xs[i]≠ys[i]):=λc=>c hb;rw[AG,p9 this];simp only[Ag];refine F21.k5.to ?_;simp only[A7];rw[BO (n:=(i:Int)+1) (by omega),show (i:Int)+1=((i+1:Nat):Int) by omega];exact ih (i+1) w1 (by omega) f1 (M8 hix hiy he hb)
  ·rw[AG,ur (show xs[i]≠ys[i] from hb)];simp only[Ah];have:=h w1 f1
   rwa [p9 (λe=>hb (by subst e;rfl))]at this
def RT{a b:wm}{xs ys:List Int}(ra:Cp w a 1 (BX xs))(rb:Cp w b 1 (BX ys))(h:∀w',Fr [] w w'->K (wd (decide (xs=ys))) w'):I Z 21 #[a,b] w K:=by
 refine F21.sh (AH ra (AH rb ?_));rw[Ca,Ca];by_cases e:(xs.length:Int)=(ys.length:Int)
 ·have:¬((xs.length:Int)≠(ys.length:Int)):=λc=>c e;rw[AG,p9 this,Ag];exact F21.k3.to (NQ ra rb (by omega) h xs.length 0 w (by omega) (Fr.refl _ _) λj hj=>by omega)
 ·rw[AG,ur (show (xs.length:Int)≠(ys.length:Int) from e),Ah];have:=h w (Fr.refl _ _)
  rwa [p9 (λc=>e (by rw[c]))]at this
end
structure Dq(lo:Nat)(w:wn)(rv:wm)(L:List (List Va))(vs:List wm):Prop where
 sp:BQ w rv 56 1 (G4 vs)
 ge:∀g∈BN rv,lo<=g
 len:vs.length=L.length
 row:∀i (h:i<L.length) (h':i<vs.length),BQ w vs[i] 60 2 (Cz L[i])/\∀g∈BN vs[i],lo<=g
structure CV(lo:Nat)(w:wn)(nv:wm)(N:List Nd)(fs:List wm):Prop where
 len:fs.length=N.length
 sp:BQ w nv 58 2 (JF N fs)
 ge:∀g∈BN nv,lo<=g
 row:∀i (h:i<N.length) (h':i<fs.length),BQ w fs[i] 60 2 (Cz N[i].2)/\∀g∈BN fs[i],lo<=g
def Dq.rd{lo:Nat}{w:wn}{rv:wm}{L:List (List Va)}{vs:List wm}(h:Dq lo w rv L vs):FG w rv L:=⟨vs,h.sp.rd,h.len,λi a b=>(h.row i a b).1.rd⟩
def CV.rd{lo:Nat}{w:wn}{nv:wm}{N:List Nd}{fs:List wm}(h:CV lo w nv N fs):DB w nv N:=⟨fs,h.len,h.sp.rd,λi a b=>(h.row i a b).1.rd⟩
def Dq.keep{lo:Nat}{S:List Nat}{w w':wn}{rv:wm}{L:List (List Va)}{vs:List wm}(h:Dq lo w rv L vs)(hf:Fr S w w')(hS:∀g∈S,g<lo∨w.heap.size<=g∨∃cs e fz,w.heap[g]?=wh (wt cs e fz)/\e≠56/\e≠60):Dq lo w' rv L vs:=by
 have key:∀ {v:wm} {e:TypeId} {sz:Nat} {xs:List (List wm)},(e=56∨e=60)->BQ w v e sz xs->(∀g∈BN v,lo<=g)->BQ w' v e sz xs:=λhe ho hl=>ho.keep' hf λg hg c=>by
  rcases hS g c with d|d|⟨cs,e,fz,d,e1,e2⟩
  ·have:=hl g hg;omega
  ·have:=ho.mem_lt g hg;omega
  ·refine ho.nb d (λc=>?_) hg;rcases he with rfl|rfl
   ·exact e1 c.symm
   ·exact e2 c.symm
 exact⟨key (.inl rfl) h.sp h.ge,h.ge,h.len,λi a b=>⟨key (ws rfl) (h.row i a b).1 (h.row i a b).2,(h.row i a b).2⟩⟩
def CV.keep{lo:Nat}{S:List Nat}{w w':wn}{nv:wm}{N:List Nd}{fs:List wm}(h:CV lo w nv N fs)(hf:Fr S w w')(hS:∀g∈S,g<lo∨w.heap.size<=g∨∃cs e fz,w.heap[g]?=wh (wt cs e fz)/\e≠58/\e≠60):CV lo w' nv N fs:=by
 have key:∀ {v:wm} {e:TypeId} {sz:Nat} {xs:List (List wm)},(e=58∨e=60)->BQ w v e sz xs->(∀g∈BN v,lo<=g)->BQ w' v e sz xs:=λhe ho hl=>ho.keep' hf λg hg c=>by
  rcases hS g c with d|d|⟨cs,e,fz,d,e1,e2⟩
  ·have:=hl g hg;omega
  ·have:=ho.mem_lt g hg;omega
  ·refine ho.nb d (λc=>?_) hg;rcases he with rfl|rfl
   ·exact e1 c.symm
   ·exact e2 c.symm
 exact⟨h.len,key (.inl rfl) h.sp h.ge,h.ge,λi a b=>⟨key (ws rfl) (h.row i a b).1 (h.row i a b).2,(h.row i a b).2⟩⟩
def Dq.snoc{lo:Nat}{w w':wn}{rv rv' v:wm}{L:List (List Va)}{vs:List wm}{l:List Va}(h:Dq lo w rv L vs)(hlo:lo<=w.heap.size)(hf:Fr (BN rv) w w')(hg:∀g∈BN rv',g∈BN rv∨w.heap.size<=g)(hs:BQ w' rv' 56 1 (G4 vs++[[v]]))(hv:BQ w v 60 2 (Cz l))(hvl:∀g∈BN v,lo<=g):
  Dq lo w' rv' (L++[l]) (vs++[v]):=by
 refine⟨by rw[W2];exact hs,λg hgg=>?_,by simp[h.len],λi a b=>?_⟩
 ·rcases hg g hgg with c|c
  ·exact h.ge g c
  ·omega
 ·by_cases e:i<L.length
  ·have e':i<vs.length:=by rw[h.len];exact e
   rw[xT e,xT e'];exact⟨(h.row i e e').1.keep' hf ((h.row i e e').1.ne h.sp (by decide)),(h.row i e e').2⟩
  ·have ei:i=L.length:=by simp at a;omega
   have ei':i=vs.length:=by rw[h.len];exact ei
   rw[xN (by omega),xN (by omega)];simp only[ei',vh,h.len,List.getElem_cons_zero];exact⟨hv.keep' hf (hv.ne h.sp (by decide)),hvl⟩
def U0{N:List Nd}{fs:List wm}(h:fs.length=N.length)(nd:Nd)(f:wm):JF (N++[nd]) (fs++[f])=JF N fs++[[v6 wg nd.1,f]]:=by unfold JF;rw[List.zipWith_append h.symm];rfl
def CV.snoc{lo:Nat}{w w':wn}{nv nv' v:wm}{N:List Nd}{fs:List wm}{nd:Nd}(h:CV lo w nv N fs)(hlo:lo<=w.heap.size)(hf:Fr (BN nv) w w')(hg:∀g∈BN nv',g∈BN nv∨w.heap.size<=g)(hs:BQ w' nv' 58 2 (JF N fs++[[v6 wg nd.1,v]]))(hv:BQ w v 60 2 (Cz nd.2))(hvl:∀g∈BN v,lo<=g):
  CV lo w' nv' (N++[nd]) (fs++[v]):=by
 refine⟨by simp[h.len],by rw[U0 h.len];exact hs,λg hgg=>?_,λi a b=>?_⟩
 ·rcases hg g hgg with c|c
  ·exact h.ge g c
  ·omega
 ·by_cases e:i<N.length
  ·have e':i<fs.length:=by rw[h.len];exact e
   rw[xT e,xT e'];exact⟨(h.row i e e').1.keep' hf ((h.row i e e').1.ne h.sp (by decide)),(h.row i e e').2⟩
  ·have ei:i=N.length:=by simp at a;omega
   have ei':i=fs.length:=by rw[h.len];exact ei
   rw[xN (by omega),xN (by omega)];simp only[ei',vh,h.len,List.getElem_cons_zero];exact⟨hv.keep' hf (hv.ne h.sp (by decide)),hvl⟩
def CH(l:List Va):List Int:=(l.filter λx=>x.1 == 2).map Prod.snd
def D7(N:List Nd)(s:Int):Option Nat:=N.findIdx? λx=>x.1 == s
def I2(N:List Nd)(s:Int):Int:=match D7 N s with
 | some i=>(i:Int)
 | none => -1
def Jc{N:List Nd}{s:Int}{i:Nat}(h:D7 N s=wh i):∃h':i<N.length,N[i].1=s/\∀j (hj:j<N.length),j<i->N[j].1≠s:=by unfold D7 at h;rw[wS]at h;obtain⟨h1,h2,h3⟩:=h;exact⟨h1,by simpa using h2,λj hj hji=>by simpa using h3 j hji⟩
def XQ{N:List Nd}{s:Int}{i:Nat}(h:i<N.length)(h1:N[i].1=s)(h2:∀j (hj:j<N.length),j<i->N[j].1≠s):D7 N s=wh i:=by unfold D7;rw[wS];exact⟨h,by simpa using h1,λj hj=>by simpa using h2 j (by omega) hj⟩
def U5{N:List Nd}{s:Int}(h:∀x∈N,x.1≠s):D7 N s=wj:=by unfold D7;rw[xK];exact λx hx=>by simpa using h x hx
def LQ{N:List Nd}{s:Int}{i:Nat}(h:D7 N s=wh i):i<N.length:=(Jc h).1
def U6{N:List Nd}{s:Int}{i:Nat}(h:D7 N s=wh i):∃h':i<N.length,D7 N N[i].1=wh i:=by obtain⟨h1,h2,_⟩:=Jc h;exact⟨h1,by rw[h2];exact h⟩
def GS(V:Vw):List Int:=0::V.1.flatMap CH
inductive RchN(V:Vw):Nat->Prop where
 | seed {s:Int} {i:Nat}:s∈GS V->D7 V.2 s=wh i->RchN V i
 | step {j i:Nat} {nd:Nd} {s:Int}:RchN V j->V.2[j]?=wh nd->s∈CH nd.2->D7 V.2 s=wh i->RchN V i
def RchN.has{V:Vw}{i:Nat}(h:RchN V i):∃s,D7 V.2 s=wh i:=by
 cases h with
 | seed _ h=>exact⟨_,h⟩
 | step _ _ _ h=>exact⟨_,h⟩
def RchN.lt{V:Vw}{i:Nat}(h:RchN V i):i<V.2.length:=by obtain⟨s,hs⟩:=h.has;exact LQ hs
def RchN.first{V:Vw}{i:Nat}(h:RchN V i)(hi:i<V.2.length):D7 V.2 V.2[i].1=wh i:=by obtain⟨s,hs⟩:=h.has;obtain⟨_,h2⟩:=U6 hs;exact h2
def RchN.inj{V:Vw}{i j:Nat}(hi:RchN V i)(hj:RchN V j)(li:i<V.2.length)(lj:j<V.2.length)(h:V.2[i].1=V.2[j].1):i=j:=by have h1:=hi.first li;have h2:=hj.first lj;rw[h,h2]at h1;exact (p6 h1).symm
open Classical in
noncomputable def Em(V:Vw):List Bool:=(List.range V.2.length).map λi=>decide (RchN V i)
def Ld(V:Vw):(Em V).length=V.2.length:=by simp[Em]
def GD{V:Vw}{i:Nat}:(Em V)[i]?=wh wk↔RchN V i:=by
 unfold Em;rw[zN];constructor
 ·intro h;rcases Nat.lt_or_ge i V.2.length with c|c
  ·rw[yY c]at h;simpa using h
  ·rw[yG (by simpa using c)]at h;simp at h
 ·intro h;rw[yY h.lt];simpa using h
def TO{a b:List Bool}(hl:a.length=b.length)(h:∀i:Nat,a[i]?=wh wk↔b[i]?=wh wk):a=b:=by apply b7 hl;intro i h1 h2;have:=h i;rw[xS h1,xS h2]at this;simp only[zS]at this;cases ha:a[i]<;>cases hb:b[i]<;>simp_all
def Wl{V:Vw}{m:List Bool}(hl:m.length=V.2.length)(h1:∀i:Nat,m[i]?=wh wk->RchN V i)(h2:∀i:Nat,RchN V i->m[i]?=wh wk):m=Em V:=
 TO (by rw[hl,Ld]) λi=>⟨λh=>GD.2 (h1 i h),λh=>h2 i (GD.1 h)⟩
def XT{V:Vw}{m:List Bool}(h0:∀s∈GS V,∀i,D7 V.2 s=wh i->m[i]?=wh wk)(hc:∀j:Nat,m[j]?=wh wk->∀nd,V.2[j]?=wh nd->∀s∈CH nd.2,∀i,D7 V.2 s=wh i->m[i]?=wh wk):∀i,RchN V i->m[i]?=wh wk:=by
 intro i h;induction h with
 | seed h1 h2=>exact h0 _ h1 _ h2
 | step _ h1 h2 h3 ih=>exact hc _ ih _ h1 _ h2 _ h3
def D9{m:List Bool}{i j:Nat}(hi:i<m.length):(m.set i wk)[j]?=wh wk↔i=j∨m[j]?=wh wk:=by
 rw[zO];by_cases e:i=j
 ·subst e;simp[hi]
 ·simp[e]
def F1:List Bool->Nat
 | []=>0
 | b::m=>(if b then 0 else 1)+F1 m
theorem IM:∀ {m:List Bool} {i:Nat},m[i]?=wh wl->F1 (m.set i wk)+1=F1 m
 | [],i,h=>by simp at h
 | b::m,0,h=>by
  simp only[xW,zS]at h;subst h;simp[F1];omega
 | b::m,i+1,h=>by
  have:=IM (m:=m) (i:=i) (by simpa using h);simp only[List.set_cons_succ,F1];omega
def E6(N:List Nd)(s:Int)(mq:List Bool × List Nat):List Bool × List Nat:=match D7 N s with
 | some i=>if mq.1[i]?=some wk then mq else (mq.1.set i wk,mq.2++[i])
 | none=>mq
def CS(N:List Nd)(l:List Int)(mq:List Bool × List Nat):List Bool × List Nat:=l.foldl (λz s=>E6 N s z) mq
def Lb{N:List Nd}{s:Int}{i:Nat}{m:List Bool}{q:List Nat}(h:D7 N s=wh i)(hm:m[i]?=wh wk):E6 N s (m,q)=(m,q):=by unfold E6;simp only[h];rw[vy hm]
def JE{N:List Nd}{s:Int}{i:Nat}{m:List Bool}{q:List Nat}(h:D7 N s=wh i)(hm:m[i]?=wh wl):E6 N s (m,q)=(m.set i wk,q++[i]):=by unfold E6;simp only[h];rw[vx (by rw[hm];simp)]
def Lc{N:List Nd}{s:Int}{mq:List Bool × List Nat}(h:D7 N s=wj):E6 N s mq=mq:=by unfold E6;simp only[h]
def MS{m:List Bool}{i:Nat}(h:i<m.length):m[i]?=wh wk∨m[i]?=wh wl:=by rw[xS h];cases m[i]<;>simp
structure Wy(V:Vw)(m:List Bool)(q:List Nat):Prop where
 len:m.length=V.2.length
 snd:∀i:Nat,m[i]?=wh wk->RchN V i
 qm:∀i∈q,m[i]?=wh wk
 cl:∀j:Nat,m[j]?=wh wk->j∉q->∀nd,V.2[j]?=wh nd->∀s∈CH nd.2,∀i,D7 V.2 s=wh i->m[i]?=wh wk
def Ux{V:Vw}{s:Int}{m:List Bool}{q:List Nat}(h:Wy V m q)(hs:∀i,D7 V.2 s=wh i->RchN V i):
  Wy V (E6 V.2 s (m,q)).1 (E6 V.2 s (m,q)).2/\F1 (E6 V.2 s (m,q)).1+(E6 V.2 s (m,q)).2.length=F1 m+q.length/\(∀i:Nat,m[i]?=wh wk->(E6 V.2 s (m,q)).1[i]?=wh wk)/\(∀i,D7 V.2 s=wh i->(E6 V.2 s (m,q)).1[i]?=wh wk):=by
 cases hp:D7 V.2 s with
 | none=>
  rw[Lc hp];exact⟨h,rfl,λi hi=>hi,λi hi=>by cases hi⟩
 | some i=>
  have li:i<m.length:=by rw[h.len];exact LQ hp
  rcases MS li with c|c
  ·rw[Lb hp c];exact⟨h,rfl,λi hi=>hi,λk hk=>by obtain rfl:=p6 hk;exact c⟩
  ·rw[JE hp c];refine⟨⟨by simpa using h.len,λk hk=>?_,λk hk=>?_,λj hj hq nd hnd s' hs' k hk=>?_⟩,?_,λk hk=>(D9 li).2 (ws hk),λk hk=>(D9 li).2 (.inl (p6 hk))⟩
   ·rcases (D9 li).1 hk with rfl|hk
    ·exact hs _ hp
    ·exact h.snd k hk
   ·rcases n7.1 hk with hk|hk
    ·exact (D9 li).2 (ws (h.qm k hk))
    ·exact (D9 li).2 (.inl (zF.1 hk).symm)
   ·rcases (D9 li).1 hj with rfl|hj
    ·exact absurd (n7.2 (ws (by simp))) hq
    ·exact (D9 li).2 (ws (h.cl j hj (λc=>hq (n7.2 (.inl c))) nd hnd s' hs' k hk))
   ·have:=IM c;simp only[zE,d9,m7];omega
theorem Na{V:Vw}:∀ {l:List Int} {m:List Bool} {q:List Nat},Wy V m q->(∀s∈l,∀i,D7 V.2 s=wh i->RchN V i)->
  Wy V (CS V.2 l (m,q)).1 (CS V.2 l (m,q)).2/\F1 (CS V.2 l (m,q)).1+(CS V.2 l (m,q)).2.length=F1 m+q.length/\(∀i:Nat,m[i]?=wh wk->(CS V.2 l (m,q)).1[i]?=wh wk)/\(∀s∈l,∀i,D7 V.2 s=wh i->(CS V.2 l (m,q)).1[i]?=wh wk)
 | [],m,q,h,_=>⟨h,rfl,λi hi=>hi,λs hs=>by simp at hs⟩
 | s::l,m,q,h,hs=>by
  obtain⟨a1,a2,a3,a4⟩:=Ux h (hs s (by simp));obtain⟨b1,b2,b3,b4⟩:=Na (l:=l) a1 λs' h'=>hs s' (by simp[h']);refine⟨b1,by rw[<-a2];exact b2,λi hi=>b3 i (a3 i hi),λs' h' i hi=>?_⟩;rcases ux.1 h' with rfl|h'
  ·exact b3 i (a4 i hi)
  ·exact b4 s' h' i hi
def LK(N:List Nd)(a b:List Int)(mq:List Bool × List Nat):CS N (a++b) mq=CS N b (CS N a mq):=by simp[CS,List.foldl_append]
def Zx(V:Vw):Wy V (List.replicate V.2.length wl) []:=by
 refine⟨by simp,λi hi=>?_,λi hi=>by simp at hi,λj hj=>?_⟩
 ·rw[xX]at hi;split at hi<;>simp at hi
 ·rw[xX]at hj;split at hj<;>simp at hj
structure WT(V:Vw)(i:Nat)(m:List Bool)(q:List Nat):Prop where
 len:m.length=V.2.length
 snd:∀k:Nat,m[k]?=wh wk->RchN V k
 qm:∀k∈q,m[k]?=wh wk
 cl:∀j:Nat,m[j]?=wh wk->j∉q->j≠i->∀nd,V.2[j]?=wh nd->∀s∈CH nd.2,∀k,D7 V.2 s=wh k->m[k]?=wh wk
structure YH(V:Vw)(i:Nat)(l:List Int)(m:List Bool)(q:List Nat)(r:List Bool × List Nat):Prop where
 mid:WT V i r.1 r.2
 cnt:F1 r.1+r.2.length=F1 m+q.length
 mono:∀k:Nat,m[k]?=wh wk->r.1[k]?=wh wk
 all:∀s∈l,∀k,D7 V.2 s=wh k->r.1[k]?=wh wk
def Uz{V:Vw}{i:Nat}{s:Int}{m:List Bool}{q:List Nat}(h:WT V i m q)(hsr:∀k,D7 V.2 s=wh k->RchN V k):YH V i [s] m q (E6 V.2 s (m,q)):=by
 cases hp:D7 V.2 s with
 | none=>
  rw[Lc hp];exact⟨h,rfl,λk hk=>hk,λs' h' k hk=>by rw[zF.1 h',hp]at hk;cases hk⟩
 | some k0=>
  have lk:k0<m.length:=by rw[h.len];exact LQ hp
  rcases MS lk with cc|cc
  ·rw[Lb hp cc];exact⟨h,rfl,λk hk=>hk,λs' h' k hk=>by rw[zF.1 h',hp]at hk;obtain rfl:=p6 hk;exact cc⟩
  ·rw[JE hp cc];refine⟨⟨by simpa using h.len,λk hk=>?_,λk hk=>?_,λj hj hq hji nd' hnd' s' hs' k hk=>?_⟩,?_,λk hk=>(D9 lk).2 (ws hk),λs' h' k hk=>?_⟩
   ·rcases (D9 lk).1 hk with rfl|hk
    ·exact hsr _ hp
    ·exact h.snd k hk
   ·rcases n7.1 hk with hk|hk
    ·exact (D9 lk).2 (ws (h.qm k hk))
    ·exact (D9 lk).2 (.inl (zF.1 hk).symm)
   ·rcases (D9 lk).1 hj with rfl|hj
    ·exact absurd (n7.2 (ws (by simp))) hq
    ·exact (D9 lk).2 (ws (h.cl j hj (λc=>hq (n7.2 (.inl c))) hji nd' hnd' s' hs' k hk))
   ·have:=IM cc;simp only[zE,d9,m7];omega
   ·rw[zF.1 h',hp]at hk;exact (D9 lk).2 (.inl (p6 hk))
theorem Nb{V:Vw}{i:Nat}:∀ {l:List Int} {m:List Bool} {q:List Nat},WT V i m q->(∀s∈l,∀k,D7 V.2 s=wh k->RchN V k)->YH V i l m q (CS V.2 l (m,q))
 | [],m,q,h,_=>⟨h,rfl,λk hk=>hk,λs hs=>by simp at hs⟩
 | s::l,m,q,h,hs=>by
  have a:=Uz h (hs s (by simp));have b:=Nb (l:=l) (m:=(E6 V.2 s (m,q)).1) (q:=(E6 V.2 s (m,q)).2) a.mid λs' h'=>hs s' (by simp[h']);refine⟨b.mid,by rw[<-a.cnt];exact b.cnt,λk hk=>b.mono k (a.mono k hk),λs' h' k hk=>?_⟩;rcases ux.1 h' with rfl|h'
  ·exact b.mono k (a.all s' (by simp) k hk)
  ·exact b.all s' h' k hk
def Yj{V:Vw}{m:List Bool}{i:Nat}{q:List Nat}{nd:Nd}(h:Wy V m (i::q))(hn:V.2[i]?=wh nd):
  Wy V (CS V.2 (CH nd.2) (m,q)).1 (CS V.2 (CH nd.2) (m,q)).2/\F1 (CS V.2 (CH nd.2) (m,q)).1+(CS V.2 (CH nd.2) (m,q)).2.length=F1 m+q.length/\(∀k:Nat,m[k]?=wh wk->(CS V.2 (CH nd.2) (m,q)).1[k]?=wh wk):=by
 have hri:=h.snd i (h.qm i (by simp));have t:=Nb (V:=V) (i:=i) (l:=CH nd.2) (m:=m) (q:=q) ⟨h.len,h.snd,λk hk=>h.qm k (by simp[hk]),λj hj hq hji=>h.cl j hj (by simp[hji,hq])⟩ λs hs k hk => .step hri hn hs hk;refine⟨⟨t.mid.len,t.mid.snd,t.mid.qm,λj hj hq nd' hnd' s' hs' k hk=>?_⟩,t.cnt,t.mono⟩;by_cases hji:j=i
 ·subst hji;rw[hn]at hnd';obtain rfl:=p6 hnd';exact t.all s' hs' k hk
 ·exact t.mid.cl j hj hq hji nd' hnd' s' hs' k hk
def Yi{V:Vw}{m:List Bool}(h:Wy V m [])(h0:∀s∈GS V,∀i,D7 V.2 s=wh i->m[i]?=wh wk):m=Em V:=
 Wl h.len h.snd (XT h0 λj hj nd hnd s hs i hi=>h.cl j hj (by simp) nd hnd s hs i hi)
def SZ(a b:List Va):CH (a++b)=CH a++CH b:=by simp[CH]
def Ta(x:Va):CH [x]=if x.1=2 then[x.2] else[]:=by unfold CH;by_cases h:x.1=2<;>simp[h]
def Ri{l:List Va}{i:Nat}(h:i<l.length):CH (l.take (i+1))=CH (l.take i)++if l[i].1=2 then[l[i].2] else[]:=by rw[wT h,SZ,Ta]
end
section
open Go.Shelf
def Th:Go.Shelf.Ren:=⟨fun | 5=>52 | 8=>94 | 7=>93 | 19=>140 | 20=>141 | 10=>131 | 11=>132 | 12=>133 | 13=>134 | 14=>135 | 15=>136 | 16=>137 | 17=>138 | 18=>139 | 30=>203 | 31=>204 | 32=>205 | 33=>206 | 34=>207 | 35=>208 | 40=>259 | n=>n,fun | 23=>52 | 25=>2 | 3=>3 | 32=>157 | 22=>52 | 0=>0 | 44=>208 | 46=>210 | 4=>4 | 36=>201 | 35=>200 | 41=>68 | 5=>5 | 9=>9 | 53=>275 | 57=>109 | 63=>306 | 64=>262 | n=>n,λn=>n⟩
def Ve:SlLaysM.n5 Z Th:={
 mixed:=by kernel_rfl,
 f5:=⟨f52.name,by decide,func52.trans (vr wh (by kernel_rfl))⟩,
 f7:=⟨f93.name,by decide,func93.trans (vr wh (by kernel_rfl))⟩,
 f8:=func94.trans (vr wh (by kernel_rfl)),
 f10:=⟨f131.name,by decide,func131.trans (vr wh (by kernel_rfl))⟩,
 f11:=⟨f132.name,by decide,func132.trans (vr wh (by kernel_rfl))⟩,
 f12:=⟨f133.name,by decide,func133.trans (vr wh (by kernel_rfl))⟩,
 f13:=⟨f134.name,by decide,func134.trans (vr wh (by kernel_rfl))⟩,
 f14:=⟨f135.name,by decide,func135.trans (vr wh (by kernel_rfl))⟩,
 f15:=⟨f136.name,by decide,func136.trans (vr wh (by kernel_rfl))⟩,
 f16:=⟨f137.name,by decide,func137.trans (vr wh (by kernel_rfl))⟩,
 f17:=⟨f138.name,by decide,func138.trans (vr wh (by kernel_rfl))⟩,
 f18:=⟨f139.name,by decide,func139.trans (vr wh (by kernel_rfl))⟩,
 f19:=func140.trans (vr wh (by kernel_rfl)),
 f20:=func141.trans (vr wh (by kernel_rfl)),
 f30:=⟨f203.name,by decide,func203.trans (vr wh (by kernel_rfl))⟩,
 f31:=func204.trans (vr wh (by kernel_rfl)),
 f32:=func205.trans (vr wh (by kernel_rfl)),
 f33:=⟨f206.name,by decide,func206.trans (vr wh (by kernel_rfl))⟩,
 f34:=⟨f207.name,by decide,func207.trans (vr wh (by kernel_rfl))⟩,
 f35:=⟨f208.name,by decide,func208.trans (vr wh (by kernel_rfl))⟩,
 f40:=⟨f259.name,by decide,func259.trans (vr wh (by kernel_rfl))⟩,
 t0:=Tryz.underlying0,
 a0:=Tryz.isAgg0,
 z0:=Tryz.sizeOf0,
 v0:=Tryz.zeroValue0,
 t3:=Tryz.underlying3,
 a3:=Tryz.isAgg3,
 z3:=Tryz.sizeOf3,
 v3:=Tryz.zeroValue3,
 t4:=Tryz.underlying4,
 a4:=Tryz.isAgg4,
 z4:=Tryz.sizeOf4,
 v4:=Tryz.zeroValue4,
 t5:=Tryz.underlying5,
 a5:=Tryz.isAgg5,
 z5:=Tryz.sizeOf5,
 v5:=Tryz.zeroValue5,
 t9:=Tryz.underlying9,
 a9:=Tryz.isAgg9,
 z9:=Tryz.sizeOf9,
 v9:=Tryz.zeroValue9,
 t22:=Tryz.underlying52,
 a22:=Tryz.isAgg52,
 z22:=Tryz.sizeOf52,
 v22:=Tryz.zeroValue52,
 t23:=Tryz.underlying52,
 a23:=Tryz.isAgg52,
 z23:=Tryz.sizeOf52,
 v23:=Tryz.zeroValue52,
 t25:=Tryz.underlying2,
 a25:=Tryz.isAgg2,
 z25:=Tryz.sizeOf2,
 v25:=Tryz.zeroValue2,
 t32:=Tryz.underlying157,
 a32:=Tryz.isAgg157,
 z32:=Tryz.sizeOf157,
 v32:=Tryz.zeroValue157,
 t35:=Tryz.underlying200,
 a35:=Tryz.isAgg200,
 z35:=Tryz.sizeOf200,
 v35:=Tryz.zeroValue200,
 t36:=Tryz.underlying201,
 a36:=Tryz.isAgg201,
 z36:=Tryz.sizeOf201,
 v36:=Tryz.zeroValue201,
 t41:=Tryz.underlying68,
 a41:=Tryz.isAgg68,
 z41:=Tryz.sizeOf68,
 v41:=Tryz.zeroValue68,
 t44:=Tryz.underlying208,
 a44:=Tryz.isAgg208,
 z44:=Tryz.sizeOf208,
 v44:=Tryz.zeroValue208,
 t46:=Tryz.underlying210,
 a46:=Tryz.isAgg210,
 z46:=Tryz.sizeOf210,
 v46:=Tryz.zeroValue210,
 t53:=Tryz.underlying275,
 a53:=Tryz.isAgg275,
 z53:=Tryz.sizeOf275,
 v53:=Tryz.zeroValue275,
 t57:=Tryz.underlying109,
 a57:=Tryz.isAgg109,
 z57:=Tryz.sizeOf109,
 v57:=Tryz.zeroValue109,
 t63:=Tryz.underlying306,
 a63:=Tryz.isAgg306,
 z63:=Tryz.sizeOf306,
 v63:=Tryz.zeroValue306,
 t64:=Tryz.underlying262,
 a64:=Tryz.isAgg262,
 z64:=Tryz.sizeOf262,
 v64:=Tryz.zeroValue262 }
end
end Go.Proofs.QV
