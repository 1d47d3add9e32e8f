/- Part 7 of what the law needs: own lemmas, in the order in which they build. -/
import Derived.Test.YtcakfaakbpdklaaGreatDoorProg
import Derived.Test.YtcakfaakbpdklaaGreatDoorTopEnds06
set_option linter.defProp false
set_option linter.unusedSimpArgs false
set_option linter.unusedVariables false
set_option maxRecDepth 100000
namespace Go.Proofs.QV
open Go Go.Proofs
open Go.Proofs.Tryz renaming prog->Z
open Go.IntKind renaming i64->wg
open Go.Value renaming int->v6,pointer->v7,slice->v8,tuple->wc,bool->wd
open Option renaming some->wh
open Option renaming none->wj
open Bool renaming true->wk
open Bool renaming false->wl
open Go renaming Value->wm
open Go renaming World->wn
open Or renaming inl->wr
open Or renaming inr->ws
open Go.Obj renaming cells->wt
section
open Go.RowKit
def KH{cs:Array wm}{o:Nat}{x:wm}(hn:o+1<=cs.size):(CO cs.toList o [x]).toArray=cs.setIfInBounds o x:=by
 apply Array.ext_getElem?;intro i;rw[wY,yH];unfold CO;have e1:(cs.toList.take o).length=o:=by rw[i8];simp;omega
 rw[yP];by_cases b1:i<o+1
 ·rw[vy (by rw[zE,e1];exact b1),yP,e1];by_cases b2:i<o
  ·rw[vy b2,zD,vy b2,vx (by omega),yF]
  ·have:i=o:=by omega
   subst this;rw[vx b2,vy rfl,vy (by omega),show i-i=0 by omega];rfl
 ·rw[vx (by rw[zE,e1];exact b1),zC,vx (by omega),zE,e1];simp only[d9,m7];rw[yF];congr 1;omega
def GI(vs:List wm):List (List wm):=vs.map λv=>[v]
def HP(vs:List wm):(GI vs).length=vs.length:=by simp[GI]
def OM(vs:List wm)(j:Nat)(v:wm):GI (vs.set j v)=(GI vs).set j [v]:=by simp[GI]
def Dv(vs:List wm):List Nat:=vs.flatMap BN
def FC{vs:List wm}{x:Nat}:x∈Dv vs↔∃v∈vs,x∈BN v:=by simp[Dv]
def DV{vs:List wm}{j:Nat}(hj:j<vs.length){x:Nat}(hx:x∈BN vs[j]):x∈Dv vs:=FC.2 ⟨_,d7 hj,hx⟩
def EQ{vs:List wm}{j:Nat}{v:wm}{x:Nat}(h:x∈Dv (vs.set j v)):x∈Dv vs∨x∈BN v:=by
 obtain⟨u,hu,hx⟩:=FC.1 h;rcases xO hu with c|c
 ·exact wr (FC.2 ⟨u,c,hx⟩)
 ·exact ws (c ▸ hx)
structure G2(w:wn)(e:TypeId)(sz:Nat)(vs:List wm)(xs:List (List (List wm))):Prop where
 len:vs.length=xs.length
 row:∀(i:Nat) (h:i<vs.length) (h':i<xs.length),BQ w vs[i] e sz xs[i]
 dj:∀(i j:Nat) (h:i<vs.length) (h':j<vs.length),i≠j->∀x∈BN vs[i],x∉BN vs[j]
def G2.keep{w w':wn}{e:TypeId}{sz:Nat}{vs:List wm}{xs:List (List (List wm))}{S:List Nat}(h:G2 w e sz vs xs)(hf:Fr S w w')(hS:∀x∈Dv vs,x∉S):G2 w' e sz vs xs:=
 ⟨h.len,λi h1 h2=>(h.row i h1 h2).keep' hf λg hg=>hS g (DV h1 hg),h.dj⟩
def G2.lt{w:wn}{e:TypeId}{sz:Nat}{vs:List wm}{xs:List (List (List wm))}(h:G2 w e sz vs xs):∀x∈Dv vs,x<w.heap.size:=λx hx=>by
 obtain⟨v,hv,hx⟩:=FC.1 hx;obtain⟨i,hi,rfl⟩:=yW hv;exact (h.row i hi (by have:=h.len;omega)).lt (Cb.1 hx)
def G2.set{w w':wn}{e:TypeId}{sz:Nat}{vs:List wm}{xs:List (List (List wm))}{j:Nat}{v:wm}{x:List (List wm)}{S:List Nat}(h:G2 w e sz vs xs)(hj:j<vs.length)(hf:Fr S w w')(hS:∀i (h:i<vs.length),i≠j->∀y∈BN vs[i],y∉S)(ho:BQ w' v e sz x)(hg:∀y∈BN v,y∈BN vs[j]∨w.heap.size<=y):G2 w' e sz (vs.set j v) (xs.set j x):=by
 have hl:=h.len;refine⟨by simp[hl],λi h1 h2=>?_,λi k h1 h2 hne y hy hy'=>?_⟩
 ·rw[d8,d8];simp only[m8]at h1 h2;split
  ·exact ho
  ·rename_i hne;exact (h.row i h1 h2).keep' hf (hS i h1 (vv hne))
 ·simp only[m8]at h1 h2;rw[d8]at hy hy';have far:∀(i:Nat) (hi:i<vs.length),i≠j->∀y∈BN vs[i],y∉BN v:=λi hi hij y hy hv=>by
   rcases hg y hv with c|c
   ·exact h.dj i j hi hj hij y hy c
   ·have:=(h.row i hi (by omega)).lt (Cb.1 hy);omega
  split at hy
  ·rename_i e1;subst e1;split at hy'
   ·rename_i e2;exact hne e2
   ·rename_i e2;exact far k h2 (vv e2) y hy' hy
  ·rename_i e1;split at hy'
   ·exact far i h1 (vv e1) y hy hy'
   ·exact h.dj i k h1 h2 hne y hy hy'
structure D1(bu:Nat)(bv:wm)(vs:List wm)(w:wn)(b:List (List Int)):Prop where
 blk:w.heap[bu]?=wh (wt #[wd wk,bv] 186 (0,0))
 own:BQ w bv 54 1 (GI vs)
 fam:G2 w 3 1 vs (b.map BX)
 le:b.length<=8
 fit:∀l∈b,l.Nodup/\∀a∈l,0<=a/\a<2048
structure G1(bv:wm)(vs:List wm)(w:wn)(vs':List wm)(w':wn):Prop where
 fr:Fr (BN bv++Dv vs) w w'
 gr:∀x∈Dv vs',x∈Dv vs∨w.heap.size<=x
def G1.refl(bv:wm)(vs:List wm)(w:wn):G1 bv vs w vs w:=⟨Fr.refl _ _,λx hx=>wr hx⟩
def G1.trans{bv:wm}{vs vs' vs'':List wm}{w w' w'':wn}(h:G1 bv vs w vs' w')(k:G1 bv vs' w' vs'' w''):G1 bv vs w vs'' w'':=
 ⟨h.fr.then k.fr λx hx=>by
  rw[n7]at hx ⊢;rcases hx with c|c
  ·exact wr (wr c)
  ·rcases h.gr x c with d|d
   ·exact wr (ws d)
   ·exact ws d,λx hx=>by
  rcases k.gr x hx with c|c
  ·exact h.gr x c
  ·have:=h.fr.size;exact ws (by omega)⟩
section
variable{K:VK}{w w':wn}{bu:Nat}{bv:wm}{vs:List wm}{b:List (List Int)}
def D1.keep{S:List Nat}(h:D1 bu bv vs w b)(hf:Fr S w w')(h1:bu∉S)(h2:∀x∈BN bv,x∉S)(h3:∀x∈Dv vs,x∉S):D1 bu bv vs w' b:=⟨hf.at_ h.blk h1,h.own.keep' hf h2,h.fam.keep hf h3,h.le,h.fit⟩
def D1.keep0(h:D1 bu bv vs w b)(hf:Fr [] w w'):D1 bu bv vs w' b:=h.keep hf (by simp) (by simp) (by simp)
def D1.len(h:D1 bu bv vs w b):vs.length=b.length:=by have:=h.fam.len;simpa using this
def D1.few(h:D1 bu bv vs w b){l:List Int}(hl:l∈b):l.length<=2048:=JG 2048 l (h.fit l hl).1 (h.fit l hl).2
def D1.at_(h:D1 bu bv vs w b){j:Nat}(hj:j<b.length)(hj':j<vs.length):BQ w vs[j] 3 1 (BX b[j]):=by have:=h.fam.row j hj' (by simpa using hj);simpa using this
def B5{k:IntKind}{j:Nat}(h:D1 bu bv vs w b)(hj:j<vs.length)(hk:∀g o cs,w.heap[g]?=wh (wt cs 54 (0,0))->BN bv=[g]->o+1<=cs.size->cs[o]?=wh vs[j]->
   (∀(v:wm) w',v.oneCell'=wk->w'.heap[g]?=wh (wt (cs.setIfInBounds o v) 54 (0,0))->BQ w' bv 54 1 (GI (vs.set j v)))->K (v7 (wh ⟨g,o,wj⟩)) w):AC 1 bv (v6 k (j:Int)) w K:=by
 refine h.own.spot (by rw[HP];exact hj) λg o cs hg hb ho hc hs=>hk g o cs hg hb ho ?_ λv w' hv hw=>?_
 ·have:=hc 0 (by omega);simpa[GI] using this
 ·rw[OM];exact hs [v] w' rfl (by simpa using hv) (by rw[KH ho];exact hw)
def XM{t:Int}(h:D1 bu bv vs w b)(h1:∀(j:Nat) (hj:j<vs.length),t=(j:Int)->K (wc #[vs[j],wd wk]) w)(h2:¬(0<=t/\t<b.length)->K (wc #[v8 wj 0 0,wd wl]) w):
  I Z 209 #[v7 (wh ⟨bu,0,wj⟩),v6 wg t] w K:=by
 have hl:=h.len;refine F209.sh ⟨_,Ck _ _ _ Tryz.underlying125,?_⟩
 try simp only[zv]
 by_cases z1:t<0
 ·simp only[zv,z1];exact h2 (by omega)
 simp only[zv,z1];refine Ad (v:=bv) h.blk rfl (AH h.own.rd ?_);rw[HP];by_cases z2:t≥(vs.length:Int)
 ·simp only[zv,z2];exact h2 (by omega)
 simp only[zv,z2];refine F209.k3.to ?_
 try simp only[zv]
 obtain⟨j,rfl⟩:=xU (show 0<=t by omega);have hj:j<vs.length:=by omega
 refine Ad (v:=bv) h.blk rfl (B5 h hj λg o cs hg _ ho hc _=>Ad hg hc ?_);exact h1 j hj rfl
def D1.set{j:Nat}{v:wm}{l:List Int}{S:List Nat}{w1:wn}(h:D1 bu bv vs w b)(hj:j<vs.length)(hf:Fr S w w1)(hS:∀x∈S,x∈BN vs[j]∨w.heap.size<=x)(ho:BQ w1 v 3 1 (BX l))(hg:∀y∈BN v,y∈BN vs[j]∨w.heap.size<=y)(hw:Fr (BN bv) w1 w')(hb:BQ w' bv 54 1 (GI (vs.set j v)))(hl:l.Nodup/\∀a∈l,0<=a/\a<2048):D1 bu bv (vs.set j v) w' (b.set j l):=by
 have hlen:=h.len;have nb:bu∉S:=λe=>by
  rcases hS bu e with c|c
  ·exact (h.at_ (j:=j) (by omega) hj).nb h.blk (by decide) c
  ·have:=BP h.blk;omega
 have h1:G2 w1 3 1 (vs.set j v) ((b.map BX).set j (BX l)):=h.fam.set hj hf (λi hi hij y hy e=>by
  rcases hS y e with c|c
  ·exact h.fam.dj i j hi hj hij y hy c
  ·have:=h.fam.lt y (DV hi hy);omega) ho hg
 have e1:(b.map BX).set j (BX l)=(b.set j l).map BX:=by simp
 refine⟨hw.at_ (hf.at_ h.blk nb) (h.own.nb h.blk (by decide)),hb,?_,by simp[h.le],λx hx=>?_⟩
 ·rw[<-e1];refine h1.keep hw λx hx e=>?_;have hlt:=h.own.lt (Cb.1 e);rcases EQ hx with c|c
  ·obtain⟨u,hu,hx⟩:=FC.1 c;obtain⟨i,hi,rfl⟩:=yW hu;exact (h.at_ (j:=i) (by omega) hi).ne h.own (by decide) x hx e
  ·rcases hg x c with d|d
   ·exact (h.at_ (j:=j) (by omega) hj).ne h.own (by decide) x d e
   ·omega
 ·rcases xO hx with c|c
  ·exact h.fit x c
  ·exact c ▸ hl
def Mn{t:Int}(h:D1 bu bv vs w b)(hk:∀v vs' w',G1 bv vs w vs' w'->D1 bu bv vs' w' (CT b t)->BQ w' v 3 1 (BX (DQ b t))->(∀x∈BN v,x∈Dv vs)->K v w'):
  I Z 143 #[v7 (wh ⟨bu,0,wj⟩),v6 wg t] w K:=by
 have hl:=h.len;refine F143.sh (XM h (λj hj e=>?_) λhn=>?_)
 ·subst e
  try simp only[zv]
  have eo:DQ b (j:Int)=b[j]'(by omega):=by unfold DQ;rw[vy (by omega)];simp[List.getD,show j<b.length by omega]
  have et:CT b (j:Int)=b.set j []:=by unfold CT;rw[vy (by omega)];simp
  rw[et,eo]at hk;refine Ad (v:=bv) h.blk rfl (B5 h hj λg o cs hg hb ho hc hs=>AI hg rfl rfl (by omega) λw1 hu=>?_);have hown:=h.at_ (j:=j) (by omega) hj;have hw:=hs (v8 wj 0 0) w1 rfl hu.at_;have hf1:Fr (BN bv) w w1:=hb ▸ hu.fr;have h1:=h.set (S:=[]) (v:=v8 wj 0 0) (l:=[]) hj (Fr.refl _ w) (by simp) (BQ.nil _ _ _) (by simp[BN,wm.ownBlock]) hf1 hw (by simp)
  refine F143.k4.to (hk _ _ w1 ⟨hf1.mono λx hx=>by simp[hx],λx hx=>?_⟩ h1 (hown.keep' hf1 λx hx=>hown.ne h.own (by decide) x hx) λx hx=>DV hj hx);rcases EQ hx with c|c
  ·exact wr c
  ·simp[BN,wm.ownBlock]at c
 ·try simp only[zv]
  have et:CT b t=b:=by unfold CT;rw[vx hn]
  have eo:DQ b t=[]:=by
   unfold DQ;by_cases c:0<=t
   ·rw[vy c];simp[List.getD,show ¬t.toNat<b.length by omega]
   ·rw[vx c]
  rw[et,eo]at hk;exact F143.k4.to (hk _ vs w (G1.refl _ _ _) h (BQ.nil _ _ _) (by simp[BN,wm.ownBlock]))
def Qr{W:wn}{vs0:List wm}{b':List (List Int)}(hk:∀n vs' w',G1 bv vs0 W vs' w'->D1 bu bv vs' w' b'->K (v6 wg n) w'):
  ∀(d i:Nat) (n:Int) (w:wn) (vs:List wm) (b:List (List Int)),i+d=b.length->G1 bv vs0 W vs w->D1 bu bv vs w b->(b.take i).map (λ_=>[])++(b.drop i).map (λ_=>[])=b'->(∀l∈b.take i,l=[])->
   F214.l5 K (v7 (wh ⟨bu,0,wj⟩)) (v6 wg n) (v6 wg (b.length:Int)) (v6 wg (i:Int)) w:=by
 intro d;induction d with
 | zero=>
  intro i n w vs b hi ht h he hz;have e:i=b.length:=by omega
  subst e;refine F214.l5.to ?_;simp only[zv,show ¬((b.length:Int)<(b.length:Int)) by omega];rw[j4]at hz he;have:b=b':=by
   rw[b6]at he;simp only[u6,j8]at he;rw[<-he]
   conv=>lhs;rw[<-List.map_id b]
   exact List.map_congr_left λl hl=>by rw[hz l hl];rfl
  subst this;exact F214.k9.to (hk n vs w ht h)
 | succ d ih=>
  intro i n w vs b hi ht h he hz;have hlt:i<b.length:=by omega
  refine F214.l5.to ?_;have hle:=h.le;simp only[zv,show (i:Int)<(b.length:Int) by omega];refine F214.k6.to (Mn h λv vs' w1 ht1 h1 hv1 hb1=>AH hv1.rd ?_)
  try simp only[A7]
  refine F214.k8.to ?_
  try simp only[A7]
  rw[BO (n:=(i:Int)+1) (by omega)];have et:CT b (i:Int)=b.set i []:=by unfold CT;rw[vy (by omega)];simp
  rw[et]at h1;have el:(b.set i []).length=b.length:=by simp
  rw[<-el];refine ih (i+1) _ w1 vs' (b.set i []) (by omega) (ht.trans ht1) h1 ?_ λl hl=>?_
  ·rw[<-he, <-m9, <-m9,yL,yL];apply zL;intro q;simp only[zN,zO];split
   ·rename_i e1;subst e1;simp[hlt]
   ·rfl
  ·obtain⟨q,hq,rfl⟩:=yW hl;rw[List.getElem_take,d8];split
   ·rfl
   ·rename_i hne;rw[i8]at hq;refine hz _ ?_;have hqi:q<i:=by omega
    have:(b.take i)[q]'(by rw[i8];omega)=b[q]'(by omega):=List.getElem_take;rw[<-this];exact d7 _
def Tx(h:D1 bu bv vs w b)(hk:∀n vs' w',G1 bv vs w vs' w'->D1 bu bv vs' w' (b.map λ_=>[])->K (v6 wg n) w'):
  I Z 214 #[v7 (wh ⟨bu,0,wj⟩)] w K:=by
 refine F214.sh ⟨_,Ck _ _ _ Tryz.underlying125,?_⟩
 try simp only[Ag]
 refine F214.k3.to ?_
 try simp only[zv]
 refine Ad (v:=bv) h.blk rfl (AH h.own.rd ?_);rw[HP,h.len];exact Qr (W:=w) (vs0:=vs) hk b.length 0 0 w vs b (by omega) (G1.refl _ _ _) h (by simp) (by simp)
def NW:DK Z 268=wk:=by kernel_rfl
def Pa(h:D1 bu bv vs w b)(h1:∀(j:Nat),CL b=wl->K (v6 wg (j:Int)) w)(h2:CL b=wk->K (v6 wg (-1)) w):
  ∀(d i:Nat),i+d=b.length->(∀l∈b.take i,l=[])->
   F298.l2 K bv (.func (.func 268) #[] #[]) (v6 wg (b.length:Int)) (v6 wg (i:Int)) w:=by
 have hl:=h.len;intro d;induction d with
 | zero=>
  intro i hi hz;have e:i=b.length:=by omega
  subst e;refine F298.l2.to ?_;simp only[zv,show ¬((b.length:Int)<(b.length:Int)) by omega];refine F298.k7.to (h2 ?_);rw[j4]at hz;unfold CL;rw[zZ];intro l hl;rw[hz l hl];rfl
 | succ d ih=>
  intro i hi hz;have hlt:i<b.length:=by omega
  have hle:=h.le;refine F298.l2.to ?_;simp only[zv,show (i:Int)<(b.length:Int) by omega];refine F298.k3.to (B5 h (by omega) λg o cs hg _ ho hc _=>Ad hg hc (Hn NW (F268.sh (AH (h.at_ hlt (by omega)).rd ?_))));rw[Ca];by_cases z:b[i].length>0
  ·simp only[zv,show ((b[i].length:Nat):Int)>0 by omega];refine h1 i ?_;unfold CL;cases hh:b.all (λl=>l.isEmpty) with
   | false=>rfl
   | true=>
    have:=zZ.1 hh b[i] (d7 hlt);rw[List.isEmpty_iff]at this;rw[this]at z;simp at z
  ·simp only[zv,show ¬((b[i].length:Nat):Int)>0 by omega];refine F298.k6.to ?_
   try simp only[A7]
   rw[BO (n:=(i:Int)+1) (by omega)];refine ih (i+1) (by omega) λl hl=>?_;rw[zR,n7]at hl;rcases hl with c|c
   ·exact hz l c
   ·rw[xS hlt]at c;simp only[zH,zF]at c;rw[c];exact wW (by omega)
def Vo(h:D1 bu bv vs w b)(hk:K (wd (CL b)) w):I Z 216 #[v7 (wh ⟨bu,0,wj⟩)] w K:=by
 refine F216.sh ⟨_,Ck _ _ _ Tryz.underlying125,?_⟩
 try simp only[zv]
 refine Ad (v:=bv) h.blk rfl (F267.sh (F298.sh (AH h.own.rd ?_)));rw[HP,h.len];refine Pa h (λj he=>?_) (λhe=>?_) b.length 0 (by omega) (by simp)
 ·simp only[zv,show (j:Int)≥0 by omega];rw[he]at hk;exact hk
 ·simp only[zv,show ¬((-1:Int)≥0) by omega];rw[he]at hk;exact hk
def Ug{a:Int}:0<=Cq a↔0<=a/\a<2048:=by
 unfold Cq;split
 ·rename_i h;constructor<;>intro<;>omega
 ·rename_i h;constructor<;>intro<;>omega
def WH{t a:Int}(h:D1 bu bv vs w b)(hk:∀c vs' w',G1 bv vs w vs' w'->D1 bu bv vs' w' (F3 b t a)->K (wd c) w'):
  I Z 232 #[v7 (wh ⟨bu,0,wj⟩),v6 wg t,v6 wg a] w K:=by
 have hl:=h.len;refine F232.sh (XM h (λj hj e=>?_) λhn=>?_)
 ·subst e
  try simp only[zv]
  have hjb:j<b.length:=by omega
  have eo:DQ b (j:Int)=b[j]:=by unfold DQ;rw[vy (by omega)];simp[List.getD,hjb]
  have hown:=h.at_ hjb hj;refine G6 ?_;unfold F3 at hk;rw[eo]at hk;by_cases z1:Cq a<0
  ·simp only[zv,z1];rw[vx (by omega)]at hk;exact hk wl vs w (G1.refl _ _ _) h
  simp only[zv,z1];refine II hown.rd ?_;by_cases z2:a∈b[j]
  ·simp only[zv,z2];rw[vx (λc=>c.2.2.2 z2)]at hk;exact hk wl vs w (G1.refl _ _ _) h
  simp only[zv,z2];rw[vy ⟨by omega,by omega,by omega,z2⟩]at hk;simp only[zK]at hk;have hfew:=h.few (d7 hjb);have ha:=Ug.1 (show 0<=Cq a by omega);refine F232.k4.to (A9 (λw'=>w'.heap[bu]?=wh (wt #[wd wk,bv] 186 (0,0))) λw1 hf1 _=>⟨hf1.at_ h.blk (by simp),?_⟩);have h1:=h.keep0 hf1;have own1:=hown.keep hf1 (by simp)
  try simp only[zv]
  refine Au (v:=bv) (λw' hw=>⟨_,_,_,hw,rfl⟩) ⟨A4 (X6 a) ?_,trivial⟩;have hw:=DE.mk' w1 (wt #[v6 wg a] 3);have h2:=h1.keep0 hw.fr
  refine⟨h2.blk,Bg (W0:=IK _) (ys:=[[v6 wg a]]) (z:=v6 wg 0) (sz:=1) (bytes:=8) Tryz.underlying54 (by kernel_rfl) rfl (by decide) (I9 _) (HM _ _) (own1.keep hw.fr (by simp)) (Cp.of_block hw.at_ rfl (by simp) (by simp) (by simp) (by simp)) (Ot (l:=[a])) (by rw[Ca];simp;omega) (by rw[Ca];simp;omega) λv' w3 _ _ o3 f3 g3=>?_,trivial⟩;have f2:=hf1.trans hw.fr;have s2:=f2.size
  have nb:bu∉BN vs[j]:=hown.nb h.blk (by decide);refine⟨f3.at_ h2.blk nb,?_⟩;have b3:BQ w3 bv 54 1 (GI vs):=h2.own.keep' f3 λx hx=>h.own.ne hown (by decide) x hx;have hg3:∀y∈BN v',y∈BN vs[j]∨w.heap.size<=y:=λy hy=>by
   rcases g3 y hy with c|c
   ·exact wr c
   ·exact ws (by omega)
  refine b3.spot (by rw[HP];exact hj) λg o cs hg hb ho hc hs=>⟨AI hg o3.one.2 o3.one.1 (by omega) λw4 hu=>?_,trivial⟩;have own4:BQ w4 bv 54 1 (GI (vs.set j v')):=by rw[OM];exact hs [v'] w4 rfl (by simpa using o3.one.1) (by rw[KH ho];exact hu.at_)
  have f03:Fr (BN vs[j]) w w3:=f2.w.trans f3;have f4:Fr (BN bv) w3 w4:=hb ▸ hu.fr;have nd:(b[j]++[a]).Nodup/\∀x∈b[j]++[a],0<=x/\x<2048:=by
   have:=h.fit b[j] (d7 hjb);constructor
   ·rw[zQ];refine⟨this.1,by simp,λx hx y hy=>?_⟩;simp only[zF]at hy;subst hy;exact λe=>z2 (e ▸ hx)
   ·intro x hx;rw[n7,zF]at hx;rcases hx with c|c
    ·exact this.2 x c
    ·subst c;exact ha
  have h4:=h.set (S:=BN vs[j]) (v:=v') (l:=b[j]++[a]) hj f03 (λx hx=>wr hx) (by rw[KV];exact o3) hg3 f4 own4 nd;refine⟨h4.blk,hk wk _ w4 ⟨(f03.mono λx hx=>List.mem_append_right _ (DV hj hx)).trans (f4.mono λx hx=>List.mem_append_left _ hx),λx hx=>?_⟩ h4⟩;rcases EQ hx with c|c
  ·exact wr c
  ·rcases hg3 x c with d|d
   ·exact wr (DV hj d)
   ·exact ws d
 ·try simp only[zv]
  have et:F3 b t a=b:=by unfold F3;rw[vx (λc=>hn ⟨c.1,c.2.1⟩)]
  rw[et]at hk;exact hk wl vs w (G1.refl _ _ _) h
end
def Cz(l:List V2):List (List wm):=l.map λv=>[v6 wg v.1,v6 wg v.2]
def CE(l:List V2):(Cz l).length=l.length:=by simp[Cz]
def Qo(l k:List V2):Cz (l++k)=Cz l++Cz k:=by simp[Cz]
def Qp{l:List V2}:∀y∈Cz l,∀u∈y,u.oneCell'=wk:=by intro y hy u hu;simp only[Cz,u7]at hy;obtain⟨x,_,rfl⟩:=hy;simp only[ux,i9,vt]at hu;rcases hu with rfl|rfl<;>rfl
structure DU(w:wn)(b o:Nat)(T:TypeId)(cs:Array wm)(tv:wm)(l:List V2):Prop where
 blk:w.heap[b]?=wh (wt cs T (0,0))
 val:cs[o]?=wh tv
 own:BQ w tv 60 2 (Cz l)
 ne:T≠60
 le:l.length<=16
section
variable{K:VK}{w w':wn}{b o:Nat}{T:TypeId}{cs:Array wm}{tv:wm}{l:List V2}
def DU.keep{S:List Nat}(h:DU w b o T cs tv l)(hf:Fr S w w')(h1:b∉S)(h2:∀x∈BN tv,x∉S):DU w' b o T cs tv l:=⟨hf.at_ h.blk h1,h.val,h.own.keep' hf h2,h.ne,h.le⟩
def DU.keep0(h:DU w b o T cs tv l)(hf:Fr [] w w'):DU w' b o T cs tv l:=h.keep hf (by simp) (by simp)
def DU.lt(h:DU w b o T cs tv l):o<cs.size:=(xB.1 h.val).1
def YX:(Instr.buildSlice 56 0 #[]).run Z w=.ok (v8 (wh ⟨w.heap.size,0,wj⟩) 0 0) (w.alloc (wt #[] 60)):=by kernel_rfl
def TP(v:V2):(Instr.buildSlice 56 1 #[(0,.agg #[v6 wg v.1,v6 wg v.2])]).run Z w=.ok (v8 (wh ⟨w.heap.size,0,wj⟩) 1 1) (w.alloc (wt #[v6 wg v.1,v6 wg v.2] 60)):=by kernel_rfl
def NC{v:wm}{l:List V2}(hv:Cp w v 2 (Cz l))(hl:l.length*16<=140737488355328)(h:∀v' w',Fr [] w w'->BQ w' v' 60 2 (Cz l)->BY w v'->K v' w'):I Z 80 #[v] w K:=by
 have hv':=hv;obtain⟨A,c,rfl,h1,h2,h3⟩:=hv;refine F80.sh ⟨_,HC (e:=60) _ _ _ _ _ Tryz.underlying56,?_⟩;cases A with
 | none=>
  have:l=[]:=by
   cases l with
   | nil=>rfl
   | cons x l=>obtain⟨g,o,cs,e,fz,hA,_⟩:=h3 (by simp[Cz]);cases hA
  subst this;simp only[Option.isNone_none,Ah];exact h _ w (Fr.refl _ _) (BQ.nil w 60 2) (BY.nil w)
 | some a=>
  simp only[Option.isNone_some,Ag];refine F80.k3.to (A4 YX ?_);have hn:=DE.mk' w (wt #[] 60);refine Bm (xs:=[]) (e:=60) (sz:=2) (bytes:=16) (z := .agg #[v6 wg 0,v6 wg 0]) Tryz.underlying56 (by kernel_rfl) rfl (by decide) (BQ.of_block hn.at_ rfl (by simp) (by simp) rfl (by simp) (by simp)) (hv'.keep hn.fr) Qp (by rw[CE];simp;omega) (by rw[CE];simp;omega) λv' w' ho hf hb _=>?_
  refine h v' w' (hn.fr.then hf λx hx=>?_) (by simpa using ho) λg hg=>?_
  ·rw[Cb]at hx;simp only[wm.ownBlock,zS]at hx;exact ws (by omega)
  ·rcases hb with hb|⟨g',hb,hle⟩
   ·rw[hb]at hg;simp only[wm.ownBlock,zS]at hg;omega
   ·rw[hg]at hb;simp only[zS]at hb;have:=hn.fr.size;omega
def RK(h:DU w b o T cs tv l)(hk:K (v6 wg (l.length:Int)) w):I Z 229 #[v7 (wh ⟨b,o,wj⟩)] w K:=by
 refine F229.sh ⟨_,Ck _ _ _ Tryz.underlying194,?_⟩
 try simp only[Ag]
 refine F229.k3.to ?_
 try simp only[zv]
 refine Ad (v:=tv) h.blk (by simpa using h.val) (AH h.own.rd ?_);rw[CE];exact hk
def RG(h:DU w b o T cs tv l)(hk:∀v' w',Fr [] w w'->BQ w' v' 60 2 (Cz l)->BY w v'->K v' w'):I Z 82 #[v7 (wh ⟨b,o,wj⟩)] w K:=by
 have hle:=h.le;refine F82.sh ⟨_,Ck _ _ _ Tryz.underlying194,?_⟩
 try simp only[Ag]
 refine F82.k3.to ?_
 try simp only[zv]
 exact Ad (v:=tv) h.blk (by simpa using h.val) (NC h.own.rd (by omega) hk)
def Bp{k:IntKind}{i:Nat}{v:wm}(h:Cp w v 2 (Cz l))(hi:i<l.length)(hk:∀g o cs e fz,w.heap[g]?=wh (wt cs e fz)->(cs.toList.drop o).take 2=[v6 wg l[i].1,v6 wg l[i].2]->o+2<=cs.size->K (v7 (wh ⟨g,o,wj⟩)) w):
  AC 2 v (v6 k (i:Int)) w K:=by
 refine AU h (by omega) (x:=[v6 wg l[i].1,v6 wg l[i].2]) (by rw[zK];simp[Cz,hi]) λg o cs e fz hg _ hc=>?_;have c0:=hc 0 (by omega);have c1:=hc 1 (by omega);simp only[u9,xW,xV]at c0 c1;have hs:o+1<cs.size:=(xB.1 c1).1;refine hk g o cs e fz hg ?_ (by omega);apply zL;intro j;rw[zD,zC]
 match j with
 | 0=>simpa using c0
 | 1=>simpa using c1
 | j+2=>rw[vx (by omega)];rfl
def Xd{i:Int}(h:DU w b o T cs tv l)(h1:∀(j:Nat) (hj:j<l.length),i=(j:Int)->∀w',Fr [] w w'->K (wc #[V l[j].1 l[j].2,wd wk]) w')(h2:¬(0<=i/\i<l.length)->∀w',Fr [] w w'->K (wc #[V 0 0,wd wl]) w'):
  I Z 228 #[v7 (wh ⟨b,o,wj⟩),v6 wg i] w K:=by
 refine F228.sh (Ar λx w1 hn=>?_);have ln:=hn.is;have h':=h.keep0 hn.fr;have no:∀w',Fr [] w w'->Fr [] w w':=λ_ h=>h
 try simp only[Ap]
 have bad:¬(0<=i/\i<l.length)->Am Z (Instr.build 60 #[]) w1 λx14 w8=>Aj 2 (v7 (wh ⟨x,0,wj⟩)) x14 w8 λw9=>Ak 2 (v7 (wh ⟨x,0,wj⟩)) w9 λr10 _=>K (wc #[r10,wd wl]) w9:=λhn'=>A4 Fa (AA hn.at_ rfl Cc rfl λw3 hu=>A3 hu.at_ rfl (h2 hn' w3 (hn.fr.then hu.fr (by simp;omega))));by_cases z1:i<0
 ·simp only[zv,z1];exact bad (by omega)
 simp only[zv,z1];refine RK h' ?_;by_cases z2:i≥(l.length:Int)
 ·simp only[zv,z2];exact bad (by omega)
 simp only[zv,z2];obtain⟨j,rfl⟩:=xU (show 0<=i by omega);have hj:j<l.length:=by omega
 refine F228.k3.to ?_
 try simp only[zv]
 refine Ad (v:=tv) h'.blk (by simpa using h.val) (Bp h'.own.rd hj λg o' cs' e fz hg hcs ho=>AS hg (by omega) hcs ?_);exact AA (x:=V l[j].1 l[j].2) hn.at_ rfl Cc rfl λw3 hu=>A3 hu.at_ rfl (h1 j hj rfl w3 (hn.fr.then hu.fr (by simp;omega)))
def DU.store{w1:wn}{tv':wm}{l':List V2}{F:wn->Prop}(hb:w1.heap[b]?=wh (wt cs T (0,0)))(ho:o<cs.size)(hne:T≠60)(hown:BQ w1 tv' 60 2 (Cz l'))(hle:l'.length<=16)(hk:∀w',Fr [b] w1 w'->DU w' b o T (cs.setIfInBounds o tv') tv' l'->F w'):Aj 1 (v7 (wh ⟨b,o,wj⟩)) tv' w1 F:=
 AI hb hown.one.2 hown.one.1 ho λw' hu=>hk w' hu.fr ⟨hu.at_,by simp[ho],hown.keep' hu.fr (λg hg e=>by
  simp only[zF]at e;subst e;exact hown.nb hb (vv hne) hg),hne,hle⟩
def TB(h:DU w b o T cs tv l)(hk:∀w',Fr [b] w w'->DU w' b o T (cs.setIfInBounds o (v8 wj 0 0)) (v8 wj 0 0) []->K (wc #[]) w'):I Z 146 #[v7 (wh ⟨b,o,wj⟩)] w K:=by
 refine F146.sh ⟨_,CJ _ _ _ Tryz.underlying194,?_⟩
 try simp only[zv]
 exact DU.store h.blk h.lt h.ne (BQ.nil _ _ _) (by simp) hk
def VA{v:V2}(h:DU w b o T cs tv l)(h1:(Dp v=wk/\l.length<16)->∀tv' w',Fr (b::BN tv) w w'->DU w' b o T (cs.setIfInBounds o tv') tv' (l++[v])->(∀x∈BN tv',x∈BN tv∨w.heap.size<=x)->K (wd wk) w')(h2:¬(Dp v=wk/\l.length<16)->∀w',Fr [] w w'->K (wd wl) w'):
  I Z 226 #[v7 (wh ⟨b,o,wj⟩),V v.1 v.2] w K:=by
 have hv:Dp v=decide (DL v.1 v.2=0):=rfl;refine F226.sh (Ar λx w1 hn=>⟨_,Ck _ _ _ Tryz.underlying194,?_⟩);have ln:=hn.is
 try simp only[zv]
 refine A3 hn.at_ rfl (G5 v.1 v.2 λw2 hf2=>?_);have f2:=hn.fr.trans hf2;have h2':=h.keep0 f2;have x2:=hf2.at_ hn.at_ (by simp)
 try simp only[AG]
 by_cases z1:DL v.1 v.2=0
 ·simp only[zv,vw,z1,vz,zW];refine Ad (v:=tv) h2'.blk (by simpa using h.val) (AH h2'.own.rd ?_);rw[CE];by_cases z2:(l.length:Int)≥16
  ·simp only[zv,z2];exact h2 (λc=>by omega) w2 f2
  ·simp only[zv,z2];have hlt:l.length<16:=by omega
   have hok:Dp v=wk/\l.length<16:=⟨by simpa[hv] using z1,hlt⟩;have hb:=BP h.blk;have nx:x∉b::BN tv:=λe=>by
    simp only[ux]at e;rcases e with e|e
    ·omega
    ·have:=h.own.lt (Cb.1 e);omega
   have hxb:x≠b:=λe=>nx (by simp[e]);refine F226.k3.to (A9 (λw'=>w'.heap[x]?=wh (wt #[v6 wg v.1,v6 wg v.2] 60 (0,0))) λw3 hf3 _=>⟨hf3.at_ x2 (by simp),?_⟩);have f3:=f2.trans hf3;have h3:=h.keep0 f3;have x3:=hf3.at_ x2 (by simp)
   try simp only[zv]
   refine AO (vs:=[v6 wg v.1,v6 wg v.2]) (λw' hw=>⟨_,_,_,hw,by simp,rfl⟩) ?_;have nb:=h.own.nb h.blk (vv h.ne);have fin:∀w4 tv' w5,Fr [] w w4->BQ w5 tv' 60 2 (Cz l++[[v6 wg v.1,v6 wg v.2]])->Fr (BN tv) w4 w5->(∀g∈BN tv',g∈BN tv∨w4.heap.size<=g)->w4.heap[b]?=wh (wt cs T (0,0))->w4.heap[x]?=wh (wt #[v6 wg v.1,v6 wg v.2] 60 (0,0))->
     w5.heap[x]?=wh (wt #[v6 wg v.1,v6 wg v.2] 60 (0,0))/\Aj 1 (v7 (wh ⟨b,o,wj⟩)) tv' w5 λw6=>(w6.heap[x]?=wh (wt #[v6 wg v.1,v6 wg v.2] 60 (0,0))/\F226.k4 K w6):=by
    intro w4 tv' w5 f4 o5 f5 g5 b4 x4;have x5:=f5.at_ x4 (λe=>nx (by simp[e]));refine⟨x5,DU.store (l':=l++[v]) (f5.at_ b4 nb) h.lt h.ne (by rw[Qo];exact o5) (by simp;omega) λw6 f6 h6=>⟨f6.at_ x5 (by simpa using hxb),F226.k4.to (h1 hok tv' w6 ?_ h6 λg hg=>?_)⟩⟩
    ·exact (f4.w.trans (f5.mono λz hz=>by simp[hz])).trans (f6.mono λz hz=>by simp only[zF]at hz;simp[hz])
    ·rcases g5 g hg with c|c
     ·exact wr c
     ·have:=f4.size;exact ws (by omega)
   have bld:∀w4,Fr [] w w4->w4.heap[x]?=wh (wt #[v6 wg v.1,v6 wg v.2] 60 (0,0))->∀(F:VK),(∀tv' w5,BQ w5 tv' 60 2 (Cz l++[[v6 wg v.1,v6 wg v.2]])->Fr (BN tv) (w4.alloc (wt #[v6 wg v.1,v6 wg v.2] 60)) w5->(∀g∈BN tv',g∈BN tv∨(w4.alloc (wt #[v6 wg v.1,v6 wg v.2] 60)).heap.size<=g)->F tv' w5)->
     Am Z (Builtin.append_ #[56,56] 56 #[tv,v8 (wh ⟨w4.heap.size,0,wj⟩) 1 1]) (w4.alloc (wt #[v6 wg v.1,v6 wg v.2] 60)) F:=by
    intro w4 f4 x4 F hF;have hw:=DE.mk' w4 (wt #[v6 wg v.1,v6 wg v.2] 60)
    refine Bg (W0:=IK _) (ys:=[[v6 wg v.1,v6 wg v.2]]) (z:=V 0 0) (sz:=2) (bytes:=16) Tryz.underlying56 (by kernel_rfl) rfl (by decide) (I9 _) (HM _ _) (h.own.keep (f4.trans hw.fr) (by simp)) (Cp.of_block hw.at_ rfl (by simp) (by simp) (by simp) (by simp)) (Qp (l:=[v])) (by rw[CE];simp;omega) (by rw[CE];simp;omega) λv' w' _ _ c d e'=>hF v' w' c d e'
   refine⟨Ad h3.blk (by simpa using h.val) ⟨x3,A4 (TP v) ?_,trivial⟩,A4 (TP v) ?_,trivial⟩
   ·have hw:=DE.mk' w3 (wt #[v6 wg v.1,v6 wg v.2] 60);refine⟨hw.fr.at_ x3 (by simp),bld w3 f3 x3 _ λtv' w5 o5 f5 g5=>?_,trivial⟩;have:=fin _ tv' w5 (f3.trans hw.fr) o5 f5 g5 (hw.fr.at_ h3.blk (by simp)) (hw.fr.at_ x3 (by simp));exact⟨this.1,this.2,trivial⟩
   ·have hw:=DE.mk' w3 (wt #[v6 wg v.1,v6 wg v.2] 60);refine⟨hw.fr.at_ x3 (by simp),Ad (hw.fr.at_ h3.blk (by simp)) (by simpa using h.val) ⟨hw.fr.at_ x3 (by simp),bld w3 f3 x3 _ λtv' w5 o5 f5 g5=>?_,trivial⟩,trivial⟩;have:=fin _ tv' w5 (f3.trans hw.fr) o5 f5 g5 (hw.fr.at_ h3.blk (by simp)) (hw.fr.at_ x3 (by simp));exact⟨this.1,this.2,trivial⟩
 ·simp only[zv,z1,vz,zX];exact h2 (λc=>z1 (by simpa[hv] using c.1)) w2 f2
end
section
variable{K:VK}{w w':wn}{b o:Nat}{T:TypeId}{cs:Array wm}{tv:wm}{l:List V2}
def Xe(h:DU w b o T cs tv l)(h1:∀v,l.getLast?=wh v->∀tv' w',Fr [b] w w'->DU w' b o T (cs.setIfInBounds o tv') tv' l.dropLast->BN tv'=BN tv->K (wc #[V v.1 v.2,wd wk]) w')(h2:l=[]->∀w',Fr [] w w'->K (wc #[V 0 0,wd wl]) w'):
  I Z 156 #[v7 (wh ⟨b,o,wj⟩)] w K:=by
 have hle:=h.le;have hb:=BP h.blk;refine F156.sh (Ar λx w1 hn=>?_);have l1:=hn.is;have h':=h.keep0 hn.fr;refine RK h' ?_
 try simp only[zv]
 rw[BO (n:=(l.length:Int)-1) (by omega)];have x1:=hn.at_;have tail:∀(v:V2) (c:Bool) y w2,y≠x->w2.heap[x]?=wh (wt #[v6 wg 0,v6 wg 0] 60 (0,0))->w2.heap[y]?=wh (wt (V v.1 v.2).cells 60 (0,0))->(∀w',Fr [x] w2 w'->K (wc #[V v.1 v.2,wd c]) w')->
   F156.k4 K (v7 (wh ⟨x,0,wj⟩)) (v7 (wh ⟨y,0,wj⟩)) (wd c) w2:=λv c y w2 hne hx hy hk=>F156.k4.to (A3 hy rfl (AA (x:=V v.1 v.2) hx rfl Cc rfl λw3 hu=>A3 hu.at_ rfl (hk w3 hu.fr)))
 refine Xd h' (λj hj e w2 hf2=>?_) (λhno w2 hf2=>?_)
 ·have hne:l≠[]:=by intro c;subst c;simp at hj
  have hlast:l.getLast?=wh l[j]:=by
   have:j=l.length-1:=by omega
   subst this;rw[List.getLast?_eq_getElem?,xS (by omega)]
  try simp only[zv]
  refine Ar λy w3 hn3=>AA (x:=V l[j].1 l[j].2) hn3.at_ rfl Cc rfl λw4 hu4=>?_;have l3:=hn3.is;have s2:=hf2.size;have sx:=BP hn.at_;have hyx:y≠x:=by omega
  have f3:=(hn.fr.trans hf2).trans hn3.fr;have f4:Fr [] w w4:=f3.then hu4.fr (by simp;omega);have h4:=h.keep0 f4;have x4:=hu4.fr.at_ ((hf2.trans hn3.fr).at_ x1 (by simp)) (by simp;omega);have y4:=hu4.at_;refine A9 (λ_=>True) λw5 hf5 _=>⟨trivial,?_⟩;have h5:=h4.keep0 hf5;have x5:=hf5.at_ x4 (by simp);have y5:=hf5.at_ y4 (by simp);obtain⟨A,cp,hA0,hcp,hA⟩:=h5.own.cap
  have hnn:A≠wj:=λe=>by have:=hA e;simp[Cz,hne]at this
  have hsl:∀w',(Instr.sliceAt 56 tv wj (wh (v6 wg ((l.length:Int)-1))) wj).run Z w'=.ok (v8 A (l.length-1) cp) w':=λw'=>by
   rw[hA0];have:=GT (P:=Z) (w:=w') (t:=56) (e:=60) (sz:=2) A (Cz l).length cp wg ((l.length:Int)-1) Tryz.underlying56 (by kernel_rfl) (by omega) (by rw[CE]at hcp;omega);rw[this];congr 2;omega
  have o5:=h5.own;rw[hA0]at o5;have ot:=o5.take (l.length-1) (by rw[CE];omega) (λe=>absurd e hnn);have ed:Cz l.dropLast=(Cz l).take (l.length-1):=by simp[Cz,List.dropLast_eq_take]
  rw[<-ed]at ot;have fin:Aj 1 (v7 (wh ⟨b,o,wj⟩)) (v8 A (l.length-1) cp) w5 λw6=>(True/\F156.k4 K (v7 (wh ⟨x,0,wj⟩)) (v7 (wh ⟨y,0,wj⟩)) (wd wk) w6):=by
   refine DU.store (l':=l.dropLast) h5.blk h.lt h.ne ot (by simp;omega) λw6 f6 h6=>⟨trivial,tail l[j] wk y w6 hyx (f6.at_ x5 (by simp;omega)) (f6.at_ y5 (by simp;omega)) λw7 f7=>?_⟩;have fb:=J2 A (l.length-1) (Cz l).length cp cp;refine h1 l[j] hlast (v8 A (l.length-1) cp) w7 (((f4.trans hf5).w.trans f6).then f7 (by simp;omega)) (h6.keep f7 (by simp;omega) (λz hz=>?_)) ?_
   ·rw[fb, <-hA0]at hz;have:=h.own.lt (Cb.1 hz);simp;omega
   ·rw[fb, <-hA0]
  have e1:IntKind.i64.wrap ((l.length:Int)-1)=(l.length:Int)-1:=BO (by omega);refine⟨Ad (v:=tv) h5.blk (by simpa using h.val) ⟨trivial,Ad (v:=tv) h5.blk (by simpa using h.val) ⟨trivial,AH h5.own.rd ?_⟩,trivial⟩,Ad (v:=tv) h5.blk (by simpa using h.val) ⟨trivial,AH h5.own.rd ?_⟩,trivial⟩
  ·rw[CE]
   try simp only[AN]
   rw[e1];exact⟨_,λw' _=>hsl w',fin,trivial⟩
  ·rw[CE]
   try simp only[AN]
   rw[e1];exact⟨Ad (v:=tv) h5.blk (by simpa using h.val) ⟨trivial,⟨_,λw' _=>hsl w',fin,trivial⟩⟩,trivial⟩
 ·have he:l=[]:=wW (by omega)
  try simp only[zv]
  refine Ar λy w3 hn3=>AA (x:=V 0 0) hn3.at_ rfl Cc rfl λw4 hu4=>?_;have l3:=hn3.is;have s2:=hf2.size;have sx:=BP hn.at_;have f4:Fr [] w w4:=((hn.fr.trans hf2).trans hn3.fr).then hu4.fr (by simp;omega);have x4:=hu4.fr.at_ ((hf2.trans hn3.fr).at_ x1 (by simp)) (by simp;omega);exact tail (0,0) wl y w4 (by omega) x4 hu4.at_ λw5 hf5=>h2 he w5 (f4.then hf5 (by simp;omega))
def KF(l:List V2)(v:V2):D8 (l++[v])=if v.1=2/\v.2∉D8 l then D8 l++[v.2] else D8 l:=by unfold D8;rw[List.foldl_append];rfl
def LW:∀(n:Nat) (l:List V2),l.length=n->(D8 l).length<=n:=by
 intro n;induction n with
 | zero=>intro l hl;rw[wW hl];simp[D8]
 | succ n ih=>
  intro l hl;have hne:l≠[]:=by intro c;subst c;simp at hl
  rw[<-wZ hne,KF];have:=ih l.dropLast (by simp;omega);split
  ·rw[zE];simp;omega
  ·omega
def RM{W:wn}{u:wm}(hl:l.length<=16)(hk:∀v w',Fr [] W w'->BY W v->BQ w' v 3 1 (BX (D8 l))->K v w'):
  ∀(d i:Nat) (w:wn) (v:wm),i+d=l.length->Fr [] W w->BQ w u 60 2 (Cz l)->BY W v->BQ w v 3 1 (BX (D8 (l.take i)))->
   F161.l3 K v u (v6 wg (l.length:Int)) (v6 wg (i:Int)) w:=by
 intro d;induction d with
 | zero=>
  intro i w v hi hf hu hn hv;have e:i=l.length:=by omega
  subst e;refine F161.l3.to ?_;simp only[zv,show ¬((l.length:Int)<(l.length:Int)) by omega];rw[j4]at hv;exact F161.k9.to (hk v w hf hn hv)
 | succ d ih=>
  intro i w v hi hf hu hn hv;have hlt:i<l.length:=by omega
  refine F161.l3.to ?_;simp only[zv,show (i:Int)<(l.length:Int) by omega];refine F161.k4.to (Bp hu.rd hlt λg o' cs' e fz hg hcs ho=>AS hg (by omega) hcs ?_);refine Ar λy w1 hn1=>AA (x:=V l[i].1 l[i].2) hn1.at_ rfl Cc rfl λw2 hu2=>?_;have l1:=hn1.is;have f2:Fr [] w w2:=hn1.fr.then hu2.fr (by simp;omega);have y2:=hu2.at_;have hv2:=hv.keep f2 (by simp);have hu2':=hu.keep f2 (by simp)
  have e1:l.take (i+1)=l.take i++[l[i]]:=by rw[zR,xS hlt];rfl
  have hlen:=LW i (l.take i) (by rw[i8];omega);have step:∀w' v',Fr [] W w'->BQ w' u 60 2 (Cz l)->BY W v'->BQ w' v' 3 1 (BX (D8 (l.take (i+1))))->F161.k8 K v' u (v6 wg (l.length:Int)) (v6 wg (i:Int)) w':=λw' v' hf' hu' hn' hv'=>by
   refine F161.k8.to ?_
   try simp only[A7]
   rw[BO (n:=(i:Int)+1) (by omega)];exact ih (i+1) w' v' (by omega) hf' hu' hn' hv'
  rw[e1,KF]at step
  try simp only[zv]
  refine Ad (v:=v6 wg l[i].2) y2 rfl ?_;refine Ad (v:=v6 wg l[i].1) y2 rfl ?_;by_cases z1:l[i].1=2
  ·simp only[zv,vw,z1];refine II hv2.rd ?_;by_cases z2:l[i].2∈D8 (l.take i)
   ·simp only[zv,z2];rw[vx (λc=>c.2 z2)]at step;exact step w2 v (hf.trans f2) hu2' hn hv2
   ·simp only[zv,z2];rw[vy ⟨z1,z2⟩]at step;refine Bn (hf.trans f2) hn hv2 (by omega) λv' w3 hf3 hn3 ho3 fr3 _=>step w3 v' hf3 (hu2'.keep' fr3 (λx hx=>hu2'.ne hv2 (by decide) x hx)) hn3 ho3
  ·simp only[zv,z1];rw[vx (λc=>z1 c.1)]at step;exact step w2 v (hf.trans f2) hu2' hn hv2
def Xh(h:DU w b o T cs tv l)(hk:∀v w',Fr [] w w'->BY w v->BQ w' v 3 1 (BX (D8 l))->K v w'):I Z 161 #[v7 (wh ⟨b,o,wj⟩)] w K:=by refine F161.sh (RG h λu w1 hf1 hu1 hn1=>AH hu1.rd ?_);rw[CE];exact RM (W:=w) h.le hk l.length 0 w1 _ (by omega) hf1 hu1 (BY.nil _) (BQ.nil _ _ _)
end
structure C4 where
 H:Cm
 co:Nat
 re:Nat
 bu:Nat
 rv:wm
 bv:wm
structure Mv where
 lv:wm
 vs:List wm
 ts:List wm
def Mv.all(m:Mv):List Nat:=BN m.lv++(Dv m.vs++Dv m.ts)
def C4.fix(C:C4):List Nat:=C.co::C.re::C.bu::(BN C.rv++BN C.bv)
structure C4.Ok(C:C4):Prop where
 dj:∀x∈C.fix,x∉C.H.fix++C.H.D.all
 lo:∀x∈C.fix,x<C.H.N
def C4.S(C:C4)(m:Mv):List Nat:=C.fix++(C.H.fix++(C.H.D.all.tail++m.all))
def C4.all(C:C4)(m:Mv):List Nat:=C.fix++(C.H.fix++(C.H.D.all++m.all))
structure Cj(C:C4)(m:Mv)(w:wn)(m':Mv)(w':wn):Prop where
 fr:Fr (C.S m) w w'
 gr:∀x∈m'.all,x∈m.all∨w.heap.size<=x
def Cj.refl(C:C4)(m:Mv)(w:wn):Cj C m w m w:=⟨Fr.refl _ _,λx hx=>wr hx⟩
def Cj.w{C:C4}{m:Mv}{a b:wn}(h:Fr [] a b):Cj C m a m b:=⟨h.w,λx hx=>wr hx⟩
def Cj.trans{C:C4}{m m' m'':Mv}{w w' w'':wn}(h:Cj C m w m' w')(k:Cj C m' w' m'' w''):Cj C m w m'' w'':=
 ⟨h.fr.then k.fr λx hx=>by
  simp only[C4.S,n7]at hx ⊢;rcases hx with c|c|c|c
  ·exact wr (wr c)
  ·exact wr (ws (wr c))
  ·exact wr (ws (ws (wr c)))
  ·rcases h.gr x c with d|d
   ·exact wr (ws (ws (ws d)))
   ·exact ws d,λx hx=>by
  rcases k.gr x hx with c|c
  ·exact h.gr x c
  ·have:=h.fr.size;exact ws (by omega)⟩
def DG.subT(D:DG):∀x∈D.S,x∈D.all.tail:=λx hx=>by
 simp only[DG.S,DG.all,List.tail_cons,ux]at hx ⊢;rcases hx with h|h|h
 ·simp[h]
 ·simp[h]
 ·exact ws (ws (ws (D.A.sub x h)))
def Cj.h{C:C4}{m:Mv}{lv':wm}{w w':wn}(h:C2 C.H m.lv w lv' w'):Cj C m w { m with lv:=lv' } w':=
 ⟨h.fr.mono λx hx=>by
  simp only[Cm.S,CR.S,ux,n7]at hx;simp only[C4.S,Mv.all,n7];rcases hx with d|d|(d|d|d)|d
  ·exact ws (wr (by simp[Cm.fix,d]))
  ·exact ws (wr (by simp[Cm.fix,d]))
  ·exact ws (wr (by simp[Cm.fix,d]))
  ·exact ws (wr (by simp[Cm.fix,d]))
  ·exact ws (ws (ws (wr d)))
  ·exact ws (ws (wr (C.H.D.subT x d))),λx hx=>by
  simp only[Mv.all,n7]at hx ⊢;rcases hx with c|c
  ·rcases h.gr x c with d|d
   ·exact wr (wr d)
   ·exact ws d
  ·exact wr (ws c)⟩
def Cj.f{C:C4}{m:Mv}{vs':List wm}{w w':wn}(h:G1 C.bv m.vs w vs' w'):Cj C m w { m with vs:=vs' } w':=
 ⟨h.fr.mono λx hx=>by
  rw[n7]at hx;simp only[C4.S,C4.fix,Mv.all,n7,ux];rcases hx with d|d
  ·exact wr (ws (ws (ws (ws d))))
  ·exact ws (ws (ws (ws (wr d)))),λx hx=>by
  simp only[Mv.all,n7]at hx ⊢;rcases hx with c|c|c
  ·exact wr (wr c)
  ·rcases h.gr x c with d|d
   ·exact wr (ws (wr d))
   ·exact ws d
  ·exact wr (ws (ws c))⟩
def Cj.r{C:C4}{m:Mv}{w w':wn}(h:Fr (C.re::BN C.rv) w w'):Cj C m w m w':=
 ⟨h.mono λx hx=>by
  simp only[ux]at hx;simp only[C4.S,C4.fix,n7,ux];rcases hx with d|d
  ·exact wr (ws (wr d))
  ·exact wr (ws (ws (ws (wr d)))),λx hx=>wr hx⟩
def Cj.c{C:C4}{m:Mv}{w w':wn}(h:Fr [C.co] w w'):Cj C m w m w':=
 ⟨h.mono λx hx=>by simp only[zF]at hx;simp[C4.S,C4.fix,hx],λx hx=>wr hx⟩
def Cj.t{C:C4}{m:Mv}{j:Nat}{tv':wm}{w w':wn}(hj:j<m.ts.length)(h:Fr (C.co::BN m.ts[j]) w w')(hg:∀x∈BN tv',x∈BN m.ts[j]∨w.heap.size<=x):Cj C m w { m with ts:=m.ts.set j tv' } w':=
 ⟨h.mono λx hx=>by
  simp only[ux]at hx;simp only[C4.S,C4.fix,Mv.all,n7,ux];rcases hx with d|d
  ·exact wr (wr d)
  ·exact ws (ws (ws (ws (ws (DV hj d))))),λx hx=>by
  simp only[Mv.all,n7]at hx ⊢;rcases hx with c|c|c
  ·exact wr (wr c)
  ·exact wr (ws (wr c))
  ·rcases EQ c with d|d
   ·exact wr (ws (ws d))
   ·rcases hg x d with e|e
    ·exact wr (ws (ws (DV hj e)))
    ·exact ws e⟩
structure Rr(C:C4)(m:Mv)(c:Co)(cs:Array wm):Prop where
 sz:cs.size=28
 s0:cs[0]?=wh (v7 (wh ⟨C.H.D.st,0,wj⟩))
 s1:cs[1]?=wh (v7 (wh ⟨C.H.G.gr,0,wj⟩))
 s12:cs[12]?=wh (v7 (wh ⟨C.re,0,wj⟩))
 s13:cs[13]?=wh (v7 (wh ⟨C.bu,0,wj⟩))
 s14:cs[14]?=wh (v7 (wh ⟨C.H.tr,0,wj⟩))
 s15:cs[15]?=wh (v7 (wh ⟨C.H.sw,0,wj⟩))
 ts:∀j,j<8->cs[16+j]?=m.ts[j]?
 s24:cs[24]?=wh (v6 wg c.global)
 s25:cs[25]?=wh (v6 wg c.phase)
 s26:cs[26]?=wh (v6 wg c.cycles)
 s27:cs[27]?=wh (v6 wg c.units)
structure BZ(C:C4)(m:Mv)(cf:Cf)(w:wn)(c:Co):Prop where
 ok:C.Ok
 hp:Cv C.H m.lv cf w c
 blk:∃cs:Array wm,w.heap[C.co]?=wh (wt cs 132 (0,0))/\Rr C m c cs
 rg:D5 C.re C.rv w c.r
 fb:D1 C.bu C.bv m.vs w c.b
 th:G2 w 60 2 m.ts (c.th.map Cz)
 tl:c.th.length=8
 t16:∀l∈c.th,l.length<=16
 hv:∀x∈Dv m.vs,C.H.N<=x
 ht:∀x∈Dv m.ts,C.H.N<=x
section
variable{w w':wn}{C:C4}{m:Mv}{cf:Cf}{c:Co}
def G2.nb{e:TypeId}{sz:Nat}{vs:List wm}{xs:List (List (List wm))}{g:Nat}{cs:Array wm}{e':TypeId}{fz:Nat × Nat}(h:G2 w e sz vs xs)(hg:w.heap[g]?=wh (wt cs e' fz))(he:e≠e'):g∉Dv vs:=λhx=>by
 obtain⟨v,hv,hx⟩:=FC.1 hx;obtain⟨i,hi,rfl⟩:=yW hv;exact (h.row i hi (by have:=h.len;omega)).nb hg he hx
def G2.ne{e e':TypeId}{sz sz':Nat}{vs:List wm}{xs:List (List (List wm))}{v:wm}{ys:List (List wm)}(h:G2 w e sz vs xs)(ho:BQ w v e' sz' ys)(he:e≠e'):∀x∈Dv vs,x∉BN v:=λx hx hv'=>by
 obtain⟨v,hv,hx⟩:=FC.1 hx;obtain⟨i,hi,rfl⟩:=yW hv;exact (h.row i hi (by have:=h.len;omega)).ne ho he x hx hv'
def G2.nf{e e':TypeId}{sz sz':Nat}{vs us:List wm}{xs ys:List (List (List wm))}(h:G2 w e sz vs xs)(h':G2 w e' sz' us ys)(he:e≠e'):∀x∈Dv vs,x∉Dv us:=λx hx hu=>by
 obtain⟨v,hv,hu⟩:=FC.1 hu;obtain⟨i,hi,rfl⟩:=yW hv;exact h.ne (h'.row i hi (by have:=h'.len;omega)) he x hx hu
def BZ.low(h:BZ C m cf w c){x:Nat}(hx:x∈C.fix++(C.H.fix++C.H.D.all)):x<C.H.N:=by
 rw[n7]at hx;rcases hx with d|d
 ·exact h.ok.lo x d
 ·exact h.hp.ok.lo x d
def BZ.farH(h:BZ C m cf w c){x:Nat}(hx:x∈C.fix∨x∈Dv m.vs∨x∈Dv m.ts):x∉C.H.S m.lv:=λe=>by
 have e':=C.H.subS m.lv x e;simp only[Cm.all,n7]at e';rcases hx with d|d|d
 ·have hlo:=h.ok.lo x d;rcases e' with f|f|f
  ·exact h.ok.dj x d (by simp[f])
  ·exact h.ok.dj x d (by simp[f])
  ·have:=h.hp.hi x f;omega
 ·have hhi:=h.hv x d;rcases e' with f|f|f
  ·have:=h.low (x:=x) (by simp[f]);omega
  ·have:=h.low (x:=x) (by simp[f]);omega
  ·exact h.fb.fam.ne h.hp.gy.stk.own (by decide) x d f
 ·have hhi:=h.ht x d;rcases e' with f|f|f
  ·have:=h.low (x:=x) (by simp[f]);omega
  ·have:=h.low (x:=x) (by simp[f]);omega
  ·exact h.th.ne h.hp.gy.stk.own (by decide) x d f
def BZ.keep{S:List Nat}(h:BZ C m cf w c)(hf:Fr S w w')(ha:∀x∈C.all m,x∉S):BZ C m cf w' c:=by
 obtain⟨cs,b1,b2⟩:=h.blk
 refine⟨h.ok,h.hp.keep hf (λx hx=>ha x ?_),⟨cs,hf.at_ b1 (ha _ (by simp[C4.all,C4.fix])),b2⟩,h.rg.keep hf (ha _ (by simp[C4.all,C4.fix])) (λx hx=>ha x (by simp[C4.all,C4.fix,hx])),h.fb.keep hf (ha _ (by simp[C4.all,C4.fix])) (λx hx=>ha x (by simp[C4.all,C4.fix,hx])) (λx hx=>ha x (by simp[C4.all,Mv.all,hx])),h.th.keep hf (λx hx=>ha x (by simp[C4.all,Mv.all,hx])),h.tl,h.t16,h.hv,h.ht⟩
 simp only[Cm.all,n7]at hx;rcases hx with d|d|d<;>simp[C4.all,Mv.all,d]
def BZ.keep0(h:BZ C m cf w c)(hf:Fr [] w w'):BZ C m cf w' c:=h.keep hf (by simp)
def BZ.setH{lv':wm}{c':Co}(h:BZ C m cf w c)(hf:C2 C.H m.lv w lv' w')(hh:Cv C.H lv' cf w' c')(er:c'.r=c.r)(eb:c'.b=c.b)(et:c'.th=c.th)(eg:c'.global=c.global)(ep:c'.phase=c.phase)(ey:c'.cycles=c.cycles)(eu:c'.units=c.units):
  BZ C { m with lv:=lv' } cf w' c':=by
 obtain⟨cs,b1,b2⟩:=h.blk;have fx:∀x∈C.fix,x∉C.H.S m.lv:=λx hx=>h.farH (wr hx);refine⟨h.ok,hh,⟨cs,hf.fr.at_ b1 (fx _ (by simp[C4.fix])),b2.sz,b2.s0,b2.s1,b2.s12,b2.s13,b2.s14,b2.s15,b2.ts,by rw[eg];exact b2.s24,by rw[ep];exact b2.s25,by rw[ey];exact b2.s26,by rw[eu];exact b2.s27⟩,?_,?_,?_,by rw[et];exact h.tl,by rw[et];exact h.t16,h.hv,h.ht⟩
 ·rw[er];exact h.rg.keep hf.fr (fx _ (by simp[C4.fix])) (λx hx=>fx x (by simp[C4.fix,hx]))
 ·rw[eb];exact h.fb.keep hf.fr (fx _ (by simp[C4.fix])) (λx hx=>fx x (by simp[C4.fix,hx])) (λx hx=>h.farH (ws (wr hx)))
 ·rw[et];exact h.th.keep hf.fr (λx hx=>h.farH (ws (ws hx)))
def BZ.len(h:BZ C m cf w c):m.ts.length=8:=by have:=h.th.len;rw[j9,h.tl]at this;exact this
def BZ.ro(h:BZ C m cf w c){j:Nat}(hj:j<8):∃cs:Array wm,Rr C m c cs/\DU w C.co (16+j) 132 cs (m.ts[j]'(by rw[h.len];exact hj)) (c.th[j]'(by rw[h.tl];exact hj)):=by
 obtain⟨cs,b1,b2⟩:=h.blk;have hl:=h.len;refine⟨cs,b2,b1,?_,?_,by decide,h.t16 _ (d7 _)⟩
 ·rw[b2.ts j hj,xS (by omega)]
 ·have:=h.th.row j (by omega) (by rw[j9,h.tl];exact hj);simpa using this
def Cv.other{lv:wm}{H:Cm}{c':Co}(h:Cv H lv cf w c)(es:c'.s=c.s)(eg:c'.g=c.g)(et:c'.tp=c.tp)(ea:c'.at_=c.at_)(ef:c'.freed=c.freed):Cv H lv cf w c':=
 ⟨h.ok,by rw[es];exact h.st,by rw[eg];exact h.gy,by rw[et];exact h.tb,by rw[ea,ef];exact h.sb,h.hi,h.le,h.pg,h.ck⟩
def BZ.farA(h:BZ C m cf w c){x:Nat}(hx:x∈C.fix∨x∈Dv m.vs∨x∈Dv m.ts):∀y∈C.H.all m.lv,y≠x:=λy hy e=>by
 subst e;simp only[Cm.all,n7]at hy;rcases hx with d|d|d
 ·have hlo:=h.ok.lo y d;rcases hy with f|f|f
  ·exact h.ok.dj y d (by simp[f])
  ·exact h.ok.dj y d (by simp[f])
  ·have:=h.hp.hi y f;omega
 ·have hhi:=h.hv y d;rcases hy with f|f|f
  ·have:=h.low (x:=y) (by simp[f]);omega
  ·have:=h.low (x:=y) (by simp[f]);omega
  ·exact h.fb.fam.ne h.hp.gy.stk.own (by decide) y d f
 ·have hhi:=h.ht y d;rcases hy with f|f|f
  ·have:=h.low (x:=y) (by simp[f]);omega
  ·have:=h.low (x:=y) (by simp[f]);omega
  ·exact h.th.ne h.hp.gy.stk.own (by decide) y d f
def BZ.setC{cs:Array wm}{c':Co}(h:BZ C m cf w c)(hf:Fr [C.co] w w')(hb:w'.heap[C.co]?=wh (wt cs 132 (0,0)))(hc:Rr C m c' cs)(es:c'.s=c.s)(eg:c'.g=c.g)(etp:c'.tp=c.tp)(ea:c'.at_=c.at_)(ef:c'.freed=c.freed)(er:c'.r=c.r)(eb:c'.b=c.b)(et:c'.th=c.th):
  BZ C m cf w' c':=by
 obtain⟨cs0,b1,b2⟩:=h.blk;have n1:∀y∈C.H.all m.lv,y∉[C.co]:=λy hy e=>h.farA (x:=C.co) (wr (by simp[C4.fix])) y hy (by simpa using e);refine⟨h.ok,(h.hp.keep hf n1).other es eg etp ea ef,⟨cs,hb,hc⟩,?_,?_,?_,by rw[et];exact h.tl,by rw[et];exact h.t16,h.hv,h.ht⟩
 ·rw[er];exact h.rg.keep hf (by simp only[zF];exact CZ h.rg.blk b1 (by simp)) (λx hx e=>by simp only[zF]at e;subst e;exact h.rg.own.nb b1 (by decide) hx)
 ·rw[eb];exact h.fb.keep hf (by simp only[zF];exact CZ h.fb.blk b1 (by simp)) (λx hx e=>by simp only[zF]at e;subst e;exact h.fb.own.nb b1 (by decide) hx) (λx hx e=>by simp only[zF]at e;subst e;exact h.fb.fam.nb b1 (by decide) hx)
 ·rw[et];exact h.th.keep hf (λx hx e=>by simp only[zF]at e;subst e;exact h.th.nb b1 (by decide) hx)
def BZ.setR{r:Rg}(h:BZ C m cf w c)(hf:Fr (C.re::BN C.rv) w w')(hr:D5 C.re C.rv w' r):BZ C m cf w' { c with r:=r }:=by
 obtain⟨cs,b1,b2⟩:=h.blk;have no:∀ {b:Nat} {cs:Array wm} {e:TypeId},w.heap[b]?=wh (wt cs e (0,0))->e≠183->e≠212->b∉C.re::BN C.rv:=λhb h1 h2 hx=>by
  simp only[ux]at hx;rcases hx with c|c
  ·exact CZ hb h.rg.blk (by simp[h1]) c
  ·exact h.rg.own.nb hb (vv h2) c
 have n1:∀y∈C.H.all m.lv,y∉C.re::BN C.rv:=λy hy e=>by
  refine h.farA (x:=y) (wr ?_) y hy rfl;simp only[ux]at e;rcases e with e|e<;>simp[C4.fix,e]
 have n2:∀ {v:wm} {e:TypeId} {sz:Nat} {xs:List (List wm)},BQ w v e sz xs->e≠183->e≠212->∀x∈BN v,x∉C.re::BN C.rv:=λho h1 h2 x hx e=>by
  simp only[ux]at e;rcases e with e|e
  ·subst e;exact ho.nb h.rg.blk h1 hx
  ·exact ho.ne h.rg.own h2 x hx e
 refine⟨h.ok,(h.hp.keep hf n1).other rfl rfl rfl rfl rfl,⟨cs,hf.at_ b1 (no b1 (by decide) (by decide)),b2.sz,b2.s0,b2.s1,b2.s12,b2.s13,b2.s14,b2.s15,b2.ts,b2.s24,b2.s25,b2.s26,b2.s27⟩,hr,h.fb.keep hf (no h.fb.blk (by decide) (by decide)) (n2 h.fb.own (by decide) (by decide)) (λx hx e=>?_),h.th.keep hf (λx hx e=>?_),h.tl,h.t16,h.hv,h.ht⟩
 ·simp only[ux]at e;rcases e with e|e
  ·subst e;exact h.fb.fam.nb h.rg.blk (by decide) hx
  ·exact h.fb.fam.ne h.rg.own (by decide) x hx e
 ·simp only[ux]at e;rcases e with e|e
  ·subst e;exact h.th.nb h.rg.blk (by decide) hx
  ·exact h.th.ne h.rg.own (by decide) x hx e
def BZ.setB{vs':List wm}{b:List (List Int)}(h:BZ C m cf w c)(hf:G1 C.bv m.vs w vs' w')(hr:D1 C.bu C.bv vs' w' b):BZ C { m with vs:=vs' } cf w' { c with b:=b }:=by
 obtain⟨cs,b1,b2⟩:=h.blk;have no:∀ {b:Nat} {cs:Array wm} {e:TypeId},w.heap[b]?=wh (wt cs e (0,0))->e≠54->e≠3->b∉BN C.bv++Dv m.vs:=λhb h1 h2 hx=>by
  rw[n7]at hx;rcases hx with c|c
  ·exact h.fb.own.nb hb (vv h1) c
  ·exact h.fb.fam.nb hb (vv h2) c
 have n1:∀y∈C.H.all m.lv,y∉BN C.bv++Dv m.vs:=λy hy e=>by
  rw[n7]at e;rcases e with e|e
  ·exact h.farA (x:=y) (wr (by simp[C4.fix,e])) y hy rfl
  ·exact h.farA (x:=y) (ws (wr e)) y hy rfl
 refine⟨h.ok,(h.hp.keep hf.fr n1).other rfl rfl rfl rfl rfl,⟨cs,hf.fr.at_ b1 (no b1 (by decide) (by decide)),b2.sz,b2.s0,b2.s1,b2.s12,b2.s13,b2.s14,b2.s15,b2.ts,b2.s24,b2.s25,b2.s26,b2.s27⟩,h.rg.keep hf.fr (no h.rg.blk (by decide) (by decide)) (λx hx e=>?_),hr,h.th.keep hf.fr (λx hx e=>?_),h.tl,h.t16,λx hx=>?_,h.ht⟩
 ·rw[n7]at e;rcases e with e|e
  ·exact h.rg.own.ne h.fb.own (by decide) x hx e
  ·exact h.fb.fam.ne h.rg.own (by decide) x e hx
 ·rw[n7]at e;rcases e with e|e
  ·exact h.th.ne h.fb.own (by decide) x hx e
  ·exact h.th.nf h.fb.fam (by decide) x hx e
 ·rcases hf.gr x hx with d|d
  ·exact h.hv x d
  ·have:=h.hp.le;omega
def BZ.setT{j:Nat}{cs:Array wm}{tv':wm}{l:List V2}(h:BZ C m cf w c)(hj:j<8)(hf:Fr (C.co::BN (m.ts[j]'(by rw[h.len];exact hj))) w w')(hc:Rr C m c cs)(hr:DU w' C.co (16+j) 132 (cs.setIfInBounds (16+j) tv') tv' l)(hg:∀x∈BN tv',x∈BN (m.ts[j]'(by rw[h.len];exact hj))∨w.heap.size<=x):BZ C { m with ts:=m.ts.set j tv' } cf w' { c with th:=c.th.set j l }:=by
 obtain⟨cs0,b1,b2⟩:=h.blk;have hl:=h.len;have hown:=h.th.row j (by omega) (by rw[j9,h.tl];exact hj);have no:∀ {b:Nat} {cs:Array wm} {e:TypeId},w.heap[b]?=wh (wt cs e (0,0))->e≠132->e≠60->b∉C.co::BN (m.ts[j]'(by omega)):=λhb h1 h2 hx=>by
  simp only[ux]at hx;rcases hx with c|c
  ·exact CZ hb b1 (by simp[h1]) c
  ·exact hown.nb hb (vv h2) c
 have n2:∀ {v:wm} {e:TypeId} {sz:Nat} {xs:List (List wm)},BQ w v e sz xs->e≠132->e≠60->∀x∈BN v,x∉C.co::BN (m.ts[j]'(by omega)):=λho h1 h2 x hx e=>by
  simp only[ux]at e;rcases e with e|e
  ·subst e;exact ho.nb b1 h1 hx
  ·exact ho.ne hown h2 x hx e
 have n1:∀y∈C.H.all m.lv,y∉C.co::BN (m.ts[j]'(by omega)):=λy hy e=>by
  simp only[ux]at e;rcases e with e|e
  ·exact h.farA (x:=C.co) (wr (by simp[C4.fix])) y hy e
  ·exact h.farA (x:=y) (ws (ws (DV (by omega) e))) y hy rfl
 have e1:(c.th.map Cz).set j (Cz l)=(c.th.set j l).map Cz:=by simp
 refine⟨h.ok,(h.hp.keep hf n1).other rfl rfl rfl rfl rfl,⟨_,hr.blk,?_⟩,h.rg.keep hf (no h.rg.blk (by decide) (by decide)) (n2 h.rg.own (by decide) (by decide)),h.fb.keep hf (no h.fb.blk (by decide) (by decide)) (n2 h.fb.own (by decide) (by decide)) (λx hx e=>?_),?_,by simp[h.tl],λx hx=>?_,h.hv,λx hx=>?_⟩
 ·have far:∀i,i<16∨24<=i->(cs.setIfInBounds (16+j) tv')[i]?=cs[i]?:=λi hi=>by
   rw[wY,vx (by omega)]
  refine⟨by simp[hc.sz],by rw[far 0 (by omega)];exact hc.s0,by rw[far 1 (by omega)];exact hc.s1,by rw[far 12 (by omega)];exact hc.s12,by rw[far 13 (by omega)];exact hc.s13,by rw[far 14 (by omega)];exact hc.s14,by rw[far 15 (by omega)];exact hc.s15,λi hi=>?_,by rw[far 24 (by omega)];exact hc.s24,by rw[far 25 (by omega)];exact hc.s25,by rw[far 26 (by omega)];exact hc.s26,by rw[far 27 (by omega)];exact hc.s27⟩
  rw[wY];by_cases e:16+j=16+i
  ·have:j=i:=by omega
   subst this;rw[vy rfl,vy (by rw[hc.sz];omega)];simp[show j<m.ts.length by omega]
  ·rw[vx e,hc.ts i hi,List.getElem?_set_ne (by omega)]
 ·simp only[ux]at e;rcases e with e|e
  ·subst e;exact h.fb.fam.nb b1 (by decide) hx
  ·exact h.fb.fam.ne hown (by decide) x hx e
 ·rw[<-e1];refine h.th.set (S:=C.co::BN (m.ts[j]'(by omega))) (by omega) hf (λi hi hij y hy e=>?_) hr.own hg;simp only[ux]at e;rcases e with e|e
  ·subst e;exact h.th.nb b1 (by decide) (DV hi hy)
  ·exact h.th.dj i j hi (by omega) hij y hy e
 ·rcases xO hx with d|d
  ·exact h.t16 x d
  ·rw[d];exact hr.le
 ·rcases EQ hx with d|d
  ·exact h.ht x d
  ·rcases hg x d with e|e
   ·exact h.ht x (DV (by omega) e)
   ·have:=h.hp.le;omega
end
section
variable{K:VK}{w w':wn}{Q:C4}{m:Mv}{cf:Cf}{c:Co}
def FR(h:BZ Q m cf w c)(hk:K (wd wk) w):I Z 88 #[v7 (wh ⟨Q.co,0,wj⟩)] w K:=by
 obtain⟨cs,b1,b2⟩:=h.blk;refine F88.sh ⟨_,CJ _ _ _ Tryz.underlying86,?_⟩
 try simp only[zv]
 refine Ad (v:=v7 (wh ⟨Q.H.D.st,0,wj⟩)) b1 b2.s0 ⟨_,CJ _ _ _ Tryz.underlying118,?_⟩;exact hk
def Fq{t:Int}(h:BZ Q m cf w c)(hk:K (wd (c.r.live t)) w):I Z 53 #[v7 (wh ⟨Q.co,0,wj⟩),v6 wg t] w K:=by
 obtain⟨cs,b1,b2⟩:=h.blk;refine F53.sh (FR h ?_)
 try simp only[zv]
 refine Ad (v:=v7 (wh ⟨Q.re,0,wj⟩)) b1 b2.s12 (Ls h.rg ?_);exact hk
def GV{a:Int}(h:BZ Q m cf w c)(hk:K (v6 wg (c.s.serial a)) w):I Z 49 #[v7 (wh ⟨Q.co,0,wj⟩),v6 wg a] w K:=by
 obtain⟨cs,b1,b2⟩:=h.blk;refine F49.sh (FR h ?_)
 try simp only[zv]
 refine F49.k3.to ?_
 try simp only[zv]
 exact Ad (v:=v7 (wh ⟨Q.H.D.st,0,wj⟩)) b1 b2.s0 (RO h.hp.st hk)
def MF{a:Int}(h:BZ Q m cf w c)(hk:K (v6 wg (c.s.fields a)) w):I Z 90 #[v7 (wh ⟨Q.co,0,wj⟩),v6 wg a] w K:=by
 obtain⟨cs,b1,b2⟩:=h.blk;refine F90.sh (FR h ?_)
 try simp only[zv]
 refine F90.k3.to ?_
 try simp only[zv]
 exact Ad (v:=v7 (wh ⟨Q.H.D.st,0,wj⟩)) b1 b2.s0 (GX h.hp.st hk)
def Qw(h:BZ Q m cf w c)(hk:∀v w',Fr [] w w'->BY w v->BQ w' v 3 1 (BX c.s.objects)->K v w'):I Z 51 #[v7 (wh ⟨Q.co,0,wj⟩)] w K:=by
 obtain⟨cs,b1,b2⟩:=h.blk;refine F51.sh (FR h ?_)
 try simp only[zv]
 refine F51.k3.to ?_
 try simp only[zv]
 exact Ad (v:=v7 (wh ⟨Q.H.D.st,0,wj⟩)) b1 b2.s0 (MK h.hp.st hk)
def P6{a i:Int}(h:BZ Q m cf w c)(hk:∀w',Fr [] w w'->K (wc #[V (c.s.get a i).1.1 (c.s.get a i).1.2,wd (c.s.get a i).2]) w'):
  I Z 91 #[v7 (wh ⟨Q.co,0,wj⟩),v6 wg a,v6 wg i] w K:=by
 refine F91.sh (Ar λx w1 hn=>?_);have h1:=h.keep0 hn.fr;have l1:=hn.is;obtain⟨cs,b1,b2⟩:=h1.blk;refine FR h1 ?_
 try simp only[zv]
 refine F91.k3.to ?_
 try simp only[zv]
 refine Ad (v:=v7 (wh ⟨Q.H.D.st,0,wj⟩)) b1 b2.s0 (Qv h1.hp.st λw2 hf2=>?_)
 try simp only[zv]
 exact AA (x:=V (c.s.get a i).1.1 (c.s.get a i).1.2) (hf2.at_ hn.at_ (by simp)) rfl Cc rfl λw3 hu=>A3 hu.at_ rfl (hk w3 ((hn.fr.trans hf2).then hu.fr (by simp;omega)))
def IJ(h:BZ Q m cf w c)(hk:K (v6 wg c.phase) w):I Z 59 #[v7 (wh ⟨Q.co,0,wj⟩)] w K:=by
 obtain⟨cs,b1,b2⟩:=h.blk;refine F59.sh (FR h ?_)
 try simp only[zv]
 refine F59.k3.to ?_
 try simp only[zv]
 exact Ad b1 b2.s25 hk
def MG(h:BZ Q m cf w c)(hk:K (v6 wg c.global) w):I Z 83 #[v7 (wh ⟨Q.co,0,wj⟩)] w K:=by
 obtain⟨cs,b1,b2⟩:=h.blk;refine F83.sh (FR h ?_)
 try simp only[zv]
 refine F83.k3.to ?_
 try simp only[zv]
 exact Ad b1 b2.s24 hk
def IB(h:BZ Q m cf w c){t:Int}(hl:c.r.live t=wk):∃j:Nat,t=(j:Int)/\j<8:=by obtain⟨j,e,hj,_⟩:=Ko hl;have:=h.rg.le;exact⟨j,e,by omega⟩
def H8{t:Int}(h:BZ Q m cf w c)(hk:∀v w',Fr [] w w'->BQ w' v 60 2 (Cz (c.roots t))->BY w v->K v w'):I Z 47 #[v7 (wh ⟨Q.co,0,wj⟩),v6 wg t] w K:=by
 refine F47.sh (Fq h ?_);unfold Co.roots at hk;cases z:c.r.live t with
 | false=>
  rw[z]at hk;simp only[zv];exact hk _ w (Fr.refl _ _) (BQ.nil _ _ _) (BY.nil _)
 | true=>
  rw[z]at hk;obtain⟨j,rfl,hj⟩:=IB h z;obtain⟨cs,b2,hr⟩:=h.ro hj;simp only[zv];refine F47.k3.to ?_
  try simp only[zv]
  refine AR (by omega) (by omega) ?_;rw[zK,vm];have e:c.th.getD j []=c.th[j]'(by rw[h.tl];exact hj):=by simp[List.getD,h.tl,hj]
  refine RG hr λv w1 hf1 ho hn=>hk v w1 hf1 ?_ hn;simp only[vu,zK,e];exact ho
def MH(h:BZ Q m cf w c)(hk:K (wd c.marking) w):I Z 144 #[v7 (wh ⟨Q.co,0,wj⟩)] w K:=by
 obtain⟨cs,b1,b2⟩:=h.blk;refine F144.sh ?_;unfold Co.marking at hk
 try simp only[zv]
 refine Ad b1 b2.s25 ?_;by_cases z:c.phase≥2
 ·simp only[zv,z];refine Ad b1 b2.s25 ?_;rw[ur (show 2<=c.phase from z)]at hk;by_cases y:c.phase<=4
  ·simp only[zv,y]at hk ⊢;exact hk
  ·simp only[zv,y]at hk ⊢;exact hk
 ·simp only[zv,z];rw[p9 (show ¬ 2<=c.phase from z)]at hk;exact hk
def Ro{W:wn}{m0:Mv}{x:Nat}{v:wm}{l:List Int}(hl:l.length<=2048){gf:Gy}(hN:∀g∈BN v,Q.H.N<=g)(hx:Q.H.N<=x){e:TypeId}(he:e≠310)(hk:∀lv' w',Cj Q m0 W { m with lv:=lv' } w'->BZ Q { m with lv:=lv' } cf w' { c with g:=gf }->K (wc #[]) w'):
  ∀(d i:Nat) (g:Gy) (lv:wm) (w:wn),i+d=l.length->Cj Q m0 W { m with lv:=lv } w->BZ Q { m with lv:=lv } cf w { c with g:=g }->BQ w v 3 1 (BX l)->w.heap[x]?=wh (wt #[v7 (wh ⟨Q.H.D.st,0,wj⟩),v7 (wh ⟨Q.H.G.gr,0,wj⟩)] e (0,0))->g.shadeAll cf.stack (l.drop i)=gf->
   F145.l2 K (v7 (wh ⟨x,0,wj⟩)) v (v6 wg (l.length:Int)) (v6 wg (i:Int)) w:=by
 intro d;induction d with
 | zero=>
  intro i g lv w hi ht h hv hb hg;have e:i=l.length:=by omega
  subst e;refine F145.l2.to ?_;simp only[zv,show ¬((l.length:Int)<(l.length:Int)) by omega];rw[b6]at hg;simp only[Gy.shadeAll]at hg;subst hg;exact hk lv w ht h
 | succ d ih=>
  intro i g lv w hi ht h hv hb hg;have hlt:i<l.length:=by omega
  refine F145.l2.to ?_;simp only[zv,show (i:Int)<(l.length:Int) by omega];rw[xJ hlt,Gy.shadeAll]at hg;refine F145.k3.to (AV hv.rd hlt λgg o cs e' fz hgg hc=>Ad hgg hc ?_)
  try simp only[zv]
  refine Ad (v:=v7 (wh ⟨Q.H.G.gr,0,wj⟩)) hb rfl (Mm h.hp.gy λb lv' w1 hf1 h1=>?_);have h1':=h.hp.setG hf1 h1;have hto:C2 Q.H lv w lv' w1:=C2.g hf1;have h2:=h.setH (c':={ c with g:=g.shade cf.stack l[i] }) hto h1' rfl rfl rfl rfl rfl rfl rfl;refine F145.k5.to ?_
  try simp only[A7]
  rw[BO (n:=(i:Int)+1) (by omega)];refine ih (i+1) _ lv' w1 (by omega) (ht.trans (Cj.h hto)) h2 (hv.keep' hto.fr (h.hp.far hv (by decide) hN)) (hto.fr.at_ hb λe1=>?_) hg;have e2:=Q.H.subS lv x e1;simp only[Cm.all,n7]at e2;rcases e2 with f|f|f
  ·have:=h.hp.ok.lo x (by simp[f]);omega
  ·have:=h.hp.ok.lo x (by simp[f]);omega
  ·exact h.hp.gy.stk.own.nb hb (vv he) f
def Ny{v:wm}{l:List Int}(h:BZ Q m cf w c)(hl:l.length<=2048)(hv:BQ w v 3 1 (BX l))(hN:∀g∈BN v,Q.H.N<=g)(hk:∀lv' w',Cj Q m w { m with lv:=lv' } w'->BZ Q { m with lv:=lv' } cf w' { c with g:=c.g.shadeAll cf.stack l }->K (wc #[]) w'):
  I Z 145 #[.agg #[v7 (wh ⟨Q.H.D.st,0,wj⟩),v7 (wh ⟨Q.H.G.gr,0,wj⟩)],v] w K:=by refine F145.sh (Ar λx w1 hn=>AH (hv.keep hn.fr (by simp)).rd ?_);rw[Ca];have l1:=hn.is;have:=h.hp.le;exact Ro (Q:=Q) (m:=m) (c:=c) (W:=w) (m0:=m) hl hN (by omega) (by decide) hk l.length 0 c.g m.lv w1 (by omega) (Cj.w hn.fr) (h.keep0 hn.fr) (hv.keep hn.fr (by simp)) hn.at_ rfl
def KN{p:Int}(h:BZ Q m cf w c)(hk:∀w',Cj Q m w m w'->BZ Q m cf w' (c.raise p)->K (wc #[]) w'):I Z 215 #[v7 (wh ⟨Q.co,0,wj⟩),v6 wg p] w K:=by
 obtain⟨cs,b1,b2⟩:=h.blk;refine F215.sh ?_
 try simp only[zv]
 refine AI b1 rfl rfl (by rw[b2.sz];omega) λw1 hu=>?_;have far:∀i,i≠25->(cs.setIfInBounds 25 (v6 wg p))[i]?=cs[i]?:=λi hi=>by rw[wY,vx (by omega)]
 have hc1:Rr Q m { c with phase:=p } (cs.setIfInBounds 25 (v6 wg p)):=⟨by simp[b2.sz],by rw[far 0 (by omega)];exact b2.s0,by rw[far 1 (by omega)];exact b2.s1,by rw[far 12 (by omega)];exact b2.s12,by rw[far 13 (by omega)];exact b2.s13,by rw[far 14 (by omega)];exact b2.s14,by rw[far 15 (by omega)];exact b2.s15,λj hj=>by rw[far (16+j) (by omega)];exact b2.ts j hj,by rw[far 24 (by omega)];exact b2.s24,by rw[wY,vy rfl,vy (by rw[b2.sz];omega)],by rw[far 26 (by omega)];exact b2.s26,by rw[far 27 (by omega)];exact b2.s27⟩
 have h1:=h.setC (c':={ c with phase:=p }) hu.fr hu.at_ hc1 rfl rfl rfl rfl rfl rfl rfl rfl;refine Ad hu.at_ hc1.s12 (VC h1.rg λv w2 hf2 h2=>?_);exact hk w2 ((Cj.c hu.fr).trans (Cj.r hf2)) (h1.setR hf2 h2)
def BZ.setN{F:wn->Prop}{i:Nat}{n:Int}{c':Co}(h:BZ Q m cf w c)(hi:24<=i)(hi':i<28)(hg:c'.global=if i=24 then n else c.global)(hp:c'.phase=if i=25 then n else c.phase)(hy:c'.cycles=if i=26 then n else c.cycles)(hu:c'.units=if i=27 then n else c.units)(es:c'.s=c.s)(eg:c'.g=c.g)(etp:c'.tp=c.tp)(ea:c'.at_=c.at_)(ef:c'.freed=c.freed)(er:c'.r=c.r)(eb:c'.b=c.b)(et:c'.th=c.th)(hk:∀w',Cj Q m w m w'->BZ Q m cf w' c'->F w'):Aj 1 (v7 (wh ⟨Q.co,i,wj⟩)) (v6 wg n) w F:=by
 obtain⟨cs,b1,b2⟩:=h.blk;refine AI b1 rfl rfl (by rw[b2.sz];omega) λw1 hu1=>hk w1 (Cj.c hu1.fr) ?_;have get:∀k,(cs.setIfInBounds i (v6 wg n))[k]?=if i=k then wh (v6 wg n) else cs[k]?:=λk=>by
  rw[wY];split
  ·rename_i e;subst e;rw[vy (by rw[b2.sz];omega)]
  ·rfl
 have far:∀k,k<24->(cs.setIfInBounds i (v6 wg n))[k]?=cs[k]?:=λk hk=>by rw[get,vx (by omega)]
 refine h.setC (c':=c') hu1.fr hu1.at_ ⟨by simp[b2.sz],by rw[far 0 (by omega)];exact b2.s0,by rw[far 1 (by omega)];exact b2.s1,by rw[far 12 (by omega)];exact b2.s12,by rw[far 13 (by omega)];exact b2.s13,by rw[far 14 (by omega)];exact b2.s14,by rw[far 15 (by omega)];exact b2.s15,λj hj=>by rw[far (16+j) (by omega)];exact b2.ts j hj,?_,?_,?_,?_⟩ es eg etp ea ef er eb et
 ·rw[get,hg];split;rfl;exact b2.s24
 ·rw[get,hp];split;rfl;exact b2.s25
 ·rw[get,hy];split;rfl;exact b2.s26
 ·rw[get,hu];split;rfl;exact b2.s27
def Uu{Kk:VK}(h:BZ Q m cf w c)(hk:Kk (.agg #[v7 (wh ⟨Q.H.D.st,0,wj⟩),v7 (wh ⟨Q.H.G.gr,0,wj⟩)]) w):Ak 2 (v7 (wh ⟨Q.co,0,wj⟩)) w Kk:=by
 obtain⟨cs,b1,b2⟩:=h.blk;refine AS (vs:=[v7 (wh ⟨Q.H.D.st,0,wj⟩),v7 (wh ⟨Q.H.G.gr,0,wj⟩)]) b1 (by rw[b2.sz];omega) ?_ hk;apply zL;intro q;rw[zD,zC]
 match q with
 | 0=>simpa using b2.s0
 | 1=>simpa using b2.s1
 | q+2=>rw[vx (by omega)];rfl
end
def KB(Q:C4)(p n:Int)(w:wn):Prop:=∃cs:Array wm,w.heap[Q.co]?=wh (wt cs 132 (0,0))/\cs.size=28/\cs[0]?=wh (v7 (wh ⟨Q.H.D.st,0,wj⟩))/\cs[1]?=wh (v7 (wh ⟨Q.H.G.gr,0,wj⟩))/\cs[12]?=wh (v7 (wh ⟨Q.re,0,wj⟩))/\cs[13]?=wh (v7 (wh ⟨Q.bu,0,wj⟩))/\cs[15]?=wh (v7 (wh ⟨Q.H.sw,0,wj⟩))/\cs[25]?=wh (v6 wg p)/\cs[24]?=wh (v6 wg n)
section
variable{K:VK}{w w':wn}{Q:C4}{m:Mv}{cf:Cf}{c:Co}
def BZ.kb(h:BZ Q m cf w c):KB Q c.phase c.global w:=by obtain⟨cs,b1,b2⟩:=h.blk;exact⟨cs,b1,b2.sz,b2.s0,b2.s1,b2.s12,b2.s13,b2.s15,b2.s25,b2.s24⟩
def Hh{Kk:VK}{S:wn->Prop}(hS:∀w',S w'->∃p n,KB Q p n w')(hk:Kk (.agg #[v7 (wh ⟨Q.H.D.st,0,wj⟩),v7 (wh ⟨Q.H.G.gr,0,wj⟩)]) w):AM S 2 (v7 (wh ⟨Q.co,0,wj⟩)) w Kk:=by
 refine AO (vs:=[v7 (wh ⟨Q.H.D.st,0,wj⟩),v7 (wh ⟨Q.H.G.gr,0,wj⟩)]) (λw' hw=>?_) hk;obtain⟨p,n,cs,b1,hs,s0,s1,_⟩:=hS w' hw;refine⟨cs,_,_,b1,by rw[hs];omega,?_⟩;apply zL;intro q;rw[zD,zC]
 match q with
 | 0=>simpa using s0
 | 1=>simpa using s1
 | q+2=>rw[vx (by omega)];rfl
def BZ.setSt{s:St}(h:BZ Q m cf w c)(hf:Fr Q.H.D.S w w')(hs:C8 Q.H.D cf.pages.toNat (cf.threads+1) w' s):Cj Q m w m w'/\BZ Q m cf w' { c with s:=s }:=by have h1:=h.setH (c':={ c with s:=s }) (C2.d hf) (h.hp.setS hf hs) rfl rfl rfl rfl rfl rfl rfl;exact⟨Cj.h (C2.d hf),h1⟩
def BZ.setGy{lv':wm}{g:Gy}(h:BZ Q m cf w c)(hf:DW Q.H.G m.lv w lv' w')(hg:CY Q.H.G lv' cf.stack w' g):Cj Q m w { m with lv:=lv' } w'/\BZ Q { m with lv:=lv' } cf w' { c with g:=g }:=
 ⟨Cj.h (C2.g hf),h.setH (c':={ c with g:=g }) (C2.g hf) (h.hp.setG hf hg) rfl rfl rfl rfl rfl rfl rfl⟩
def Hu(a:Int):(c.color cf a).phase=c.phase/\(c.color cf a).global=c.global:=by
 unfold Co.color;split
 ·exact⟨rfl,rfl⟩
 ·split<;>exact⟨rfl,rfl⟩
def P2{a:Int}(h:BZ Q m cf w c)(hk:∀lv' w',Cj Q m w { m with lv:=lv' } w'->BZ Q { m with lv:=lv' } cf w' (c.color cf a)->K (wc #[]) w'):
  I Z 219 #[.agg #[v7 (wh ⟨Q.H.D.st,0,wj⟩),v7 (wh ⟨Q.H.G.gr,0,wj⟩)],v6 wg a,v6 wg c.phase,v6 wg c.at_] w K:=by
 refine F219.sh (Ar λx w1 hn=>?_);have h1:=h.keep0 hn.fr;have x1:=hn.at_;unfold Co.color at hk;have blk:(∀lv' w',Cj Q m w { m with lv:=lv' } w'->BZ Q { m with lv:=lv' } cf w' { c with g:=c.g.black a }->K (wc #[]) w')->Ac (v7 (wh ⟨x,1,wj⟩)) w1 λx29 w8=>I Z 260 #[x29,v6 wg a] w8 λx31 w9=>K (wc #[]) w9:=λhk=>Ad (v:=v7 (wh ⟨Q.H.G.gr,0,wj⟩)) x1 rfl (NE h1.hp.gy λw2 hf2 h2=>by
   have h3:=h1.setGy (DW.m hf2) h2;exact hk m.lv w2 ((Cj.w hn.fr).trans h3.1) h3.2)
 by_cases p2:c.phase=2
 ·simp only[zv,vw,p2];rw[vy p2]at hk;refine Ad (v:=v7 (wh ⟨Q.H.G.gr,0,wj⟩)) x1 rfl (Mm h1.hp.gy λb lv' w2 hf2 h2=>?_);have h3:=h1.setGy hf2 h2;exact hk lv' w2 ((Cj.w hn.fr).trans h3.1) h3.2
 rw[vx p2]at hk;simp only[zv,p2];by_cases p3:c.phase=3
 ·simp only[zv,vw,p3];rw[vy (wr p3)]at hk;exact blk hk
 simp only[zv,p3];by_cases p4:c.phase=4
 ·simp only[zv,vw,p4];rw[vy (ws (wr p4))]at hk;exact blk hk
 simp only[zv,p4];have stay:¬(c.phase=3∨c.phase=4∨c.phase=5/\c.at_<=Cq a)->K (wc #[]) w1:=λhn'=>by
  rw[vx hn']at hk;exact hk m.lv w1 (Cj.w hn.fr) h1
 by_cases p5:c.phase=5
 ·simp only[zv,vw,p5];refine G6 ?_;by_cases z:c.at_<=Cq a
  ·simp only[zv,show Cq a≥c.at_ from z];rw[vy (ws (ws ⟨p5,z⟩))]at hk;exact blk hk
  ·simp only[zv,show ¬(Cq a≥c.at_) from z];exact stay (λe=>by rcases e with e | e | e;exact p3 e;exact p4 e;exact z e.2)
 ·simp only[zv,p5];exact stay (λe=>by rcases e with e | e | e;exact p3 e;exact p4 e;exact p5 e.1)
def LX(p:Int):Nat:=if p=1 then 3 else if p=2∨p=4 then 2 else 1
def YU(a:Int):(Instr.buildSlice 54 1 #[(0,v6 wg a)]).run Z w=.ok (v8 (wh ⟨w.heap.size,0,wj⟩) 1 1) (w.alloc (wt #[v6 wg a] 3)):=by kernel_rfl
def Tt{W:wn}{m0:Mv}{ce:Co}(hk:∀m' w',Cj Q m0 W m' w'->BZ Q m' cf w' ce->K (wc #[]) w'):
  ∀(d:Nat) (c:Co) (m:Mv) (w:wn),LX c.phase<=d->Cj Q m0 W m w->BZ Q m cf w c->Co.advance cf d c=ce->
   F149.l0 K (v7 (wh ⟨Q.co,0,wj⟩)) w:=by
 intro d;induction d with
 | zero=>intro c m w hr;unfold LX at hr;split at hr<;>(try split at hr)<;>omega
 | succ d ih=>
  intro c m w hr ht h he;obtain⟨cs,b1,b2⟩:=h.blk;refine F149.l0.to ?_
  try simp only[zv]
  refine Ad (v:=v7 (wh ⟨Q.re,0,wj⟩)) b1 b2.s12 (Tu h.rg λw1 hf1=>?_);have h1:=h.keep0 hf1;have ht1:=ht.trans (Cj.w hf1);obtain⟨cs1,d1,d2⟩:=h1.blk;rw[Co.advance]at he;cases za:c.r.agreed with
  | false=>
   rw[za]at he;simp only[yZ,vq]at he;subst he;simp only[Ag];exact hk m w1 ht1 h1
  | true=>
   rw[za]at he;simp only[vu]at he;simp only[Ah];refine F149.k1.to ?_
   try simp only[zv]
   refine Ad d1 d2.s25 ?_;by_cases p1:c.phase=1
   ·simp only[zv,vw,p1];rw[vy p1]at he;refine Ad (v:=v7 (wh ⟨Q.bu,0,wj⟩)) d1 d2.s13 (Tx h1.fb λn vs' w2 hf2 h2=>?_);have h2':=h1.setB hf2 h2;have ht2:=ht1.trans (Cj.f hf2);refine A9 (λw'=>KB Q c.phase c.global w') λw3 hf3 _=>⟨(h2'.keep0 hf3).kb,?_⟩;have h3:=h2'.keep0 hf3;have ht3:=ht2.trans (Cj.w hf3);refine Hh (λw' hw=>⟨_,_,hw⟩) ?_
    refine Au (v:=v6 wg c.global) (S:=λw'=>KB Q c.phase c.global w') (λw' hw=>?_) ⟨A4 (YU c.global) ?_,trivial⟩
    ·obtain⟨cs',q1,q2⟩:=hw;exact⟨cs',_,_,q1,q2.2.2.2.2.2.2.2⟩
    have hw:=DE.mk' w3 (wt #[v6 wg c.global] 3);have h4:=h3.keep0 hw.fr;have ht4:=ht3.trans (Cj.w hw.fr);have hle:=h3.hp.le;have ov:BQ (w3.alloc (wt #[v6 wg c.global] 3)) (v8 (wh ⟨w3.heap.size,0,wj⟩) 1 1) 3 1 (BX [c.global]):=BQ.of_block hw.at_ rfl (by simp) (by simp) rfl (by simp[BX,wm.oneCell']) (by simp[BX])
    refine⟨h4.kb,Ny h4 (l:=[c.global]) (by simp) ov (λg hg=>by simp[BN,wm.ownBlock]at hg;omega) λlv' w5 ht5 h5=>⟨h5.kb,?_⟩,trivial⟩;refine KN h5 λw6 ht6 h6=>ih _ _ w6 ?_ ((ht4.trans ht5).trans ht6) h6 he;rw[p1]at hr;show LX 2<=d;unfold LX at hr ⊢;simp at hr ⊢;omega
   simp only[zv,p1];rw[vx p1]at he;refine Ad d1 d2.s25 ?_;by_cases p2:c.phase=2
   ·simp only[zv,vw,p2];rw[vy p2]at he;refine h1.setN (i:=25) (n:=3) (c':={ c with phase:=3 }) (by omega) (by omega) rfl rfl rfl rfl rfl rfl rfl rfl rfl rfl rfl rfl λw2 ht2 h2=>ih _ _ w2 ?_ (ht1.trans ht2) h2 he;rw[p2]at hr;show LX 3<=d;unfold LX at hr ⊢;simp at hr ⊢;omega
   simp only[zv,p2];rw[vx p2]at he;refine Ad d1 d2.s25 ?_;by_cases p4:c.phase=4
   ·have rk:∀p:Int,p=3∨p=5->LX p<=d:=λp hp=>by
     rw[p4]at hr;unfold LX at hr ⊢;rcases hp with rfl|rfl<;>simp at hr ⊢<;>omega
    have back:∀w2 ,BZ Q m cf w2 c->Cj Q m0 W m w2->¬(c.phase=4/\CL c.b/\c.tIdle)->Ac (v7 (wh ⟨Q.co,25,wj⟩)) w2 λx71 w51=>U .eql x71 (v6 wg 4) w51 λx72 w52=>Af x72 (Aj 1 (v7 (wh ⟨Q.co,25,wj⟩)) (v6 wg 3) w52 λw55=>F149.l0 K (v7 (wh ⟨Q.co,0,wj⟩)) w55) (K (wc #[]) w52):=λw2 h2 ht2 hno=>by
     obtain⟨cs2,e1,e2⟩:=h2.blk;rw[vx hno,vy p4]at he;refine Ad e1 e2.s25 ?_;simp only[zv,vw,p4];exact h2.setN (i:=25) (n:=3) (c':={ c with phase:=3 }) (by omega) (by omega) rfl rfl rfl rfl rfl rfl rfl rfl rfl rfl rfl rfl λw3 ht3 h3=>ih _ _ w3 (rk 3 (wr rfl)) (ht2.trans ht3) h3 he
    simp only[zv,vw,p4];refine Ad (v:=v7 (wh ⟨Q.bu,0,wj⟩)) d1 d2.s13 (Vo h1.fb ?_);cases ze:CL c.b with
    | false=>
     simp only[zv];exact back w1 h1 ht1 (λe=>by rw[ze]at e;simp at e)
    | true=>
     simp only[zv];refine Ad (v:=v7 (wh ⟨Q.H.tr,0,wj⟩)) d1 d2.s14 (R1 h1.hp λw2 hf2=>?_);have h2:=h1.keep0 hf2;have ht2:=ht1.trans (Cj.w hf2);cases zi:c.tIdle with
     | false=>
      simp only[Ag];exact back w2 h2 ht2 (λe=>by rw[zi]at e;simp at e)
     | true=>
      simp only[Ah];rw[vy ⟨p4,ze,zi⟩]at he;refine h2.setN (i:=25) (n:=5) (c':={ c with phase:=5 }) (by omega) (by omega) rfl rfl rfl rfl rfl rfl rfl rfl rfl rfl rfl rfl λw3 ht3 h3=>?_;obtain⟨cs3,e1,e2⟩:=h3.blk;refine Ad (v:=v7 (wh ⟨Q.H.sw,0,wj⟩)) e1 e2.s15 (VN h3.hp λw4 ht4 h4=>?_);have h5:=h3.setH (c':={ c with phase:=5,at_:=0,freed:=0 }) ht4 h4 rfl rfl rfl rfl rfl rfl rfl
      exact ih _ _ w4 (rk 5 (ws rfl)) ((ht2.trans ht3).trans (Cj.h ht4)) h5 he
   ·simp only[zv,p4];rw[vx (λe=>p4 e.1),vx p4]at he;subst he;refine Ad d1 d2.s25 ?_;simp only[zv,p4];exact hk m w1 ht1 h1
def Nx(h:BZ Q m cf w c)(hk:∀m' w',Cj Q m w m' w'->BZ Q m' cf w' (c.adv cf)->K (wc #[]) w'):I Z 149 #[v7 (wh ⟨Q.co,0,wj⟩)] w K:=
 F149.sh (Tt (W:=w) (m0:=m) hk 4 c m w (by unfold LX;split<;>(try split)<;>omega) (Cj.refl _ _ _) h rfl)
def Pw(h:BZ Q m cf w c)(hk:∀m' w',Cj Q m w m' w'->BZ Q m' cf w' (c.beginC cf).1->K (wd (c.beginC cf).2) w'):I Z 162 #[v7 (wh ⟨Q.co,0,wj⟩)] w K:=by
 obtain⟨cs,b1,b2⟩:=h.blk;refine F162.sh (FR h ?_);unfold Co.beginC at hk
 try simp only[zv]
 refine Ad b1 b2.s25 ?_;by_cases z:c.phase=0
 ·rw[vy z]at hk;simp only[zv,vw,z,vz,zW];refine F162.k3.to ?_
  try simp only[zv]
  refine h.setN (i:=27) (n:=0) (c':={ c with units:=0 }) (by omega) (by omega) rfl rfl rfl rfl rfl rfl rfl rfl rfl rfl rfl rfl λw1 ht1 h1=>?_;refine KN h1 λw2 ht2 h2=>Nx h2 λm' w3 ht3 h3=>?_;exact hk m' w3 ((ht1.trans ht2).trans ht3) h3
 ·rw[vx z]at hk;simp only[zv,z,vz,zX];exact hk m w (Cj.refl _ _ _) h
def Tw{t:Int}(h:BZ Q m cf w c)(hk:∀w',Cj Q m w m w'->BZ Q m cf w' (c.attach t)->K (wd (c.r.attach t).2) w'):I Z 98 #[v7 (wh ⟨Q.co,0,wj⟩),v6 wg t] w K:=by
 obtain⟨cs,b1,b2⟩:=h.blk;refine F98.sh (FR h ?_)
 try simp only[zv]
 refine Ad (v:=v7 (wh ⟨Q.re,0,wj⟩)) b1 b2.s12 (RH h.rg λw1 hf1 h1=>?_);have:=hk w1 (Cj.r hf1) (h.setR hf1 h1);exact this
end
section
variable{K:VK}{w w':wn}{Q:C4}{m:Mv}{cf:Cf}{c:Co}
def PW(h:BZ Q m cf w c)(t:Int):(DQ c.b t).length<=2048:=by
 unfold DQ;split
 ·by_cases hj:t.toNat<c.b.length
  ·have:=h.fb.few (d7 hj);simpa[List.getD,hj] using this
  ·simp[List.getD,hj]
 ·simp
def T1{t:Int}(h:BZ Q m cf w c)(hk:∀m' w',Cj Q m w m' w'->BZ Q m' cf w' (c.detach cf t)->K (wd (c.r.live t)) w'):I Z 99 #[v7 (wh ⟨Q.co,0,wj⟩),v6 wg t] w K:=by
 obtain⟨cs,b1,b2⟩:=h.blk;refine F99.sh (Fq h ?_);unfold Co.detach at hk;cases z:c.r.live t with
 | false=>
  rw[z]at hk;simp only[yZ,vq]at hk;simp only[zv];exact hk m w (Cj.refl _ _ _) h
 | true=>
  rw[z]at hk;simp only[vu]at hk;obtain⟨j,rfl,hj⟩:=IB h z;simp only[zv];refine F99.k3.to ?_
  try simp only[zv]
  refine Ad (v:=v7 (wh ⟨Q.bu,0,wj⟩)) b1 b2.s13 (Mn h.fb λv vs' w1 hf1 h1 hv1 hb1=>?_);have h1':=h.setB hf1 h1;have ht1:Cj Q m w { m with vs:=vs' } w1:=Cj.f hf1;have hN:∀g∈BN v,Q.H.N<=g:=λg hg=>h.hv g (hb1 g hg);refine MH h1' ?_;have em:({ c with b:=CT c.b (j:Int) }:Co).marking=c.marking:=rfl;rw[em];have fin:∀g2 m2 w2,Cj Q m w m2 w2->BZ Q m2 cf w2 { c with b:=CT c.b (j:Int),g:=g2 }->
    (∀m' w',Cj Q m w m' w'->BZ Q m' cf w' (({ c with b:=CT c.b (j:Int),g:=g2,th:=c.th.set (j:Int).toNat [],s:=c.s.quit (j:Int),r:=c.r.detach (j:Int) }:Co).adv cf)->K (wd wk) w')->
    F99.k6 K (v7 (wh ⟨Q.co,0,wj⟩)) (v6 wg (j:Int)) w2:=λg2 m2 w2 ht2 h2 hk=>by
   refine F99.k6.to ?_
   try simp only[zv]
   refine AR (by omega) (by omega) ?_;rw[zK,vm];obtain⟨cs2,e2,hr⟩:=h2.ro hj;refine TB hr λw3 hf3 h3=>?_;have hts:j<m2.ts.length:=by rw[h2.len];exact hj
   have hf3':Fr (Q.co::BN m2.ts[j]) w2 w3:=hf3.mono λx hx=>by simp only[zF]at hx;simp[hx]
   have h3':=h2.setT (tv':=v8 wj 0 0) (l:=[]) hj hf3' e2 h3 (by simp[BN,wm.ownBlock]);have ht3:=ht2.trans (Cj.t (tv':=v8 wj 0 0) hts hf3' (by simp[BN,wm.ownBlock]));obtain⟨cs3,d1,d2⟩:=h3'.blk;refine Ad (v:=v7 (wh ⟨Q.H.D.st,0,wj⟩)) d1 d2.s0 (Xc h3'.hp.st λn w4 hf4 h4=>?_);obtain⟨ht4,h4'⟩:=h3'.setSt hf4 h4;obtain⟨cs4,f1,f2⟩:=h4'.blk
   refine Ad (v:=v7 (wh ⟨Q.re,0,wj⟩)) f1 f2.s12 (RJ h4'.rg λb w5 hf5 h5=>?_);have h5':=h4'.setR hf5 h5;refine Nx h5' λm6 w6 ht6 h6=>?_;refine hk m6 w6 (((ht3.trans ht4).trans (Cj.r hf5)).trans ht6) ?_;rw[zK];exact h6
  cases zm:c.marking with
  | true=>
   rw[zm]at hk;simp only[Ah];refine Uu h1' (Ny h1' (PW h j) hv1 hN λlv' w2 ht2 h2=>?_);exact fin _ _ w2 (ht1.trans ht2) h2 hk
  | false=>
   rw[zm]at hk;simp only[Ag];exact fin c.g _ w1 ht1 h1' hk
def WZ{t:Int}(h:BZ Q m cf w c)(hk:∀b m' w',Cj Q m w m' w'->BZ Q m' cf w' (c.poll cf t)->K (wd b) w'):I Z 105 #[v7 (wh ⟨Q.co,0,wj⟩),v6 wg t] w K:=by
 obtain⟨cs,b1,b2⟩:=h.blk;refine F105.sh (FR h ?_);unfold Co.poll at hk
 try simp only[zv]
 refine Ad (v:=v7 (wh ⟨Q.re,0,wj⟩)) b1 b2.s12 (Rt h.rg λw1 hf1 h1=>?_);have h1':=h.setR hf1 h1;have ht1:Cj Q m w m w1:=Cj.r hf1;cases z:(c.r.confirm t).2 with
 | false=>
  rw[z]at hk;have e:(c.r.confirm t).1=c.r:=by
   unfold Rg.confirm at z ⊢;split at z
   ·simp at z
   ·rename_i hh;rw[vx hh]
  rw[e]at h1';simp only[yZ,vq]at hk;simp only[zv];exact hk _ m w1 ht1 h1'
 | true=>
  rw[z]at hk;simp only[vu]at hk;have hlive:c.r.live t=wk:=by
   unfold Rg.confirm at z;split at z
   ·rename_i hh;exact hh.1
   ·simp at z
  obtain⟨j,rfl,hj⟩:=IB h hlive;obtain⟨cs1,d1,d2⟩:=h1'.blk;simp only[zv];refine F105.k3.to ?_
  try simp only[zv]
  refine Ad d1 d2.s25 ?_;have fin:∀c2 m2 w2,Cj Q m w m2 w2->BZ Q m2 cf w2 c2->(∀m' w',Cj Q m w m' w'->BZ Q m' cf w' (c2.adv cf)->K (wd wk) w')->F105.k8 K (v7 (wh ⟨Q.co,0,wj⟩)) w2:=λc2 m2 w2 ht2 h2 hk=>F105.k8.to (Nx h2 λm' w3 ht3 h3=>hk m' w3 (ht2.trans ht3) h3);by_cases p2:c.phase=2
  ·simp only[zv,vw,p2];rw[vy p2]at hk;refine A9 (λw'=>KB Q c.phase c.global w') λw2 hf2 _=>⟨(h1'.keep0 hf2).kb,?_⟩;have h2:=h1'.keep0 hf2;have ht2:=ht1.trans (Cj.w hf2);refine AR (by omega) (by omega) ?_;rw[zK,vm];obtain⟨cs2,e2,hr⟩:=h2.ro hj;refine Hh (λw' hw=>⟨_,_,hw⟩) ⟨Xh hr λv w3 hf3 hn3 hv3=>?_,trivial⟩;have h3:=h2.keep0 hf3;have hle:=h2.hp.le
   have hl16:(c.th[j]'(by rw[h.tl];exact hj)).length<=16:=h.t16 _ (d7 _);have hrl:=LW _ (c.th[j]'(by rw[h.tl];exact hj)) rfl;refine⟨h3.kb,Ny h3 (va hrl (by omega)) hv3 (λg hg=>by have:=hn3.blk g hg;omega) λlv' w4 ht4 h4=>⟨h4.kb,?_⟩,trivial⟩;have eg:c.th.getD (j:Int).toNat []=c.th[j]'(by rw[h.tl];exact hj):=by simp[List.getD,h.tl,hj]
   rw[eg]at hk;exact fin _ _ w4 ((ht2.trans (Cj.w hf3)).trans ht4) h4 (λm' w'=>hk wk m' w')
  simp only[zv,p2];rw[vx p2]at hk;by_cases p4:c.phase=4
  ·simp only[zv,vw,p4];rw[vy p4]at hk;refine A9 (λw'=>KB Q c.phase c.global w') λw2 hf2 _=>⟨(h1'.keep0 hf2).kb,?_⟩;have h2:=h1'.keep0 hf2;have ht2:=ht1.trans (Cj.w hf2);refine Hh (λw' hw=>⟨_,_,hw⟩) (Au (v:=v7 (wh ⟨Q.bu,0,wj⟩)) (λw' hw=>?_) ⟨Mn h2.fb λv vs' w3 hf3 h3 hv3 hb3=>?_,trivial⟩)
   ·obtain⟨cs',q1,q2⟩:=hw;exact⟨cs',_,_,q1,q2.2.2.2.2.1⟩
   have h3':=h2.setB hf3 h3;have ht3:=ht2.trans (Cj.f hf3);refine⟨h3'.kb,Ny h3' (PW h j) hv3 (λg hg=>h2.hv g (hb3 g hg)) λlv' w4 ht4 h4=>⟨h4.kb,?_⟩,trivial⟩;exact fin _ _ w4 (ht3.trans ht4) h4 (λm' w'=>hk wk m' w')
  ·simp only[zv,p4];rw[vx p4]at hk;exact fin _ m w1 ht1 h1' (λm' w'=>hk wk m' w')
def Xt(h:BZ Q m cf w c)(hk:∀m' w',Cj Q m w m' w'->BZ Q m' cf w' (c.unit cf).1->K (wd (c.unit cf).2) w'):I Z 280 #[v7 (wh ⟨Q.co,0,wj⟩)] w K:=by
 obtain⟨cs,b1,b2⟩:=h.blk;refine F280.sh (IJ h ?_);unfold Co.unit at hk;simp only at hk;have fin:∀(r:Co × Bool) m2 w2,Cj Q m w m2 w2->BZ Q m2 cf w2 r.1->(∀m' w',Cj Q m w m' w'->BZ Q m' cf w' (if r.2 then { r.1 with units:=C7 (r.1.units+1) } else r.1)->K (wd r.2) w')->
   F280.k13 K (v7 (wh ⟨Q.co,0,wj⟩)) (wd r.2) w2:=λr m2 w2 ht2 h2 hk=>by
  refine F280.k13.to ?_;cases z:r.2 with
  | false=>
   rw[z]at hk;simp only[zv];exact F280.k15.to (hk m2 w2 ht2 h2)
  | true=>
   rw[z]at hk;simp only[vu]at hk;obtain⟨cs2,d1,d2⟩:=h2.blk;simp only[zv];refine Ad d1 d2.s27 ?_
   try simp only[A7]
   refine h2.setN (i:=27) (n:=C7 (r.1.units+1)) (c':={ r.1 with units:=C7 (r.1.units+1) }) (by omega) (by omega) rfl rfl rfl rfl rfl rfl rfl rfl rfl rfl rfl rfl λw3 ht3 h3=>?_;exact F280.k15.to (hk m2 w3 (ht2.trans ht3) h3)
 by_cases p3:c.phase=3
 ·simp only[zv,vw,p3];rw[vy p3]at hk;refine Ad (v:=v7 (wh ⟨Q.H.tr,0,wj⟩)) b1 b2.s14 (VO h.hp λlv' w1 ht1 h1=>?_);have hsame:(c.tUnit cf).1.r=c.r/\(c.tUnit cf).1.b=c.b/\(c.tUnit cf).1.th=c.th/\(c.tUnit cf).1.global=c.global/\(c.tUnit cf).1.phase=c.phase/\(c.tUnit cf).1.cycles=c.cycles/\(c.tUnit cf).1.units=c.units:=by
   unfold Co.tUnit;split
   ·simp
   ·split
    ·unfold Co.entry;simp only;split<;>simp
    ·split<;>simp[Co.look]
  obtain⟨q1,q2,q3,q4,q5,q6,q7⟩:=hsame;have h1':=h.setH ht1 h1 q1 q2 q3 q4 q5 q6 q7;have ht1':Cj Q m w { m with lv:=lv' } w1:=Cj.h ht1;cases e:(c.tUnit cf).2 with
  | true=>
   have e0:c.tUnit cf=((c.tUnit cf).1,wk):=by rw[<-e]
   rw[e0]at hk;simp only[zv];exact fin ((c.tUnit cf).1,wk) _ w1 ht1' h1' hk
  | false=>
   have e0:c.tUnit cf=((c.tUnit cf).1,wl):=by rw[<-e]
   rw[e0]at hk;simp only[zv];refine KN h1' λw2 ht2 h2=>Nx h2 λm3 w3 ht3 h3=>?_;exact fin ((((c.tUnit cf).1.raise 4).adv cf),wl) m3 w3 ((ht1'.trans ht2).trans ht3) h3 hk
 simp only[zv,p3];rw[vx p3]at hk;by_cases p5:c.phase=5
 ·simp only[zv,vw,p5];rw[vy p5]at hk;refine Ad (v:=v7 (wh ⟨Q.H.sw,0,wj⟩)) b1 b2.s15 (VR h.hp λlv' w1 ht1 h1=>?_);have swa:∀(l:List Int) (c:Co),(c.sweepAll l).r=c.r/\(c.sweepAll l).b=c.b/\(c.sweepAll l).th=c.th/\(c.sweepAll l).global=c.global/\(c.sweepAll l).phase=c.phase/\(c.sweepAll l).cycles=c.cycles/\(c.sweepAll l).units=c.units:=by
   intro l;induction l with
   | nil=>intro c;simp[Co.sweepAll]
   | cons a l ih=>
    intro c;rw[Co.sweepAll];have:=ih (c.sweepOne a);have e:(c.sweepOne a).r=c.r/\(c.sweepOne a).b=c.b/\(c.sweepOne a).th=c.th/\(c.sweepOne a).global=c.global/\(c.sweepOne a).phase=c.phase/\(c.sweepOne a).cycles=c.cycles/\(c.sweepOne a).units=c.units:=by unfold Co.sweepOne;split<;>simp
    obtain⟨a1,a2,a3,a4,a5,a6,a7⟩:=e;rw[a1,a2,a3,a4,a5,a6,a7]at this;exact this
  have hsame:(c.wUnit cf).1.r=c.r/\(c.wUnit cf).1.b=c.b/\(c.wUnit cf).1.th=c.th/\(c.wUnit cf).1.global=c.global/\(c.wUnit cf).1.phase=c.phase/\(c.wUnit cf).1.cycles=c.cycles/\(c.wUnit cf).1.units=c.units:=by
   unfold Co.wUnit;split
   ·simp
   ·exact swa _ c
  obtain⟨q1,q2,q3,q4,q5,q6,q7⟩:=hsame;have h1':=h.setH ht1 h1 q1 q2 q3 q4 q5 q6 q7;have ht1':Cj Q m w { m with lv:=lv' } w1:=Cj.h ht1;obtain⟨cs1,d1,d2⟩:=h1'.blk;generalize hd:(c.wUnit cf).1=d at *;generalize hb:(c.wUnit cf).2=did at *
  try simp only at hk
  refine Ad (v:=v7 (wh ⟨Q.H.sw,0,wj⟩)) d1 d2.s15 (Ru h1'.hp λw2 hf2=>?_);have h2:=h1'.keep0 hf2;have ht2:=ht1'.trans (Cj.w hf2);by_cases z:cf.pages<=d.at_
  ·simp only[zv,z];rw[vy z]at hk;refine h2.setN (i:=25) (n:=0) (c':={ d with phase:=0 }) (by omega) (by omega) rfl rfl rfl rfl rfl rfl rfl rfl rfl rfl rfl rfl λw3 ht3 h3=>?_;obtain⟨cs3,f1,f2⟩:=h3.blk;refine Ad f1 f2.s26 ?_
   try simp only[A7]
   refine h3.setN (i:=26) (n:=C7 (d.cycles+1)) (c':={ d with phase:=0,cycles:=C7 (d.cycles+1) }) (by omega) (by omega) rfl rfl rfl rfl rfl rfl rfl rfl rfl rfl rfl rfl λw4 ht4 h4=>?_;exact fin ({ d with phase:=0,cycles:=C7 (d.cycles+1) },did) _ w4 ((ht2.trans ht3).trans ht4) h4 hk
  ·simp only[zv,z];rw[vx z]at hk;exact fin (d,did) _ w2 ht2 h2 hk
 ·simp only[zv,p5];rw[vx p5]at hk;exact fin (c,wl) m w (Cj.refl _ _ _) h hk
end
section
variable{K:VK}{w w':wn}{Q:C4}{m:Mv}{cf:Cf}{c:Co}
def UW{v:V2}(h:BZ Q m cf w c)(hk:∀w',Fr [] w w'->K (wd (c.may v)) w'):I Z 225 #[v7 (wh ⟨Q.co,0,wj⟩),V v.1 v.2] w K:=by
 refine F225.sh (Ar λx w1 hn=>A9 (λw'=>KB Q c.phase c.global w'/\w'.heap[x]?=wh (wt #[v6 wg v.1,v6 wg v.2] 60 (0,0))) λw2 hf2 _=>?_);have f2:=hn.fr.trans hf2;have h2:=h.keep0 f2;have x2:=hf2.at_ hn.at_ (by simp);refine⟨⟨h2.kb,x2⟩,?_⟩;unfold Co.may at hk;refine AO (vs:=[v6 wg v.1,v6 wg v.2]) (λw' hw=>⟨_,_,_,hw.2,by simp,rfl⟩) ⟨G5 v.1 v.2 λw3 hf3=>?_,trivial⟩;have h3:=h2.keep0 hf3
 have x3:=hf3.at_ x2 (by simp);have f3:=f2.trans hf3;refine⟨⟨h3.kb,x3⟩,?_⟩;by_cases z1:DL v.1 v.2=0
 ·have e1:Dp v=wk:=by simpa[Dp] using z1
  rw[e1]at hk;simp only[zv,vw,z1];refine Au (v:=v6 wg v.1) (λw' hw=>⟨_,_,_,hw.2,rfl⟩) ?_;by_cases z2:v.1=2
  ·rw[ur z2]at hk;simp only[zv,vw,z2,vz,zW];refine Au (v:=v7 (wh ⟨Q.H.D.st,0,wj⟩)) (λw' hw=>?_) (Au (v:=v6 wg v.2) (λw' hw=>⟨_,_,_,hw.2,rfl⟩) ⟨GX h3.hp.st ⟨⟨h3.kb,by have:=x3;simp only[V,wm.cells,z2]at this;exact this⟩,?_⟩,trivial⟩)
   ·obtain⟨⟨cs',q1,q2⟩,_⟩:=hw;exact⟨cs',_,_,q1,q2.2.1⟩
   by_cases z3:c.s.fields v.2≥0
   ·have:=hk w3 f3;simp only[zv,z3];simpa[show 0<=c.s.fields v.2 from z3] using this
   ·have:=hk w3 f3;simp only[zv,z3];simpa[show ¬ 0<=c.s.fields v.2 from z3] using this
  ·rw[p9 z2]at hk;simp only[zv,z2,vz,zX];exact⟨⟨⟨h3.kb,x3⟩,by simpa using hk w3 f3⟩,trivial⟩
 ·have e1:Dp v=wl:=by simpa[Dp] using z1
  rw[e1]at hk;simp only[zv,z1];exact⟨⟨⟨h3.kb,x3⟩,by simpa using hk w3 f3⟩,trivial⟩
def RE{t:Int}{v:V2}(h:BZ Q m cf w c)(hk:∀m' w',Cj Q m w m' w'->BZ Q m' cf w' (c.push t v).1->K (wd (c.push t v).2) w'):I Z 154 #[v7 (wh ⟨Q.co,0,wj⟩),v6 wg t,V v.1 v.2] w K:=by
 refine F154.sh (Ar λx w1 hn=>A9 (λw'=>w'.heap[x]?=wh (wt #[v6 wg v.1,v6 wg v.2] 60 (0,0))) λw2 hf2 _=>?_);have l1:=hn.is;have f2:=hn.fr.trans hf2;have h2:=h.keep0 f2;have x2:=hf2.at_ hn.at_ (by simp);unfold Co.push at hk;refine⟨x2,Fq h2 ⟨x2,?_⟩,trivial⟩;cases z:c.r.live t with
 | false=>
  rw[z]at hk;simp only[yZ,false_and,vq]at hk;simp only[zv];exact⟨⟨x2,⟨⟨x2,hk m w2 (Cj.w f2) h2⟩,trivial⟩⟩,trivial⟩
 | true=>
  rw[z]at hk;obtain⟨j,rfl,hj⟩:=IB h z;have e:c.th.getD (j:Int).toNat []=c.th[j]'(by rw[h.tl];exact hj):=by simp[List.getD,h.tl,hj]
  rw[e]at hk;simp only[zv];refine AO (vs:=[v6 wg v.1,v6 wg v.2]) (λw' hw=>⟨_,_,_,hw,by simp,rfl⟩) ⟨UW (v:=v) h2 λw3 hf3=>?_,trivial⟩;have h3:=h2.keep0 hf3;have x3:=hf3.at_ x2 (by simp);have f3:=f2.trans hf3;refine⟨x3,?_⟩;cases y:c.may v with
  | false=>
   rw[y]at hk;simp only[yZ,false_and,and_false,vq]at hk;simp only[zv];exact⟨⟨x3,hk m w3 (Cj.w f3) h3⟩,trivial⟩
  | true=>
   rw[y]at hk;have hvok:Dp v=wk:=by unfold Co.may at y;simp only[zY]at y;exact y.1
   simp only[zv];refine AR (by omega) (by omega) ?_;rw[zK,vm];obtain⟨cs3,e3,hr⟩:=h3.ro hj;have hts:j<m.ts.length:=by rw[h.len];exact hj
   have nx:x∉Q.co::BN m.ts[j]:=λee=>by
    simp only[ux]at ee;rcases ee with ee|ee
    ·obtain⟨cs0,b1,_⟩:=h.blk;have:=BP b1;omega
    ·have:=h.th.lt x (DV hts ee);omega
   refine AO (vs:=[v6 wg v.1,v6 wg v.2]) (λw' hw=>⟨_,_,_,hw,by simp,rfl⟩) ⟨VA (v:=v) hr (λhc tv' w4 hf4 h4 hg4=>?_) (λhc w4 hf4=>?_),trivial⟩
   ·rw[vy ⟨rfl,rfl,hc.2⟩]at hk;refine⟨hf4.at_ x3 nx,?_⟩;have:=hk _ w4 ((Cj.w f3).trans (Cj.t hts hf4 hg4)) (by rw[zK];exact h3.setT hj hf4 e3 h4 hg4);exact this
   ·rw[vx (λee=>hc ⟨hvok,ee.2.2⟩)]at hk;refine⟨hf4.at_ x3 (by simp),?_⟩;exact hk m w4 (Cj.w (f3.trans hf4)) (h3.keep0 hf4)
def UY{t:Int}(h:BZ Q m cf w c)(hk:∀m' w',Cj Q m w m' w'->BZ Q m' cf w' (c.pop t).1->K (match (c.pop t).2 with | wh v=>wc #[V v.1 v.2,wd wk] | wj=>wc #[V 0 0,wd wl]) w'):
  I Z 102 #[v7 (wh ⟨Q.co,0,wj⟩),v6 wg t] w K:=by
 refine F102.sh (Ar λx w1 hn=>Fq (h.keep0 hn.fr) ?_);have l1:=hn.is;have h1:=h.keep0 hn.fr;unfold Co.pop at hk;cases z:c.r.live t with
 | false=>
  rw[z]at hk;simp only[yZ,vq]at hk;simp only[zv];refine A4 Fa (AA hn.at_ rfl Cc rfl λw3 hu=>A3 hu.at_ rfl ?_);have f3:Fr [] w w3:=hn.fr.then hu.fr (by simp;omega);exact hk m w3 (Cj.w f3) (h.keep0 f3)
 | true=>
  rw[z]at hk;simp only[vu]at hk;obtain⟨j,rfl,hj⟩:=IB h z;have e:c.th.getD (j:Int).toNat []=c.th[j]'(by rw[h.tl];exact hj):=by simp[List.getD,h.tl,hj]
  rw[e]at hk;simp only[zv];refine F102.k3.to ?_
  try simp only[zv]
  refine AR (by omega) (by omega) ?_;rw[zK,vm];obtain⟨cs3,e3,hr⟩:=h1.ro hj;have hts:j<m.ts.length:=by rw[h.len];exact hj
  have hco:Q.co<w.heap.size:=by obtain⟨cs0,b1,_⟩:=h.blk;exact BP b1
  refine Xe hr (λv hv tv' w2 hf2 h2 hb2=>?_) (λhnil w2 hf2=>?_)
  ·rw[hv]at hk;simp only at hk
   try simp only[zv]
   have hg2:∀y∈BN tv',y∈BN m.ts[j]∨w1.heap.size<=y:=λy hy=>wr (hb2 ▸ hy);have hf2':Fr (Q.co::BN m.ts[j]) w1 w2:=hf2.mono λy hy=>by simp only[zF]at hy;simp[hy]
   have h2':=h1.setT hj hf2' e3 h2 hg2;have ht2:Cj Q m w _ w2:=(Cj.w hn.fr).trans (Cj.t hts hf2' hg2);refine AA (x:=V v.1 v.2) (hf2.at_ hn.at_ (by simp;omega)) rfl Cc rfl λw3 hu=>A3 hu.at_ rfl ?_;refine hk { m with ts:=m.ts.set j tv' } w3 ⟨ht2.fr.then hu.fr (by simp;omega),ht2.gr⟩ ?_;rw[zK];refine h2'.keep hu.fr λy hy ey=>?_;simp only[zF]at ey;subst ey;simp only[C4.all,Mv.all,n7]at hy;have lo:=h.hp.le
   rcases hy with d|d|d|d|d|d
   ·have:=h.low (x:=y) (by simp[d]);omega
   ·have:=h.low (x:=y) (by simp[d]);omega
   ·have:=h.low (x:=y) (by simp[d]);omega
   ·have:=h.hp.gy.stk.own.lt (Cb.1 d);omega
   ·have:=h.fb.fam.lt y d;omega
   ·rcases EQ d with q|q
    ·have:=h.th.lt y q;omega
    ·rw[hb2]at q;have:=h.th.lt y (DV hts q);omega
  ·rw[hnil]at hk;simp only[List.getLast?_nil]at hk
   try simp only[zv]
   refine AA (x:=V 0 0) (hf2.at_ hn.at_ (by simp)) rfl Cc rfl λw3 hu=>A3 hu.at_ rfl ?_;have f3:Fr [] w w3:=(hn.fr.trans hf2).then hu.fr (by simp;omega);exact hk m w3 (Cj.w f3) (h.keep0 f3)
def WO{t n:Int}(h:BZ Q m cf w c)(hk:∀m' w',Cj Q m w m' w'->BZ Q m' cf w' (c.fast cf t n).1->K (match (c.fast cf t n).2 with | wh a=>wc #[v6 wg a,wd wk] | wj=>wc #[v6 wg 0,wd wl]) w'):
  I Z 151 #[v7 (wh ⟨Q.co,0,wj⟩),v6 wg t,v6 wg n] w K:=by
 obtain⟨cs,b1,b2⟩:=h.blk;refine F151.sh (Fq h ?_);unfold Co.fast at hk;cases z:c.r.live t with
 | false=>
  rw[z]at hk;simp only[yZ,vq]at hk;simp only[zv];exact hk m w (Cj.refl _ _ _) h
 | true=>
  rw[z]at hk;simp only[vu]at hk;simp only[zv];refine F151.k3.to ?_
  try simp only[zv]
  refine Ad (v:=v7 (wh ⟨Q.H.D.st,0,wj⟩)) b1 b2.s0 (ND h.hp.st λw1 hf1 h1=>?_);obtain⟨ht1,h1'⟩:=h.setSt hf1 h1;cases e:(c.s.fast t n).2 with
  | none=>
   have e0:c.s.fast t n=(c.s,wj):=by
    unfold St.fast at e ⊢;split at e
    ·rename_i y;rw[vy y]
    ·rename_i y;rw[vx y];split at e
     ·rfl
     ·simp at e
   rw[e0]at hk h1';simp only[zv];exact F151.k6.to (hk m w1 ht1 h1')
  | some a=>
   have e0:c.s.fast t n=((c.s.fast t n).1,wh a):=by rw[<-e]
   rw[e0]at hk;simp only at hk;simp only[zv];refine A9 (λw'=>KB Q c.phase c.global w') λw2 hf2 _=>⟨(h1'.keep0 hf2).kb,?_⟩;have h2:=h1'.keep0 hf2;refine Hh (λw' hw=>⟨_,_,hw⟩) (Au (v:=v6 wg c.phase) (λw' hw=>?_) (Au (v:=v7 (wh ⟨Q.H.sw,0,wj⟩)) (λw' hw=>?_) ⟨WF h2.hp ⟨h2.kb,P2 (c:={ c with s:=(c.s.fast t n).1 }) h2 λlv' w3 ht3 h3=>⟨?_,?_⟩,trivial⟩,trivial⟩))
   ·obtain⟨cs',q1,q2⟩:=hw;exact⟨cs',_,_,q1,q2.2.2.2.2.2.2.1⟩
   ·obtain⟨cs',q1,q2⟩:=hw;exact⟨cs',_,_,q1,q2.2.2.2.2.2.1⟩
   ·have:=h3.kb;rw[(Hu a).1,(Hu a).2]at this;exact this
   ·exact F151.k6.to (hk _ w3 ((ht1.trans (Cj.w hf2)).trans ht3) h3)
def Xm{t n:Int}(h:BZ Q m cf w c)(hk:∀m' w',Cj Q m w m' w'->BZ Q m' cf w' (c.slow cf t n).1->K (wc #[v6 wg (c.slow cf t n).2.1,v6 wg (c.slow cf t n).2.2]) w'):
  I Z 223 #[v7 (wh ⟨Q.co,0,wj⟩),v6 wg t,v6 wg n] w K:=by
 obtain⟨cs,b1,b2⟩:=h.blk;refine F223.sh (FR h ?_)
 try simp only[zv]
 refine Fq h ?_;unfold Co.slow at hk;cases z:c.r.live t with
 | false=>
  rw[z]at hk;simp only[yZ,vq]at hk;simp only[zv];exact hk m w (Cj.refl _ _ _) h
 | true=>
  rw[z]at hk;simp only[vu]at hk;simp only[zv];refine F223.k5.to ?_
  try simp only[zv]
  refine Ad (v:=v7 (wh ⟨Q.H.D.st,0,wj⟩)) b1 b2.s0 (PG h.hp.st λw1 hf1 h1=>?_);obtain⟨ht1,h1'⟩:=h.setSt hf1 h1;generalize c.s.slow cf.pages.toNat (cf.threads+1) t n=r at *
  try simp only[zv]
  by_cases y:r.2.2=0
  ·simp only[y,vu]at hk;simp only[zv,vw,y];refine A9 (λw'=>KB Q c.phase c.global w') λw2 hf2 _=>⟨(h1'.keep0 hf2).kb,?_⟩;have h2:=h1'.keep0 hf2;refine Hh (λw' hw=>⟨_,_,hw⟩) (Au (v:=v6 wg c.phase) (λw' hw=>?_) (Au (v:=v7 (wh ⟨Q.H.sw,0,wj⟩)) (λw' hw=>?_) ⟨WF h2.hp ⟨h2.kb,P2 (c:={ c with s:=r.1 }) h2 λlv' w3 ht3 h3=>⟨?_,?_⟩,trivial⟩,trivial⟩))
   ·obtain⟨cs',q1,q2⟩:=hw;exact⟨cs',_,_,q1,q2.2.2.2.2.2.2.1⟩
   ·obtain⟨cs',q1,q2⟩:=hw;exact⟨cs',_,_,q1,q2.2.2.2.2.2.1⟩
   ·have:=h3.kb;rw[(Hu r.2.1).1,(Hu r.2.1).2]at this;exact this
   ·exact F223.k8.to (hk _ w3 ((ht1.trans (Cj.w hf2)).trans ht3) h3)
  ·simp only[vx y]at hk;simp only[zv,y];exact F223.k8.to (hk m w1 ht1 h1')
def Rq{t:Int}(h:BZ Q m cf w c)(hk:∀w',Fr [] w w'->K (wd (c.barrier t)) w'):I Z 231 #[v7 (wh ⟨Q.co,0,wj⟩),v6 wg t] w K:=by
 refine F231.sh (A9 (λw'=>KB Q c.phase c.global w') λw1 hf1 _=>⟨(h.keep0 hf1).kb,?_⟩);have h1:=h.keep0 hf1;have hk:=hk w1 hf1;refine⟨MH h1 ⟨h1.kb,?_⟩,trivial⟩;unfold Co.barrier at hk;cases z:c.marking with
 | true=>
  rw[z]at hk;simp only[zv];exact⟨⟨h1.kb,⟨⟨h1.kb,by simpa using hk⟩,trivial⟩⟩,trivial⟩
 | false=>
  rw[z]at hk;simp only[zv];refine Au (v:=v6 wg c.phase) (λw' hw=>?_) ?_
  ·obtain⟨cs',q1,q2⟩:=hw;exact⟨cs',_,_,q1,q2.2.2.2.2.2.2.1⟩
  have gre:∀w',KB Q c.phase c.global w'->∃cs e fz,w'.heap[Q.co]?=wh (wt cs e fz)/\cs[0+12]?=wh (v7 (wh ⟨Q.re,0,wj⟩)):=λw' hw=>by
   obtain⟨cs',q1,q2⟩:=hw;exact⟨cs',_,_,q1,q2.2.2.2.1⟩
  by_cases y:c.phase=1
  ·rw[ur y]at hk;simp only[zv,vw,y];refine Au (v:=v7 (wh ⟨Q.re,0,wj⟩)) (λw' hw=>by have:=gre w' (y ▸ hw);simpa using this) (Au (v:=v7 (wh ⟨Q.re,0,wj⟩)) (λw' hw=>by have:=gre w' (y ▸ hw);simpa using this) ⟨Yq h1.rg ⟨y ▸ h1.kb,⟨Vq h1.rg ⟨y ▸ h1.kb,?_⟩,trivial⟩⟩,trivial⟩);by_cases x:c.r.ofT t=c.r.ep
   ·simp only[zv,vw,x]at hk ⊢;simpa using hk
   ·simp only[zv,x]at hk ⊢;simpa[x] using hk
  ·rw[p9 y]at hk;simp only[zv,y];exact⟨⟨h1.kb,⟨⟨h1.kb,by simpa using hk⟩,trivial⟩⟩,trivial⟩
def VS{t a i:Int}{v:V2}(h:BZ Q m cf w c)(hk:∀m' w',Cj Q m w m' w'->BZ Q m' cf w' (c.write t a i v).1->K (wd (c.write t a i v).2) w'):
  I Z 159 #[v7 (wh ⟨Q.co,0,wj⟩),v6 wg t,v6 wg a,v6 wg i,V v.1 v.2] w K:=by
 refine F159.sh (Ar λx w1 hn=>Fq (h.keep0 hn.fr) ?_);have l1:=hn.is;have h1:=h.keep0 hn.fr;have x1:=hn.at_;unfold Co.write at hk;cases z:c.r.live t with
 | false=>
  rw[z]at hk;simp only[yZ,false_and,vq]at hk;simp only[zv];exact hk m w1 (Cj.w hn.fr) h1
 | true=>
 rw[z]at hk;simp only[zv];refine A3 x1 rfl (UW (v:=v) h1 λw2 hf2=>?_);have h2:=h1.keep0 hf2;have x2:=hf2.at_ x1 (by simp);have f2:=hn.fr.trans hf2;cases y:c.may v with
 | false=>
  rw[y]at hk;simp only[yZ,false_and,and_false,vq]at hk;simp only[zv];exact hk m w2 (Cj.w f2) h2
 | true=>
 rw[y]at hk;simp only[zv];obtain⟨cs2,d1,d2⟩:=h2.blk;refine F159.k3.to ?_
 try simp only[zv]
 refine Ad (v:=v7 (wh ⟨Q.H.D.st,0,wj⟩)) d1 d2.s0 (Qv h2.hp.st λw3 hf3=>?_)
 try simp only[zv]
 refine Ar λu w4 hn4=>AA (x:=V (c.s.get a i).1.1 (c.s.get a i).1.2) hn4.at_ rfl Cc rfl λw5 hu5=>?_;have l4:=hn4.is;have s3:=hf3.size;have f25:Fr [] w2 w5:=(hf3.trans hn4.fr).then hu5.fr (by simp;omega);have h5:=h2.keep0 f25;have x5:=f25.at_ x2 (by simp);have u5:=hu5.at_;have f5:=f2.trans f25;cases hg:(c.s.get a i).2 with
 | false=>
  rw[hg]at hk;simp only[yZ,and_false,vq]at hk;simp only[zv];exact hk m w5 (Cj.w f5) h5
 | true=>
 rw[hg]at hk;simp only[and_self,vu]at hk;simp only[zv];refine F159.k6.to ?_
 try simp only[zv]
 refine Ad (v:=v6 wg (c.s.get a i).1.2) u5 rfl ?_;refine Ad (v:=v6 wg (c.s.get a i).1.1) u5 rfl ?_;have fin:∀b' m6 w6,Cj Q m w m6 w6->BZ Q m6 cf w6 { c with b:=b' }->w6.heap[x]?=wh (wt #[v6 wg v.1,v6 wg v.2] 60 (0,0))->
   (∀m' w',Cj Q m w m' w'->BZ Q m' cf w' { c with b:=b',s:=(c.s.set a i v).1 }->K (wd (c.s.set a i v).2) w')->
   F159.k9 K (v7 (wh ⟨Q.co,0,wj⟩)) (v6 wg a) (v6 wg i) (v7 (wh ⟨x,0,wj⟩)) w6:=λb' m6 w6 ht6 h6 x6 hk=>by
  refine F159.k9.to (A9 (λw'=>KB Q c.phase c.global w'/\w'.heap[x]?=wh (wt #[v6 wg v.1,v6 wg v.2] 60 (0,0))) λw7 hf7 _=>⟨⟨(h6.keep0 hf7).kb,hf7.at_ x6 (by simp)⟩,?_⟩);have h7:=h6.keep0 hf7;have x7:=hf7.at_ x6 (by simp)
  try simp only[zv]
  refine Au (v:=v7 (wh ⟨Q.H.D.st,0,wj⟩)) (λw' hw=>?_) (AO (vs:=[v6 wg v.1,v6 wg v.2]) (λw' hw=>⟨_,_,_,hw.2,by simp,rfl⟩) ⟨Xl (v:=v) h7.hp.st λw8 hf8 h8=>?_,trivial⟩)
  ·obtain⟨⟨cs',q1,q2⟩,_⟩:=hw;exact⟨cs',_,_,q1,q2.2.1⟩
  obtain⟨ht8,h8'⟩:=h7.setSt hf8 h8;refine⟨⟨h8'.kb,hf8.at_ x7 (λe=>?_)⟩,hk m6 w8 ((ht6.trans (Cj.w hf7)).trans ht8) h8'⟩;have:=h.hp.st.ltS x e;omega
 by_cases q1:(c.s.get a i).1.1=2
 ·simp only[zv,vw,q1];obtain⟨cs5,e1,e2⟩:=h5.blk;refine Ad (v:=v7 (wh ⟨Q.H.G.gr,0,wj⟩)) e1 e2.s1 (UU h5.hp.gy ?_);cases q2:c.g.is (c.s.get a i).1.2 with
  | true=>
   simp only[zv];rw[vx (λee=>by simp[q2]at ee)]at hk;exact fin c.b m w5 (Cj.w f5) h5 x5 hk
  | false=>
   simp only[zv];refine Rq h5 λw6 hf6=>?_;have h6:=h5.keep0 hf6;have x6:=hf6.at_ x5 (by simp);cases q3:c.barrier t with
   | false=>
    simp only[Ag];rw[vx (λee=>by simp[q3]at ee)]at hk;exact fin c.b m w6 (Cj.w (f5.trans hf6)) h6 x6 hk
   | true=>
    simp only[Ah];rw[vy ⟨q1,by simp[q2],q3⟩]at hk;obtain⟨cs6,g1,g2⟩:=h6.blk;refine Ad (v:=v7 (wh ⟨Q.bu,0,wj⟩)) g1 g2.s13 (WH h6.fb λcc vs' w7 hf7 h7=>?_);have h7':=h6.setB hf7 h7;have x7:=hf7.fr.at_ x6 (λee=>by
     rw[n7]at ee;rcases ee with ee|ee
     ·have:=h.fb.own.lt (Cb.1 ee);omega
     ·have:=h.fb.fam.lt x ee;omega)
    exact fin _ _ w7 ((Cj.w (f5.trans hf6)).trans (Cj.f hf7)) h7' x7 hk
 ·simp only[zv,q1];rw[vx (λee=>q1 ee.1)]at hk;exact fin c.b m w5 (Cj.w f5) h5 x5 hk
end
def bk(i o l:Int)(made:Bool)(m:Int):Obj:=wt #[v6 wg i,v6 wg o,v6 wg l,wd made,v6 wg m] 145 (0,0)
def Dn(n lo hi:Int):Int:=if n<lo then lo else if n>hi then hi else n
def NZ(n lo hi:Int)(h:lo<=hi):lo<=Dn n lo hi/\Dn n lo hi<=hi:=by unfold Dn;omega
section
variable{K:VK}{w:wn}
def FZ(n lo hi:Int)(h:K (v6 wg (Dn n lo hi)) w):I Z 66 #[v6 wg n,v6 wg lo,v6 wg hi] w K:=by refine F66.sh ?_;simp only[zv,B7,zV,xY];unfold Dn at h;refine⟨λh1=>by rwa [vy h1]at h,λh1=>?_⟩;rw[vx h1]at h;refine⟨λh2=>by rwa [vy h2]at h,λh2=>?_⟩;rw[vx h2]at h;exact F66.k5.to h
def NU{g:Nat}{i o l m:Int}{made:Bool}(hg:w.heap[g]?=wh (bk i o l made m))(h:K (wd made) w):I Z 281 #[v7 (wh ⟨g,0,wj⟩)] w K:=by refine F281.sh ?_;refine⟨_,CJ _ _ _ Tryz.underlying91,?_⟩;simp only[zv];refine Ad (v:=wd made) hg rfl ?_;simpa only[Ah,Ag,A1,Az,Av,Ai,Al,A7,AN,AP,Ay,AG,Ap,Bd,AL,AE,Bq,AT,A5,A6,AW,Ba,AY,Ax,AK,AJ,Bu,uu,q9,vd,vw,decide_true,decide_false] using h
def QP{g:Nat}{i o l m:Int}{made:Bool}(hg:w.heap[g]?=wh (bk i o l made m))(h:∀w',Fr [] w w'->w'.heap=w.heap->K (v6 wg (IntKind.i64.wrap (i-o))) w'):
  I Z 302 #[v7 (wh ⟨g,0,wj⟩)] w K:=by refine F302.sh (A9 (λw'=>w'.heap[g]?=wh (bk i o l made m)) λw1 hf he=>⟨by rw[he];exact hg,?_⟩);simp only[zv];refine Au (v:=v6 wg i) (λw' hw=>⟨_,_,_,hw,rfl⟩) (Au (v:=v6 wg o) (λw' hw=>⟨_,_,_,hw,rfl⟩) ?_);simp only[AN];exact h w1 hf he
def Wa{g:Nat}{i o l m:Int}(hg:w.heap[g]?=wh (bk i o l wk m))(h:K (v7 (wh ⟨g,0,wj⟩)) w):I Z 301 #[v7 (wh ⟨g,0,wj⟩)] w K:=by refine F301.sh (NU hg ?_);simp only[zv];refine F301.k3.to ?_;simp only[zv];exact h
def Iw{g:Nat}{i o l m:Int}(hg:w.heap[g]?=wh (bk i o l wk m))(h:∀w',Fr [] w w'->w'.heap=w.heap->K (v6 wg (IntKind.i64.wrap (i-o))) w'):
  I Z 274 #[v7 (wh ⟨g,0,wj⟩)] w K:=F274.sh (Wa hg (QP hg h))
structure Ty(i o l m:Int):Prop where
 m1:m<=65535
 b0:0<=i-o
 b1:i-o<=m
 i0:0<=i
 o0:0<=o
 l0:0<=l
 i1:i<=1152921504606846976
 l1:l<=1152921504606846976
def Wb{g:Nat}{i o l m:Int}(n:Int)(hg:w.heap[g]?=wh (bk i o l wk m))(hk:Ty i o l m)(h:∀w',Fr [g] w w'->w'.heap[g]?=wh (bk (i+min (Dn n 0 2147483648) (m-(i-o))) o (l+(Dn n 0 2147483648-min (Dn n 0 2147483648) (m-(i-o)))) wk m)->K (v6 wg (min (Dn n 0 2147483648) (m-(i-o)))) w'):
  I Z 235 #[v7 (wh ⟨g,0,wj⟩),v6 wg n] w K:=by
 obtain⟨h1,h2,h3,h4,h5,h6,h7,h8⟩:=hk;refine F235.sh (NU hg ?_);simp only[zv];refine F235.k3.to (FZ _ _ _ ?_);have hc:=NZ n 0 2147483648 (by omega);generalize Dn n 0 2147483648=c at *;refine A9 (λw'=>w'.heap[g]?=wh (bk i o l wk m)) λw1 hf1 he1=>⟨by rw[he1];exact hg,?_⟩;have hg1:w1.heap[g]?=wh (bk i o l wk m):=by rw[he1];exact hg
 simp only[zv];refine Au (v:=v6 wg m) (λw' hw=>⟨_,_,_,hw,rfl⟩) ⟨Iw hg1 λw2 hf2 he2=>?_,trivial⟩;have hg2:w2.heap[g]?=wh (bk i o l wk m):=by rw[he2];exact hg1
 refine⟨hg2,?_⟩;rw[BO (n:=i-o) (by omega)];simp only[AN];rw[BO (n:=m-(i-o)) (by omega)];generalize hq:min c (m-(i-o))=q at *;refine⟨_,λw' _=>Hi _ _ _ _ _ _,?_⟩;rw[hq];refine Ad (v:=v6 wg i) hg2 rfl ?_;simp only[zv];rw[BO (n:=i+q) (by omega)];refine AI hg2 rfl rfl (by simp) λw3 hu3=>?_;refine Ad (v:=v6 wg l) hu3.at_ rfl ?_;simp only[A7];rw[BO (n:=c-q) (by omega),BO (n:=l+(c-q)) (by omega)]
 refine AI hu3.at_ rfl rfl (by simp) λw4 hu4=>?_;refine h w4 ?_ hu4.at_;exact (hf1.w.trans hf2.w).trans (hu3.fr.trans hu4.fr)
def Sb{g:Nat}{i o l m:Int}(n:Int)(hg:w.heap[g]?=wh (bk i o l wk m))(hk:Ty i o l m)(h:∀w',Fr [g] w w'->w'.heap[g]?=wh (bk i (o+Dn n 0 (i-o)) l wk m)->K (v6 wg (Dn n 0 (i-o))) w'):
  I Z 275 #[v7 (wh ⟨g,0,wj⟩),v6 wg n] w K:=by
 obtain⟨h1,h2,h3,h4,h5,h6,h7,h8⟩:=hk;refine F275.sh (NU hg ?_);simp only[zv];refine F275.k3.to (Iw hg λw1 hf1 he1=>?_);rw[BO (n:=i-o) (by omega)];refine FZ _ _ _ ?_;have hc:=NZ n 0 (i-o) (by omega);generalize Dn n 0 (i-o)=c at *;have hg1:w1.heap[g]?=wh (bk i o l wk m):=by rw[he1];exact hg
 simp only[zv];refine Ad (v:=v6 wg o) hg1 rfl ?_;simp only[A7];rw[BO (n:=o+c) (by omega)];refine AI hg1 rfl rfl (by simp) λw2 hu2=>?_;exact h w2 (hf1.w.trans hu2.fr) hu2.at_
def VY(b:Bool)(m:Int):(Instr.build 145 #[(1,wd b),(2,v6 wg m)]).run Z w=.ok (.agg #[v6 wg 0,v6 wg 0,v6 wg 0,wd b,v6 wg m]) w:=by kernel_rfl
def VZ(n:Int)(h:∀g w',DE w g (bk 0 0 0 wk (Dn n 0 65535)) w'->K (v7 (wh ⟨g,0,wj⟩)) w'):I Z 44 #[v6 wg n] w K:=by refine F44.sh (FZ _ _ _ ⟨_,_,VY _ _,?_⟩);exact Ar h
structure N8(B i o l m:Int):Prop extends Ty i o l m where
 iB:i<=B
 lB:l<=B
end
end
noncomputable section
variable{K:VK}{w:wn}{x0 x1 y0 y1 y6 y7 y8:wm}
namespace F238
def ann:Cg:=⟨[(3,[0,1]),(6,[0,6]),(9,[7,8]),(10,[7])],[(8,[7,8])],[],[(9,(tk [0,1,2,4,5,3,6] (.go 7 (tk [8,9] .fin) .fin)))],wj⟩
def code:=cd Tryz.f238
def BM:=tp Tryz.f238
variable(K:VK)(y0 y1 y6 y7 y8:wm)(w:wn)
def k3:=nk ann 48 [(0,y0),(1,y1)] w [1,1] code (BM K)
def k6:=nk ann 48 [(0,y0),(6,y6)] w [1,1,1,1] code (BM K)
def k10:=nk ann 48 [(7,y7)] w [1,1,1,1,1,1,1] code (BM K)
def l8:=nl ann 48 [(7,y7),(8,y8)] w [1,1,1,1,1,1,0,0] code (BM K)
def k9:=nk ann 48 [(7,y7),(8,y8)] w [1,1,1,1,1,1,0,0,0,1] code (BM K)
attribute [irreducible] k3 k6 k10 l8 k9
end F238
def F238.k3.to(h:(AD y0 w λa b=>AZ .u64 a b λc d=>AZ .u64 y1 d λf g=>I Z 282 #[c,f] g λi j=>Ao 0 i j λk m=>Ao 1 i m λo p=>U .gtr k (v6 .u64 0) p λq r=>Aa wl q (λK=>K o r) r λs t=>Aa wl q (U .gtr s (v6 .u64 9223372036854775807) t) t λu v=>Aw (wh q) (wh (wd wk)) (wh u) v λx y=>Af x (Am Z (Instr.makeInterface 9 (.string { data := #[116,104,101,32,114,101,115,117,108,116,32,111,102,32,40,108,101,110,40,120,41,32,42,32,99,111,117,110,116,41,32,111,118,101,114,102,108,111,119,115] })) y λz aa=>False) (F238.k6 K y0 o y))):F238.k3 K y0 y1 w:=qq h
def F238.k6.to(h:(AZ wg y6 w λa b=>Am Z (Instr.makeSlice 84 a a) b λc d=>Am Z (Builtin.copy_ #[84,84] 3 #[c,y0]) d λf g=>F238.l8 K c f g)):F238.k6 K y0 y6 w:=qq h
def F238.k10.to(h:(K y7 w)):F238.k10 K y7 w:=qq h
def F238.l8.to(h:(AD y7 w λa b=>U .lss y8 a b λc d=>Af c (F238.k9 K y7 y8 d) (F238.k10 K y7 d))):F238.l8 K y7 y8 w:=by unfold F238.l8 nl;exact BW (qq h)
def F238.k9.to(h:(A2 w λS a=>∃b,(∀w',S w'->(Instr.sliceAt 84 y7 (wh y8) wj wj).run Z w'=.ok b w')/\(∃c,(∀w',S w'->(Instr.sliceAt 84 y7 wj (wh y8) wj).run Z w'=.ok c w')/\((Am Z (Builtin.copy_ #[84,84] 3 #[b,c]) a λd f=>(S f/\
 U .add y8 d f λg i=>F238.l8 K y7 g i))/\True)))):F238.k9 K y7 y8 w:=qq h
def F238.sh(h:(U .lss x1 (v6 wg 0) w λa b=>Af a (Am Z (Instr.makeInterface 9 (.string { data := #[99,97,110,110,111,116,32,98,101,32,110,101,103,97,116,105,118,101] })) b λc d=>False) (F238.k3 K x0 x1 b))):I Z 238 #[x0,x1] w K:=BK (A:=F238.ann) (args:=[x0,x1]) (qq h)
namespace F282
def ann:=a1 [(3,[0,1])]
def code:=cd Tryz.f282
def BM:=tp Tryz.f282
variable(K:VK)(y0 y1:wm)(w:wn)
@[irreducible]def k3:=nk ann 30 [(0,y0),(1,y1)] w [1,1] code (BM K)
end F282
def F282.k3.to(h:(I Z 307 #[y0,y1] w λa b=>Ao 0 a b λc d=>Ao 1 a d λf g=>K (wc #[c,f]) g)):F282.k3 K y0 y1 w:=qq h
def F282.sh(h:(Af (wd wl) (AZ .u32 x0 w λa b=>AZ .u32 x1 b λc d=>I Z 306 #[a,c] d λf g=>Ao 0 f g λi j=>Ao 1 f j λk m=>AZ .u64 i m λo p=>AZ .u64 k p λq r=>K (wc #[o,q]) r) (F282.k3 K x0 x1 w))):I Z 282 #[x0,x1] w K:=BK (A:=F282.ann) (args:=[x0,x1]) (qq h)
def F307.sh(h:(AB Z .and 210 (.tmp 14) (.const (v6 .u64 4294967295)) x0 (v6 .u64 4294967295) w λa b=>AB Z .shr 210 (.tmp 16) (.const (v6 .u64 32)) x0 (v6 .u64 32) b λc d=>AB Z .and 210 (.tmp 18) (.const (v6 .u64 4294967295)) x1 (v6 .u64 4294967295) d λf g=>AB Z .shr 210 (.tmp 20) (.const (v6 .u64 32)) x1 (v6 .u64 32) g λi j=>U .mul a f j λk m=>U .mul c f m λo p=>AB Z .shr 210 (.tmp 28) (.const (v6 .u64 32)) k (v6 .u64 32) p λq r=>U .add o q r λs t=>AB Z .and 210 (.tmp 31) (.const (v6 .u64 4294967295)) s (v6 .u64 4294967295) t λu v=>AB Z .shr 210 (.tmp 33) (.const (v6 .u64 32)) s (v6 .u64 32) v λx y=>U .mul a i y λz aa=>U .add u z aa λab ac=>U .mul c i ac λad ae=>U .add ad x ae λaf ag=>AB Z .shr 210 (.tmp 45) (.const (v6 .u64 32)) ab (v6 .u64 32) ag λah ai=>U .add af ah ai λaj ak=>U .mul x0 x1 ak λal am=>K (wc #[aj,al]) am)):I Z 307 #[x0,x1] w K:=BK (A:=A0) (args:=[x0,x1]) (qq h)
end
section
open Go.RowKit
section
variable{K:VK}{w:wn}
def V0(n:Int)(h0:0<=n)(h1:n<4294967296)(h:K (wc #[v6 .u64 0,v6 .u64 n]) w):I Z 282 #[v6 .u64 1,v6 .u64 n] w K:=by
 refine F282.sh ?_;simp only[zv];refine F282.k3.to (F307.sh ⟨_,Jz _ _ 1 (by omega) (by omega),_,Hl _ _ 1,_,Jz _ _ n h0 (by omega),_,Hl _ _ n,?_⟩);have e1:n % 4294967296=n:=by omega
 have e2:n / 4294967296=0:=by omega
 simp only[zv,e1,e2,show (1:Int) % 4294967296=1 by decide,show (1:Int) / 4294967296=0 by decide,Int.one_mul,Int.zero_mul,Int.mul_zero];rw[DA (n:=n) (by omega),DA (n:=0) (by omega)];refine⟨_,Hl _ _ n,?_⟩;simp only[A7,e2,Int.add_zero];rw[DA (n:=0) (by omega)];refine⟨_,Jz _ _ 0 (by omega) (by omega),_,Hl _ _ 0,?_⟩
 simp only[A7,show (0:Int) % 4294967296=0 by decide,show (0:Int) / 4294967296=0 by decide,Int.add_zero];rw[DA (n:=0) (by omega)];refine⟨_,Hl _ _ 0,?_⟩;simp only[A7,show (0:Int) / 4294967296=0 by decide,Int.add_zero];rw[DA (n:=0) (by omega)];exact h
def TW{g k m n:Nat}{cs:Array wm}{x:wm}(hg:w.heap[g]?=wh (wt cs 4 (0,0)))(hcs:cs.size=n)(hk:0<k)(hkn:k<n)(hx:x.oneCell'=wk)(ht:cs.toList.take k=List.replicate k x)(hm:m=min k (n-k)){F:VK}(h:∀w' cs',H9 w g (wt cs' 4 (0,0)) w'->cs'.size=n->cs'.toList.take (k+m)=List.replicate (k+m) x->F (v6 wg (m:Int)) w'):
  Am Z (Builtin.copy_ #[84,84] 3 #[v8 (wh ⟨g,k,wj⟩) (n-k) (n-k),v8 (wh ⟨g,0,wj⟩) k n]) w F:=by
 have hr:=run_copy_row (P:=Z) w 84 84 3 4 g k (n-k) (n-k) ⟨g,0,wj⟩ k n cs 4 (List.replicate m x) Tryz.underlying84 (by kernel_rfl) hg (by rw[yJ,hm])
  (λj v hj=>by
   rw[xX]at hj;split at hj
   ·rename_i hjm;rw[add_mk,Eu hg, <-yF,vd, <-hj];have:=vr (λl:List wm=>l[j]?) ht;simp only[zD,xX]at this;rw[vy (by omega),vy (by omega)]at this;exact this
   ·cases hj) (by rw[yJ];omega) (λv hv=>by rw[xR hv];exact hx)
 refine A4 hr ?_;rw[yJ];refine h _ _ (Jm hg) ?_ ?_
 ·simp;omega
 ·rw[ht];rw[List.take_append_of_le_length (by simp),List.replicate_append_replicate,yB (by simp)]
def UB{W0:wn}{g n:Nat}{x:wm}(hx:x.oneCell'=wk)(hn:n<=1000000)(hg0:W0.heap.size<=g):
  ∀(d k:Nat) (w:wn) (cs:Array wm),n<=k+d->0<k->k<=n->Fr [] W0 w->w.heap[g]?=wh (wt cs 4 (0,0))->cs.size=n->cs.toList.take k=List.replicate k x->
   (∀w',Fr [] W0 w'->BQ w' (v8 (wh ⟨g,0,wj⟩) n n) 4 1 (List.replicate n [x])->K (v8 (wh ⟨g,0,wj⟩) n n) w')->F238.l8 K (v8 (wh ⟨g,0,wj⟩) n n) (v6 wg (k:Int)) w:=by
 intro d;induction d with
 | zero=>
  intro k w cs hd h0 hk hf hg hcs ht h;have hkn:k=n:=by omega
  subst hkn;refine F238.l8.to ?_;simp only[zv,show ¬((k:Int)<(k:Int)) by omega];refine F238.k10.to (h w hf ?_);refine BQ.of_block hg (by simp) (vl _) (by omega) (by omega) (λy hy=>?_) ?_
  ·rw[xR hy];exact⟨rfl,by simpa using hx⟩
  ·rw[vm,ht];have:∀m:Nat,List.replicate m x=(List.replicate m [x]).flatten:=λm=>by
    induction m with
    | zero=>rfl
    | succ m ih=>rw[yX,yX,zM, <-ih];rfl
   exact this k
 | succ d ih=>
  intro k w cs hd h0 hk hf hg hcs ht h;rcases Nat.lt_or_ge k n with hlt|hge
  ·refine F238.l8.to ?_;simp only[zv,show ((k:Int)<(n:Int)) by omega];refine F238.k9.to (A9 (λ_=>True) λw1 hf1 he1=>⟨trivial,?_⟩);have hg1:=hf1.at_ hg (by simp);have r1:∀w':wn,(Instr.sliceAt 84 (v8 (wh ⟨g,0,wj⟩) n n) (wh (v6 wg (k:Int))) wj wj).run Z w'=.ok (v8 (wh ⟨g,k,wj⟩) (n-k) (n-k)) w':=λw'=>by
    have:=FU (P:=Z) (w:=w') (t:=84) (e:=4) (sz:=1) (wh ⟨g,0,wj⟩) n n wg (k:Int) Tryz.underlying84 (by kernel_rfl) (by omega) (by omega);rw[zK,vx (by omega)]at this;simpa[add_mk] using this
   have r2:∀w':wn,(Instr.sliceAt 84 (v8 (wh ⟨g,0,wj⟩) n n) wj (wh (v6 wg (k:Int))) wj).run Z w'=.ok (v8 (wh ⟨g,0,wj⟩) k n) w':=λw'=>by
    have:=GT (P:=Z) (w:=w') (t:=84) (e:=4) (sz:=1) (wh ⟨g,0,wj⟩) n n wg (k:Int) Tryz.underlying84 (by kernel_rfl) (by omega) (by omega)
    rwa [zK]at this
   refine⟨_,λw' _=>r1 w',_,λw' _=>r2 w',TW hg1 hcs h0 hlt hx ht rfl λw2 cs2 hu hcs2 ht2=>⟨trivial,?_⟩,trivial⟩;simp only[A7];rw[BO (by omega),show (k:Int)+((min k (n-k):Nat):Int)=((k+min k (n-k):Nat):Int) by omega];refine ih _ w2 cs2 (by omega) (by omega) (by omega) ((hf.trans hf1).then hu.fr λy hy=>?_) hu.at_ hcs2 ht2 h;simp only[zF]at hy;exact ws (by omega)
  ·exact ih k w cs (by omega) h0 hk hf hg hcs ht h
def Jv{v x:wm}{n:Nat}(hv:Cp w v 1 [[x]])(hx:x.oneCell'=wk)(hn:n<=1000000)(h:∀v' w',Fr [] w w'->BQ w' v' 4 1 (List.replicate n [x])->BY w v'->K v' w'):I Z 238 #[v,v6 wg (n:Int)] w K:=by
 refine F238.sh ?_;simp only[zv,show ¬((n:Int)<0) by omega];refine F238.k3.to (AH hv ?_);simp only[Bq,List.length_singleton];rw[DA (n:=(n:Int)) (by omega),DA (n:=((1:Nat):Int)) (by omega)];refine V0 (n:Int) (by omega) (by omega) ?_;simp only[zv,show ¬((0:Int)>0) by omega,show ¬((n:Int)>9223372036854775807) by omega];refine F238.k6.to ?_;simp only[Bq];rw[BO (by omega)]
 refine Bf (e:=4) (sz:=1) (bytes:=1) (z:=wd wl) n Tryz.underlying84 (by kernel_rfl) rfl (by decide) (by intro u hu;simp[wm.cells]at hu;subst hu;rfl) (by omega) (by omega) λg w1 hn1 ho1=>?_;have hg0:w.heap.size<=g:=by have:=hn1.is;omega
 have fin:∀w',Fr [] w w'->BQ w' (v8 (wh ⟨g,0,wj⟩) n n) 4 1 (List.replicate n [x])->K (v8 (wh ⟨g,0,wj⟩) n n) w':=λw' hf ho=>h _ w' hf ho λg' hg'=>by
  simp only[wm.ownBlock,zS]at hg';omega
 obtain⟨A,c,rfl,hc,hm,hcell⟩:=hv.keep hn1.fr;obtain⟨g',o,cs',e',fz',rfl,hg',hcc⟩:=hcell (by simp);have hx0:=(hcc 0 [x] rfl).2 0 (by omega);simp only[Nat.zero_mul,u9,xW]at hx0;rcases Nat.eq_zero_or_pos n with rfl|hpos
 ·refine A4 (run_copy_none (P:=Z) w1 84 84 3 4 _ _ 0 0 _ c Tryz.underlying84 (by kernel_rfl) (by simp)) ?_;refine F238.l8.to ?_;have e:¬((0:Int)<((0:Nat):Int)):=by omega
  simp only[goInt,Ag,Ap,AT,decide_false,e];exact F238.k10.to (fin w1 hn1.fr ho1)
 ·have hr:=run_copy_row (P:=Z) w1 84 84 3 4 g 0 n n ⟨g',o,wj⟩ [[x]].length c _ 4 [x] Tryz.underlying84 (by kernel_rfl) hn1.at_ (show 1=min 1 n by omega)
   (λj y hj=>by
    rcases j with _|j
    ·simp only[xW,zS]at hj;subst hj;rw[add_mk,Eu hg',u9];exact hx0
    ·simp at hj) (by simp[size_madeCells];omega) (by intro y hy;simp at hy;subst hy;exact hx)
  refine A4 hr ?_;have hu:=Jm (cs':=((madeCells (wd wl:wm).cells (n*1)).toList.take 0++[x]++(madeCells (wd wl:wm).cells (n*1)).toList.drop (0+[x].length)).toArray) hn1.at_;refine UB (W0:=w) (x:=x) hx hn hg0 n 1 _ _ (by omega) (by omega) (by omega) (hn1.fr.then hu.fr λy hy=>?_) hu.at_ ?_ ?_ fin
  ·simp only[zF]at hy;exact ws (by omega)
  ·simp[size_madeCells];omega
  ·simp
end
def CA(l:List Bool):List (List wm):=l.map λb=>[wd b]
def Dm(l:List Bool):(CA l).length=l.length:=by simp[CA]
def J3{l:List Bool}{j:Nat}(h:j<l.length):(CA l)[j]?=wh [wd l[j]]:=by simp[CA,h]
def Sc(l k:List Bool):CA (l++k)=CA l++CA k:=by simp[CA]
def Sd(n:Nat)(b:Bool):CA (List.replicate n b)=List.replicate n [wd b]:=by simp[CA]
def L4(l:List Bool)(n:Nat):CA (l.drop n)=(CA l).drop n:=by simp[CA,List.map_drop]
def MQ{l:List Bool}:∀y∈CA l,∀u∈y,u.oneCell'=wk:=by intro y hy u hu;simp only[CA,u7]at hy;obtain⟨x,_,rfl⟩:=hy;simp only[ux,i9,vt]at hu;subst hu;rfl
def FE{α : Type}(f:Nat -> α)(t:Nat)(x : α):DH f t x t=x:=vy rfl
def HQ{α : Type}(f:Nat -> α){t u:Nat}(x : α)(h:u≠t):DH f t x u=f u:=vx h
def MD(T:Nat)(S:Nat->wm)(cs:Array wm):Prop:=cs.size=T*3/\∀t,t<T->cs[t*3]?=wh (S t)/\(∃a,cs[t*3+1]?=wh (v6 wg a))/\∃b,cs[t*3+2]?=wh (v6 wg b)
def MD.set0{T:Nat}{S:Nat->wm}{cs:Array wm}(h:MD T S cs){t:Nat}(ht:t<T)(x:wm):MD T (DH S t x) (cs.setIfInBounds (t*3) x):=by
 refine⟨by simpa using h.1,λu hu=>?_⟩;obtain⟨h1,⟨a,h2⟩,⟨b,h3⟩⟩:=h.2 u hu;have:=h.1;refine⟨?_,⟨a,?_⟩,⟨b,?_⟩⟩
 ·by_cases e:u=t
  ·subst e;rw[FE,wY,vy rfl,vy (by omega)]
  ·rw[HQ _ _ e,wY,vx (by omega),h1]
 ·rw[wY,vx (by omega),h2]
 ·rw[wY,vx (by omega),h3]
def MD.set12{T:Nat}{S:Nat->wm}{cs:Array wm}(h:MD T S cs){t k:Nat}(ht:t<T)(hk:k=1∨k=2)(n:Int):MD T S (cs.setIfInBounds (t*3+k) (v6 wg n)):=by
 refine⟨by simpa using h.1,λu hu=>?_⟩;obtain⟨h1,⟨a,h2⟩,⟨b,h3⟩⟩:=h.2 u hu;have:=h.1;refine⟨?_,?_,?_⟩
 ·rw[wY,vx (by omega),h1]
 ·rw[wY];by_cases e:t*3+k=u*3+1
  ·rw[vy e,vy (by omega)];exact⟨n,rfl⟩
  ·rw[vx e];exact⟨a,h2⟩
 ·rw[wY];by_cases e:t*3+k=u*3+2
  ·rw[vy e,vy (by omega)];exact⟨n,rfl⟩
  ·rw[vx e];exact⟨b,h3⟩
def JB(win most:Int)(bb T:Nat):Obj:=wt #[v6 wg win,v6 wg most,v8 (wh ⟨bb,0,wj⟩) T T] 141 (0,0)
structure Ew(w:wn)(g bb T:Nat)(win most:Int)(S:Nat->wm)(L:Nat->List Bool):Prop where
 obj:w.heap[g]?=wh (JB win most bb T)
 bk:∃cs,w.heap[bb]?=wh (wt cs 231 (0,0))/\MD T S cs
 own:∀t,t<T->BQ w (S t) 4 1 (CA (L t))
 gb:g≠bb
 sg:∀t,t<T->∀x∈BN (S t),x≠g/\x≠bb
 ss:∀t,t<T->∀u,u<T->t≠u->∀x∈BN (S t),x∉BN (S u)
def Ew.keep{A:List Nat}{w w':wn}{g bb T:Nat}{win most:Int}{S:Nat->wm}{L:Nat->List Bool}(h:Ew w g bb T win most S L)(hf:Fr A w w')(h1:g∉A)(h2:bb∉A)(h3:∀t,t<T->∀x∈BN (S t),x∉A):Ew w' g bb T win most S L:=by obtain⟨cs,hb,hc⟩:=h.bk;exact⟨hf.at_ h.obj h1,⟨cs,hf.at_ hb h2,hc⟩,λt ht=>(h.own t ht).keep' hf (h3 t ht),h.gb,h.sg,h.ss⟩
def Ew.keep0{w w':wn}{g bb T:Nat}{win most:Int}{S:Nat->wm}{L:Nat->List Bool}(h:Ew w g bb T win most S L)(hf:Fr [] w w'):Ew w' g bb T win most S L:=h.keep hf (by simp) (by simp) (by simp)
def Ew.row{A:List Nat}{w w':wn}{g bb T t:Nat}{win most:Int}{S:Nat->wm}{L:Nat->List Bool}(h:Ew w g bb T win most S L)(ht:t<T)(hf:Fr A w w'){s:wm}{l:List Bool}(hb:∃cs,w'.heap[bb]?=wh (wt cs 231 (0,0))/\MD T (DH S t s) cs)(ho:BQ w' s 4 1 (CA l))(hs:∀x∈BN s,x∈BN (S t)∨w.heap.size<=x)(hA:∀x∈A,x=bb∨x∈BN (S t)):Ew w' g bb T win most (DH S t s) (DH L t l):=by
 have lt:∀u,u<T->∀x∈BN (S u),x<w.heap.size:=λu hu=>(h.own u hu).mem_lt;have lg:=BP h.obj;obtain⟨cs0,hb0,_⟩:=h.bk;have lb:=BP hb0;have hg:∀x∈BN (S t),x≠g/\x≠bb:=h.sg t ht;have sx:∀x∈BN s,x≠g/\x≠bb:=λx hx=>by
  rcases hs x hx with h|h
  ·exact hg x h
  ·exact⟨by omega,by omega⟩
 have sy:∀u,u<T->u≠t->∀x∈BN s,x∉BN (S u):=λu hu hne x hx hy=>by
  rcases hs x hx with h'|h'
  ·exact h.ss t ht u hu (vv hne) x h' hy
  ·have:=lt u hu x hy;omega
 refine⟨hf.at_ h.obj λhx=>?_,hb,λu hu=>?_,h.gb,λu hu=>?_,λu hu v hv hne=>?_⟩
 ·rcases hA _ hx with h'|h'
  ·exact h.gb h'
  ·exact (hg _ h').1 rfl
 ·by_cases e:u=t
  ·subst e;rw[FE,FE];exact ho
  ·rw[HQ _ _ e,HQ _ _ e];refine (h.own u hu).keep' hf λx hx hx'=>?_;rcases hA _ hx' with h'|h'
   ·exact (h.sg u hu x hx).2 h'
   ·exact h.ss u hu t ht e x hx h'
 ·by_cases e:u=t
  ·subst e;rw[FE];exact sx
  ·rw[HQ _ _ e];exact h.sg u hu
 ·by_cases e:u=t
  ·subst e;rw[FE,HQ _ _ (vv hne)];exact sy v hv (vv hne)
  ·rw[HQ _ _ e];by_cases e':v=t
   ·subst e';rw[FE];exact λx hx hx'=>sy u hu e x hx' hx
   ·rw[HQ _ _ e'];exact h.ss u hu v hv hne
section
variable{K:VK}{w:wn}
def X4(b:Bool):(Instr.buildSlice 84 1 #[(0,wd b)]).run Z w=.ok (v8 (wh ⟨w.heap.size,0,wj⟩) 1 1) (w.alloc (wt #[wd b] 4)):=by kernel_rfl
def X5:(Instr.buildSlice 84 0 #[]).run Z w=.ok (v8 (wh ⟨w.heap.size,0,wj⟩) 0 0) (w.alloc (wt #[] 4)):=by kernel_rfl
def Tz{v:wm}{l:List Bool}(hv:Cp w v 1 (CA l))(hl:l.length<=1000000)(h:∀v' w',Fr [] w w'->BQ w' v' 4 1 (CA l)->BY w v'->K v' w'):I Z 239 #[v] w K:=by
 have hv':=hv;obtain⟨A,c,rfl,h1,h2,h3⟩:=hv;refine F239.sh ⟨_,HC (e:=4) _ _ _ _ _ Tryz.underlying84,?_⟩;cases A with
 | none=>
  have:l=[]:=by
   cases l with
   | nil=>rfl
   | cons x l=>obtain⟨g,o,cs,e,fz,hA,_⟩:=h3 (by simp[CA]);cases hA
  subst this;simp only[Option.isNone_none,Ah];exact h _ w (Fr.refl _ _) (BQ.nil w 4 1) (BY.nil w)
 | some a=>
  simp only[Option.isNone_some,Ag];refine F239.k3.to (A4 X5 ?_);have hn:=DE.mk' w (wt #[] 4);refine Bm (xs:=[]) (e:=4) (sz:=1) (bytes:=1) (z:=wd wl) Tryz.underlying84 (by kernel_rfl) rfl (by decide) (BQ.of_block hn.at_ rfl (by simp) (by simp) rfl (by simp) (by simp)) (hv'.keep hn.fr) MQ (by rw[Dm];simp;omega) (by rw[Dm];simp;omega) λv' w' ho hf hb _=>?_
  refine h v' w' (hn.fr.then hf λx hx=>?_) (by simpa using ho) λg hg=>?_
  ·rw[Cb]at hx;simp only[wm.ownBlock,zS]at hx;exact ws (by omega)
  ·rcases hb with hb|⟨g',hb,hle⟩
   ·rw[hb]at hg;simp only[wm.ownBlock,zS]at hg;omega
   ·rw[hb]at hg;simp only[zS]at hg;subst hg;exact va hn.fr.size hle
def Mz{g bb T:Nat}{win most:Int}{S:Nat->wm}{L:Nat->List Bool}{t:Nat}(hL:Ew w g bb T win most S L)(ht:t<T)(h:K (v7 (wh ⟨bb,t*3,wj⟩)) w):I Z 166 #[v7 (wh ⟨g,0,wj⟩),v6 wg (t:Int)] w K:=by refine F166.sh ⟨_,Ck _ _ _ Tryz.underlying89,?_⟩;simp only[zv,show ¬((t:Int)<0) by omega];refine Ad (v:=v8 (wh ⟨bb,0,wj⟩) T T) hL.obj rfl ?_;simp only[zv,show ¬((t:Int)≥(T:Int)) by omega];refine F166.k3.to ?_;simp only[zv];refine Ad (v:=v8 (wh ⟨bb,0,wj⟩) T T) hL.obj rfl ?_;simp only[Bt,zK,vd];exact⟨⟨by omega,by omega⟩,h⟩
def TT{l:List Bool}{j:Nat}(h:j<l.length):cnt (l.take (j+1))=cnt (l.take j)+if l[j]=wk then 1 else 0:=by unfold cnt;rw[zR,xS h,List.count_append];simp only[zH,List.count_singleton,beq_iff_eq]
def Sj(l:List Bool):cnt l<=l.length:=List.count_le_length
def Mq{v:wm}{l:List Bool}(hv:Cp w v 1 (CA l)):
  ∀(d j:Nat),l.length=j+d->K (v6 wg (cnt l:Int)) w->F236.l3 K (v6 wg (cnt (l.take j):Int)) v (v6 wg (l.length:Int)) (v6 wg (j:Int)) w:=by
 intro d;induction d with
 | zero=>
  intro j hd h;refine F236.l3.to ?_;simp only[zv,show ¬((j:Int)<(l.length:Int)) by omega];rw[yB (by omega)];exact F236.k8.to h
 | succ d ih=>
  intro j hd h;have jl:j<l.length:=by omega
  have hle:=hv.le;rw[Dm]at hle;have hc:=TT jl;have hc2:=Sj (l.take j);rw[i8]at hc2;refine F236.l3.to ?_;simp only[zv,show ((j:Int)<(l.length:Int)) by omega];refine F236.k4.to (AU hv (by omega) (by rw[zK];exact J3 jl) λg o cs e fz hg hl' hcc=>Ad (v:=wd l[j]) hg (by simpa using hcc 0 (by omega)) ?_);have next:F236.k7 K (v6 wg (cnt (l.take (j+1)):Int)) v (v6 wg (l.length:Int)) (v6 wg (j:Int)) w:=by refine F236.k7.to ?_;simp only[A7];rw[BO (n:=(j:Int)+1) (by omega),show (j:Int)+1=((j+1:Nat):Int) by omega];exact ih (j+1) (by omega) h
  cases hb:l[j] with
  | true=>
   simp only[zv];rw[hb,vy rfl]at hc;rw[BO (n:=(cnt (l.take j):Int)+1) (by omega),show (cnt (l.take j):Int)+1=((cnt (l.take (j+1)):Nat):Int) by omega];exact next
  | false=>
   simp only[zv];rw[hb,vx (by simp)]at hc;rw[show cnt (l.take j)=cnt (l.take (j+1)) by omega];exact next
def Pi{g bb T:Nat}{win most:Int}{S:Nat->wm}{L:Nat->List Bool}{t:Nat}(hL:Ew w g bb T win most S L)(ht:t<T)(but:Nat)(hbut:but<=1000000)(h:∀w',Fr [] w w'->K (v6 wg (cnt ((L t).drop but):Int)) w'):I Z 236 #[v7 (wh ⟨bb,t*3,wj⟩),v6 wg (but:Int)] w K:=by
 obtain⟨cs,hb,hc⟩:=hL.bk;have ho:=hL.own t ht;refine F236.sh (A9 (λw'=>w'.heap[bb]?=wh (wt cs 231 (0,0))) λw1 hf1 he1=>⟨by rw[he1];exact hb,?_⟩);simp only[zv,u9];refine Au (v:=S t) (λw' hw=>⟨_,_,_,hw,(hc.2 t ht).1⟩) (Au (v:=S t) (λw' hw=>⟨_,_,_,hw,(hc.2 t ht).1⟩) ?_);have hrd:=(ho.keep hf1 (by simp)).rd;obtain⟨A,c,he,hcap⟩:=hrd.len_c (P:=Z) (K:=K);rw[he]at hrd ⊢;have hle:=hrd.le;rw[Dm] at *
 simp only[AT];refine⟨_,λw' _=>Hi _ _ _ _ _ _,_,λw' _=>FU (e:=4) (sz:=1) A (L t).length c wg (min (but:Int) ((L t).length:Int)) Tryz.underlying84 (by kernel_rfl) (by omega) (by omega),?_⟩;have hd:=hrd.drop (min (but:Int) ((L t).length:Int)).toNat (by omega);have e1:(min (but:Int) ((L t).length:Int)).toNat=min but (L t).length:=by omega
 rw[e1]at hd ⊢;have e2:(CA (L t)).drop (min but (L t).length)=CA ((L t).drop but):=by
  rw[<-L4];congr 1;rcases Nat.le_total but (L t).length with h'|h'
  ·rw[Nat.min_eq_left h']
  ·rw[Nat.min_eq_right h',xZ (vl _),xZ h']
 rw[e2]at hd;have e3:(L t).length-min but (L t).length=((L t).drop but).length:=by rw[i7];omega
 rw[e3]at hd ⊢;simp only[AT];exact Mq hd ((L t).drop but).length 0 (by omega) (h w1 hf1)
end
def MY(k:Nat)(l:List Bool):(Gt k l).length=min k l.length:=by unfold Gt;rw[i7];omega
section
variable{K:VK}{w:wn}
def Iy{g bb T t m:Nat}{win most:Int}{S:Nat->wm}{L:Nat->List Bool}{w0:wn}{v:wm}{work:Bool}(hL0:Ew w0 g bb T win most S L)(ht:t<T)(hf0:Fr [] w0 w)(hm:m<=64)(hl:(L t).length<=64)(hv:Cp w v 1 (CA (List.replicate m work)))(h:∀s w',Fr (bb::BN (S t)) w0 w'->Ew w' g bb T win most (DH S t s) (DH L t (L t++List.replicate m work))->(∀x∈BN s,x∈BN (S t)∨w0.heap.size<=x)->F167.k1 K (v7 (wh ⟨g,0,wj⟩)) (v7 (wh ⟨bb,t*3,wj⟩)) w'):
  Am Z (Builtin.append_ #[84,84] 84 #[S t,v]) w λx w24=>(w24.heap[g]?=wh (JB win most bb T)/\(Aj 1 (v7 (wh ⟨bb,t*3,wj⟩)) x w24 λw27=>(w27.heap[g]?=wh (JB win most bb T)/\F167.k1 K (v7 (wh ⟨g,0,wj⟩)) (v7 (wh ⟨bb,t*3,wj⟩)) w27))/\True):=by
 have hL:=hL0.keep0 hf0;have hS:=hL.sg t ht;refine Bm (xs:=CA (L t)) (ys:=CA (List.replicate m work)) (e:=4) (sz:=1) (bytes:=1) (z:=wd wl) Tryz.underlying84 (by kernel_rfl) rfl (by decide) (hL.own t ht) hv MQ
  (by rw[Dm,Dm];simp;omega) (by rw[Dm,Dm];simp;omega) λs w1 ho hf hb _=>?_
 have hg1:=hf.at_ hL.obj λhx=>(hS g hx).1 rfl;obtain⟨cs,hbb,hc⟩:=hL.bk;have hbb1:=hf.at_ hbb λhx=>(hS bb hx).2 rfl;have hsz:=hc.1;refine⟨hg1,AI hbb1 ho.one.2 ho.one.1 (by omega) λw2 hu=>?_,trivial⟩;have hsb:∀x∈BN s,x∈BN (S t)∨w.heap.size<=x:=λx hx=>by
  rcases hb with e|⟨g',e,hle⟩
  ·exact wr (by rw[Cb, <-e, <-Cb];exact hx)
  ·rw[Cb.1 hx]at e;simp only[zS]at e;exact ws (by omega)
 have lbb:=BP hbb;have hsbb:∀x∈BN s,x≠bb:=λx hx=>by
  rcases hsb x hx with h'|h'
  ·exact (hS x h').2
  ·omega
 have hfA:Fr (bb::BN (S t)) w w2:=(hf.mono λx hx=>by simp[hx]).trans (hu.fr.mono (by simp));refine⟨hu.fr.at_ hg1 (by simp only[zF];exact hL.gb),h s w2 (hf0.w.trans hfA) ?_ λx hx=>?_⟩
 ·refine hL.row ht hfA ⟨_,hu.at_,hc.set0 ht s⟩ ?_ hsb λx hx=>by simpa using hx
  rw[Sc];exact ho.keep' hu.fr λx hx=>by simpa using hsbb x hx
 ·rcases hsb x hx with h'|h'
  ·exact wr h'
  ·exact ws (by have:=hf0.size;omega)
def Us{g bb T t:Nat}{win most n:Int}{S:Nat->wm}{L:Nat->List Bool}{work:Bool}(hL:Ew w g bb T win most S L)(ht:t<T)(h0:0<=n)(h64:n<=64)(hw0:0<=win)(hl:(L t).length<=64)(h:∀s w',Fr (bb::BN (S t)) w w'->Ew w' g bb T win most (DH S t s) (DH L t (L t++List.replicate (min n win).toNat work))->(∀x∈BN s,x∈BN (S t)∨w.heap.size<=x)->F167.k1 K (v7 (wh ⟨g,0,wj⟩)) (v7 (wh ⟨bb,t*3,wj⟩)) w'):
  I Z 167 #[v7 (wh ⟨g,0,wj⟩),v7 (wh ⟨bb,t*3,wj⟩),v6 wg n,wd work] w K:=by
 refine F167.sh (A9 (λw'=>w'.heap[g]?=wh (JB win most bb T)) λw1 hf1 he1=>⟨by rw[he1];exact hL.obj,?_⟩);have hL1:=hL.keep0 hf1;obtain⟨cs,hbb,hc⟩:=hL1.bk;simp only[zv,u9];refine Au (v:=v6 wg win) (λw' hw=>⟨_,_,_,hw,rfl⟩) ⟨_,λw' _=>Hi _ _ _ _ _ _,?_⟩;have em:min n win=((min n win).toNat:Int):=by omega
 rw[em];have hm:(min n win).toNat<=64:=by omega
 clear em;generalize (min n win).toNat=m at *;have hn2:=DE.mk' w1 (wt #[wd work] 4);have hs1:Cp (w1.alloc (wt #[wd work] 4)) (v8 (wh ⟨w1.heap.size,0,wj⟩) 1 1) 1 [[wd work]]:=Cp.of_block hn2.at_ rfl (by simp) (by simp) (by simp) (by simp);have hL2:=hL1.keep0 hn2.fr;have rd:∀ {v' w'},BQ w' v' 4 1 (List.replicate m [wd work])->Cp w' v' 1 (CA (List.replicate m work)):=λho=>by rw[Sd];exact ho.rd
 have hb0:=(hc.2 t ht).1;have f12:=hf1.trans hn2.fr;refine⟨Ad hbb hb0 ⟨hL1.obj,A4 (X4 work) ⟨hL2.obj,Jv hs1 rfl (by omega) λv' w3 hf3 ho3 hn3=>⟨hf3.at_ hL2.obj (by simp),Iy hL ht (f12.trans hf3) hm hl (rd ho3) h,trivial⟩,trivial⟩,trivial⟩,?_⟩
 refine⟨A4 (X4 work) ⟨hL2.obj,Ad (hn2.fr.at_ hbb (by simp)) hb0 ⟨hL2.obj,Jv hs1 rfl (by omega) λv' w3 hf3 ho3 hn3=>⟨hf3.at_ hL2.obj (by simp),Iy hL ht (f12.trans hf3) hm hl (rd ho3) h,trivial⟩,trivial⟩,?_⟩,trivial⟩
 refine⟨Jv hs1 rfl (by omega) λv' w3 hf3 ho3 hn3=>⟨hf3.at_ hL2.obj (by simp),Ad (hf3.at_ (hn2.fr.at_ hbb (by simp)) (by simp)) hb0 ⟨hf3.at_ hL2.obj (by simp),Iy hL ht (f12.trans hf3) hm hl (rd ho3) h,trivial⟩,trivial⟩,trivial⟩
def Ut{g bb T t:Nat}{win most:Int}{S:Nat->wm}{L:Nat->List Bool}(hL:Ew w g bb T win most S L)(ht:t<T)(hw0:0<=win)(hw1:win<=64)(hl:(L t).length<=1000)(h:∀s w',Fr [bb] w w'->Ew w' g bb T win most (DH S t s) (DH L t (Gt win.toNat (L t)))->BY w s->K (wc #[]) w'):F167.k1 K (v7 (wh ⟨g,0,wj⟩)) (v7 (wh ⟨bb,t*3,wj⟩)) w:=by
 refine F167.k1.to (A9 (λw'=>w'.heap[g]?=wh (JB win most bb T)) λw1 hf1 he1=>⟨by rw[he1];exact hL.obj,?_⟩);have hL1:=hL.keep0 hf1;obtain⟨cs,hbb,hc⟩:=hL1.bk;have hb0:=(hc.2 t ht).1;have hsz:=hc.1;have hrd:=(hL1.own t ht).rd;have hS:=hL1.sg t ht;have lbb:=BP hbb;simp only[zv,u9];refine Au (v:=v6 wg win) (λw' hw=>⟨_,_,_,hw,rfl⟩) ?_;obtain⟨A,c,he,hcap⟩:=hrd.len_c (P:=Z) (K:=K);rw[Dm]at he hcap
 have tail:∀v,Cp w1 v 1 (CA (Gt win.toNat (L t)))->I Z 239 #[v] w1 λx42_25 w25=>(w25.heap[g]?=wh (JB win most bb T)/\(Aj 1 (v7 (wh ⟨bb,t*3,wj⟩)) x42_25 w25 λw28=>(w28.heap[g]?=wh (JB win most bb T)/\K (wc #[]) w28))/\True):=by
  intro v hv;refine Tz hv (by rw[MY];omega) λs w2 hf2 ho2 hn2=>?_;have hg2:=hf2.at_ hL1.obj (by simp);have hbb2:=hf2.at_ hbb (by simp);refine⟨hg2,AI hbb2 ho2.one.2 ho2.one.1 (by omega) λw3 hu=>?_,trivial⟩;have hns:=hn2.blk;have hfA:Fr [bb] w1 w3:=hf2.w.trans hu.fr;refine⟨hu.fr.at_ hg2 (by simp only[zF];exact hL.gb),h s w3 (hf1.w.trans hfA) ?_ (hn2.mono hf1.size)⟩
  refine hL1.row ht hfA ⟨_,hu.at_,hc.set0 ht s⟩ (ho2.keep' hu.fr λx hx=>?_) (λx hx=>ws (hns x hx)) λx hx=>wr (by simpa using hx);have:=hns x hx;simp only[zF];omega
 have hlen:(L t).length<=9223372036854775807:=by omega
 have run:∀w':wn,(Instr.sliceAt 84 (S t) (wh (v6 wg (max (((L t).length:Int)-win) 0))) wj wj).run Z w'=.ok (v8 (if c=(L t).length-win.toNat then A else A.map (·.add (((L t).length-win.toNat)*1))) ((L t).length-((L t).length-win.toNat)) (c-((L t).length-win.toNat))) w':=λw'=>by
  have:=FU (P:=Z) (w:=w') (t:=84) (e:=4) (sz:=1) A (L t).length c wg (max (((L t).length:Int)-win) 0) Tryz.underlying84 (by kernel_rfl) (by omega) (by omega);rw[he,this];rw[show (max (((L t).length:Int)-win) 0).toNat=(L t).length-win.toNat by omega]
 have hd:Cp w1 (v8 (if c=(L t).length-win.toNat then A else A.map (·.add (((L t).length-win.toNat)*1))) ((L t).length-((L t).length-win.toNat)) (c-((L t).length-win.toNat))) 1 (CA (Gt win.toNat (L t))):=by rw[he]at hrd;have:=hrd.drop ((L t).length-win.toNat) (by omega);rw[<-L4]at this;exact this
 refine⟨Ad hbb hb0 ⟨hL1.obj,Ad hbb hb0 ⟨hL1.obj,?_⟩,trivial⟩,Ad hbb hb0 ⟨hL1.obj,?_⟩,trivial⟩
 ·refine AH hrd ?_;simp only[AN,Dm];rw[BO (by omega)];exact⟨_,λw' _=>JD _ _ _ _ _ _,_,λw' _=>run w',tail _ hd,trivial⟩
 ·refine AH hrd ?_;simp only[AN,Dm];rw[BO (by omega)];exact⟨_,λw' _=>JD _ _ _ _ _ _,Ad hbb hb0 ⟨hL1.obj,_,λw' _=>run w',tail _ hd,trivial⟩,trivial⟩
def Ql{α : Type}(f:Nat -> α)(t:Nat)(x y : α):DH (DH f t x) t y=DH f t y:=by
 funext u
 unfold DH;split<;>rfl
structure R2(w w':wn)(bb t:Nat)(S:Nat->wm)(s:wm):Prop where
 fr:Fr (bb::BN (S t)) w w'
 new:∀x∈BN s,w.heap.size<=x
def Oy{g bb T t:Nat}{win most n:Int}{S:Nat->wm}{L:Nat->List Bool}{work:Bool}(hL:Ew w g bb T win most S L)(ht:t<T)(h0:0<=n)(h64:n<=64)(hw0:0<=win)(hw1:win<=64)(hl:(L t).length<=64)(h:∀s w',R2 w w' bb t S s->Ew w' g bb T win most (DH S t s) (DH L t (Gt win.toNat (L t++List.replicate (min n win).toNat work)))->K (wc #[]) w'):
  I Z 167 #[v7 (wh ⟨g,0,wj⟩),v7 (wh ⟨bb,t*3,wj⟩),v6 wg n,wd work] w K:=by refine Us hL ht h0 h64 hw0 hl λs1 w1 hf1 hL1 hs1=>?_;refine Ut hL1 ht hw0 hw1 (by rw[FE];simp;omega) λs2 w2 hf2 hL2 hn2=>?_;rw[Ql,Ql,FE]at hL2;exact h s2 w2 ⟨hf1.trans (hf2.mono (by simp)),λx hx=>va hf1.size (hn2.blk x hx)⟩ hL2
def Ox{g bb T t k:Nat}{win most n:Int}{S:Nat->wm}{L:Nat->List Bool}(hL:Ew w g bb T win most S L)(ht:t<T)(hk:k=1∨k=2){F:wn->Prop}(h:∀w',Fr [bb] w w'->Ew w' g bb T win most S L->F w'):
  Ac (v7 (wh ⟨bb,t*3+k,wj⟩)) w λx28_4 w4=>U .add x28_4 (v6 wg n) w4 λx30_5 w5=>Aj 1 (v7 (wh ⟨bb,t*3+k,wj⟩)) x30_5 w5 F:=by
 obtain⟨cs,hbb,hc⟩:=hL.bk;have hsz:=hc.1;obtain⟨_,⟨a,ha⟩,⟨b,hb⟩⟩:=hc.2 t ht;have:∃m,cs[t*3+k]?=wh (v6 wg m):=by
  rcases hk with rfl|rfl
  ·exact⟨a,ha⟩
  ·exact⟨b,hb⟩
 obtain⟨m,hm⟩:=this;refine Ad hbb hm ?_;simp only[A7];refine AI hbb rfl rfl (by omega) λw1 hu=>h w1 hu.fr ?_;exact⟨hu.fr.at_ hL.obj (by simp only[zF];exact hL.gb),⟨_,hu.at_,hc.set12 ht hk _⟩,λu hu'=>(hL.own u hu').keep' hu.fr λx hx=>by simpa using (hL.sg u hu' x hx).2,hL.gb,hL.sg,hL.ss⟩
def QX{g bb T t:Nat}{win most n:Int}{S:Nat->wm}{L:Nat->List Bool}(hL:Ew w g bb T win most S L)(ht:t<T)(h0:0<=n)(h64:n<=64)(hw0:0<=win)(hw1:win<=64)(hl:(L t).length<=64)(h:∀s w',R2 w w' bb t S s->Ew w' g bb T win most (DH S t s) (DH L t (Gt win.toNat (L t++List.replicate (min n win).toNat wl)))->K (wd wk) w'):I Z 107 #[v7 (wh ⟨g,0,wj⟩),v6 wg (t:Int),v6 wg n] w K:=by refine F107.sh (Mz hL ht ⟨_,Ck _ _ _ Tryz.underlying227,?_⟩);simp only[zv,show ¬n<0 by omega,show ¬n>64 by omega];refine F107.k4.to (Oy hL ht h0 h64 hw0 hw1 hl λs w1 hx hL1=>?_);simp only[zv];exact Ox hL1 ht (wr rfl) λw2 hf2 hL2=>h s w2 ⟨hx.fr.trans (hf2.mono (by simp)),hx.new⟩ hL2
def IX{g bb T t:Nat}{win most n:Int}{S:Nat->wm}{L:Nat->List Bool}(hL:Ew w g bb T win most S L)(ht:t<T)(hw0:0<=win)(hw1:win<=64)(hm:most<=win)(hl:(L t).length<=64)(h:∀w',Fr [] w w'->K (wd (Fj win most n (L t))) w'):I Z 164 #[v7 (wh ⟨g,0,wj⟩),v6 wg (t:Int),v6 wg n] w K:=by
 refine F164.sh (Mz hL ht ⟨_,Ck _ _ _ Tryz.underlying227,?_⟩);simp only[zv];by_cases h0:n<0
 ·simp only[zv,h0];have:=h w (Fr.refl _ _);rw[show Fj win most n (L t)=wl from p9 (by omega)]at this;exact this
 ·simp only[zv,h0];refine Ad (v:=v6 wg most) hL.obj rfl ?_;by_cases h1:n>most
  ·simp only[zv,h1];have:=h w (Fr.refl _ _);rw[show Fj win most n (L t)=wl from p9 (by omega)]at this;exact this
  ·simp only[zv,h1];obtain⟨cs,hbb,hc⟩:=hL.bk;have hb0:=(hc.2 t ht).1;refine F164.k4.to (A9 (λw'=>w'.heap[g]?=wh (JB win most bb T)/\w'.heap[bb]?=wh (wt cs 231 (0,0))) λw1 hf1 he1=>⟨by rw[he1];exact⟨hL.obj,hbb⟩,?_⟩);have hL1:=hL.keep0 hf1;simp only[zv,u9];refine Au (v:=S t) (λw' hw=>⟨_,_,_,hw.2,hb0⟩) (AH (hL1.own t ht).rd ?_);simp only[A7,Dm];rw[BO (by omega)]
   refine Au (v:=v6 wg win) (λw' hw=>⟨_,_,_,hw.1,rfl⟩) ?_;simp only[AN];rw[BO (by omega)];refine⟨_,λw' _=>JD _ _ _ _ _ _,Au (v:=v6 wg most) (λw' hw=>⟨_,_,_,hw.1,rfl⟩) ?_⟩;rw[show max (((L t).length:Int)+n-win) 0=((((L t).length:Int)+n-win).toNat:Int) by omega];refine⟨Pi hL1 ht _ (by omega) λw2 hf2=>⟨⟨hf2.at_ hL1.obj (by simp),hf2.at_ (hf1.at_ hbb (by simp)) (by simp)⟩,?_⟩,trivial⟩
   have hcl:=Sj ((L t).drop (((L t).length:Int)+n-win).toNat);rw[i7]at hcl;simp only[zv];rw[BO (by omega)];have:=h w2 (hf1.trans hf2);have e:Fj win most n (L t)=decide ((cnt ((L t).drop (((L t).length:Int)+n-win).toNat):Int)+n<=most):=j6.2 (by omega);rw[e]at this;exact this
def S9{g bb T t:Nat}{win most n:Int}{S:Nat->wm}{L:Nat->List Bool}(hL:Ew w g bb T win most S L)(ht:t<T)(hw0:0<=win)(hw1:win<=64)(hm:most<=win)(hl:(L t).length<=64)(hno:Fj win most n (L t)=wl->∀w',Fr [] w w'->K (wd wl) w')(h:Fj win most n (L t)=wk->∀s w',R2 w w' bb t S s->Ew w' g bb T win most (DH S t s) (DH L t (Gt win.toNat (L t++List.replicate (min n win).toNat wk)))->K (wd wk) w'):I Z 237 #[v7 (wh ⟨g,0,wj⟩),v6 wg (t:Int),v6 wg n] w K:=by
 refine F237.sh (IX hL ht hw0 hw1 hm hl λw1 hf1=>?_);cases ha:Fj win most n (L t) with
 | false=>
  simp only[zv];exact hno ha w1 hf1
 | true=>
  simp only[zv];have hadm:=of_decide_eq_true ha;have hL1:=hL.keep0 hf1;refine F237.k3.to (Mz hL1 ht (Oy hL1 ht hadm.1 (by omega) hw0 hw1 hl λs w2 hx hL2=>?_));simp only[zv];refine Ox hL2 ht (ws rfl) λw3 hf3 hL3=>h ha s w3 ⟨(hf1.w.trans hx.fr).trans (hf3.mono (by simp)),λx hx'=>va hf1.size (hx.new x hx')⟩ hL3
end
end
end Go.Proofs.QV
