/- Part 6 of what the law needs: own lemmas, in the order in which they build. -/
import Derived.Shelf.SortM.Plain
import Derived.Sort.OwnSortedInts
import Derived.Shelf.SlSortCmp.NoneTotal
import Derived.Test.YtcakfaakbpdklaaGreatDoorProg
import Derived.Test.YtcakfaakbpdklaaGreatDoorTopLike05
set_option linter.defProp false
set_option linter.unusedSimpArgs false
set_option linter.unusedVariables false
namespace Go.Proofs.QV
open Go Go.Proofs Go.Proofs.Tryz
open Option renaming some->vz
open Option renaming none->v6
open Bool renaming true->v7
open Bool renaming false->v8
open Or renaming inl->wg
open Or renaming inr->wh
section
open Go.RowKit
def DH{r:Rg}{t:Int}:r.live t=v7↔0<=t/\t<r.l.length/\(r.l.getD t.toNat (v8,0)).1=v7:=by unfold Rg.live;simp only[zS,zP];exact⟨λh=>⟨h.1.1,h.1.2,h.2⟩,λh=>⟨⟨h.1,h.2.1⟩,h.2.2⟩⟩
def Ti{r:Rg}{t:Int}(h:r.live t=v7):r.ofT t=(r.l.getD t.toNat (v8,0)).2:=by unfold Rg.ofT;rw[vn h]
def FC{α : Type}{l:List α}{i j:Nat}{x d : α}:(l.set i x).getD j d=if i=j/\i<l.length then x else l.getD j d:=by
 rw[xC,zI,xC];by_cases e:i=j
 ·subst e;by_cases h:i<l.length
  ·simp[h]
  ·simp[h]
 ·simp[e]
def Hm{α : Type}{l:List α}{i:Nat}{x y : α}(h:y∈l.set i x):y=x∨y∈l:=by
 rcases xK h with h|h
 ·exact wh h
 ·exact wg h
def Q4{r:Rg}(h:r.agreed=v7){t:Int}(ht:r.live t=v7):r.ep<=r.ofT t:=by
 obtain⟨h0,h1,h2⟩:=DH.1 ht;rw[Ti ht];unfold Rg.agreed at h;have hm:r.l.getD t.toNat (v8,0)∈r.l:=by rw[Dy (by omega)];exact zW _
 have:=zT.1 h _ hm;rw[h2]at this;simp only[Bool.true_and,zD,xU]at this;omega
def FD{r:Rg}{t:Int}{m:Bool × Int}(h0:0<=t)(h1:t<r.l.length)(u:Int):({ r with l:=r.l.set t.toNat m }:Rg).live u=if u=t then m.1 else r.live u:=by
 unfold Rg.live;simp only[i8,FC];by_cases e:u=t
 ·subst e;rw[vn rfl,vn ⟨rfl,by omega⟩,o8 h0,o8 h1];simp
 ·rw[vm e];by_cases e2:0<=u
  ·rw[vm (by omega)]
  ·simp[e2]
def Lp{r:Rg}{t:Int}{m:Bool × Int}(h0:0<=t)(h1:t<r.l.length)(u:Int):({ r with l:=r.l.set t.toNat m }:Rg).ofT u=if u=t then (if m.1 then m.2 else -1) else r.ofT u:=by
 unfold Rg.ofT;rw[FD h0 h1 u];simp only[FC];by_cases e:u=t
 ·subst e;rw[vn rfl,vn rfl,vn (show u.toNat=u.toNat/\u.toNat<r.l.length from⟨rfl,by omega⟩)]
 ·rw[vm e,vm e];by_cases hl:r.live u=v7
  ·rw[vn hl,vn hl];obtain⟨u0,_,_⟩:=DH.1 hl;rw[vm (by omega)]
  ·rw[vm hl,vm hl]
structure NI(c:Co)(N:Nat->Prop):Prop where
 m1:∀a,c.g.mks a=v7->N a
 bf:∀l∈c.b,∀b:Nat,(b:Int)∈l->N b
 rt:∀l∈c.th,∀b:Nat,(2,(b:Int))∈l->N b
 gl:∀n:Nat,c.global=n->N n
 cl:∀a j b,N a->Fl c.s a j b->N b
def Fl.same{s s':St}(h:∀b,C4 s.c s'.c b){a j b:Nat}:Fl s' a j b↔Fl s a j b:=by
 constructor
 ·rintro⟨ser,fs,o,e⟩;exact⟨ser,fs,(h a).obj.1 o,e⟩
 ·rintro⟨ser,fs,o,e⟩;exact⟨ser,fs,(h a).obj.2 o,e⟩
def QY{s:St}(h:SI s){x i:Int}{n:Nat}(hg:(s.get x i).1=(2,(n:Int)))(hi:0<=i):∃a:Nat,x=a/\s.c.tk a=v7/\Fl s a i.toNat n/\n<2048/\i<s.fields x/\(s.get x i).2=v7:=by
 by_cases ht:s.c.isIt x=v7
 ·obtain⟨a,rfl,ha⟩:=(JV h.hi.ci).1 ht;obtain⟨ser,fs,o,_⟩:=h.hi.obj a ha;have e:=St.get_obj h.hi.ci o i;rw[vn hi]at e;cases hf:fs[i.toNat]? with
  | none=>rw[hf]at e;rw[e]at hg;simp at hg
  | some v=>
   rw[hf]at e;rw[e]at hg ⊢;simp only at hg;subst hg;have hl:i.toNat<fs.length:=by apply xF;intro hc;rw[yC (by omega)]at hf;cases hf
   refine⟨a,rfl,ha,⟨ser,fs,o,hf⟩,?_,?_,rfl⟩
   ·have:=(o.fld i.toNat hl).1;have e2:fs[i.toNat]=(2,(n:Int)):=by rw[xO hl]at hf;exact j9 hf
    rw[e2]at this;have:=Gu (by simpa[Dk] using this);omega
   ·rw[(St.read_obj h.hi.ci o).1];omega
 ·unfold St.get St.fields St.read at hg;rw[vm ht,vm (by simp only;omega)]at hg;simp at hg
def IP{s:St}(h:SI s){a j b:Nat}(hf:Fl s a j b):(s.get (a:Int) (j:Int)).1=(2,(b:Int))/\(j:Int)<s.fields (a:Int)/\s.c.tk a=v7/\b<2048:=by
 obtain⟨ser,fs,o,e⟩:=hf;have hl:j<fs.length:=by apply xF;intro hc;rw[yC (by omega)]at e;cases e
 refine⟨?_,by rw[(St.read_obj h.hi.ci o).1];omega,o.tk,?_⟩
 ·have:=St.get_obj h.hi.ci o (j:Int);rw[vn (by omega),zE,e]at this;rw[this]
 ·have:=(o.fld j hl).1;have e2:fs[j]=(2,(b:Int)):=by rw[xO hl]at e;exact j9 e
  rw[e2]at this;have:=Gu (by simpa[Dk] using this);omega
def C0(c:Co)(a:Nat):Prop:=c.s.c.tk a=v7/\(c.phase=5->((a / 32:Nat):Int)<c.at_∨c.g.mks a=v7)
structure KI(cf:Cf)(E:Int)(c:Co):Prop where
 si:SI c.s
 ni:NI c (C0 c)
 t8:0<=cf.threads/\cf.threads<=8
 thl:c.th.length=8
 rl:c.r.l.length=cf.threads.toNat
 bl:c.b.length=cf.threads.toNat
 vok:∀l∈c.th,∀v∈l,Dk v=v7
 bok:∀l∈c.b,∀x∈l,0<=x/\x<2048
 ent:∀e∈c.g.l,∃n:Nat,e.1=n/\c.g.mks n=v7/\0<=e.2
 gn:0<=c.global/\c.global<2048
 lv:∀t:Nat,c.r.live t=v8->c.th.getD t []=[]
 ep:∀t:Nat,c.r.live t=v7->c.r.ofT t<=c.r.ep
 e0:0<=c.r.ep/\c.r.ep<=E
 ph:0<=c.phase/\c.phase<=5
 calm:c.phase<=1∨c.phase=5->c.g.l=[]/\c.tp = -1/\c.g.over=v8
 p01:c.phase<=1->∀a,c.g.mks a=v8
 p5:c.phase=5->(∀l∈c.b,l=[])/\0<=c.at_/\∀a,c.g.mks a=v7->c.at_<=((a / 32:Nat):Int)
 p24:2<=c.phase->c.phase<=4->c.g.mks c.global.toNat=v7/\∀Q,PC c Q->(∀t:Nat,c.r.live t=v7->(c.phase=2->c.r.ofT t=c.r.ep)->∀b:Nat,(2,(b:Int))∈c.th.getD t []->Q b)/\∀a j b,c.g.mks a=v7->Fl c.s a j b->Q b
 p2:c.phase=2->c.tp = -1/\∀a,c.g.mks a=v7->c.g.over=v7∨((a:Int),0)∈c.g.l
 tpr:c.tp = -1∨(0<=c.tp/\c.tp<cf.pages)
section
variable{cf:Cf}{E:Int}{c:Co}
def KI.up(h:KI cf E c){E':Int}(he:E<=E'):KI cf E' c:={ h with e0:=⟨h.e0.1,by have:=h.e0.2;omega⟩ }
def NI.gr{N S:Nat->Prop}{g':Gy}(h:NI c N)(hg:Fz S c.g g')(hS:∀a,S a->N a):NI { c with g:=g' } N:=
 ⟨λa x=>(hg.new a x).elim (h.m1 a) λy=>hS a y.1,h.bf,h.rt,h.gl,h.cl⟩
def KI.gr{S:Nat->Prop}{g':Gy}(h:KI cf E c)(h2:2<=c.phase)(h4:c.phase<=4)(hg:Fz S c.g g')(hS:∀a,S a->c.s.c.tk a=v7):KI cf E { c with g:=g' }:=by
 have hK:∀a,C0 { c with g:=g' } a↔C0 c a:=λa=>⟨λx=>⟨x.1,λe=>absurd e (by omega)⟩,λx=>⟨x.1,λe=>absurd e (by simp only;omega)⟩⟩;have hn:=h.ni.gr hg λa x=>⟨hS a x,λe=>absurd e (by omega)⟩
 refine { h with ni:=⟨λa x=>(hK a).2 (hn.m1 a x),λl hl b hb=>(hK b).2 (hn.bf l hl b hb),λl hl b hb=>(hK b).2 (hn.rt l hl b hb),λn e=>(hK n).2 (hn.gl n e),λa j b x f=>(hK b).2 (hn.cl a j b ((hK a).1 x) f)⟩,ent:=λe he=>?_,calm:=λe=>?_,p01:=λe=>?_,p5:=λe=>?_,p24:=λ_ _=>⟨hg.up _ (h.p24 h2 h4).1,λQ hQ=>?_⟩,p2:=λe=>⟨(h.p2 e).1,λa x=>?_⟩ }
 ·rcases hg.ln e he with y|⟨a,rfl,y⟩
  ·obtain⟨n,e1,e2,e3⟩:=h.ent e y;exact⟨n,e1,hg.up n e2,e3⟩
  ·exact⟨a,rfl,y,u7 0⟩
 ·simp only at e;omega
 ·simp only at e;omega
 ·simp only at e;omega
 ·have hQ':PC c Q:=hQ.shaded hg rfl hQ.bf rfl;obtain⟨q1,q2⟩:=(h.p24 h2 h4).2 Q hQ';refine⟨q1,λa j b x f=>?_⟩;rcases hg.new a x with y|⟨_,_,y⟩
  ·exact q2 a j b y f
  ·refine hQ.pd a j b x f ?_;rcases y with y|y
   ·exact wg y
   ·exact wh (wg ⟨0,y,by omega⟩)
 ·rcases hg.new a x with y|⟨_,_,y⟩
  ·exact ((h.p2 e).2 a y).imp hg.ov (hg.li _)
  ·exact y
def N5(h:KI cf E c)(hE:E<=1000000000):CJ (c.r.ep+1)=c.r.ep+1:=F6 (by have:=h.e0;omega)
def KI.one_two(h:KI cf E c)(hE:E<=1000000000)(h1:c.phase=1):KI cf (E+1) (({ c with b:=c.b.map λ_=>[],g:=c.g.shade cf.stack c.global }:Co).raise 2):=by
 obtain⟨c1,c2,c3⟩:=h.calm (wg (by omega));have cm:=h.p01 (by omega);obtain⟨n,hn⟩:=xQ h.gn.1;have hg2:=h.gn.2;have hkn:=h.ni.gl n hn;have hg:Fz (λa=>a=n) c.g (c.g.shade cf.stack c.global):=Hs _ _ _ λm e=>by omega
 have hgm:(c.g.shade cf.stack c.global).mks n=v7:=by rw[hn];exact Ix _ _ (by omega)
 generalize c.g.shade cf.stack c.global=g' at hg hgm;have hb:∀l∈(c.b.map λ_=>([]:List Int)),l=[]:=λl hl=>by
  obtain⟨_,_,e⟩:=uu.1 hl;exact e.symm
 have hE':=N5 h hE;have hful:∀a,g'.mks a=v7->g'.over=v7∨((a:Int),0)∈g'.l:=λa x=>by
  rcases hg.new a x with y|y
  ·rw[cm]at y;cases y
  ·exact y.2.2
 have hKe:∀a,C0 c a->C0 (({ c with b:=c.b.map λ_=>[],g:=g' }:Co).raise 2) a:=λa x=>⟨x.1,λe=>absurd (show (2:Int)=5 from e) (by decide)⟩;unfold Co.raise at hKe ⊢;unfold Rg.raise at hKe ⊢
 refine⟨h.si,⟨λa x=>?_,λl hl b hb'=>?_,λl hl b hb'=>hKe _ (h.ni.rt l hl b hb'),λm e=>hKe _ (h.ni.gl m e),λa j b x f=>hKe _ (h.ni.cl a j b ⟨x.1,λe=>absurd e (by omega)⟩ f)⟩,h.t8,h.thl,h.rl,by simp only[i6];exact h.bl,h.vok,λl hl x hx=>?_,λe he=>?_,h.gn,h.lv,λt ht=>?_,?_,by simp only;decide,λe=>?_,λe=>?_,λe=>?_,λ_ _=>⟨by simp only;rw[hn];exact hgm,λQ hQ=>⟨λt ht hc=>?_,λa j b x f=>?_⟩⟩,λ_=>⟨c2,hful⟩,wg c2⟩
 ·rcases hg.new a x with y|y
  ·rw[cm]at y;cases y
  ·rw[y.1];exact hKe _ hkn
 ·rw[hb l hl]at hb';cases hb'
 ·rw[hb l hl]at hx;cases hx
 ·rcases hg.ln e he with y|⟨a,rfl,y⟩
  ·rw[c1]at y;cases y
  ·exact⟨a,rfl,y,u7 0⟩
 ·simp only at ht ⊢;have:=h.ep t ht;rw[hE'];show c.r.ofT t<=c.r.ep+1;omega
 ·simp only;rw[hE'];have:=h.e0;omega
 ·simp only at e;omega
 ·simp only at e;omega
 ·simp only at e;omega
 ·have h3:=h.ep t ht;have:=hc rfl;simp only at this;rw[hE']at this;have:c.r.ofT t=c.r.ep+1:=this;omega
 ·refine hQ.pd a j b x f ?_;rcases hful a x with y|y
  ·exact wg y
  ·exact wh (wg ⟨0,y,by omega⟩)
def KI.two_three(h:KI cf E c)(h2:c.phase=2)(ha:c.r.agreed=v7):KI cf E { c with phase:=3 }:=by
 have hK:∀a,C0 { c with phase:=3 } a↔C0 c a:=λa=>⟨λx=>⟨x.1,λe=>absurd e (by omega)⟩,λx=>⟨x.1,λe=>absurd (show (3:Int)=5 from e) (by decide)⟩⟩;obtain⟨g1,g2⟩:=h.p24 (by omega) (by omega)
 refine { h with ni:=⟨λa x=>(hK a).2 (h.ni.m1 a x),λl hl b hb=>(hK b).2 (h.ni.bf l hl b hb),λl hl b hb=>(hK b).2 (h.ni.rt l hl b hb),λn e=>(hK n).2 (h.ni.gl n e),λa j b x f=>(hK b).2 (h.ni.cl a j b ((hK a).1 x) f)⟩,ph:=by simp only;decide,calm:=λe=>?_,p01:=λe=>?_,p5:=λe=>?_,p24:=λ_ _=>⟨g1,λQ hQ=>?_⟩,p2:=λe=>?_ }
 ·simp only at e;omega
 ·simp only at e;omega
 ·simp only at e;omega
 ·obtain⟨q1,q2⟩:=g2 Q ⟨hQ.m1,hQ.bf,hQ.pd,hQ.cl⟩;refine⟨λt ht _=>q1 t ht λ_=>?_,q2⟩;have:=Q4 ha ht;have:=h.ep t ht;omega
 ·simp only at e;omega
def KI.three(h:KI cf E c){p:Int}(h3:c.phase=3∨c.phase=4)(hp:p=3∨p=4):KI cf E { c with phase:=p }:=by
 have hK:∀a,C0 { c with phase:=p } a↔C0 c a:=λa=>⟨λx=>⟨x.1,λe=>absurd e (by omega)⟩,λx=>⟨x.1,λe=>absurd e (by simp only;omega)⟩⟩;obtain⟨g1,g2⟩:=h.p24 (by omega) (by omega)
 refine { h with ni:=⟨λa x=>(hK a).2 (h.ni.m1 a x),λl hl b hb=>(hK b).2 (h.ni.bf l hl b hb),λl hl b hb=>(hK b).2 (h.ni.rt l hl b hb),λn e=>(hK n).2 (h.ni.gl n e),λa j b x f=>(hK b).2 (h.ni.cl a j b ((hK a).1 x) f)⟩,ph:=by simp only;omega,calm:=λe=>?_,p01:=λe=>?_,p5:=λe=>?_,p24:=λ_ _=>⟨g1,λQ hQ=>?_⟩,p2:=λe=>?_ }
 ·simp only at e;omega
 ·simp only at e;omega
 ·simp only at e;omega
 ·obtain⟨q1,q2⟩:=g2 Q ⟨hQ.m1,hQ.bf,hQ.pd,hQ.cl⟩;exact⟨λt ht _=>q1 t ht λe=>by omega,q2⟩
 ·simp only at e;omega
def KI.raised(h:KI cf E c)(hE:E<=1000000000)(h3:c.phase=3∨c.phase=4):KI cf (E+1) { c with r:=c.r.raise }:=by
 have hE':=N5 h hE;obtain⟨g1,g2⟩:=h.p24 (by omega) (by omega);refine { h with ni:=⟨h.ni.m1,h.ni.bf,h.ni.rt,h.ni.gl,h.ni.cl⟩,ep:=λt ht=>?_,e0:=?_,p24:=λ_ _=>⟨g1,λQ hQ=>?_⟩ }
 ·have:=h.ep t ht;show c.r.ofT t<=CJ (c.r.ep+1);rw[hE'];omega
 ·show 0<=CJ (c.r.ep+1)/\CJ (c.r.ep+1)<=E+1;rw[hE'];have:=h.e0;omega
 ·obtain⟨q1,q2⟩:=g2 Q ⟨hQ.m1,hQ.bf,hQ.pd,hQ.cl⟩;exact⟨λt ht _=>q1 t ht λe=>by omega,q2⟩
def KI.four_five(h:KI cf E c)(h4:c.phase=4)(hb:F1 c.b=v7)(hi:c.tIdle=v7):KI cf E { c with phase:=5,at_:=0,freed:=0 }:=by
 obtain⟨g1,g2⟩:=h.p24 (by omega) (by omega);unfold Co.tIdle at hi;simp only[zS,List.isEmpty_iff,zP,zD]at hi;obtain⟨⟨i1,i2⟩,i3⟩:=hi;have hbe:∀l∈c.b,l=[]:=λl hl=>by
  have:=zT.1 hb l hl;simpa using this
 have hQ:PC c (λa=>c.g.mks a=v7):=by
  refine⟨λa x=>x,λl hl b hm=>?_,λa j b x f p=>?_,λa j b x y f=>?_⟩
  ·rw[hbe l hl]at hm;cases hm
  ·rcases p with p|⟨i,p,_⟩|p
   ·rw[i3]at p;cases p
   ·rw[i1]at p;cases p
   ·exact absurd i2 p.1
  ·rw[x]at y;cases y
 obtain⟨q1,q2⟩:=g2 _ hQ;have hKm:∀a,c.g.mks a=v7->C0 { c with phase:=5,at_:=0,freed:=0 } a:=λa x=>⟨(h.ni.m1 a x).1,λ_=>wh x⟩;have hKe:∀a,C0 { c with phase:=5,at_:=0,freed:=0 } a->c.g.mks a=v7:=λa x=>by
  rcases x.2 rfl with y|y
  ·simp only at y;omega
  ·exact y
 refine { h with ni:=⟨λa x=>hKm a x,λl hl b hm=>?_,λl hl b hm=>?_,λn e=>hKm n ?_,λa j b x f=>hKm b (q2 a j b (hKe a x) f)⟩,ph:=by simp only;decide,calm:=λ_=>⟨i1,i2,i3⟩,p01:=λe=>?_,p5:=λ_=>⟨hbe,u7 0,λa _=>by simp only;omega⟩,p24:=λ_ e=>?_,p2:=λe=>?_ }
 ·simp only at hl;rw[hbe l hl]at hm;cases hm
 ·simp only at hl;obtain⟨t,ht,e⟩:=yS hl;have e':c.th.getD t []=l:=by rw[Dy ht,e]
  refine hKm b (q1 t ?_ (λe=>by omega) b (by rw[e'];exact hm));cases hlv:c.r.live t with
  | true=>rfl
  | false=>rw[h.lv t hlv]at e';rw[<-e']at hm;cases hm
 ·simp only at e;rw[e]at g1;simpa using g1
 ·simp only at e;omega
 ·simp only at e;omega
 ·simp only at e;omega
theorem KI.adv:∀(d:Nat) (c:Co) (E:Int),KI cf E c->(E:Int)+d<=1000000000->KI cf (E+d) (c.advance cf d)
 | 0,c,E,h,_=>by simpa[Co.advance] using h
 | d+1,c,E,h,hd=>by
  rw[Co.advance];by_cases ha:c.r.agreed=v7
  rotate_left
  ·rw[vm ha];exact h.up (by omega)
  rw[vn ha];by_cases c1:c.phase=1
  ·rw[vn c1];have:=h.one_two (by omega) c1;exact (KI.adv d _ (E+1) this (by omega)).up (by omega)
  rw[vm c1];by_cases c2:c.phase=2
  ·rw[vn c2];exact (KI.adv d _ E (h.two_three c2 ha) (by omega)).up (by omega)
  rw[vm c2];by_cases c4:c.phase=4/\F1 c.b=v7/\c.tIdle=v7
  ·rw[vn c4];exact (KI.adv d _ E (h.four_five c4.1 c4.2.1 c4.2.2) (by omega)).up (by omega)
  rw[vm c4];by_cases c5:c.phase=4
  ·rw[vn c5];exact (KI.adv d _ E (h.three (wh c5) (wg rfl)) (by omega)).up (by omega)
  ·rw[vm c5];exact h.up (by omega)
end
structure VG(c:Co)(t:Nat)(v:V2):Prop where
 ok:Dk v=v7
 kp:∀b:Nat,v=(2,(b:Int))->C0 c b
 pc:2<=c.phase->c.phase<=4->(c.phase=2->c.r.ofT t=c.r.ep)->∀Q,PC c Q->∀b:Nat,v=(2,(b:Int))->Q b
def VG.plain{c:Co}{t:Nat}{v:V2}(h:Dk v=v7)(h2:v.1≠2):VG c t v:=
 ⟨h,λb e=>absurd (by rw[e]) h2,λ_ _ _ _ _ b e=>absurd (by rw[e]) h2⟩
def Dq{v:V2}(h:Dk v=v7)(h2:v.1=2):∃b:Nat,v=(2,(b:Int))/\b<2048:=by obtain⟨k,n⟩:=v;simp only at h2;subst h2;have:=Gu (by simpa[Dk] using h);exact⟨n.toNat,by rw[yR (by omega)],by omega⟩
section
variable{cf:Cf}{E:Int}{c:Co}
def KI.th_in(h:KI cf E c){t:Nat}(ht:c.r.live t=v7):t<c.th.length/\c.th.getD t []∈c.th:=by
 have:=DH.1 ht;have h1:=h.rl;have h2:=h.thl;have h3:=h.t8;have hl:t<c.th.length:=by omega
 exact⟨hl,by rw[Dy hl];exact zW _⟩
def KI.root(h:KI cf E c){t:Nat}(ht:c.r.live t=v7){v:V2}(hv:v∈c.th.getD t []):VG c t v:=
 ⟨h.vok _ (h.th_in ht).2 v hv,λb e=>h.ni.rt _ (h.th_in ht).2 b (by rw[<-e];exact hv),λh2 h4 hc Q hQ b e=>((h.p24 h2 h4).2 Q hQ).1 t ht hc b (by rw[<-e];exact hv)⟩
def KI.field(h:KI cf E c){t a:Nat}(ha:VG c t (2,(a:Int))){i:Int}(hg:(c.s.get (a:Int) i).2=v7):VG c t (c.s.get (a:Int) i).1:=by
 obtain⟨ser,fs,o,_⟩:=h.si.hi.obj a (ha.kp a rfl).1;have e:=St.get_obj h.si.hi.ci o i;have hi:0<=i:=by apply xF;intro hc;rw[vm hc]at e;rw[e]at hg;cases hg
 rw[vn hi]at e;cases hf:fs[i.toNat]? with
 | none=>rw[hf]at e;rw[e]at hg;cases hg
 | some v=>
  rw[hf]at e;rw[e];simp only;have hl:i.toNat<fs.length:=by apply xF;intro hc;rw[yC (by omega)]at hf;cases hf
  have hv:fs[i.toNat]=v:=by rw[xO hl]at hf;exact j9 hf
  have hfl:∀b:Nat,v=(2,(b:Int))->Fl c.s a i.toNat b:=λb eb=>⟨ser,fs,o,by rw[hf,eb]⟩;refine⟨by rw[<-hv];exact (o.fld _ hl).1,λb eb=>h.ni.cl a _ b (ha.kp a rfl) (hfl b eb),λh2 h4 hc Q hQ b eb=>?_⟩;have hq:=ha.pc h2 h4 hc Q hQ a rfl;by_cases hm:c.g.mks a=v7
  ·exact ((h.p24 h2 h4).2 Q hQ).2 a _ b hm (hfl b eb)
  ·exact hQ.cl a _ b hq (by simpa using hm) (hfl b eb)
def KI.glob(h:KI cf E c)(t:Nat):VG c t (Et c.global):=by
 have e:Et c.global=(2,c.global):=by unfold Et;rw[vn h.gn]
 have h0:=h.gn;rw[e];refine⟨?_,λb eb=>h.ni.gl b (by simpa using eb),λh2 h4 _ Q hQ b eb=>?_⟩
 ·simp[Dk,D8,h0]
 ·have:=hQ.m1 _ (h.p24 h2 h4).1;have eb:c.global=b:=by simpa using eb
  rw[eb]at this;simpa using this
def KI.th_set(h:KI cf E c){t:Nat}(ht:c.r.live t=v7){l:List V2}(hl:∀v∈l,VG c t v):KI cf E { c with th:=c.th.set t l }:=by
 obtain⟨t1,t2⟩:=h.th_in ht;refine { h with ni:=⟨h.ni.m1,h.ni.bf,λl' hl' b hb=>?_,h.ni.gl,h.ni.cl⟩,thl:=by simp only[i8];exact h.thl,vok:=λl' hl' v hv=>?_,lv:=λu hu=>?_,p24:=λh2 h4=>⟨(h.p24 h2 h4).1,λQ hQ=>?_⟩ }
 ·rcases Hm hl' with rfl|g
  ·exact (hl _ hb).kp b rfl
  ·exact h.ni.rt l' g b hb
 ·rcases Hm hl' with rfl|g
  ·exact (hl v hv).ok
  ·exact h.vok l' g v hv
 ·have hne:¬(t=u/\t<c.th.length):=λe=>by
   have hu':c.r.live u=v8:=hu;rw[<-e.1,ht]at hu';cases hu'
  show (c.th.set t l).getD u []=[];rw[FC,vm hne];exact h.lv u hu
 ·have hQ':PC c Q:=⟨hQ.m1,hQ.bf,hQ.pd,hQ.cl⟩;obtain⟨q1,q2⟩:=(h.p24 h2 h4).2 Q hQ';refine⟨λu hu hc b hb=>?_,q2⟩;have hb':(2,(b:Int))∈(c.th.set t l).getD u []:=hb;rw[FC]at hb';by_cases e:t=u/\t<c.th.length
  ·rw[vn e]at hb';obtain⟨rfl,_⟩:=e;exact (hl _ hb').pc h2 h4 hc Q hQ' b rfl
  ·rw[vm e]at hb';exact q1 u hu hc b hb'
def KI.push(h:KI cf E c){t:Nat}{v:V2}(hv:VG c t v):KI cf E (c.push (t:Int) v).1:=by
 unfold Co.push;split
 ·rename_i hc;simp only[zE];refine h.th_set hc.1 λx hx=>?_;rcases j4.1 hx with g|g
  ·exact h.root hc.1 g
  ·rw[yZ.1 g];exact hv
 ·exact h
def KI.pop(h:KI cf E c)(t:Nat):KI cf E (c.pop (t:Int)).1:=by
 unfold Co.pop;split
 ·rename_i hc;split
  ·simp only[zE];exact h.th_set hc λx hx=>h.root hc (yK _ hx)
  ·exact h
 ·exact h
def KI.attach(h:KI cf E c)(t:Int):KI cf E (c.attach t):=by
 unfold Co.attach Rg.attach;split
 rotate_left
 ·exact h
 rename_i hc;obtain⟨h0,h1,h2⟩:=hc;have hlive:∀u:Nat,({ c.r with l:=c.r.l.set t.toNat (v7,c.r.ep) }:Rg).live u=if (u:Int)=t then v7 else c.r.live u:=λu=>FD h0 h1 u;have hof:∀u:Nat,({ c.r with l:=c.r.l.set t.toNat (v7,c.r.ep) }:Rg).ofT u=if (u:Int)=t then c.r.ep else c.r.ofT u:=λu=>by rw[Lp h0 h1 u];rfl
 have hdead:c.th.getD t.toNat []=[]:=h.lv t.toNat (by rw[yR h0];simpa using h2);refine { h with ni:=⟨h.ni.m1,h.ni.bf,h.ni.rt,h.ni.gl,h.ni.cl⟩,rl:=by simp only[i8];exact h.rl,lv:=λu hu=>?_,ep:=λu hu=>?_,p24:=λp2 p4=>⟨(h.p24 p2 p4).1,λQ hQ=>?_⟩ }
 ·simp only at hu;rw[hlive]at hu;by_cases e:(u:Int)=t
  ·rw[vn e]at hu;cases hu
  ·rw[vm e]at hu;exact h.lv u hu
 ·simp only at hu ⊢;rw[hlive]at hu;rw[hof];by_cases e:(u:Int)=t
  ·rw[vn e];exact u7 _
  ·rw[vm e]at hu ⊢;exact h.ep u hu
 ·obtain⟨q1,q2⟩:=(h.p24 p2 p4).2 Q ⟨hQ.m1,hQ.bf,hQ.pd,hQ.cl⟩;refine⟨λu hu hc b hb=>?_,q2⟩;simp only at hu hc hb;rw[hlive]at hu;rw[hof]at hc;by_cases e:(u:Int)=t
  ·have:u=t.toNat:=by omega
   rw[this,hdead]at hb;cases hb
  ·rw[vm e]at hu hc;exact q1 u hu hc b hb
def KI.buf_in(h:KI cf E c)(t:Int){x:Int}(hx:x∈E0 c.b t):∃l∈c.b,x∈l:=by
 unfold E0 at hx;split at hx
 ·by_cases hl:t.toNat<c.b.length
  ·exact⟨_,zW hl,by rwa [Dy hl]at hx⟩
  ·rw[xC,yC (by omega)]at hx;cases hx
 ·cases hx
def KI.buf_gr(h:KI cf E c)(h2:2<=c.phase)(h4:c.phase<=4)(t:Int):KI cf E { c with g:=c.g.shadeAll cf.stack (E0 c.b t) }/\∀n:Nat,(n:Int)∈E0 c.b t->(c.g.shadeAll cf.stack (E0 c.b t)).mks n=v7:=by
 refine⟨h.gr h2 h4 (Gl _ (λn=>(n:Int)∈E0 c.b t) _ _ λn x=>x) λa x=>?_,λn x=>?_⟩
 ·obtain⟨l,hl,hx⟩:=h.buf_in t x;exact (h.ni.bf l hl a hx).1
 ·obtain⟨l,hl,hx⟩:=h.buf_in t x;exact HJ _ _ _ n x (by have:=h.bok l hl _ hx;omega)
def SJ{b:List (List Int)}{t:Int}{l:List Int}(h:l∈b):l∈DE b t∨l=E0 b t:=by
 unfold DE;split
 ·rename_i hc;obtain⟨i,hi,rfl⟩:=yS h;by_cases e:t.toNat=i
  ·right;unfold E0;rw[vn hc.1,e,Dy hi]
  ·left;refine yM.2 ⟨i,by simpa using hi,?_⟩;rw[List.getElem_set_ne e]
 ·exact wg h
def IN{b:List (List Int)}{t:Int}{l:List Int}(h:l∈DE b t):l=[]∨l∈b:=by
 unfold DE at h;split at h
 ·exact Hm h
 ·exact wh h
def QT(b:List (List Int))(t:Int):(DE b t).length=b.length:=by unfold DE;split<;>simp
def KI.buf_take(h:KI cf E c)(t:Int)(hm:2<=c.phase->c.phase<=4->∀n:Nat,(n:Int)∈E0 c.b t->c.g.mks n=v7):KI cf E { c with b:=DE c.b t }:=by
 refine { h with ni:=⟨h.ni.m1,λl hl b hb=>?_,h.ni.rt,h.ni.gl,h.ni.cl⟩,bl:=by simp only;rw[QT];exact h.bl,bok:=λl hl x hx=>?_,p5:=λe=>⟨λl hl=>?_,(h.p5 e).2⟩,p24:=λp2 p4=>⟨(h.p24 p2 p4).1,λQ hQ=>(h.p24 p2 p4).2 Q ⟨hQ.m1,λl hl b hb=>?_,hQ.pd,hQ.cl⟩⟩ }
 ·rcases IN hl with rfl|g
  ·cases hb
  ·exact h.ni.bf l g b hb
 ·rcases IN hl with rfl|g
  ·cases hx
  ·exact h.bok l g x hx
 ·rcases IN hl with rfl|g
  ·rfl
  ·exact (h.p5 e).1 l g
 ·rcases SJ (t:=t) hl with g|rfl
  ·exact hQ.bf l g b hb
  ·exact hQ.m1 b (hm p2 p4 b hb)
def KI.kept(h:KI cf E c){s':St}(hs:SI s')(hk:∀b,C4 c.s.c s'.c b):KI cf E { c with s:=s' }:=by
 have hK:∀a,C0 { c with s:=s' } a↔C0 c a:=λa=>by
  unfold C0;simp only;rw[(hk a).1]
 have hF:∀ {a j b:Nat},Fl s' a j b↔Fl c.s a j b:=Fl.same hk;refine { h with si:=hs,ni:=⟨λa x=>(hK a).2 (h.ni.m1 a x),λl hl b hb=>(hK b).2 (h.ni.bf l hl b hb),λl hl b hb=>(hK b).2 (h.ni.rt l hl b hb),λn e=>(hK n).2 (h.ni.gl n e),λa j b x f=>(hK b).2 (h.ni.cl a j b ((hK a).1 x) (hF.1 f))⟩,p24:=λp2 p4=>⟨(h.p24 p2 p4).1,λQ hQ=>?_⟩ }
 obtain⟨q1,q2⟩:=(h.p24 p2 p4).2 Q ⟨hQ.m1,hQ.bf,λa j b x f p=>hQ.pd a j b x (hF.2 f) p,λa j b x y f=>hQ.cl a j b x y (hF.2 f)⟩;exact⟨q1,λa j b x f=>q2 a j b x (hF.1 f)⟩
def KI.gone(h:KI cf E c)(t:Int)(hl:c.r.live t=v7):KI cf E { c with th:=c.th.set t.toNat [],r:=c.r.detach t }:=by
 obtain⟨h0,h1,_⟩:=DH.1 hl;obtain⟨t,rfl⟩:=xQ h0;have h':=h.th_set (t:=t) hl (l:=[]) λv hv=>by cases hv
 have hd:c.r.detach (t:Int)={ c.r with l:=c.r.l.set t (v8,0) }:=by unfold Rg.detach;rw[vn hl,zE]
 have hlive:∀u:Nat,(c.r.detach (t:Int)).live u=if (u:Int)=t then v8 else c.r.live u:=λu=>by
  rw[hd];exact FD h0 h1 u
 have hof:∀u:Nat,(u:Int)≠t->(c.r.detach (t:Int)).ofT u=c.r.ofT u:=λu hu=>by
  rw[hd];have:=Lp (m:=(v8,0)) h0 h1 (u:Int);rw[vm hu]at this;exact this
 have hep:(c.r.detach (t:Int)).ep=c.r.ep:=by rw[hd]
 have htl:=h.th_in hl;simp only[zE];refine { h' with ni:=⟨h'.ni.m1,h'.ni.bf,h'.ni.rt,h'.ni.gl,h'.ni.cl⟩,rl:=by rw[hd];simp only[i8];exact h.rl,lv:=λu hu=>?_,ep:=λu hu=>?_,e0:=by simp only;rw[hep];exact h.e0,p24:=λp2 p4=>⟨(h.p24 p2 p4).1,λQ hQ=>?_⟩ }
 ·simp only at hu ⊢;rw[FC];by_cases e:t=u
  ·rw[vn ⟨e,htl.1⟩]
  ·rw[vm (λx=>e x.1)];rw[hlive,vm (by omega)]at hu;exact h.lv u hu
 ·simp only at hu ⊢;rw[hlive]at hu;by_cases e:(u:Int)=t
  ·rw[vn e]at hu;cases hu
  ·rw[vm e]at hu;rw[hof u e,hep];exact h.ep u hu
 ·obtain⟨q1,q2⟩:=(h'.p24 p2 p4).2 Q ⟨hQ.m1,hQ.bf,hQ.pd,hQ.cl⟩;refine⟨λu hu hc b hb=>?_,q2⟩;simp only at hu hc hb;rw[hlive]at hu;by_cases e:(u:Int)=t
  ·rw[vn e]at hu;cases hu
  ·rw[vm e]at hu;rw[hof u e,hep]at hc;exact q1 u hu hc b hb
def HG(c:Co):c.marking=v7↔2<=c.phase/\c.phase<=4:=by unfold Co.marking;simp
def KI.detach(h:KI cf E c)(hE:E+4<=1000000000)(t:Int):KI cf (E+4) (c.detach cf t):=by
 unfold Co.detach;split
 rotate_left
 ·exact h.up (by omega)
 rename_i hl;simp only;have key:∀g',(KI cf E { c with g:=g' })->(2<=c.phase->c.phase<=4->∀n:Nat,(n:Int)∈E0 c.b t->g'.mks n=v7)->KI cf (E+4) (({ c with b:=DE c.b t,g:=g',th:=c.th.set t.toNat [],s:=c.s.quit t,r:=c.r.detach t }:Co).adv cf):=λg' hg hm=>by
  have k1:=hg.buf_take t hm;obtain⟨s1,s2,_⟩:=St.quit_ok h.si t;have k2:=k1.kept (s':=c.s.quit t) s1 s2;have k3:=k2.gone t hl;exact KI.adv 4 _ E k3 hE
 by_cases hmk:c.marking=v7
 ·rw[vn hmk];obtain⟨m2,m4⟩:=(HG c).1 hmk;obtain⟨k1,k2⟩:=h.buf_gr m2 m4 t;exact key _ k1 λ_ _=>k2
 ·rw[vm hmk];exact key _ h λm2 m4=>absurd ((HG c).2 ⟨m2,m4⟩) hmk
def KI.confirm(h:KI cf E c)(t:Int)(hl:c.r.live t=v7)(hm:c.phase=2->∀b:Nat,(2,(b:Int))∈c.th.getD t.toNat []->c.g.mks b=v7):KI cf E { c with r:=(c.r.confirm t).1 }:=by
 unfold Rg.confirm;split
 rotate_left
 ·exact h
 obtain⟨h0,h1,_⟩:=DH.1 hl;have hlive:∀u:Nat,({ c.r with l:=c.r.l.set t.toNat (v7,c.r.ep) }:Rg).live u=if (u:Int)=t then v7 else c.r.live u:=λu=>FD h0 h1 u;have hof:∀u:Nat,({ c.r with l:=c.r.l.set t.toNat (v7,c.r.ep) }:Rg).ofT u=if (u:Int)=t then c.r.ep else c.r.ofT u:=λu=>by rw[Lp h0 h1 u];rfl
 refine { h with ni:=⟨h.ni.m1,h.ni.bf,h.ni.rt,h.ni.gl,h.ni.cl⟩,rl:=by simp only[i8];exact h.rl,lv:=λu hu=>?_,ep:=λu hu=>?_,p24:=λp2 p4=>⟨(h.p24 p2 p4).1,λQ hQ=>?_⟩ }
 ·simp only at hu;rw[hlive]at hu;by_cases e:(u:Int)=t
  ·rw[vn e]at hu;cases hu
  ·rw[vm e]at hu;exact h.lv u hu
 ·simp only at hu ⊢;rw[hlive]at hu;rw[hof];by_cases e:(u:Int)=t
  ·rw[vn e];exact u7 _
  ·rw[vm e]at hu ⊢;exact h.ep u hu
 ·obtain⟨q1,q2⟩:=(h.p24 p2 p4).2 Q ⟨hQ.m1,hQ.bf,hQ.pd,hQ.cl⟩;refine⟨λu hu hc b hb=>?_,q2⟩;simp only at hu hc hb;rw[hlive]at hu;rw[hof]at hc;by_cases e:(u:Int)=t
  ·by_cases e2:c.phase=2
   ·have:u=t.toNat:=by omega
    rw[this]at hb;exact hQ.m1 b (hm e2 b hb)
   ·exact q1 u (by rw[e];exact hl) (λx=>absurd x e2) b hb
  ·rw[vm e]at hu hc;exact q1 u hu hc b hb
def LV{l:List V2}{x:Int}:x∈DC l↔(2,x)∈l:=by
 have key:∀(l:List V2) (out:List Int),x∈l.foldl (λout v=>if v.1=2/\v.2∉out then out++[v.2] else out) out↔x∈out∨(2,x)∈l:=by
  intro l;induction l with
  | nil=>intro out;simp
  | cons v l ih=>
   intro out;rw[List.foldl_cons,ih];by_cases hc:v.1=2/\v.2∉out
   ·rw[vn hc];obtain⟨k,n⟩:=v;obtain⟨rfl,h2⟩:=hc;simp only[un,uq,true_and];constructor
    ·rintro (g|g)
     ·rcases j4.1 g with g|g
      ·exact wg g
      ·exact wh (wg (yZ.1 g))
     ·exact wh (wh g)
    ·rintro (g|g|g)
     ·exact wg (j4.2 (wg g))
     ·exact wg (j4.2 (wh (yZ.2 g)))
     ·exact wh g
   ·rw[vm hc];simp only[un];constructor
    ·rintro (g|g)
     ·exact wg g
     ·exact wh (wh g)
    ·rintro (g|g|g)
     ·exact wg g
     ·left;apply xF;intro hx;exact hc (by rw[<-g];exact⟨rfl,hx⟩)
     ·exact wh g
 unfold DC;rw[key l []];simp
def KI.poll(h:KI cf E c)(hE:E+4<=1000000000)(t:Int):KI cf (E+4) (c.poll cf t):=by
 unfold Co.poll;split
 rotate_left
 ·exact h.up (by omega)
 rename_i hcf;have hl:c.r.live t=v7:=by
  unfold Rg.confirm at hcf;split at hcf
  ·rename_i hc;exact hc.1
  ·cases hcf
 obtain⟨t0,_,_⟩:=DH.1 hl;simp only;by_cases c2:c.phase=2
 ·rw[vn c2];have hin:=(h.th_in (t:=t.toNat) (by rw[yR t0];exact hl)).2;have k1:KI cf E { c with g:=c.g.shadeAll cf.stack (DC (c.th.getD t.toNat [])) }:=
   h.gr (by omega) (by omega) (Gl _ (λn=>(n:Int)∈DC (c.th.getD t.toNat [])) _ _ λn x=>x) λa x=>(h.ni.rt _ hin a (LV.1 x)).1
  have k2:=k1.confirm t hl λ_ b hb=>HJ _ _ _ b (LV.2 hb) (by
   obtain⟨n,e,hn⟩:=Dq (h.vok _ hin _ hb) rfl;have:(b:Int)=n:=by simpa using e
   omega)
  exact KI.adv 4 _ E k2 hE
 rw[vm c2];by_cases c4:c.phase=4
 ·rw[vn c4];obtain⟨k1,k2⟩:=h.buf_gr (by omega) (by omega) t;have k3:=(k1.buf_take t λ_ _=>k2).confirm t hl λe=>absurd e c2;exact KI.adv 4 _ E k3 hE
 ·rw[vm c4];exact KI.adv 4 _ E (h.confirm t hl λe=>absurd e c2) hE
end
section
variable{cf:Cf}{E:Int}{c:Co}
def Fl.set{s:St}(h:SI s){a i:Nat}{ser:Int}{fs:List V2}(o:C7 s.c a ser fs){v:V2}(hv:Dk v=v7)(hi:i<fs.length){x j b:Nat}:Fl (s.set (a:Int) (i:Int) v).1 x j b↔(x=a/\j=i/\v=(2,(b:Int)))∨(¬(x=a/\j=i)/\Fl s x j b):=by
 obtain⟨_,o',k,_,si,_⟩:=St.set_ok h o (i:=(i:Int)) hv (by omega);rw[zE]at o';constructor
 ·rintro⟨se,f,o2,e⟩;by_cases hx:x=a
  ·subst hx;obtain⟨rfl,rfl⟩:=o2.same o';rw[zI]at e;by_cases hj:i=j
   ·subst hj;rw[vn rfl,vn hi]at e;exact wg ⟨rfl,rfl,j9 e⟩
   ·rw[vm hj]at e;exact wh ⟨λh=>hj h.2.symm,_,_,o,e⟩
  ·exact wh ⟨λh=>hx h.1,se,f,(k x hx).obj.1 o2,e⟩
 ·rintro (⟨rfl,rfl,rfl⟩|⟨hn,se,f,o2,e⟩)
  ·exact⟨_,_,o',by rw[zI,vn rfl,vn hi]⟩
  ·by_cases hx:x=a
   ·subst hx;obtain⟨rfl,rfl⟩:=o2.same o;exact⟨_,_,o',by rw[zI,vm (λh=>hn ⟨rfl,h.symm⟩)];exact e⟩
   ·exact⟨se,f,(k x hx).obj.2 o2,e⟩
def SF(b:List (List Int))(t a:Int):(FB b t a).length=b.length:=by unfold FB;split<;>simp
def SG{b:List (List Int)}{t a:Int}{l:List Int}(h:l∈FB b t a):∀x∈l,x=a∨∃l'∈b,x∈l':=by
 intro x hx;unfold FB at h;split at h
 ·rename_i hc;rcases Hm h with rfl|g
  ·rcases j4.1 hx with y|y
   ·right;unfold E0 at y;rw[vn hc.1,Dy (by omega)]at y;exact⟨_,zW _,y⟩
   ·exact wg (yZ.1 y)
  ·exact wh ⟨l,g,hx⟩
 ·exact wh ⟨l,h,hx⟩
def SH{b:List (List Int)}{t a:Int}{l:List Int}(h:l∈b){x:Int}(hx:x∈l):∃l'∈FB b t a,x∈l':=by
 unfold FB;split
 ·rename_i hc;obtain⟨i,hi,rfl⟩:=yS h;by_cases e:t.toNat=i
  ·refine⟨_,yM.2 ⟨i,by simpa using hi,rfl⟩,?_⟩;rw[zX,vn e];unfold E0;rw[vn hc.1,e,Dy hi];exact j4.2 (wg hx)
  ·exact⟨_,yM.2 ⟨i,by simpa using hi,rfl⟩,by rw[List.getElem_set_ne e];exact hx⟩
 ·exact⟨l,h,hx⟩
def UI{b:List (List Int)}{t a:Int}(h0:0<=t/\t<b.length)(ha:0<=Ct a):∃l∈FB b t a,a∈l:=by
 unfold FB;by_cases hm:a∈E0 b t
 ·rw[vm (λh=>h.2.2.2 hm)];unfold E0 at hm;rw[vn h0.1,Dy (by omega)]at hm;exact⟨_,zW _,hm⟩
 ·rw[vn ⟨h0.1,h0.2,ha,hm⟩];exact⟨_,yM.2 ⟨t.toNat,by simp;omega,rfl⟩,by rw[zX,vn rfl];simp⟩
def KI.write(h:KI cf E c){t a:Nat}{i:Int}{v:V2}(ha:VG c t (2,(a:Int)))(hv:VG c t v):KI cf E (c.write (t:Int) (a:Int) i v).1:=by
 unfold Co.write;split
 rotate_left
 ·exact h
 rename_i hc;obtain⟨hl,hmay,hget⟩:=hc;obtain⟨ser,fs,o,_⟩:=h.si.hi.obj a (ha.kp a rfl).1;have e:=St.get_obj h.si.hi.ci o i;have hi:0<=i:=by apply xF;intro hc;rw[vm hc]at e;rw[e]at hget;cases hget
 obtain⟨i,rfl⟩:=xQ hi;rw[vn hi,zE]at e;have hlen:i<fs.length:=by apply xF;intro hc;rw[yC (by omega)]at e;rw[e]at hget;cases hget
 rw[xO hlen]at e;simp only at e;rw[e];simp only;have hof:∀b:Nat,fs[i]=(2,(b:Int))->Fl c.s a i b:=λb eb=>⟨ser,fs,o,by rw[xO hlen,eb]⟩;obtain⟨s1,s2,s3,s4,s5,s6⟩:=St.set_ok h.si o (i:=(i:Int)) hv.ok (by omega);have hF:∀ {x j b:Nat},Fl (c.s.set (a:Int) (i:Int) v).1 x j b↔(x=a/\j=i/\v=(2,(b:Int)))∨(¬(x=a/\j=i)/\Fl c.s x j b):=Fl.set h.si o hv.ok hlen;generalize (c.s.set (a:Int) (i:Int) v).1=s' at *
 generalize hb':(if fs[i].1=2/\¬(c.g.is fs[i].2=v7)/\c.barrier (t:Int)=v7 then FB c.b (t:Int) fs[i].2 else c.b)=b';have hold:∀n:Nat,fs[i]=(2,(n:Int))->n<2048:=λn en=>by
  have:=(o.fld i hlen).1;rw[en]at this;obtain⟨m,em,hm⟩:=Dq this rfl;have:(n:Int)=m:=by simpa using em
  omega
 have ht8:(t:Int)<c.b.length:=by have:=(DH.1 hl).2.1;have:=h.rl;have:=h.bl;omega
 have hsub:∀l∈b',∀x∈l,(fs[i]=(2,x))∨∃l'∈c.b,x∈l':=λl hl' x hx=>by
  rw[<-hb']at hl';split at hl'
  ·rename_i hc;rcases SG hl' x hx with y|y
   ·left;rw[y, <-hc.1]
   ·exact wh y
  ·exact wh ⟨l,hl',hx⟩
 have hsup:∀l∈c.b,∀x∈l,∃l'∈b',x∈l':=λl hl' x hx=>by
  rw[<-hb'];split
  ·exact SH hl' hx
  ·exact⟨l,hl',hx⟩
 have hblen:b'.length=c.b.length:=by
  rw[<-hb'];split
  ·exact SF _ _ _
  ·rfl
 have hlog:2<=c.phase->c.phase<=4->∀n:Nat,fs[i]=(2,(n:Int))->c.g.mks n=v7∨∃l∈b',(n:Int)∈l:=λp2 p4 n en=>by
  have hn:=hold n en;by_cases hm:c.g.mks n=v7
  ·exact wg hm
  ·right;rw[<-hb',vn]
   ·rw[en];exact UI ⟨by omega,ht8⟩ (by unfold Ct;rw[vn (by simp only;omega)];simp only;omega)
   ·rw[en];refine⟨rfl,?_,?_⟩
    ·simp only;rw[G0 _ hn];exact hm
    ·unfold Co.barrier;rw[(HG c).2 ⟨p2,p4⟩];rfl
 have hK:∀x,C0 { c with b:=b',s:=s' } x↔C0 c x:=λx=>by
  unfold C0;simp only;rw[s4]
 refine { h with si:=s5,ni:=⟨λx y=>(hK x).2 (h.ni.m1 x y),λl hl' b hb=>(hK b).2 ?_,λl hl' b hb=>(hK b).2 (h.ni.rt l hl' b hb),λn en=>(hK n).2 (h.ni.gl n en),λx j b y f=>(hK b).2 ?_⟩,bl:=by simp only;rw[hblen];exact h.bl,bok:=λl hl' x hx=>?_,p5:=λe5=>⟨λl hl'=>?_,(h.p5 e5).2⟩,p24:=λp2 p4=>⟨(h.p24 p2 p4).1,λQ hQ=>?_⟩ }
 ·rcases hsub l hl' b hb with y|⟨l',y,z⟩
  ·exact h.ni.cl a i b (ha.kp a rfl) (hof b y)
  ·exact h.ni.bf l' y b z
 ·rcases hF.1 f with⟨_,_,ev⟩|⟨_,g⟩
  ·exact hv.kp b ev
  ·exact h.ni.cl x j b ((hK x).1 y) g
 ·rcases hsub l hl' x hx with y|⟨l',y,z⟩
  ·have:=(o.fld i hlen).1;rw[y]at this;obtain⟨m,em,hm⟩:=Dq this rfl;have:x=m:=by simpa using em
   omega
  ·exact h.bok l' y x z
 ·simp only at hl' e5;have hnb:c.barrier (t:Int)=v8:=by unfold Co.barrier Co.marking;rw[e5];rfl
  rw[<-hb',vm (by rw[hnb];intro x;exact absurd x.2.2 (by decide))]at hl';exact (h.p5 e5).1 l hl'
 ·simp only at p2 p4;have hQo:∀n:Nat,fs[i]=(2,(n:Int))->Q n:=λn en=>by
   rcases hlog p2 p4 n en with y|⟨l,y,z⟩
   ·exact hQ.m1 n y
   ·exact hQ.bf l y n z
  have hfl:∀x j b,Fl c.s x j b->(x=a/\j=i/\fs[i]=(2,(b:Int)))∨Fl s' x j b:=λx j b f=>by
   by_cases hx:x=a/\j=i
   ·left;obtain⟨rfl,rfl⟩:=hx;refine⟨rfl,rfl,?_⟩;obtain⟨se,f',o2,e2⟩:=f;obtain⟨rfl,rfl⟩:=o2.same o;rw[xO hlen]at e2;exact j9 e2
   ·exact wh (hF.2 (wh ⟨hx,f⟩))
  have hQ':PC c Q:=by
   refine⟨hQ.m1,λl hl' b hb=>?_,λx j b y f p=>?_,λx j b y z f=>?_⟩
   ·obtain⟨l',y,z⟩:=hsup l hl' _ hb;exact hQ.bf l' y b z
   ·rcases hfl x j b f with⟨_,_,eb⟩|g
    ·exact hQo b eb
    ·exact hQ.pd x j b y g p
   ·rcases hfl x j b f with⟨_,_,eb⟩|g
    ·exact hQo b eb
    ·exact hQ.cl x j b y z g
  obtain⟨q1,q2⟩:=(h.p24 p2 p4).2 Q hQ';refine⟨q1,λx j b y f=>?_⟩;rcases hF.1 f with⟨rfl,rfl,ev⟩|⟨_,g⟩
  ·by_cases e2:c.phase=2
   ·refine hQ.pd x j b y f ?_;rcases (h.p2 e2).2 x y with z|z
    ·exact wg z
    ·exact wh (wg ⟨0,z,by omega⟩)
   ·exact hv.pc p2 p4 (λe3=>absurd e3 e2) Q hQ' b ev
  ·exact q2 x j b y g
def Fl.new{s s':St}{a n:Nat}(h:FP s s' a n){x j b:Nat}:Fl s' x j b↔Fl s x j b:=by
 constructor
 ·rintro⟨ser,fs,o,e⟩;by_cases hx:x=a
  ·subst hx;obtain⟨_,rfl⟩:=o.same h.obj;rw[xT]at e;split at e
   ·simp at e
   ·cases e
  ·exact⟨ser,fs,(h.kept x hx).obj.1 o,e⟩
 ·rintro⟨ser,fs,o,e⟩;by_cases hx:x=a
  ·subst hx;have:=o.tk;rw[h.off]at this;cases this
  ·exact⟨ser,fs,(h.kept x hx).obj.2 o,e⟩
def FP.tk{s s':St}{a n:Nat}(h:FP s s' a n){x:Nat}(hx:s.c.tk x=v7):s'.c.tk x=v7:=by
 by_cases e:x=a
 ·subst e;rw[h.off]at hx;cases hx
 ·rw[(h.kept x e).1];exact hx
def KI.newO(h:KI cf E c){s':St}{a n:Nat}(hn:FP c.s s' a n)(hs:SI s'):KI cf E { c with s:=s' }:=by
 have hK:∀x,C0 c x->C0 { c with s:=s' } x:=λx y=>⟨hn.tk y.1,y.2⟩;have hK':∀x,x≠a->C0 { c with s:=s' } x->C0 c x:=λx e y=>⟨by have:=y.1;simp only at this;rw[(hn.kept x e).1]at this;exact this,y.2⟩
 refine { h with si:=hs,ni:=⟨λx y=>hK x (h.ni.m1 x y),λl hl b hb=>hK b (h.ni.bf l hl b hb),λl hl b hb=>hK b (h.ni.rt l hl b hb),λm e=>hK m (h.ni.gl m e),λx j b y f=>?_⟩,p24:=λp2 p4=>⟨(h.p24 p2 p4).1,λQ hQ=>?_⟩ }
 ·have f':=(Fl.new hn).1 f;by_cases e:x=a
  ·subst e;obtain⟨_,_,o,_⟩:=f';have:=o.tk;rw[hn.off]at this;cases this
  ·exact hK b (h.ni.cl x j b (hK' x e y) f')
 ·obtain⟨q1,q2⟩:=(h.p24 p2 p4).2 Q ⟨hQ.m1,hQ.bf,λx j b y f p=>hQ.pd x j b y ((Fl.new hn).2 f) p,λx j b y z f=>hQ.cl x j b y z ((Fl.new hn).2 f)⟩;exact⟨q1,λx j b y f=>q2 x j b y ((Fl.new hn).1 f)⟩
def LC(g:Gy){a:Nat}(h:a<2048):g.black (a:Int)={ g with mks:=CG g.mks a v7 }:=by unfold Gy.black;rw[vn ⟨by omega,by omega⟩,zE]
def DW{m:Bs}{a b:Nat}:(CG m a v7) b=v7↔b=a∨m b=v7:=by
 unfold CG;by_cases e:b=a
 ·rw[vn e];simp[e]
 ·rw[vm e];simp[e]
def KI.color(h:KI cf E c){a:Nat}(ha:c.s.c.tk a=v7)(hnil:∀j b,¬Fl c.s a j b)(t:Nat):KI cf E (c.color cf (a:Int))/\VG (c.color cf (a:Int)) t (2,(a:Int))/\(c.color cf (a:Int)).s=c.s:=by
 have hlt:a<2048:=by have:=h.si.hi.ci.tk_lt ha;have:=h.si.hi.ci.small_n;omega
 have hpg:Ct (a:Int)=((a / 32:Nat):Int):=by unfold Ct;rw[vn (by omega)];omega
 have hok:Dk (2,(a:Int))=v7:=by simp[Dk,D8];omega
 have hph:=h.ph;unfold Co.color;by_cases c2:c.phase=2
 ·rw[vn c2];have hm:=Ix cf.stack c.g hlt;have k:=h.gr (by omega) (by omega) (Hs cf.stack (λx=>x=a) c.g (a:=(a:Int)) λn e=>by omega) λx e=>by rw[e];exact ha
  generalize c.g.shade cf.stack (a:Int)=g' at hm k ⊢;refine⟨k,⟨hok,λb e=>?_,λp2 p4 _ Q hQ b e=>?_⟩,rfl⟩
  ·have:a=b:=p9 (by simpa using e);subst this;exact⟨ha,λe5=>by simp only at e5;omega⟩
  ·have:a=b:=p9 (by simpa using e);subst this;exact hQ.m1 a hm
 rw[vm c2];by_cases c3:c.phase=3∨c.phase=4∨(c.phase=5/\c.at_<=Ct (a:Int))
 ·rw[vn c3,LC _ hlt];have hK:∀x,C0 c x->C0 { c with g:={ c.g with mks:=CG c.g.mks a v7 } } x:=λx y=>⟨y.1,λe5=>(y.2 e5).imp id λz=>DW.2 (wh z)⟩;have hKa:C0 { c with g:={ c.g with mks:=CG c.g.mks a v7 } } a:=⟨ha,λ_=>wh (DW.2 (wg rfl))⟩;have hK':∀x,x≠a->C0 { c with g:={ c.g with mks:=CG c.g.mks a v7 } } x->C0 c x:=λx e y=>⟨y.1,λe5=>(y.2 e5).imp id λz=>(DW.1 z).resolve_left e⟩
  refine⟨{ h with ni:=⟨λx y=>?_,λl hl b hb=>hK b (h.ni.bf l hl b hb),λl hl b hb=>hK b (h.ni.rt l hl b hb),λm e=>hK m (h.ni.gl m e),λx j b y f=>?_⟩,ent:=λe he=>?_,p01:=λe=>?_,p5:=λe5=>⟨(h.p5 e5).1,(h.p5 e5).2.1,λx y=>?_⟩,p24:=λp2 p4=>⟨DW.2 (wh (h.p24 p2 p4).1),λQ hQ=>?_⟩,p2:=λe=>absurd e c2 },⟨hok,λb e=>?_,λp2 p4 _ Q hQ b e=>?_⟩,rfl⟩
  ·rcases DW.1 y with rfl|z
   ·exact hKa
   ·exact hK x (h.ni.m1 x z)
  ·by_cases e:x=a
   ·subst e;exact absurd f (hnil j b)
   ·exact hK b (h.ni.cl x j b (hK' x e y) f)
  ·obtain⟨m,e1,e2,e3⟩:=h.ent e he;exact⟨m,e1,DW.2 (wh e2),e3⟩
  ·simp only at e;omega
  ·rcases DW.1 y with rfl|z
   ·have:c.phase=5:=e5;show c.at_<=_;rcases c3 with c3|c3|c3
    ·omega
    ·omega
    ·rw[hpg]at c3;exact c3.2
   ·exact (h.p5 e5).2.2 x z
  ·have hQ':PC c Q:=by
    refine⟨λx y=>hQ.m1 x (DW.2 (wh y)),hQ.bf,λx j b y f p=>hQ.pd x j b (DW.2 (wh y)) f p,λx j b y z f=>?_⟩;by_cases e:x=a
    ·subst e;exact absurd f (hnil j b)
    ·refine hQ.cl x j b y ?_ f;show (CG c.g.mks a v7) x=v8;unfold CG;rw[vm e];exact z
   obtain⟨q1,q2⟩:=(h.p24 p2 p4).2 Q hQ';refine⟨q1,λx j b y f=>?_⟩;rcases DW.1 y with rfl|z
   ·exact absurd f (hnil j b)
   ·exact q2 x j b z f
  ·have:a=b:=p9 (by simpa using e);subst this;exact hKa
  ·have:a=b:=p9 (by simpa using e);subst this;exact hQ.m1 a (DW.2 (wg rfl))
 ·rw[vm c3];refine⟨h,⟨hok,λb e=>?_,λp2 p4 _ Q hQ b e=>?_⟩,rfl⟩
  ·have:a=b:=p9 (by simpa using e);subst this;refine⟨ha,λe5=>wg ?_⟩;rw[hpg]at c3;omega
  ·omega
def Ng{s s':St}{a n:Nat}(h:FP s s' a n):∀j b,¬Fl s' a j b:=λj b f=>by
 obtain⟨_,_,o,_⟩:=(Fl.new h).1 f;have:=o.tk;rw[h.off]at this;cases this
def KI.fast(h:KI cf E c)(hM:c.s.made<1099511627775)(t:Nat)(n:Int):c.fast cf (t:Int) n=(c,v6)∨∃(a:Nat) (s':St) (c':Co),c.fast cf (t:Int) n=(c',vz (a:Int))/\FP c.s s' a n.toNat/\c'=({ c with s:=s' }:Co).color cf (a:Int)/\KI cf E c'/\VG c' t (2,(a:Int))/\c'.s=s':=by
 unfold Co.fast;split
 ·rcases St.fast_ok h.si hM t n with⟨e,_⟩|⟨a,s',e,e1,e2,e3⟩
  ·rw[e];exact wg rfl
  ·rw[e];right;obtain⟨k1,k2,k3⟩:=(h.newO e1 e2).color (a:=a) e1.obj.tk (Ng e1) t;exact⟨a,s',_,rfl,e1,rfl,k1,k2,k3⟩
 ·exact wg rfl
def KI.slow(h:KI cf E c)(hM:c.s.made<1099511627775)(t:Nat)(n:Int):(∃e,e≠0/\c.slow cf (t:Int) n=(c,0,e))∨∃(a:Nat) (s':St) (c':Co),c.slow cf (t:Int) n=(c',(a:Int),0)/\FP c.s s' a n.toNat/\c'=({ c with s:=s' }:Co).color cf (a:Int)/\KI cf E c'/\VG c' t (2,(a:Int))/\c'.s=s':=by
 unfold Co.slow;split
 ·rcases St.slow_ok h.si hM cf.pages.toNat (nt:=cf.threads+1) (by have:=h.t8;omega) t n with⟨e,e0,e1⟩|⟨a,s',e,e1,e2⟩
  ·rw[e1];simp only;rw[vm e0];exact wg ⟨e,e0,rfl⟩
  ·rw[e];right;obtain⟨k1,k2,k3⟩:=(h.newO e1 e2).color (a:=a) e1.obj.tk (Ng e1) t;refine⟨a,s',_,?_,e1,rfl,k1,k2,k3⟩;simp only;rw[vn trivial]
 ·exact wg ⟨4,by decide,rfl⟩
end
section
variable{cf:Cf}{E:Int}{c:Co}
def KI.traced(h:KI cf E c)(h3:c.phase=3){g':Gy}{tp':Int}(up:∀a,c.g.mks a=v7->g'.mks a=v7)(new:∀a,g'.mks a=v7->c.g.mks a=v7∨(c.s.c.tk a=v7/\(g'.over=v7∨((a:Int),0)∈g'.l)))(ent:∀e∈g'.l,∃n:Nat,e.1=n/\g'.mks n=v7/\0<=e.2)(tpr:tp' = -1∨(0<=tp'/\tp'<cf.pages))(pdk:∀a j b,c.g.mks a=v7->Fl c.s a j b->Pd c a j->g'.mks b=v7∨Pd { c with g:=g',tp:=tp' } a j):KI cf E { c with g:=g',tp:=tp' }:=by
 have hK:∀a,C0 { c with g:=g',tp:=tp' } a↔C0 c a:=λa=>⟨λx=>⟨x.1,λe=>absurd e (by omega)⟩,λx=>⟨x.1,λe=>absurd e (by simp only;omega)⟩⟩;obtain⟨g1,g2⟩:=h.p24 (by omega) (by omega)
 refine { h with ni:=⟨λa x=>(hK a).2 ?_,λl hl b hb=>(hK b).2 (h.ni.bf l hl b hb),λl hl b hb=>(hK b).2 (h.ni.rt l hl b hb),λn e=>(hK n).2 (h.ni.gl n e),λa j b x f=>(hK b).2 (h.ni.cl a j b ((hK a).1 x) f)⟩,ent:=ent,calm:=λe=>?_,p01:=λe=>?_,p5:=λe=>?_,p24:=λ_ _=>⟨up _ g1,λQ hQ=>?_⟩,p2:=λe=>?_,tpr:=tpr }
 ·rcases new a x with y|⟨y,_⟩
  ·exact h.ni.m1 a y
  ·exact⟨y,λe=>by omega⟩
 ·simp only at e;omega
 ·simp only at e;omega
 ·simp only at e;omega
 ·have hQ':PC c Q:=by
   refine⟨λa x=>hQ.m1 a (up a x),hQ.bf,λa j b x f p=>?_,λa j b q x f=>?_⟩
   ·rcases pdk a j b x f p with y|y
    ·exact hQ.m1 b y
    ·exact hQ.pd a j b (up a x) f y
   ·by_cases e:g'.mks a=v7
    ·rcases new a e with y|⟨_,y⟩
     ·rw[x]at y;cases y
     ·refine hQ.pd a j b e f ?_;rcases y with y|y
      ·exact wg y
      ·exact wh (wg ⟨0,y,by omega⟩)
    ·exact hQ.cl a j b q (by simpa using e) f
  obtain⟨q1,q2⟩:=g2 Q hQ';refine⟨λt ht _=>q1 t ht λe=>by omega,λa j b x f=>?_⟩;rcases new a x with y|⟨_,y⟩
  ·exact q2 a j b y f
  ·refine hQ.pd a j b x f ?_;rcases y with y|y
   ·exact wg y
   ·exact wh (wg ⟨0,y,by omega⟩)
 ·simp only at e;omega
def Nn(room:Int)(g:Gy)(e:Int × Int):(g.push room e).mks=g.mks:=by unfold Gy.push;split<;>rfl
def R1(room:Int)(g:Gy)(e:Int × Int):(g.push room e).over=v7∨e∈(g.push room e).l:=by
 unfold Gy.push;split
 ·exact wg rfl
 ·exact wh (by simp)
def UY(room:Int)(g:Gy)(e:Int × Int):(∀x∈g.l,x∈(g.push room e).l)/\(g.over=v7->(g.push room e).over=v7)/\∀x∈(g.push room e).l,x∈g.l∨x=e:=by
 unfold Gy.push;split
 ·exact⟨λx hx=>hx,λ_=>rfl,λx hx=>wg hx⟩
 ·refine⟨λx hx=>by simp[hx],λh=>h,λx hx=>?_⟩;rcases j4.1 hx with y|y
  ·exact wg y
  ·exact wh (yZ.1 y)
def KI.entry(h:KI cf E c)(h3:c.phase=3)(hch:0<=cf.chunk/\cf.chunk<=1000){e:Int × Int}(he:c.g.l.getLast?=vz e):KI cf E (({ c with g:={ c.g with l:=c.g.l.dropLast } }:Co).entry cf e):=by
 have hlast:∀x∈c.g.l,x∈c.g.l.dropLast∨x=e:=λx hx=>by
  have hne:c.g.l≠[]:=List.ne_nil_of_mem hx;have e1:=List.dropLast_concat_getLast hne;rw[List.getLast?_eq_some_getLast hne]at he;rw[<-e1]at hx;rcases j4.1 hx with y|y
  ·exact wg y
  ·right;rw[yZ.1 y];exact j9 he
 have hsub:∀x∈c.g.l.dropLast,x∈c.g.l:=λx hx=>yK _ hx;have hem:e∈c.g.l:=List.mem_of_getLast? he;obtain⟨a,ea,em,e0⟩:=h.ent e hem;have hta:=(h.ni.m1 a em).1;have hpd0:∀ {x j:Nat},Pd c x j->(x=a/\e.2<=j)∨Pd { c with g:={ c.g with l:=c.g.l.dropLast } } x j:=fun {x j} p=>by
  rcases p with p|⟨i,p,q⟩|p
  ·exact wh (wg p)
  ·rcases hlast _ p with y|y
   ·exact wh (wh (wg ⟨i,y,q⟩))
   ·left;rw[<-y]at ea ⊢;simp only at ea ⊢;exact⟨by omega,q⟩
  ·exact wh (wh (wh p))
 unfold Co.entry;simp only;by_cases hc:e.2<0∨c.s.fields e.1<=e.2
 ·rw[vn hc];refine h.traced h3 (g':={ c.g with l:=c.g.l.dropLast }) (tp':=c.tp) (λ_ x=>x) (λ_ x=>wg x) (λx hx=>h.ent x (hsub x hx)) h.tpr λx j b m f p=>?_;rcases hpd0 p with⟨rfl,q⟩|y
  ·exfalso;have:=(IP h.si f).2.1;rw[ea]at hc;omega
  ·exact wh y
 rw[vm hc];have hn:c.s.fields e.1<=127:=by obtain⟨ser,fs,o,_⟩:=h.si.hi.obj a hta;rw[ea,(St.read_obj h.si.hi.ci o).1];have:=o.len;omega
 have hw:CJ (e.2+cf.chunk)=e.2+cf.chunk:=F6 (by omega);rw[hw];generalize hto:min (e.2+cf.chunk) (c.s.fields e.1)=to;have htb:e.2<=to/\to<=c.s.fields e.1:=by omega
 generalize hg1:(if to<c.s.fields e.1 then ({ c.g with l:=c.g.l.dropLast }:Gy).push cf.stack (e.1,to) else { c.g with l:=c.g.l.dropLast })=g1;have g1m:g1.mks=c.g.mks:=by
  rw[<-hg1];split
  ·rw[Nn]
  ·rfl
 have g1l:(∀x∈c.g.l.dropLast,x∈g1.l)/\(c.g.over=v7->g1.over=v7)/\(∀x∈g1.l,x∈c.g.l.dropLast∨x=(e.1,to))/\(to<c.s.fields e.1->g1.over=v7∨(e.1,to)∈g1.l):=by
  rw[<-hg1];split
  ·obtain⟨p1,p2,p3⟩:=UY cf.stack ({ c.g with l:=c.g.l.dropLast }:Gy) (e.1,to);exact⟨p1,p2,p3,λ_=>R1 _ _ _⟩
  ·rename_i hnt;exact⟨λx hx=>hx,λx=>x,λx hx=>wg hx,λy=>absurd y hnt⟩
 obtain⟨l1,l2,l3,l4⟩:=g1l;have hgr:Fz (λn=>c.s.c.tk n=v7) g1 (Fa cf c.s e.1 (to-e.2).toNat e.2 g1):=Ge cf _ _ _ _ λj n j1 j2 hj=>by
  obtain⟨x,ex,_,hf,_⟩:=QY h.si hj (by omega);have:x=a:=by omega
  subst this;exact (h.ni.cl x _ n (h.ni.m1 x em) hf).1
 have hmk:∀(j n:Nat),e.2<=j->(j:Int)<to->Fl c.s a j n->(Fa cf c.s e.1 (to-e.2).toNat e.2 g1).mks n=v7:=λj n j1 j2 f=>by
  obtain⟨f1,_,_,f4⟩:=IP h.si f;exact Lw cf _ _ _ (j:Int) n (by omega) (by omega) (by rw[ea];exact f1) f4
 generalize Fa cf c.s e.1 (to-e.2).toNat e.2 g1=g2 at hgr hmk;refine h.traced h3 (g':=g2) (tp':=c.tp) (λx y=>hgr.up x (by rw[g1m];exact y)) (λx y=>?_) (λx hx=>?_) h.tpr λx j b m f p=>?_
 ·rcases hgr.new x y with z|⟨z1,_,z3⟩
  ·rw[g1m]at z;exact wg z
  ·exact wh ⟨z1,z3⟩
 ·rcases hgr.ln x hx with y|⟨n,rfl,y⟩
  ·rcases l3 x y with z|rfl
   ·obtain⟨n,e1,e2,e3⟩:=h.ent x (hsub x z);exact⟨n,e1,hgr.up n (by rw[g1m];exact e2),e3⟩
   ·exact⟨a,ea,hgr.up a (by rw[g1m];exact em),by simp only;omega⟩
  ·exact⟨n,rfl,y,u7 0⟩
 ·rcases hpd0 p with⟨rfl,q⟩|y
  ·by_cases hj:(j:Int)<to
   ·exact wg (hmk j b q hj f)
   ·right;have hjn:=(IP h.si f).2.1;rw[<-ea]at hjn;rcases l4 (by omega)with z|z
    ·exact wg (hgr.ov z)
    ·exact wh (wg ⟨to,by rw[<-ea];exact hgr.li _ z,by omega⟩)
  ·right;rcases y with y|⟨i,y,z⟩|y
   ·exact wg (hgr.ov (l2 y))
   ·exact wh (wg ⟨i,hgr.li _ (l1 _ y),z⟩)
   ·exact wh (wh y)
def FI{s:St}(h:SI s){p x:Int}:x∈s.inP p↔∃a:Nat,x=a/\s.c.tk a=v7/\((a / 32:Nat):Int)=p:=by
 unfold St.inP St.objects HY;have hn:=h.hi.ci.small_n;simp only[m7,uu,n9,zP];constructor
 ·rintro⟨⟨a,⟨a1,a2⟩,rfl⟩,e⟩;refine⟨a,rfl,a2,?_⟩;have:=h.hi.ci.tk_lt a2;rw[<-e];show _=Ct (a:Int);unfold Ct;rw[vn (by omega)];omega
 ·rintro⟨a,rfl,ha,rfl⟩;have:=h.hi.ci.tk_lt ha;refine⟨⟨a,⟨by unfold Ce.n;omega,ha⟩,rfl⟩,?_⟩;show Ct (a:Int)=_;unfold Ct;rw[vn (by omega)];omega
def IR(s:St)(p:Int):(s.inP p).Nodup:=by unfold St.inP St.objects HY;refine List.Pairwise.filter _ ?_;refine List.Pairwise.map _ ?_ (List.Pairwise.filter _ List.nodup_range);intro a b hab e;exact hab (p9 e)
def KI.look(h:KI cf E c)(h3:c.phase=3)(hp:1<=cf.pages/\cf.pages<=64)(hks:(c.s.c.ks.length:Int)=cf.pages)(hl:c.g.l=[]){p:Int}(h0:0<=p/\p<cf.pages){ov:Bool}(hov:(c.tp = -1/\p=0)∨(c.tp=p/\ov=c.g.over)):
  KI cf E (({ c with g:={ c.g with over:=ov },tp:=p }:Co).look cf):=by
 unfold Co.look;simp only;have hw:CJ (p+1)=p+1:=F6 (by omega);rw[hw];have hgr:Fz (λn=>c.s.c.tk n=v7) { c.g with over:=ov } (DF cf c.s (c.s.inP p) { c.g with over:=ov }):=GM cf _ _ _ λx hx j n j0 hj hi=>by
  obtain⟨a,ea,ta,hf,_⟩:=QY h.si hj j0;have hka:C0 c a:=⟨ta,λe=>by omega⟩;exact (h.ni.cl a _ n hka hf).1
 have hmk:∀(a j n:Nat),c.g.mks a=v7->((a / 32:Nat):Int)=p->Fl c.s a j n->(DF cf c.s (c.s.inP p) { c.g with over:=ov }).mks n=v7:=λa j n m e f=>by
  obtain⟨f1,f2,f3,f4⟩:=IP h.si f;have hlt:a<2048:=by have:=h.si.hi.ci.tk_lt f3;have:=h.si.hi.ci.small_n;omega
  exact K6 cf _ _ (a:Int) ((FI h.si).2 ⟨a,rfl,f3,e⟩) (by rw[G0 _ hlt];exact m) (j:Int) n (by omega) f2 f1 f4
 generalize DF cf c.s (c.s.inP p) { c.g with over:=ov }=g2 at hgr hmk;refine h.traced h3 (g':=g2) (λx y=>hgr.up x y) (λx y=>?_) (λx hx=>?_) ?_ λx j b m f q=>?_
 ·rcases hgr.new x y with z|⟨z1,_,z3⟩
  ·exact wg z
  ·exact wh ⟨z1,z3⟩
 ·rcases hgr.ln x hx with y|⟨n,rfl,y⟩
  ·simp only at y;rw[hl]at y;cases y
  ·exact⟨n,rfl,y,u7 0⟩
 ·by_cases e:p+1=cf.pages
  ·rw[vn e];exact wg rfl
  ·rw[vm e];right;omega
 ·have hxp:((x / 32:Nat):Int)<cf.pages:=by have:=(h.si.hi.ci.tk x (IP h.si f).2.2.1).1;omega
  have hlate:p<((x / 32:Nat):Int)->Pd { c with g:=g2,tp:=if p+1=cf.pages then -1 else p+1 } x j:=λhlt=>by
   right;right;simp only;rw[vm (by omega)];omega
  by_cases e:((x / 32:Nat):Int)=p
  ·exact wg (hmk x j b m e f)
  ·right;rcases hov with⟨t1,t2⟩|⟨t1,t2⟩
   ·exact hlate (by omega)
   ·rcases q with q|⟨i,q,_⟩|q
    ·exact wg (hgr.ov (by simp only;rw[t2];exact q))
    ·rw[hl]at q;cases q
    ·exact hlate (by omega)
def KI.tUnit(h:KI cf E c)(h3:c.phase=3)(hch:0<=cf.chunk/\cf.chunk<=1000)(hp:1<=cf.pages/\cf.pages<=64)(hks:(c.s.c.ks.length:Int)=cf.pages):KI cf E (c.tUnit cf).1/\(c.tUnit cf).1.phase=3:=by
 have hph:∀(d:Co) (e:Int × Int),(d.entry cf e).phase=d.phase:=λd e=>by
  unfold Co.entry;simp only;split<;>rfl
 unfold Co.tUnit;split
 ·exact⟨h,h3⟩
 rename_i hni;cases he:c.g.l.getLast? with
 | some e=>exact⟨h.entry h3 hch he,by simp only;rw[hph];exact h3⟩
 | none=>
  have hl:c.g.l=[]:=List.getLast?_eq_none_iff.1 he;simp only;by_cases ht:c.tp = -1
  ·rw[vn ht];exact⟨h.look h3 hp hks hl (p:=0) (ov:=v8) (by omega) (wg ⟨ht,rfl⟩),h3⟩
  ·rw[vm ht];refine⟨?_,h3⟩;have:=h.look h3 hp hks hl (p:=c.tp) (ov:=c.g.over) (by have:=h.tpr;omega) (wh ⟨rfl,rfl⟩);exact this
end
theorem LK(m:List Int)(p k:Int):∀n,(Ej m p k n).length=m.length
 | 0=>rfl
 | n+1=>(El _ _ _).trans (LK m p k n)
def QZ(m:List Int)(p k:Int):(D9 m p k).1.length=m.length:=by
 unfold D9;split
 ·exact (LK _ _ _ _).trans (Dm _ _ _ _)
 ·rfl
def QG(c:Ce)(k:Int):(c.carve k).1.m.length=c.m.length:=by
 unfold Ce.carve;split
 ·rfl
 ·exact QZ _ _ _
def Ty(c:Ce)(p:Int):(c.take p).1.m.length=c.m.length:=by
 unfold Ce.take;split
 ·rfl
 ·exact Dm _ _ _ _
def Rh(c:Ce)(n:Int):(c.large n).1.m.length=c.m.length:=by
 unfold Ce.large;split
 ·rfl
 ·exact Dm _ _ _ _
def Ra(m:List Int)(p k:Int)(l:Int × Int)(i:Int):(EM m p k l i).1.length=m.length:=by
 unfold EM;split
 ·exact El _ _ _
 ·rfl
def SL(c:Ce)(a:Int):(c.give a).1.m.length=c.m.length:=by
 unfold Ce.give;split
 ·simp only;split
  ·rfl
  ·exact Ra _ _ _ _ _
 ·rfl
def MK(c:Ce)(p:Int):(c.drop p).1.m.length=c.m.length:=by unfold Ce.drop;split<;>rfl
def Mb(c:Ce)(a w:Int):(c.store a w).1.m.length=c.m.length:=by
 unfold Ce.store;split
 ·exact El _ _ _
 ·rfl
def LB(s:St)(a n:Int):(s.begin a n).c.m.length=s.c.m.length:=Mb _ _ _
def JT(s:St)(t n:Int):(s.fast t n).1.c.m.length=s.c.m.length:=by
 unfold St.fast;split
 ·rfl
 ·have h:=Ty s.c (EQ s.own (t,CC n));generalize s.c.take (EQ s.own (t,CC n))=z at h;obtain⟨c,o⟩:=z;cases o
  ·rfl
  ·exact (LB _ _ _).trans h
def Rv(s:St)(np:Nat)(k:Int):(s.openP np k).1.c.m.length=s.c.m.length:=by
 unfold St.openP;split
 ·rfl
 ·exact QG _ _
def Nu(s:St)(np:Nat)(nt t n:Int):(s.slow np nt t n).1.c.m.length=s.c.m.length:=by
 unfold St.slow;simp only;split
 ·rfl
 split
 ·have h:=Rh s.c (Ef n);generalize s.c.large (Ef n)=z at h;obtain⟨c,o⟩:=z;cases o
  ·rfl
  ·exact (LB _ _ _).trans h
 ·have h:=JT s t n;generalize s.fast t n=z at h;obtain⟨c,o⟩:=z;cases o
  ·simp only;have h2:=Rv s np (CC n);generalize s.openP np (CC n)=z2 at h2;obtain⟨c2,o2⟩:=z2;cases o2
   ·rfl
   ·simp only;rw[JT];split
    ·exact h2
    ·exact h2
  ·exact h
theorem JA:∀(l:List Int) (s:St),(s.dropAll l).c.m.length=s.c.m.length
 | [],_=>rfl
 | p::l,s=>(JA l _).trans (MK _ _)
def Tn(s:St)(t:Int):(s.quit t).c.m.length=s.c.m.length:=JA _ _
def T0(s:St)(p:Int):(s.trim p).c.m.length=s.c.m.length:=by
 unfold St.trim;split
 ·exact MK _ _
 ·rfl
def UZ(s:St)(a i:Int)(v:V2):(s.set a i v).1.c.m.length=s.c.m.length:=by
 unfold St.set;split
 ·exact Mb _ _ _
 ·rfl
section
variable(cf:Cf)
def Ny(c:Co)(a:Int):(c.sweepOne a).s.c.m.length=c.s.c.m.length:=by
 unfold Co.sweepOne;split
 ·rfl
 ·exact SL _ _
theorem Ji:∀(l:List Int) (c:Co),(c.sweepAll l).s.c.m.length=c.s.c.m.length
 | [],_=>rfl
 | a::l,c=>(Ji l _).trans (Ny c a)
def Jm(c:Co):(c.wUnit cf).1.s.c.m.length=c.s.c.m.length:=by
 unfold Co.wUnit;split
 ·rfl
 ·exact (T0 _ _).trans (Ji _ _)
def Vd(c:Co):(c.unit cf).1.s.c.m.length=c.s.c.m.length:=by
 have h1:∀(r:Co × Bool),r.1.s.c.m.length=c.s.c.m.length->(if r.2 then ({ r.1 with units:=CJ (r.1.units+1) }:Co) else r.1).s.c.m.length=c.s.c.m.length:=λr h=>by split<;>exact h
 unfold Co.unit;refine h1 _ ?_;split
 ·have ht:=J1 cf c;generalize c.tUnit cf=z at ht;obtain⟨d,b⟩:=z;simp only at ht;cases b with
  | true=>simp only;rw[ht]
  | false=>simp only;unfold Co.adv;rw[GG];show d.s.c.m.length=_;rw[ht]
 ·split
  ·have hw:=Jm cf c;generalize c.wUnit cf=z at hw;obtain⟨d,b⟩:=z;simp only at hw ⊢;split<;>exact hw
  ·rfl
def QO(c:Co)(t:Int):(c.detach cf t).s.c.m.length=c.s.c.m.length:=by
 unfold Co.detach Co.adv;split
 ·simp only;rw[GG];exact Tn _ _
 ·rfl
def QH(c:Co)(t n:Int):(c.fast cf t n).1.s.c.m.length=c.s.c.m.length:=by
 unfold Co.fast;split
 ·have h:=JT c.s t n;generalize c.s.fast t n=z at h;obtain⟨s',o⟩:=z;cases o with
  | none=>rfl
  | some a=>simp only;rw[Jr];exact h
 ·rfl
def QN(c:Co)(t n:Int):(c.slow cf t n).1.s.c.m.length=c.s.c.m.length:=by
 unfold Co.slow;split
 ·have h:=Nu c.s cf.pages.toNat (cf.threads+1) t n;generalize c.s.slow cf.pages.toNat (cf.threads+1) t n=z at h;obtain⟨s',a,e⟩:=z;simp only at h ⊢;split
  ·rw[Jr];exact h
  ·exact h
 ·rfl
def RL(c:Co)(t a i:Int)(v:V2):(c.write t a i v).1.s.c.m.length=c.s.c.m.length:=by
 unfold Co.write;split
 ·exact UZ _ _ _ _
 ·rfl
end
structure Ml(c d:Co)(l:List Int):Prop where
 si:SI c.s->SI d.s
 out:∀b:Nat,(b:Int)∉l->C4 c.s.c d.s.c b/\d.g.mks b=c.g.mks b
 inn:∀b:Nat,(b:Int)∈l->c.g.mks b=v7->C4 c.s.c d.s.c b
 gone:∀b:Nat,(b:Int)∈l->c.g.mks b=v8->d.s.c.tk b=v8
 clear:∀b:Nat,(b:Int)∈l->d.g.mks b=v8
 gl:d.g.l=c.g.l/\d.g.over=c.g.over
 r:d.r=c.r
 b:d.b=c.b
 tp:d.tp=c.tp
 at_:d.at_=c.at_
 th:d.th=c.th
 global:d.global=c.global
 phase:d.phase=c.phase
 cycles:d.cycles=c.cycles
 made:d.s.made=c.s.made
theorem F5:∀(l:List Int) (c:Co),SI c.s->l.Nodup->(∀x∈l,∃a:Nat,x=a/\c.s.c.tk a=v7)->Ml c (c.sweepAll l) l
 | [],c,h,_,_=>⟨λx=>x,λb _=>⟨C4.refl _ _,rfl⟩,λb hb=>(by cases hb),λb hb=>(by cases hb),λb hb=>(by cases hb),⟨rfl,rfl⟩,rfl,rfl,rfl,rfl,rfl,rfl,rfl,rfl,rfl⟩
 | x::l,c,h,hn,hm=>by
  obtain⟨a,rfl,ha⟩:=hm x (by simp);have hna:(a:Int)∉l:=(j6.1 hn).1;have hlt:a<2048:=by have:=h.hi.ci.tk_lt ha;have:=h.hi.ci.small_n;omega
  have hne:∀b:Nat,(b:Int)≠(a:Int)->b≠a:=λb e e'=>e (by rw[e']);rw[Co.sweepAll];by_cases hmk:c.g.mks a=v7
  ·have hc:c.g.clear (a:Int)={ c.g with mks:=CG c.g.mks a v8 }:=by unfold Gy.clear;rw[G0 _ hlt,vn hmk,zE]
   have h1:c.sweepOne (a:Int)={ c with g:={ c.g with mks:=CG c.g.mks a v8 } }:=by unfold Co.sweepOne;rw[G0 _ hlt,vn hmk,hc]
   rw[h1];have ih:=F5 l { c with g:={ c.g with mks:=CG c.g.mks a v8 } } h (j6.1 hn).2 λy hy=>hm y (by simp[hy]);generalize Co.sweepAll { c with g:={ c.g with mks:=CG c.g.mks a v8 } } l=d at ih;have hb0:∀b,b≠a->(CG c.g.mks a v8) b=c.g.mks b:=λb e=>by unfold CG;rw[vm e]
   refine⟨ih.si,λb hb=>?_,λb hb m=>?_,λb hb m=>?_,λb hb=>?_,ih.gl,ih.r,ih.b,ih.tp,ih.at_,ih.th,ih.global,ih.phase,ih.cycles,ih.made⟩
   ·simp only[un,not_or]at hb;obtain⟨k1,k2⟩:=ih.out b hb.2;exact⟨k1,k2.trans (hb0 b (hne b hb.1))⟩
   ·rcases un.1 hb with e|g
    ·have:b=a:=by omega
     subst this;exact (ih.out b hna).1
    ·by_cases e:b=a
     ·subst e;exact absurd g hna
     ·exact ih.inn b g (by simp only;rw[hb0 b e];exact m)
   ·rcases un.1 hb with e|g
    ·have:b=a:=by omega
     subst this;rw[m]at hmk;cases hmk
    ·by_cases e:b=a
     ·subst e;exact absurd g hna
     ·exact ih.gone b g (by simp only;rw[hb0 b e];exact m)
   ·rcases un.1 hb with e|g
    ·have:b=a:=by omega
     subst this;rw[(ih.out b hna).2];simp[CG]
    ·exact ih.clear b g
  ·have hmf:c.g.mks a=v8:=by simpa using hmk
   obtain⟨g1,g2,g3,g4⟩:=St.give_ok h ha;have h1:c.sweepOne (a:Int)={ c with s:={ c.s with c:=(c.s.c.give (a:Int)).1 },freed:=if (c.s.c.give (a:Int)).2 then CJ (c.freed+1) else c.freed }:=by unfold Co.sweepOne;rw[G0 _ hlt,vm hmk]
   rw[h1];have ih:=F5 l { c with s:={ c.s with c:=(c.s.c.give (a:Int)).1 },freed:=if (c.s.c.give (a:Int)).2 then CJ (c.freed+1) else c.freed } g2 (j6.1 hn).2 λy hy=>by
    obtain⟨b,rfl,hb⟩:=hm y (by simp[hy]);have:b≠a:=λe=>hna (by rw[<-e];exact hy);exact⟨b,rfl,by simp only;rw[(g4 b this).1];exact hb⟩
   generalize Co.sweepAll { c with s:={ c.s with c:=(c.s.c.give (a:Int)).1 },freed:=if (c.s.c.give (a:Int)).2 then CJ (c.freed+1) else c.freed } l=d at ih;refine⟨λ_=>ih.si g2,λb hb=>?_,λb hb m=>?_,λb hb m=>?_,λb hb=>?_,ih.gl,ih.r,ih.b,ih.tp,ih.at_,ih.th,ih.global,ih.phase,ih.cycles,ih.made⟩
   ·simp only[un,not_or]at hb;obtain⟨k1,k2⟩:=ih.out b hb.2;exact⟨(g4 b (hne b hb.1)).trans k1,k2⟩
   ·rcases un.1 hb with e|g
    ·have:b=a:=by omega
     subst this;rw[hmf]at m;cases m
    ·by_cases e:b=a
     ·subst e;exact absurd g hna
     ·exact (g4 b e).trans (ih.inn b g m)
   ·rcases un.1 hb with e|g
    ·have:b=a:=by omega
     subst this;rw[(ih.out b hna).1.1];exact g3
    ·exact ih.gone b g m
   ·rcases un.1 hb with e|g
    ·have:b=a:=by omega
     subst this;rw[(ih.out b hna).2];exact hmf
    ·exact ih.clear b g
def Ml.fl{c d:Co}{l:List Int}(h:Ml c d l){x j b:Nat}(f:Fl d.s x j b):Fl c.s x j b:=by
 obtain⟨ser,fs,o,e⟩:=f;by_cases hx:(x:Int)∈l
 ·by_cases hm:c.g.mks x=v7
  ·exact⟨ser,fs,(h.inn x hx hm).obj.1 o,e⟩
  ·have:=h.gone x hx (by simpa using hm);rw[o.tk]at this;cases this
 ·exact⟨ser,fs,(h.out x hx).1.obj.1 o,e⟩
section
variable{cf:Cf}{E:Int}{c:Co}
def KI.swept(h:KI cf E c)(h5:c.phase=5){d:Co}(hs:Ml c d (c.s.inP c.at_))(hat:c.at_<=1000){s':St}(hs':SI s')(hk:∀b,C4 d.s.c s'.c b)(hm:s'.made=d.s.made):KI cf E { d with s:=s',at_:=CJ (d.at_+1) }:=by
 obtain⟨b5,a5,m5⟩:=h.p5 h5;have hw:CJ (d.at_+1)=c.at_+1:=by rw[hs.at_];exact F6 (by omega)
 rw[hw];have hin:∀b:Nat,c.s.c.tk b=v7->((b / 32:Nat):Int)=c.at_->(b:Int)∈c.s.inP c.at_:=λb tb e=>(FI h.si).2 ⟨b,rfl,tb,e⟩;have hout:∀b:Nat,(b:Int)∈c.s.inP c.at_->((b / 32:Nat):Int)=c.at_:=λb hb=>by
  obtain⟨a,e,_,e2⟩:=(FI h.si).1 hb;have:b=a:=by omega
  rw[this];exact e2
 have hmks:∀b,d.g.mks b=v7->(b:Int)∉c.s.inP c.at_/\c.g.mks b=v7:=λb m=>by
  by_cases hb:(b:Int)∈c.s.inP c.at_
  ·rw[hs.clear b hb]at m;cases m
  ·exact⟨hb,by rw[<-(hs.out b hb).2];exact m⟩
 have hK:∀a,C0 { d with s:=s',at_:=c.at_+1 } a↔C0 c a:=λa=>by
  constructor
  ·rintro⟨x1,x2⟩;have x2:=x2 (by simp only;rw[hs.phase];exact h5);simp only at x1 x2;rw[(hk a).1]at x1;by_cases ha:(a:Int)∈c.s.inP c.at_
   ·by_cases hm:c.g.mks a=v7
    ·exact⟨(h.ni.m1 a hm).1,λ_=>wh hm⟩
    ·rw[hs.gone a ha (by simpa using hm)]at x1;cases x1
   ·obtain⟨k1,k2⟩:=hs.out a ha;rw[k1.1]at x1;refine⟨x1,λ_=>?_⟩;rcases x2 with x2|x2
    ·left;have:((a / 32:Nat):Int)≠c.at_:=λe=>ha (hin a x1 e);omega
    ·exact wh (by rw[<-k2];exact x2)
  ·rintro⟨x1,x2⟩;have x2:=x2 h5;by_cases ha:(a:Int)∈c.s.inP c.at_
   ·have hp:=hout a ha;have hm:c.g.mks a=v7:=x2.resolve_left (by omega);refine⟨?_,λ_=>wg ?_⟩
    ·simp only;rw[(hk a).1,(hs.inn a ha hm).1];exact x1
    ·simp only;omega
   ·obtain⟨k1,k2⟩:=hs.out a ha;refine⟨by simp only;rw[(hk a).1,k1.1];exact x1,λ_=>?_⟩;rcases x2 with x2|x2
    ·left;simp only;omega
    ·right;simp only;rw[k2];exact x2
 have hcalm:=h.calm (wh h5);have hlive:∀u:Int,d.r.live u=c.r.live u:=λu=>by rw[hs.r]
 refine⟨hs',⟨λa x=>(hK a).2 (h.ni.m1 a (hmks a x).2),λl hl b hb=>(hK b).2 (h.ni.bf l (by simp only at hl;rw[hs.b]at hl;exact hl) b hb),λl hl b hb=>(hK b).2 (h.ni.rt l (by simp only at hl;rw[hs.th]at hl;exact hl) b hb),λn e=>(hK n).2 (h.ni.gl n (by simp only at e;rw[hs.global]at e;exact e)),λa j b x f=>(hK b).2 (h.ni.cl a j b ((hK a).1 x) (hs.fl ((Fl.same hk).1 f)))⟩,h.t8,by simp only;rw[hs.th];exact h.thl,by simp only;rw[hs.r];exact h.rl,by simp only;rw[hs.b];exact h.bl,by simp only;rw[hs.th];exact h.vok,by simp only;rw[hs.b];exact h.bok,λe he=>?_,by simp only;rw[hs.global];exact h.gn,by simp only;rw[hs.r,hs.th];exact h.lv,by simp only;rw[hs.r];exact h.ep,by simp only;rw[hs.r];exact h.e0,by simp only;rw[hs.phase];exact h.ph,λ_=>?_,λe=>?_,λ_=>⟨by simp only;rw[hs.b];exact b5,by simp only;omega,λa x=>?_⟩,λp2 p4=>?_,λe=>?_,by simp only;rw[hs.tp];exact h.tpr⟩
 ·simp only at he;rw[hs.gl.1,hcalm.1]at he;cases he
 ·simp only;rw[hs.gl.1,hs.gl.2,hs.tp];exact hcalm
 ·simp only at e;rw[hs.phase]at e;omega
 ·obtain⟨x1,x2⟩:=hmks a x;have:=m5 a x2;have:((a / 32:Nat):Int)≠c.at_:=λe=>x1 (hin a (h.ni.m1 a x2).1 e);simp only;omega
 ·simp only at p4;rw[hs.phase]at p4;omega
 ·simp only at e;rw[hs.phase]at e;omega
def KI.wUnit(h:KI cf E c)(h5:c.phase=5)(hp:cf.pages<=64):KI cf E (c.wUnit cf).1/\(c.wUnit cf).1.phase=5/\((c.wUnit cf).2=v8->cf.pages<=c.at_/\(c.wUnit cf).1=c):=by
 unfold Co.wUnit;split
 ·rename_i hc;exact⟨h,h5,λ_=>⟨hc,rfl⟩⟩
 ·rename_i hc;simp only;have hs:=F5 (c.s.inP c.at_) c h.si (IR _ _) λx hx=>by
   obtain⟨a,e,ta,_⟩:=(FI h.si).1 hx;exact⟨a,e,ta⟩
  generalize c.sweepAll (c.s.inP c.at_)=d at hs;obtain⟨t1,t2,t3,t4⟩:=St.trim_ok (hs.si h.si) d.at_;exact⟨h.swept h5 hs (by omega) t1 t2 t3,by rw[hs.phase];exact h5,λe=>by cases e⟩
def KI.five_none(h:KI cf E c)(h5:c.phase=5)(hks:(c.s.c.ks.length:Int)=cf.pages)(hat:cf.pages<=c.at_)(n:Int):KI cf E { c with phase:=0,cycles:=n }:=by
 obtain⟨b5,a5,m5⟩:=h.p5 h5;have hcalm:=h.calm (wh h5);have hpg:∀a,c.s.c.tk a=v7->((a / 32:Nat):Int)<cf.pages:=λa ta=>by have:=(h.si.hi.ci.tk a ta).1;omega
 have hno:∀a,c.g.mks a=v8:=λa=>by
  cases hm:c.g.mks a with
  | false=>rfl
  | true=>have:=m5 a hm;have:=hpg a (h.ni.m1 a hm).1;omega
 have hK:∀a,C0 { c with phase:=0,cycles:=n } a↔C0 c a:=λa=>⟨λx=>⟨x.1,λ_=>wg (by have:=hpg a x.1;omega)⟩,λx=>⟨x.1,λe=>absurd (show (0:Int)=5 from e) (by decide)⟩⟩
 refine { h with ni:=⟨λa x=>(hK a).2 (h.ni.m1 a x),λl hl b hb=>(hK b).2 (h.ni.bf l hl b hb),λl hl b hb=>(hK b).2 (h.ni.rt l hl b hb),λn e=>(hK n).2 (h.ni.gl n e),λa j b x f=>(hK b).2 (h.ni.cl a j b ((hK a).1 x) f)⟩,ph:=by simp only;decide,calm:=λ_=>hcalm,p01:=λ_=>hno,p5:=λe=>absurd (show (0:Int)=5 from e) (by decide),p24:=λe=>absurd (show (2:Int)<=0 from e) (by decide),p2:=λe=>absurd (show (0:Int)=2 from e) (by decide) }
def KI.units(h:KI cf E c)(n:Int):KI cf E { c with units:=n }:=
 { h with ni:=⟨h.ni.m1,h.ni.bf,h.ni.rt,h.ni.gl,h.ni.cl⟩,p24:=λp2 p4=>⟨(h.p24 p2 p4).1,λQ hQ=>(h.p24 p2 p4).2 Q ⟨hQ.m1,hQ.bf,hQ.pd,hQ.cl⟩⟩ }
def KI.unit(h:KI cf E c)(hE:E+5<=1000000000)(hch:0<=cf.chunk/\cf.chunk<=1000)(hp:1<=cf.pages/\cf.pages<=64)(hks:(c.s.c.ks.length:Int)=cf.pages):KI cf (E+5) (c.unit cf).1:=by
 have hu:∀(r:Co × Bool),KI cf (E+5) r.1->KI cf (E+5) (if r.2 then ({ r.1 with units:=CJ (r.1.units+1) }:Co) else r.1):=λr h=>by
  split
  ·exact h.units _
  ·exact h
 unfold Co.unit;refine hu _ ?_;by_cases c3:c.phase=3
 ·rw[vn c3];obtain⟨k1,k2⟩:=h.tUnit c3 hch hp hks;generalize c.tUnit cf=z at k1 k2;obtain⟨d,b⟩:=z;cases b with
  | true=>exact k1.up (by omega)
  | false=>
   have k3:=(k1.raised (by omega) (wg k2)).three (p:=4) (wg k2) (wh rfl);exact (KI.adv 4 _ _ k3 (by omega)).up (by omega)
 rw[vm c3];by_cases c5:c.phase=5
 ·rw[vn c5];obtain⟨k1,k2,k3⟩:=h.wUnit c5 hp.2;have hl:((c.wUnit cf).1.s.c.ks.length:Int)=cf.pages∨True:=wh trivial;have hks':∀d:Co,KI cf E d->d.s.c.m.length=c.s.c.m.length->(d.s.c.ks.length:Int)=cf.pages:=λd kd e=>by
   have:=kd.si.hi.ci.ml;have:=h.si.hi.ci.ml;omega
  generalize hz:c.wUnit cf=z at k1 k2 k3;obtain⟨d,b⟩:=z;simp only at k1 k2 k3 ⊢;by_cases hd:cf.pages<=d.at_
  ·rw[vn hd];refine (k1.five_none k2 ?_ hd _).up (by omega);refine hks' d k1 ?_;have:d=(c.wUnit cf).1:=by rw[hz]
   rw[this];exact Jm cf c
  ·rw[vm hd];exact k1.up (by omega)
 ·rw[vm c5];exact h.up (by omega)
def KI.beginC(h:KI cf E c)(hE:E+5<=1000000000):KI cf (E+5) (c.beginC cf).1:=by
 unfold Co.beginC;by_cases c0:c.phase=0
 ·rw[vn c0];have hE':=N5 h (by omega);have hcalm:=h.calm (wg (by omega));have hno:=h.p01 (by omega);have k:KI cf (E+1) (({ c with units:=0 }:Co).raise 1):=by
   unfold Co.raise Rg.raise
   refine { h with ni:=⟨λa x=>⟨(h.ni.m1 a x).1,λe=>absurd (show (1:Int)=5 from e) (by decide)⟩,λl hl b hb=>⟨(h.ni.bf l hl b hb).1,λe=>absurd (show (1:Int)=5 from e) (by decide)⟩,λl hl b hb=>⟨(h.ni.rt l hl b hb).1,λe=>absurd (show (1:Int)=5 from e) (by decide)⟩,λn e=>⟨(h.ni.gl n e).1,λe=>absurd (show (1:Int)=5 from e) (by decide)⟩,λa j b x f=>⟨(h.ni.cl a j b ⟨x.1,λe=>by omega⟩ f).1,λe=>absurd (show (1:Int)=5 from e) (by decide)⟩⟩,ep:=λt ht=>?_,e0:=?_,ph:=by simp only;decide,calm:=λ_=>hcalm,p01:=λ_=>hno,p5:=λe=>absurd (show (1:Int)=5 from e) (by decide),p24:=λe=>absurd (show (2:Int)<=1 from e) (by decide),p2:=λe=>absurd (show (1:Int)=2 from e) (by decide) }
   ·have:=h.ep t ht;show c.r.ofT t<=CJ (c.r.ep+1);rw[hE'];omega
   ·show 0<=CJ (c.r.ep+1)/\CJ (c.r.ep+1)<=E+1;rw[hE'];have:=h.e0;omega
  exact (KI.adv 4 _ _ k (by omega)).up (by omega)
 ·rw[vm c0];exact h.up (by omega)
end
structure MI(cf:Cf)(E:Int)(c:Co):Prop where
 k:KI cf E c
 ln:c.s.c.m.length=cf.pages.toNat*32
 md:c.s.made<=E
structure D1(cf:Cf):Prop where
 ch:0<=cf.chunk/\cf.chunk<=1000
 pg:1<=cf.pages/\cf.pages<=64
 tx:0<=cf.tax/\cf.tax<=64
section
variable{cf:Cf}{E:Int}{c:Co}
def MI.ks(h:MI cf E c)(L:D1 cf):(c.s.c.ks.length:Int)=cf.pages:=by have:=h.k.si.hi.ci.ml;have:=h.ln;have:=L.pg;omega
def MI.up(h:MI cf E c){E':Int}(he:E<=E'):MI cf E' c:=⟨h.k.up he,h.ln,by have:=h.md;omega⟩
def MI.unit(h:MI cf E c)(L:D1 cf)(hE:E+5<=1000000000):MI cf (E+5) (c.unit cf).1:=by obtain⟨s1,s2,s3⟩:=Ve cf c h.k.si (by have:=h.md;omega);exact⟨h.k.unit hE L.ch L.pg (h.ks L),by rw[Vd];exact h.ln,by have:=h.md;omega⟩
theorem MI.workN(L:D1 cf):∀(n:Nat) (c:Co) (E:Int),MI cf E c->E+5*n<=1000000000->MI cf (E+5*n) (c.workN cf n).1
 | 0,c,E,h,_=>h.up (by omega)
 | n+1,c,E,h,hE=>by
  have h1:=h.unit L (by omega);unfold Co.workN;generalize c.unit cf=z at h1;obtain⟨d,b⟩:=z;cases b with
  | true=>exact (MI.workN L n d _ h1 (by omega)).up (by omega)
  | false=>exact h1.up (by omega)
def MI.same{d:Co}(h:MI cf E c)(k:KI cf E d)(e:d.s=c.s):MI cf E d:=⟨k,by rw[e];exact h.ln,by rw[e];exact h.md⟩
def MI.beginC(h:MI cf E c)(hE:E+5<=1000000000):MI cf (E+5) (c.beginC cf).1:=
 (h.up (show E<=E+5 by omega)).same (h.k.beginC hE) (M8 cf c)
def MI.attach(h:MI cf E c)(t:Int):MI cf E (c.attach t):=h.same (h.k.attach t) rfl
def MI.detach(h:MI cf E c)(hE:E+5<=1000000000)(t:Int):MI cf (E+5) (c.detach cf t):=by obtain⟨s1,s2,s3⟩:=QP cf c t h.k.si (by have:=h.md;omega);exact⟨(h.k.detach (by omega) t).up (by omega),by rw[QO];exact h.ln,by have:=h.md;omega⟩
def MI.poll(h:MI cf E c)(hE:E+5<=1000000000)(t:Int):MI cf (E+5) (c.poll cf t):=
 (h.up (show E<=E+5 by omega)).same ((h.k.poll (by omega) t).up (by omega)) (Rz cf c t)
def MI.push(h:MI cf E c){t:Nat}{v:V2}(hv:VG c t v):MI cf E (c.push (t:Int) v).1:=h.same (h.k.push hv) (Jc c t v)
def MI.pop(h:MI cf E c)(t:Nat):MI cf E (c.pop (t:Int)).1:=h.same (h.k.pop t) (PA c t)
def MI.write(h:MI cf E c)(hE:E<=1000000000){t a:Nat}{i:Int}{v:V2}(ha:VG c t (2,(a:Int)))(hv:VG c t v):MI cf E (c.write (t:Int) (a:Int) i v).1:=by obtain⟨s1,s2,s3⟩:=T7 c (t:Int) (a:Int) i v h.k.si (by have:=h.md;omega);exact⟨h.k.write ha hv,by rw[RL];exact h.ln,by have:=h.md;omega⟩
end
structure MJ(cf:Cf)(E:Int)(m:Ma):Prop where
 c:MI cf E m.co
 bk:0<=m.bi-m.bo/\m.bi-m.bo<=cf.cap
section
variable{cf:Cf}{E:Int}{m:Ma}
def MJ.up(h:MJ cf E m){E':Int}(he:E<=E'):MJ cf E' m:=⟨h.c.up he,h.bk⟩
def MJ.co(h:MJ cf E m){E':Int}{c:Co}(hc:MI cf E' c):MJ cf E' { m with co:=c }:=⟨hc,h.bk⟩
def MJ.charge(h:MJ cf E m)(t n:Int):MJ cf E (m.charge cf t n):=by
 unfold Ma.charge;split
 ·exact⟨h.c,h.bk⟩
 ·exact h
def MJ.ownT(h:MJ cf E m)(t n:Int):MJ cf E (m.ownT cf t n):=⟨h.c,h.bk⟩
def MJ.put(h:MJ cf E m){n:Int}(hn:0<=n):MJ cf E (m.put cf n):=by have:=h.bk;refine⟨h.c,?_⟩;unfold Ma.put;simp only;omega
def MJ.ahead(L:D1 cf)(h:MJ cf E m){n:Int}(hn:n<=64)(hE:E+320<=1000000000):MJ cf (E+320) (m.ahead cf n).1:=by have h1:=MI.workN L n.toNat m.co E h.c (by omega);unfold Ma.ahead;exact (h.co (h1.up (by omega))).put (by omega)
def MJ.tax(L:D1 cf)(h:MJ cf E m)(x:BY)(hE:E+320<=1000000000):MJ cf (E+320) (m.tax cf x).1:=by
 unfold Ma.tax;split
 ·exact h.up (by omega)
 simp only;split
 ·exact h.up (by omega)
 simp only;have hb:=h.bk;have ht:=L.tx;have h1:=MI.workN L (cf.tax-min (m.bi-m.bo) cf.tax).toNat m.co E h.c (by omega);refine MJ.charge (m:={ m with co:=_,bo:=_ }) ⟨h1.up (by omega),?_⟩ _ _;simp only;omega
def MJ.root(h:MJ cf E m){t:Nat}{i:Int}{v:V2}(hl:m.co.r.live (t:Int)=v7)(hv:m.root (t:Int) i=vz v):VG m.co t v:=by unfold Ma.root Co.roots at hv;rw[vn hl,zE]at hv;exact h.c.k.root hl (yN hv)
def MJ.object(h:MJ cf E m){x:BY}{t:Nat}(ht:x.t=t)(hl:m.co.r.live (t:Int)=v7)(ho:(m.object x).2=0):∃a:Nat,(m.object x).1=a/\VG m.co t (2,(a:Int)):=by
 unfold Ma.object at *;rw[ht] at *;cases hr:m.root (t:Int) x.i with
 | none=>rw[hr]at ho;cases ho
 | some v=>
  rw[hr]at ho;simp only at ho ⊢;by_cases h2:v.1≠2
  ·rw[vn h2]at ho;cases ho
  ·rw[vm h2];have hg:=h.root hl hr;obtain⟨b,rfl,_⟩:=Dq hg.ok (by omega);exact⟨b,rfl,hg⟩
def MJ.value(h:MJ cf E m){x:BY}{t:Nat}(ht:x.t=t)(hl:m.co.r.live (t:Int)=v7)(ho:(m.value x).2=0):VG m.co t (m.value x).1:=by
 have hnil:VG m.co t (0,0):=VG.plain OQ (by decide);unfold Ma.value at *;by_cases c4:x.kd=4
 ·rw[vn c4]at ho ⊢;by_cases hc:D8 1 x.n=0
  ·rw[vn hc];exact VG.plain (by simpa[Dk] using hc) (show (1:Int)≠2 by decide)
  ·rw[vm hc];exact hnil
 rw[vm c4]at ho ⊢;by_cases c6:x.kd=6
 ·rw[vn c6];exact h.c.k.glob t
 rw[vm c6]at ho ⊢;by_cases c7:x.kd=7
 ·rw[vn c7]at ho ⊢;cases hr:m.root x.t x.i with
  | none=>exact hnil
  | some v=>rw[ht]at hr;exact h.root hl hr
 rw[vm c7]at ho ⊢;by_cases c9:x.kd=9
 ·rw[vn c9]at ho ⊢;by_cases h1:(m.object x).2≠0
  ·rw[vn h1];exact hnil
  ·rw[vm h1];obtain⟨a,e,hg⟩:=h.object ht hl (by omega);rw[e];split
   ·rename_i hgt;exact h.c.k.field hg hgt
   ·exact hnil
 ·rw[vm c9];exact hnil
def MJ.got(h:MJ cf E m){x:BY}{t a:Nat}(ht:x.t=t)(hg:VG m.co t (2,(a:Int)))(y:BZ):MJ cf E (m.got x (a:Int) y).1:=by
 have e:Et (a:Int)=(2,(a:Int)):=by
  obtain⟨b,eb,hb⟩:=Dq hg.ok rfl;have:(a:Int)=b:=by simpa using eb
  unfold Et;rw[vn (by omega)]
 unfold Ma.got;simp only;rw[ht,e];exact h.co (h.c.push hg)
def MI.fast(h:MI cf E m.co)(hE:E<=1000000000)(t:Nat)(n:Int):m.co.fast cf (t:Int) n=(m.co,v6)∨∃(a:Nat) (c':Co),m.co.fast cf (t:Int) n=(c',vz (a:Int))/\MI cf (E+1) c'/\VG c' t (2,(a:Int)):=by
 have h2:=QH cf m.co (t:Int) n;rcases h.k.fast (by have:=h.md;omega) t n with e|⟨a,s',c',e,e1,e2,e3,e4,e5⟩
 ·exact wg e
 ·right;rw[e]at h2;exact⟨a,c',e,⟨e3.up (by omega),by rw[<-h.ln];exact h2,by rw[e5,e1.made];have:=h.md;omega⟩,e4⟩
def MI.slow(h:MI cf E m.co)(hE:E<=1000000000)(t:Nat)(n:Int):(∃e,e≠0/\m.co.slow cf (t:Int) n=(m.co,0,e))∨∃(a:Nat) (c':Co),m.co.slow cf (t:Int) n=(c',(a:Int),0)/\MI cf (E+1) c'/\VG c' t (2,(a:Int)):=by
 have h2:=QN cf m.co (t:Int) n;rcases h.k.slow (by have:=h.md;omega) t n with⟨e0,e1,e⟩|⟨a,s',c',e,e1,e2,e3,e4,e5⟩
 ·exact wg ⟨e0,e1,e⟩
 ·right;rw[e]at h2;exact⟨a,c',e,⟨e3.up (by omega),by rw[<-h.ln];exact h2,by rw[e5,e1.made];have:=h.md;omega⟩,e4⟩
def MJ.slowM(L:D1 cf)(h:MJ cf E m){x:BY}{t:Nat}(ht:x.t=t)(hE:E+330<=1000000000):MJ cf (E+330) (m.slow cf x).1/\((m.slow cf x).2.2.code=0->∃a:Nat,(m.slow cf x).2.1=a/\VG (m.slow cf x).1.co t (2,(a:Int))):=by
 unfold Ma.slow;simp only;have h1:MJ cf (E+5) (if m.co.phase=0/\D4 m.co.s.c.ks<cf.trigger then ({ m with co:=(m.co.beginC cf).1 }:Ma) else m):=by
  split
  ·exact h.co (h.c.beginC (by omega))
  ·exact h.up (by omega)
 generalize (if m.co.phase=0/\D4 m.co.s.c.ks<cf.trigger then ({ m with co:=(m.co.beginC cf).1 }:Ma) else m)=m1 at h1;have h2:=h1.tax L x (by omega);generalize m1.tax cf x=z at h2;obtain⟨m2,y⟩:=z;simp only at h2 ⊢;by_cases hc:y.code≠0
 ·rw[vn hc];exact⟨h2.up (by omega),λe=>absurd e hc⟩
 rw[vm hc,ht];rcases h2.c.slow (by omega) t x.n with⟨e0,e1,e⟩|⟨a,c',e,e1,e2⟩
 ·rw[e];exact⟨h2.up (by omega),λe=>absurd e e1⟩
 ·rw[e];exact⟨(h2.co e1).up (by omega),λ_=>⟨a,rfl,e2⟩⟩
def MJ.alloc(L:D1 cf)(h:MJ cf E m){x:BY}{t:Nat}(ht:x.t=t)(hE:E+330<=1000000000):MJ cf (E+330) (m.alloc cf x).1:=by
 unfold Ma.alloc;split
 ·exact h.up (by omega)
 split
 ·exact h.up (by omega)
 rw[ht];rcases h.c.fast (by omega) t x.n with e|⟨a,c',e,e1,e2⟩
 ·rw[e];simp only;obtain⟨k1,k2⟩:=h.slowM L ht hE;by_cases hc:(m.slow cf x).2.2.code≠0
  ·rw[vn hc];exact k1
  ·rw[vm hc];obtain⟨a,e,hg⟩:=k2 (by omega);rw[e];exact k1.got ht hg _
 ·rw[e];exact ((h.co e1).got ht e2 _).up (by omega)
def MJ.pushS(h:MJ cf E m){x:BY}{t:Nat}(ht:x.t=t)(hl:m.co.r.live (t:Int)=v7):MJ cf E (m.pushS x).1:=by
 unfold Ma.pushS;split
 ·exact h
 rename_i hv;have hg:=h.value ht hl (by omega);have hp:=h.c.push hg;rw[ht];generalize m.co.push (t:Int) (m.value x).1=z at hp;obtain⟨c,o⟩:=z;cases o
 ·exact h
 ·exact h.co hp
def MJ.doS(L:D1 cf)(h:MJ cf E m){x:BY}(hx:x.kd<16->∃t:Nat,x.t=t/\(x.kd≠1->m.co.r.live (t:Int)=v7))(hE:E+330<=1000000000):MJ cf (E+330) (m.doS cf x).1:=by
 unfold Ma.doS;split
 ·exact (h.co (h.c.attach x.t)).up (by omega)
 split
 ·exact (h.co (h.c.detach (by omega) x.t)).up (by omega)
 split
 ·rename_i hk;obtain⟨t,ht,_⟩:=hx (by omega);exact h.alloc L ht hE
 split
 ·rename_i hk;obtain⟨t,ht,hl⟩:=hx (by omega);exact (h.pushS ht (hl (by omega))).up (by omega)
 split
 ·rename_i hk;obtain⟨t,ht,_⟩:=hx (by omega);have hp:=h.c.pop t;rw[ht];generalize m.co.pop (t:Int)=z at hp;obtain⟨c,o⟩:=z;cases o
  ·exact h.up (by omega)
  ·exact (h.co hp).up (by omega)
 split
 ·rename_i hk;obtain⟨t,ht,hl⟩:=hx (by omega);have hl:=hl (by omega);unfold Ma.writeS;split
  ·exact h.up (by omega)
  rename_i ho;obtain⟨a,e,hg⟩:=h.object ht hl (by omega);rw[ht,e];cases hr:m.root (t:Int) x.j with
  | none=>exact h.up (by omega)
  | some v=>exact (h.co (h.c.write (by omega) hg (h.root hl hr))).up (by omega)
 split
 ·exact h.up (by omega)
 split
 ·exact (h.co (h.c.poll (by omega) x.t)).up (by omega)
 unfold Ma.spend;split
 ·split
  ·exact (h.co (h.c.beginC (by omega))).up (by omega)
  ·exact h.up (by omega)
 split
 ·exact h.up (by omega)
 rename_i hn;split
 ·exact (h.ownT _ _).up (by omega)
 split
 ·exact (h.ahead L (by omega) (by omega)).up (by omega)
 split
 ·exact h.up (by omega)
 split
 ·exact h.up (by omega)
 simp only;exact ((h.ahead L (by omega) (by omega)).charge _ _).up (by omega)
def Oz{x:BY}(h:x.check=0):0<=x.t/\x.t<=255:=by
 unfold BY.check at h;by_cases c1:x.kd<1∨17<x.kd
 ·rw[vn c1]at h;cases h
 rw[vm c1]at h;by_cases c2:(x.small.any λn=>decide (n<0) || decide (255<n))=v7
 ·rw[vn c2]at h;cases h
 ·unfold BY.small at c2;simp only[List.any_cons,Bool.or_eq_true,zP]at c2;omega
def PF{x:BY}(h:m.who cf x=0)(hk:x.kd<16):x.t<cf.threads/\(x.kd≠1->m.co.r.live x.t=v7):=by
 unfold Ma.who at h;rw[vm (by omega)]at h;by_cases c1:cf.threads<=x.t
 ·rw[vn c1]at h;cases h
 rw[vm c1]at h;refine⟨by omega,λhne=>?_⟩;rw[vm (λe=>hne e.1)]at h;cases hl:m.co.r.live x.t with
 | true=>rfl
 | false=>rw[hl,vn ⟨hne,by decide⟩]at h;cases h
def MJ.step(L:D1 cf)(h:MJ cf E m)(x:BY)(hE:E+330<=1000000000):MJ cf (E+330) (m.step cf x).1:=by
 unfold Ma.step;split
 ·exact h.up (by omega)
 rename_i hc;split
 ·exact h.up (by omega)
 rename_i hw;have hc:=Oz (by omega:x.check=0);have h1:=h.doS L (x:=x) (λhk=>by
  obtain⟨w1,w2⟩:=PF (by omega:m.who cf x=0) hk;refine⟨x.t.toNat,by omega,λhne=>?_⟩;rw[yR hc.1];exact w2 hne) hE
 simp only;split
 ·exact h1.ownT _ _
 ·exact h1
def Ka(cf:Cf)(hp:1<=cf.pages/\cf.pages<=64)(ht:0<=cf.threads/\cf.threads<=8):∃(a:Nat) (s':St),(⟨Ce.new cf.pages,λ_=>v6,0⟩:St).slow cf.pages.toNat (cf.threads+1) cf.threads 4=(s',(a:Int),0)/\FP (⟨Ce.new cf.pages,λ_=>v6,0⟩:St) s' a 4/\SI s':=by
 have h0:=St.new_ok hp.2;rcases St.slow_ok h0 (by simp only;decide) cf.pages.toNat (nt:=cf.threads+1) (by omega) cf.threads 4 with⟨e,e0,e1⟩|h
 rotate_left
 ·exact h
 exfalso;have hk:CC 4=3:=by decide
 have hf:(⟨Ce.new cf.pages,λ_=>v6,0⟩:St).fast cf.threads 4=(⟨Ce.new cf.pages,λ_=>v6,0⟩,v6):=by
  rcases St.fast_ok h0 (by simp only;decide) cf.threads 4 with⟨e,_⟩|⟨a,s',e2,_,_,_⟩
  ·exact e
  ·exfalso;unfold St.fast at e2;rw[hk,vm (by decide)]at e2;have hl:(Ce.new cf.pages).left (-1)=0:=by unfold Ce.left Ce.small;rw[DR (by omega),vm (by decide)]
   have ht:(Ce.new cf.pages).take (-1)=(Ce.new cf.pages,v6):=by unfold Ce.take;rw[vn hl]
   have:EQ (λ_=>v6) (cf.threads,(3:Int)) = -1:=rfl;simp only[this,ht]at e2;cases e2
 unfold St.slow at e1;simp only[hk]at e1;rw[vm (by omega),vm (by decide),hf]at e1;simp only at e1;have ho:∃p s',(⟨Ce.new cf.pages,λ_=>v6,0⟩:St).openP cf.pages.toNat 3=(s',vz p):=by
  unfold St.openP;split
  ·exact⟨_,_,rfl⟩
  ·have:∃p,Fw (Ce.new cf.pages).ks 3=vz p:=by unfold Fw Ce.new;rw[vm (by decide)];obtain⟨n,hn⟩:∃n,cf.pages.toNat=n+1:=⟨cf.pages.toNat-1,by omega⟩;simp only[hn,List.replicate_succ];exact⟨0,by simp[List.findIdx?_cons]⟩
   obtain⟨p,hp⟩:=this;have hc:((Ce.new cf.pages).carve 3).2=vz p:=by unfold Ce.carve;rw[hp]
   exact⟨(p:Int),⟨((Ce.new cf.pages).carve 3).1,λ_=>v6,0⟩,by simp only[hc];rfl⟩
 obtain⟨p,s',hp'⟩:=ho;rw[hp']at e1;simp only at e1;have:=vh (λz=>z.2.2) e1;simp only at this;exact e0 this.symm
def MJ.new(cf:Cf)(hp:1<=cf.pages/\cf.pages<=64)(ht:0<=cf.threads/\cf.threads<=8)(hc:0<=cf.cap):MJ cf 1 (Ma.new cf):=by
 obtain⟨a,s',e,e1,e2⟩:=Ka cf hp ht;have hln:=Nu (⟨Ce.new cf.pages,λ_=>v6,0⟩:St) cf.pages.toNat (cf.threads+1) cf.threads 4;rw[e]at hln;have hlen:s'.c.m.length=cf.pages.toNat*32:=by rw[hln];simp[Ce.new]
 have ha:s'.c.tk a=v7:=e1.obj.tk;have hlt:a<2048:=by have:=e2.hi.ci.tk_lt ha;have:=e2.hi.ci.small_n;omega
 have hco:Co.new cf=⟨s',⟨[],v8,λ_=>v8⟩,⟨0,List.replicate cf.threads.toNat (v8,0)⟩,List.replicate cf.threads.toNat [], -1,cf.pages,0,List.replicate 8 [],(a:Int),0,0,0⟩:=by unfold Co.new;simp only[e]
 have hdead:∀t:Nat,(⟨0,List.replicate cf.threads.toNat (v8,0)⟩:Rg).live (t:Int)=v7->False:=λt hl=>by
  obtain⟨_,_,h3⟩:=DH.1 hl;simp only[zE,xC,xT]at h3;split at h3<;>simp at h3
 have hnil:∀ {α : Type} {l:List α} {n:Nat},l∈List.replicate n ([]:List α)->l=[]:=λh=>(List.mem_replicate.1 h).2;have hfl:∀x j b,¬Fl s' x j b:=λx j b f=>by
  obtain⟨_,_,o,_⟩:=(Fl.new e1).1 f;have:=o.tk;simp[Ce.new]at this
 refine⟨⟨?_,by show (Co.new cf).s.c.m.length=_;rw[hco];exact hlen,by show (Co.new cf).s.made<=1;rw[hco];simp only;rw[e1.made];simp⟩,by unfold Ma.new;simp;exact hc⟩;show KI cf 1 (Co.new cf);rw[hco]
 refine⟨e2,⟨λx y=>(by cases y),λl hl b hb=>(by rw[hnil hl]at hb;cases hb),λl hl b hb=>(by rw[hnil hl]at hb;cases hb),λn en=>?_,λx j b _ f=>absurd f (hfl x j b)⟩,ht,by simp,by simp,by simp,λl hl v hv=>(by rw[hnil hl]at hv;cases hv),λl hl v hv=>(by rw[hnil hl]at hv;cases hv),λe he=>(by cases he),by simp only;omega,λt _=>?_,λt hl=>(hdead t hl).elim,by simp,by simp,λ_=>⟨rfl,rfl,rfl⟩,λ_ _=>rfl,λe5=>absurd (show (0:Int)=5 from e5) (by decide),λe2=>absurd (show (2:Int)<=0 from e2) (by decide),λe2=>absurd (show (0:Int)=2 from e2) (by decide),wg rfl⟩
 ·have:a=n:=by have:(a:Int)=n:=en;omega
  subst this;exact⟨ha,λe5=>absurd (show (0:Int)=5 from e5) (by decide)⟩
 ·simp only[xC,xT];split<;>rfl
end
section
variable{DS:Int->Prop}{cf:Cf}{E:Int}{c:Co}{m:Ma}
def GH(m:Ma)(t n:Int):(m.charge cf t n).co=m.co:=by unfold Ma.charge;split<;>rfl
end
section
variable{DS:Int->Prop}{cf:Cf}{E:Int}{c:Co}{m:Ma}
def S9(c:Co)(a:Int):(c.color cf a).phase=c.phase/\(c.color cf a).cycles=c.cycles:=by
 unfold Co.color;split
 ·exact⟨rfl,rfl⟩
 ·split<;>exact⟨rfl,rfl⟩
end
def GZ(c:Co):Prop:=∃fs,C7 c.s.c c.global.toNat 0 fs
section
variable{cf:Cf}{E:Int}{c:Co}{m:Ma}
def GZ.of{c':Co}(h:GZ c)(hs:c'.s=c.s)(hg:c'.global=c.global):GZ c':=by unfold GZ;rw[hs,hg];exact h
def GZ.kept{c':Co}(h:GZ c)(hk:C4 c.s.c c'.s.c c.global.toNat)(hg:c'.global=c.global):GZ c':=by obtain⟨fs,o⟩:=h;unfold GZ;rw[hg];exact⟨fs,hk.obj.2 o⟩
theorem Ha:∀(d:Nat) (c:Co),(c.advance cf d).global=c.global
 | 0,c=>rfl
 | d+1,c=>by
  rw[Co.advance];split
  ·split
   ·exact Ha d _
   split
   ·exact Ha d _
   split
   ·exact Ha d _
   split
   ·exact Ha d _
   ·rfl
  ·rfl
def GZ.adv(h:GZ c):GZ (c.adv cf):=h.of (GG cf 4 c) (Ha 4 c)
def GZ.beginC(h:GZ c):GZ (c.beginC cf).1:=h.of (M8 cf c) (by
 unfold Co.beginC;split
 ·exact Ha 4 _
 ·rfl)
def GZ.detach(hk:KI cf E c)(h:GZ c)(t:Int):GZ (c.detach cf t):=by
 unfold Co.detach;split
 ·simp only;refine GZ.adv ?_;obtain⟨s1,s2,_⟩:=St.quit_ok hk.si t;exact h.kept (s2 _) rfl
 ·exact h
def GZ.poll(h:GZ c)(t:Int):GZ (c.poll cf t):=h.of (Rz cf c t) (by
 unfold Co.poll;split
 ·simp only[Co.adv];rw[Ha];split
  ·rfl
  ·split<;>rfl
 ·rfl)
def OE(c:Co)(t:Int)(v:V2):(c.push t v).1.global=c.global:=by unfold Co.push;split<;>rfl
def W7(c:Co)(t:Int):(c.pop t).1.global=c.global:=by
 unfold Co.pop;split
 ·split<;>rfl
 ·rfl
def S8(c:Co)(a:Int):(c.color cf a).global=c.global:=by
 unfold Co.color;split
 ·rfl
 ·split<;>rfl
def KI.gtk(hk:KI cf E c):c.s.c.tk c.global.toNat=v7:=(hk.ni.gl c.global.toNat (by have:=hk.gn;omega)).1
def GZ.newO(hk:KI cf E c)(h:GZ c){s':St}{a n:Nat}(hn:FP c.s s' a n):GZ (({ c with s:=s' }:Co).color cf (a:Int)):=by
 have hne:c.global.toNat≠a:=λe=>by
  have:=hk.gtk;rw[e,hn.off]at this;cases this
 refine (h.kept (c':={ c with s:=s' }) (hn.kept _ hne) rfl).of (Jr cf _ _) (S8 _ _)
def GZ.write(hk:KI cf E c)(h:GZ c){t a:Nat}{i:Int}{v:V2}(ha:VG c t (2,(a:Int)))(hv:VG c t v):GZ (c.write (t:Int) (a:Int) i v).1:=by
 unfold Co.write;split
 rotate_left
 ·exact h
 rename_i hc;obtain⟨hl,hmay,hget⟩:=hc;obtain⟨ser,fs,o,_⟩:=hk.si.hi.obj a (ha.kp a rfl).1;have e:=St.get_obj hk.si.hi.ci o i;have hi:0<=i:=by apply xF;intro hc;rw[vm hc]at e;rw[e]at hget;cases hget
 obtain⟨i,rfl⟩:=xQ hi;rw[vn hi,zE]at e;have hlen:i<fs.length:=by apply xF;intro hc;rw[yC (by omega)]at e;rw[e]at hget;cases hget
 obtain⟨s1,s2,s3,s4,s5,s6⟩:=St.set_ok hk.si o (i:=(i:Int)) hv.ok (by omega);obtain⟨gfs,og⟩:=h;by_cases eg:c.global.toNat=a
 ·subst eg;obtain⟨rfl,_⟩:=o.same og;exact⟨_,s2⟩
 ·exact⟨gfs,(s3 _ eg).obj.2 og⟩
def Nz(c:Co):(c.tUnit cf).1.global=c.global:=by
 unfold Co.tUnit Co.entry Co.look;split
 ·rfl
 split
 ·simp only;split<;>rfl
 ·simp only;split<;>rfl
def GZ.wUnit(hk:KI cf E c)(h:GZ c)(h5:c.phase=5):GZ (c.wUnit cf).1:=by
 unfold Co.wUnit;split
 ·exact h
 simp only;have hs:=F5 (c.s.inP c.at_) c hk.si (IR _ _) λx hx=>by
  obtain⟨a,e,ta,_⟩:=(FI hk.si).1 hx;exact⟨a,e,ta⟩
 generalize c.sweepAll (c.s.inP c.at_)=d at hs;obtain⟨t1,t2,t3,t4⟩:=St.trim_ok (hs.si hk.si) d.at_;have hg:=hk.gn;obtain⟨fs,o⟩:=h;refine⟨fs,?_⟩;simp only;rw[hs.global];refine (t2 _).obj.2 ?_;by_cases hx:(c.global.toNat:Int)∈c.s.inP c.at_
 ·obtain⟨a,ea,_,hp⟩:=(FI hk.si).1 hx;have hkp:=(hk.ni.gl c.global.toNat (by omega)).2 h5;have:a=c.global.toNat:=by omega
  subst this;rcases hkp with y|y
  ·omega
  ·exact (hs.inn _ hx y).obj.2 o
 ·exact (hs.out _ hx).1.obj.2 o
def GZ.unit(hk:KI cf E c)(h:GZ c):GZ (c.unit cf).1:=by
 have hu:∀(r:Co × Bool),GZ r.1->GZ (if r.2 then ({ r.1 with units:=CJ (r.1.units+1) }:Co) else r.1):=λr h=>by
  split
  ·exact h
  ·exact h
 unfold Co.unit;refine hu _ ?_;split
 ·have k1:GZ (c.tUnit cf).1:=h.of (J1 cf c) (Nz c);generalize c.tUnit cf=z at k1;obtain⟨d,b⟩:=z;cases b with
  | true=>exact k1
  | false=>exact GZ.adv (c:=d.raise 4) k1
 split
 ·rename_i h5;have k0:=h.wUnit hk h5;generalize c.wUnit cf=z at k0;obtain⟨d,b⟩:=z;simp only at k0 ⊢;split<;>exact k0
 ·exact h
theorem GZ.workN(L:D1 cf):∀(n:Nat) (c:Co) (E:Int),MI cf E c->GZ c->E+5*n<=1000000000->GZ (c.workN cf n).1
 | 0,c,E,h,q,_=>q
 | n+1,c,E,h,q,hE=>by
  have h1:=h.unit L (by omega);have q1:=q.unit h.k;unfold Co.workN;generalize c.unit cf=z at h1 q1;obtain⟨d,b⟩:=z;cases b with
  | true=>exact GZ.workN L n d _ h1 q1 (by omega)
  | false=>exact q1
def MJ.aheadZ(L:D1 cf)(h:MJ cf E m)(q:GZ m.co){n:Int}(hn:n<=64)(hE:E+320<=1000000000):GZ (m.ahead cf n).1.co:=by have h1:=GZ.workN L n.toNat m.co E h.c q (by omega);unfold Ma.ahead Ma.put;exact h1
def MJ.taxZ(L:D1 cf)(h:MJ cf E m)(q:GZ m.co)(x:BY)(hE:E+320<=1000000000):GZ (m.tax cf x).1.co:=by
 unfold Ma.tax;split
 ·exact q
 simp only;split
 ·exact q
 simp only;have hb:=h.bk;have ht:=L.tx;have h1:=GZ.workN L (cf.tax-min (m.bi-m.bo) cf.tax).toNat m.co E h.c q (by omega);rw[GH];exact h1
def MI.fastZ(h:MI cf E c)(q:GZ c)(hE:E<=1000000000)(t:Nat)(n:Int){a:Nat}{c':Co}(e:c.fast cf (t:Int) n=(c',vz (a:Int))):GZ c':=by
 rcases h.k.fast (by have:=h.md;omega) t n with e1|⟨a1,s1,c1,e1,n1,e2,_,_,e5⟩
 ·rw[e1]at e;cases (uz.1 e).2
 ·rw[e1]at e;have ec:c1=c':=(uz.1 e).1;subst ec;rw[e2];exact q.newO h.k n1
def MI.slowZ(h:MI cf E c)(q:GZ c)(hE:E<=1000000000)(t:Nat)(n:Int){a:Nat}{c':Co}(e:c.slow cf (t:Int) n=(c',(a:Int),0)):GZ c':=by
 rcases h.k.slow (by have:=h.md;omega) t n with⟨e0,ne,e1⟩|⟨a1,s1,c1,e1,n1,e2,_,_,e5⟩
 ·rw[e1]at e;have:=(uz.1 (uz.1 e).2).2;exact absurd this ne
 ·rw[e1]at e;have ec:c1=c':=(uz.1 e).1;subst ec;rw[e2];exact q.newO h.k n1
def MJ.slowMZ(L:D1 cf)(h:MJ cf E m)(q:GZ m.co){x:BY}{t:Nat}(ht:x.t=t)(hE:E+330<=1000000000):GZ (m.slow cf x).1.co:=by
 unfold Ma.slow;simp only;have h1:MJ cf (E+5) (if m.co.phase=0/\D4 m.co.s.c.ks<cf.trigger then ({ m with co:=(m.co.beginC cf).1 }:Ma) else m)/\GZ (if m.co.phase=0/\D4 m.co.s.c.ks<cf.trigger then ({ m with co:=(m.co.beginC cf).1 }:Ma) else m).co:=by
  split
  ·exact⟨h.co (h.c.beginC (by omega)),q.beginC⟩
  ·exact⟨h.up (by omega),q⟩
 generalize (if m.co.phase=0/\D4 m.co.s.c.ks<cf.trigger then ({ m with co:=(m.co.beginC cf).1 }:Ma) else m)=m1 at h1;obtain⟨j1,q1⟩:=h1;have h2:=j1.tax L x (by omega);have q2:=j1.taxZ L q1 x (by omega);generalize m1.tax cf x=z at h2 q2;obtain⟨m2,y⟩:=z;simp only at h2 q2 ⊢;by_cases hc:y.code≠0
 ·rw[vn hc];exact q2
 rw[vm hc,ht];rcases h2.c.slow (by omega) t x.n with⟨e0,e1,e⟩|⟨a,c',e,e1,e2⟩
 ·rw[e];exact q2
 ·have g1:=h2.c.slowZ q2 (by omega) t x.n e;rw[e];exact g1
def MJ.gotZ(q:GZ m.co)(x:BY)(a:Int)(y:BZ):GZ (m.got x a y).1.co:=by unfold Ma.got;exact q.of (Jc _ _ _) (OE _ _ _)
def MJ.allocZ(L:D1 cf)(h:MJ cf E m)(q:GZ m.co){x:BY}{t:Nat}(ht:x.t=t)(hE:E+330<=1000000000):GZ (m.alloc cf x).1.co:=by
 unfold Ma.alloc;split
 ·exact q
 split
 ·exact q
 rw[ht];rcases h.c.fast (by omega) t x.n with e|⟨a,c',e,e1,e2⟩
 ·rw[e];simp only;have g1:=h.slowMZ L q ht hE;split
  ·exact g1
  ·exact MJ.gotZ g1 _ _ _
 ·have g1:=h.c.fastZ q (by omega) t x.n e;rw[e];exact MJ.gotZ (m:={ m with co:=c' }) g1 _ _ _
def MJ.pushSZ(q:GZ m.co)(x:BY):GZ (m.pushS x).1.co:=by
 unfold Ma.pushS;split
 ·exact q
 have hp:GZ (m.co.push x.t (m.value x).1).1:=q.of (Jc _ _ _) (OE _ _ _);generalize m.co.push x.t (m.value x).1=z at hp;obtain⟨c,o⟩:=z;cases o
 ·exact q
 ·exact hp
def MJ.doSZ(L:D1 cf)(h:MJ cf E m)(q:GZ m.co){x:BY}(hx:x.kd<16->∃t:Nat,x.t=t/\(x.kd≠1->m.co.r.live (t:Int)=v7))(hE:E+330<=1000000000):GZ (m.doS cf x).1.co:=by
 unfold Ma.doS;split
 ·exact q
 split
 ·exact GZ.detach h.c.k q x.t
 split
 ·rename_i hk;obtain⟨t,ht,_⟩:=hx (by omega);exact h.allocZ L q ht hE
 split
 ·exact MJ.pushSZ q x
 split
 ·have hp:GZ (m.co.pop x.t).1:=q.of (PA _ _) (W7 _ _);generalize m.co.pop x.t=z at hp;obtain⟨c,o⟩:=z;cases o
  ·exact q
  ·exact hp
 split
 ·rename_i hk;obtain⟨t,ht,hl⟩:=hx (by omega);have hl:=hl (by omega);unfold Ma.writeS;split
  ·exact q
  rename_i ho;obtain⟨a,e,hg⟩:=h.object ht hl (by omega);rw[ht,e];cases hr:m.root (t:Int) x.j with
  | none=>exact q
  | some v=>exact GZ.write h.c.k q hg (h.root hl hr)
 split
 ·exact q
 split
 ·exact q.poll x.t
 unfold Ma.spend;split
 ·split
  ·exact q.beginC
  ·exact q
 split
 ·exact q
 rename_i hn;split
 ·exact q
 split
 ·exact h.aheadZ L q (by omega) (by omega)
 split
 ·exact q
 split
 ·exact q
 simp only;rw[GH];exact h.aheadZ L q (by omega) (by omega)
def MJ.stepZ(L:D1 cf)(h:MJ cf E m)(q:GZ m.co)(x:BY)(hE:E+330<=1000000000):GZ (m.step cf x).1.co:=by
 unfold Ma.step;split
 ·exact q
 rename_i hc;split
 ·exact q
 rename_i hw;have hc:=Oz (by omega:x.check=0);have h1:=h.doSZ L q (x:=x) (λhk=>by
  obtain⟨w1,w2⟩:=PF (by omega:m.who cf x=0) hk;refine⟨x.t.toNat,by omega,λhne=>?_⟩;rw[yR hc.1];exact w2 hne) hE
 simp only;split
 ·exact h1
 ·exact h1
def GZ.new(hp:1<=cf.pages/\cf.pages<=64)(ht:0<=cf.threads/\cf.threads<=8):GZ (Co.new cf):=by obtain⟨a,s',e,hn,_⟩:=Ka cf hp ht;unfold GZ Co.new;simp only;rw[e];exact⟨_,by simpa using hn.obj⟩
end
def VI(c:Co):Prop:=∀l∈c.th,∀v∈l,Dk v=v7
section
variable(cf:Cf)
theorem KX:∀(d:Nat) (c:Co),(c.advance cf d).th=c.th
 | 0,_=>rfl
 | d+1,c=>by
  unfold Co.advance
  repeat' split
  all_goals first | rfl | (rw[KX];done) | (rw[KX];rfl)
def RG(c:Co):(c.tUnit cf).1.th=c.th:=by
 unfold Co.tUnit
 repeat' split
 all_goals first | rfl | (unfold Co.entry;simp only;split<;>rfl) | (split<;>rfl)
theorem Mc:∀(l:List Int) (c:Co),(c.sweepAll l).th=c.th
 | [],_=>rfl
 | a::l,c=>by
  rw[Co.sweepAll,Mc l];unfold Co.sweepOne;split<;>rfl
def WI(c:Co):(c.wUnit cf).1.th=c.th:=by
 unfold Co.wUnit;split
 ·rfl
 ·exact Mc _ c
def Xx(c:Co):(c.unit cf).1.th=c.th:=by
 have h1:∀(r:Co × Bool),r.1.th=c.th->(if r.2 then ({ r.1 with units:=CJ (r.1.units+1) }:Co) else r.1).th=c.th:=λr h=>by split<;>exact h
 unfold Co.unit;refine h1 _ ?_;split
 ·have ht:=RG cf c;generalize c.tUnit cf=z at ht;obtain⟨d,b⟩:=z;cases b with
  | true=>exact ht
  | false=>simp only;unfold Co.adv;rw[KX];exact ht
 ·split
  ·have hw:=WI cf c;generalize c.wUnit cf=z at hw;obtain⟨d,b⟩:=z;simp only at hw ⊢;split<;>exact hw
  ·rfl
theorem Mp:∀(n:Nat) (c:Co),(c.workN cf n).1.th=c.th
 | 0,_=>rfl
 | n+1,c=>by
  have h:=Xx cf c;unfold Co.workN;generalize c.unit cf=z at h;obtain⟨d,b⟩:=z;cases b with
  | true=>exact (Mp n d).trans h
  | false=>exact h
def Q9(c:Co):(c.beginC cf).1.th=c.th:=by
 unfold Co.beginC Co.adv;split
 ·simp only;rw[KX];rfl
 ·rfl
def Xr(c:Co)(t:Int):(c.poll cf t).th=c.th:=by
 unfold Co.poll Co.adv;split
 ·simp only;rw[KX];split
  ·rfl
  ·split<;>rfl
 ·rfl
def VI.set{c:Co}(h:VI c){i:Nat}{l:List V2}(hl:∀v∈l,Dk v=v7):∀k∈c.th.set i l,∀v∈k,Dk v=v7:=λk hk v hv=>by
 rcases xK hk with g|rfl
 ·exact h k g v hv
 ·exact hl v hv
def VI.row{c:Co}(h:VI c)(i:Nat):∀v∈c.th.getD i [],Dk v=v7:=λv hv=>by
 rw[xC]at hv;cases hg:c.th[i]? with
 | none=>rw[hg]at hv;cases hv
 | some l=>rw[hg]at hv;exact h l (yN hg) v hv
def VI.detach{c:Co}(h:VI c)(t:Int):VI (c.detach cf t):=by
 unfold Co.detach Co.adv;split
 ·simp only;unfold VI;rw[KX];exact h.set λv hv=>by cases hv
 ·exact h
def VI.push{c:Co}(h:VI c)(t:Int)(v:V2):VI (c.push t v).1:=by
 unfold Co.push;split
 ·rename_i hc;refine h.set λx hx=>?_;rcases j4.1 hx with g|g
  ·exact h.row _ x g
  ·rw[yZ.1 g];have:=hc.2.1;unfold Co.may at this;simp only[zS]at this;exact this.1
 ·exact h
def VI.pop{c:Co}(h:VI c)(t:Int):VI (c.pop t).1:=by
 unfold Co.pop;split
 ·split
  ·exact h.set λx hx=>h.row _ x (yK _ hx)
  ·exact h
 ·exact h
def Kx(c:Co)(a:Int):(c.color cf a).th=c.th:=by
 unfold Co.color;split
 ·rfl
 ·split<;>rfl
def Xl(c:Co)(t n:Int):(c.fast cf t n).1.th=c.th:=by
 unfold Co.fast;split
 ·generalize c.s.fast t n=z;obtain⟨s',o⟩:=z;cases o with
  | none=>rfl
  | some a=>simp only;rw[Kx]
 ·rfl
def Xv(c:Co)(t n:Int):(c.slow cf t n).1.th=c.th:=by
 unfold Co.slow;split
 ·generalize c.s.slow cf.pages.toNat (cf.threads+1) t n=z;obtain⟨s',a,e⟩:=z;simp only;split
  ·rw[Kx]
  ·rfl
 ·rfl
def writeT(c:Co)(t a i:Int)(v:V2):(c.write t a i v).1.th=c.th:=by unfold Co.write;split<;>rfl
def Oy(m:Ma)(t n:Int):(m.charge cf t n).co=m.co:=by unfold Ma.charge;split<;>rfl
def VI.of{c d:Co}(h:VI c)(e:d.th=c.th):VI d:=by unfold VI;rw[e];exact h
def Yo(m:Ma)(x:BY):(m.tax cf x).1.co.th=m.co.th:=by
 unfold Ma.tax;split
 ·rfl
 ·simp only;split
  ·rfl
  ·simp only;rw[Oy];exact Mp cf _ _
def W2(m:Ma)(x:BY):(m.slow cf x).1.co.th=m.co.th:=by
 unfold Ma.slow;simp only;have h1:(if m.co.phase=0/\D4 m.co.s.c.ks<cf.trigger then ({ m with co:=(m.co.beginC cf).1 }:Ma) else m).co.th=m.co.th:=by
  split
  ·exact Q9 cf _
  ·rfl
 generalize (if m.co.phase=0/\D4 m.co.s.c.ks<cf.trigger then ({ m with co:=(m.co.beginC cf).1 }:Ma) else m)=m1 at h1;have h2:=Yo cf m1 x;rw[h1]at h2;generalize m1.tax cf x=z at h2;obtain⟨m2,y⟩:=z;simp only at h2 ⊢;split
 ·exact h2
 ·exact (Xv cf _ _ _).trans h2
def VI.alloc{m:Ma}(h:VI m.co)(x:BY):VI (m.alloc cf x).1.co:=by
 unfold Ma.alloc;split
 ·exact h
 split
 ·exact h
 have hf:=Xl cf m.co x.t x.n;generalize m.co.fast cf x.t x.n=z at hf;obtain⟨c,o⟩:=z;cases o with
 | some a=>exact VI.push (h.of hf) _ _
 | none=>
  simp only;have h2:=W2 cf m x;split
  ·exact h.of h2
  ·exact VI.push (h.of h2) _ _
def VI.step{m:Ma}(h:VI m.co)(x:BY):VI (m.step cf x).1.co:=by
 have hd:VI (m.doS cf x).1.co:=by
  unfold Ma.doS;split
  ·exact h
  split
  ·exact h.detach cf _
  split
  ·exact h.alloc cf x
  split
  ·unfold Ma.pushS;split
   ·exact h
   ·have hp:=h.push x.t (m.value x).1;generalize m.co.push x.t (m.value x).1=z at hp;obtain⟨c,o⟩:=z;cases o
    ·exact h
    ·exact hp
  split
  ·have hp:=h.pop x.t;generalize m.co.pop x.t=z at hp;obtain⟨c,o⟩:=z;cases o
   ·exact h
   ·exact hp
  split
  ·unfold Ma.writeS;split
   ·exact h
   ·split
    ·exact h
    ·exact h.of (writeT _ _ _ _ _)
  split
  ·exact h
  split
  ·exact h.of (Xr cf _ _)
  unfold Ma.spend;split
  ·split
   ·exact h.of (Q9 cf _)
   ·exact h
  split
  ·exact h
  split
  ·exact h
  split
  ·exact h.of (Mp cf _ _)
  split
  ·exact h
  split
  ·exact h
  simp only;rw[Oy];exact h.of (Mp cf _ _)
 unfold Ma.step;split
 ·exact h
 split
 ·exact h
 simp only;split
 ·exact hd
 ·exact hd
def VI.new:VI (Ma.new cf).co:=λl hl v hv=>by
 have:l=[]:=(List.mem_replicate.1 hl).2;rw[this]at hv;cases hv
end
structure Lk(c d:Co):Prop where
 th:d.th=c.th
 live:∀t:Int,d.r.live t=c.r.live t
 gl:d.global=c.global
 made:d.s.made=c.s.made
 kp:∀a,C0 d a->C0 c a/\C4 c.s.c d.s.c a
def Lk.refl(c:Co):Lk c c:=⟨rfl,λ_=>rfl,rfl,rfl,λa h=>⟨h,C4.refl _ _⟩⟩
def Lk.trans{c d e:Co}(h:Lk c d)(k:Lk d e):Lk c e:=
 ⟨k.th.trans h.th,λt=>(k.live t).trans (h.live t),k.gl.trans h.gl,k.made.trans h.made,λa x=>by
  obtain⟨y,k1⟩:=k.kp a x;obtain⟨z,k2⟩:=h.kp a y;exact⟨z,k2.trans k1⟩⟩
def Lk.of{c d:Co}(hs:d.s=c.s)(ht:d.th=c.th)(hl:∀t:Int,d.r.live t=c.r.live t)(hg:d.global=c.global)(hk:∀a,C0 d a->C0 c a):Lk c d:=
 ⟨ht,hl,hg,by rw[hs],λa x=>⟨hk a x,by rw[hs];exact C4.refl _ _⟩⟩
def Lk.all{c d:Co}(h5:c.phase≠5)(hs:d.s=c.s)(ht:d.th=c.th)(hl:∀t:Int,d.r.live t=c.r.live t)(hg:d.global=c.global):Lk c d:=
 .of hs ht hl hg λa x=>⟨by rw[<-hs];exact x.1,λe=>absurd e h5⟩
section
variable{cf:Cf}{E:Int}{c:Co}
theorem Gq:∀(d:Nat) (c:Co),Lk c (c.advance cf d)
 | 0,c => .refl c
 | d+1,c=>by
  rw[Co.advance];split
  ·split
   ·refine Lk.trans ?_ (Gq d _);exact Lk.all (by omega) rfl rfl (λ_=>rfl) rfl
   split
   ·refine Lk.trans ?_ (Gq d _);exact Lk.all (by omega) rfl rfl (λ_=>rfl) rfl
   split
   ·refine Lk.trans ?_ (Gq d _);exact Lk.all (by omega) rfl rfl (λ_=>rfl) rfl
   split
   ·refine Lk.trans ?_ (Gq d _);exact Lk.all (by omega) rfl rfl (λ_=>rfl) rfl
   ·exact .refl c
  ·exact .refl c
def LA(c:Co):Lk c (c.beginC cf).1:=by
 unfold Co.beginC;split
 ·simp only[Co.adv];refine Lk.trans ?_ (Gq 4 _);exact Lk.all (by omega) rfl rfl (λ_=>rfl) rfl
 ·exact .refl c
def Hc(r:Rg)(t u:Int):(r.confirm t).1.live u=r.live u:=by
 unfold Rg.confirm;split
 ·rename_i h;obtain⟨h0,h1,_⟩:=DH.1 h.1;rw[FD h0 h1];split
  ·rename_i e;rw[e,h.1]
  ·rfl
 ·rfl
def UV(c:Co)(t:Int):Lk c (c.poll cf t):=by
 unfold Co.poll;split
 ·simp only[Co.adv];refine Lk.trans ?_ (Gq 4 _);split
  ·exact Lk.all (by omega) rfl rfl (λu=>Hc c.r t u) rfl
  split
  ·exact Lk.all (by omega) rfl rfl (λu=>Hc c.r t u) rfl
  ·exact Lk.of rfl rfl (λu=>Hc c.r t u) rfl λa x=>x
 ·exact .refl c
def KI.detach_lk(h:KI cf E c)(t:Int)(hl:c.r.live t=v7):Lk { c with th:=c.th.set t.toNat [],r:=c.r.detach t } (c.detach cf t):=by
 unfold Co.detach;rw[vn hl];simp only[Co.adv];refine Lk.trans ?_ (Gq 4 _);obtain⟨s1,s2,s3⟩:=St.quit_ok h.si t;refine⟨rfl,λ_=>rfl,rfl,s3,λa x=>⟨⟨?_,λe5=>?_⟩,s2 a⟩⟩
 ·have:=x.1;rw[<-(s2 a).1];exact this
 ·have hmk:c.marking=v8:=by have e5:c.phase=5:=e5;unfold Co.marking;simp;omega
  have:=x.2 e5;simpa[hmk] using this
def NF{r:Rg}{t:Int}(hl:r.live t=v7)(u:Int):(r.detach t).live u=if u=t then v8 else r.live u:=by obtain⟨h0,h1,_⟩:=DH.1 hl;unfold Rg.detach;rw[vn hl,FD h0 h1]
def Tx(c:Co)(h3:c.phase=3):Lk c (c.tUnit cf).1/\(c.tUnit cf).1.phase=3:=by
 have hp:(c.tUnit cf).1.phase=c.phase/\(c.tUnit cf).1.r=c.r:=by
  unfold Co.tUnit Co.entry Co.look;split
  ·exact⟨rfl,rfl⟩
  split
  ·simp only;split<;>exact⟨rfl,rfl⟩
  ·simp only;split<;>exact⟨rfl,rfl⟩
 exact⟨Lk.all (by omega) (J1 cf c) (RG cf c) (λt=>by rw[hp.2]) (Nz c),hp.1.trans h3⟩
def KI.wUnit_lk(hk:KI cf E c)(h5:c.phase=5)(hp:cf.pages<=64):Lk c (c.wUnit cf).1:=by
 obtain⟨b5,a5,m5⟩:=hk.p5 h5;unfold Co.wUnit;split
 ·exact .refl c
 simp only;have hs:=F5 (c.s.inP c.at_) c hk.si (IR _ _) λx hx=>by
  obtain⟨a,e,ta,_⟩:=(FI hk.si).1 hx;exact⟨a,e,ta⟩
 generalize c.sweepAll (c.s.inP c.at_)=d at hs;obtain⟨t1,t2,t3,t4⟩:=St.trim_ok (hs.si hk.si) d.at_;refine⟨hs.th,λt=>by simp only;rw[hs.r],hs.global,t3.trans hs.made,λa x=>?_⟩;obtain⟨x1,x2⟩:=x;have x2:=x2 (by simp only;rw[hs.phase];exact h5);simp only at x1 x2;rw[(t2 a).1]at x1;rw[hs.at_,F6 (n:=c.at_+1) (by omega)]at x2;by_cases ha:(a:Int)∈c.s.inP c.at_
 ·have hm:c.g.mks a=v7:=by
   cases hm:c.g.mks a with
   | true=>rfl
   | false=>rw[hs.gone a ha hm]at x1;cases x1
  have k:=hs.inn a ha hm;exact⟨⟨by rw[<-k.1];exact x1,λ_=>wh hm⟩,k.trans (t2 a)⟩
 ·obtain⟨k,km⟩:=hs.out a ha;have tk:c.s.c.tk a=v7:=by rw[<-k.1];exact x1
  refine⟨⟨tk,λ_=>?_⟩,k.trans (t2 a)⟩;rcases x2 with y|y
  ·refine wg ?_;have:((a / 32:Nat):Int)≠c.at_:=λe=>ha ((FI hk.si).2 ⟨a,rfl,tk,e⟩);omega
  ·exact wh (by rw[<-km];exact y)
def KI.unit_lk(hk:KI cf E c)(hch:0<=cf.chunk/\cf.chunk<=1000)(hp:1<=cf.pages/\cf.pages<=64)(hks:(c.s.c.ks.length:Int)=cf.pages):Lk c (c.unit cf).1:=by
 have hu:∀(r:Co × Bool),Lk c r.1->Lk c (if r.2 then ({ r.1 with units:=CJ (r.1.units+1) }:Co) else r.1):=λr h=>by
  split
  ·exact⟨h.th,h.live,h.gl,h.made,h.kp⟩
  ·exact h
 unfold Co.unit;refine hu _ ?_;split
 ·rename_i h3;obtain⟨k1,p1⟩:=Tx (cf:=cf) c h3;generalize c.tUnit cf=z at k1 p1;obtain⟨d,b⟩:=z;cases b with
  | true=>exact k1
  | false=>exact (k1.trans (Lk.all (d:=d.raise 4) (λe5=>by have p1:d.phase=3:=p1;have e5:d.phase=5:=e5;omega) rfl rfl (λ_=>rfl) rfl)).trans (Gq 4 _)
 split
 ·rename_i h5;have k0:=hk.wUnit_lk h5 hp.2;obtain⟨k1,k2,k3⟩:=hk.wUnit h5 hp.2;have hln:=Jm cf c;generalize c.wUnit cf=z at k0 k1 k2 hln;obtain⟨d,b⟩:=z;simp only at k0 k1 k2 hln ⊢;split
  ·rename_i hd;refine k0.trans (Lk.of rfl rfl (λ_=>rfl) rfl λa x=>⟨x.1,λ_=>wg ?_⟩);have x1:d.s.c.tk a=v7:=x.1;have:=(k1.si.hi.ci.tk a x1).1;have:=k1.si.hi.ci.ml;have:=hk.si.hi.ci.ml;omega
  ·exact k0
 ·exact .refl c
def MI.unit_lk(h:MI cf E c)(L:D1 cf):Lk c (c.unit cf).1:=h.k.unit_lk L.ch L.pg (h.ks L)
theorem MI.work_lk(L:D1 cf):∀(n:Nat) (c:Co) (E:Int),MI cf E c->E+5*n<=1000000000->Lk c (c.workN cf n).1
 | 0,c,E,h,_ => .refl c
 | n+1,c,E,h,hE=>by
  have h1:=h.unit L (by omega);have q1:=h.unit_lk L;unfold Co.workN;generalize c.unit cf=z at h1 q1;obtain⟨d,b⟩:=z;cases b with
  | true=>exact q1.trans (MI.work_lk L n d _ h1 (by omega))
  | false=>exact q1
end
structure BR where
 th:List (Bool × List V2)
 nd:List (List V2)
def BR.new(cf:Cf):BR:=⟨List.replicate cf.threads.toNat (v8,[]),[List.replicate 4 (0,0)]⟩
def BR.live(g:BR)(t:Int):Bool:=(g.th.getD t.toNat (v8,[])).1
def BR.held(g:BR)(t:Int):List V2:=(g.th.getD t.toNat (v8,[])).2
def BR.who(g:BR)(x:BY):Int:=if 16<=x.kd then 0 else if (g.th.length:Int)<=x.t then 4 else if x.kd=1/\g.live x.t then 9 else if x.kd≠1/\¬g.live x.t then 14 else 0
def BR.node(g:BR)(n:Int):List V2:=g.nd.getD n.toNat []
def BR.object(g:BR)(x:BY)(field:Bool):Int:=match (g.held x.t)[x.i.toNat]? with
 | none=>4
 | some v=>if v.1≠2 then 12 else if field/\((g.node v.2).length:Int)<=x.f then 4 else 0
def BY.nums(cf:Cf)(x:BY):Int:=
 if x.kd=3/\(x.n<0∨127<x.n∨x.cost<1∨cf.quantum<x.cost)∨x.kd=4/\(x.n < -1099511627776∨1099511627775<x.n) then 4 else
 if (x.kd=13∨x.kd=16)/\(x.n<1∨64<x.n)∨x.kd=15/\(x.n<1∨64<x.n∨x.cost<1∨cf.quantum<x.cost) then 4 else 0
def BR.hands(g:BR)(x:BY):Int:=
 if x.kd<3∨12<x.kd then 0 else
 if (x.kd=9∨x.kd=10∨x.kd=12)/\g.object x (decide (x.kd≠12))≠0 then g.object x (decide (x.kd≠12)) else
 if (x.kd=7∨x.kd=11)/\((g.held x.t).length:Int)<=x.i∨(x.kd=10∨x.kd=11)/\((g.held x.t).length:Int)<=x.j∨x.kd=8/\(g.held x.t).length=0 then 4 else
 if (x.kd<=7∨x.kd=9)/\16<=(g.held x.t).length then 3 else 0
def BR.code(cf:Cf)(g:BR)(x:BY):Int:=
 if x.check≠0 then x.check else if g.who x≠0 then g.who x else if x.nums cf≠0 then x.nums cf else g.hands x
def BR.hold(g:BR)(t:Int)(v:V2):BR × BZ:=({ g with th:=g.th.set t.toNat (g.live t,g.held t++[v]) },⟨0,v.1,v.2,0,0⟩)
def BR.pushed(g:BR)(x:BY):V2:=
 if x.kd=4 then (1,x.n) else if x.kd=6 then (2,0) else
 if x.kd=7 then (g.held x.t).getD x.i.toNat (0,0) else
 if x.kd=9 then (g.node ((g.held x.t).getD x.i.toNat (0,0)).2).getD x.f.toNat (0,0) else (0,0)
def BR.doS(g:BR)(x:BY):BR × BZ:=
 if x.kd=1 then ({ g with th:=g.th.set x.t.toNat (v7,[]) },BZ.ok) else
 if x.kd=2 then ({ g with th:=g.th.set x.t.toNat (v8,[]) },BZ.ok) else
 if x.kd=3 then BR.hold { g with nd:=g.nd++[List.replicate x.n.toNat (0,0)] } x.t (2,g.nd.length) else
 if 4<=x.kd/\x.kd<=7∨x.kd=9 then g.hold x.t (g.pushed x) else
 if x.kd=8 then ({ g with th:=g.th.set x.t.toNat (g.live x.t,(g.held x.t).dropLast) },⟨0,((g.held x.t).getLastD (0,0)).1,((g.held x.t).getLastD (0,0)).2,0,0⟩) else
 if x.kd=10 then ({ g with nd:=g.nd.set ((g.held x.t).getD x.i.toNat (0,0)).2.toNat ((g.node ((g.held x.t).getD x.i.toNat (0,0)).2).set x.f.toNat ((g.held x.t).getD x.j.toNat (0,0))) },BZ.ok) else
 if x.kd=11 then (g,⟨0,1,if (g.held x.t).getD x.i.toNat (0,0)=(g.held x.t).getD x.j.toNat (0,0) then 1 else 0,0,0⟩) else
 if x.kd=12 then (g,⟨0,1,(g.node ((g.held x.t).getD x.i.toNat (0,0)).2).length,0,0⟩) else (g,BZ.ok)
def BR.step(cf:Cf)(g:BR)(x:BY)(no:Int):BR × BZ:=
 if g.code cf x≠0 then (g,BZ.err (g.code cf x)) else
 if (x.kd=3∨x.kd=15∨x.kd=17)/\no≠0 then (g,BZ.err no) else g.doS x
def Cv(s:St)(v:V2):V2:=(v.1,if v.1=2 then s.serial v.2 else v.2)
def OO(m:Ma)(v:V2):m.told v=Cv m.co.s v:=rfl
structure Cx(cf:Cf)(c:Co)(g:BR):Prop where
 tl:g.th.length=cf.threads.toNat
 tv:∀t:Nat,t<cf.threads.toNat->g.th[t]?=vz (c.r.live t,(c.th.getD t []).map (Cv c.s))
 le:∀l∈c.th,l.length<=16
 nl:(g.nd.length:Int)=c.s.made
 nd:∀a ser fs,C0 c a->C7 c.s.c a ser fs->g.nd[ser.toNat]?=vz (fs.map (Cv c.s))
section
variable{cf:Cf}{E E':Int}{c d:Co}{g:BR}{t:Nat}
def EX{s:St}{v:V2}(h:v.1≠2):Cv s v=v:=by unfold Cv;rw[vm h]
def Eo{s:St}(h:SI s){b:Nat}{ser:Int}{fs:List V2}(o:C7 s.c b ser fs):Cv s (2,(b:Int))=(2,ser):=by unfold Cv;rw[vn rfl,(St.read_obj h.hi.ci o).2]
def I0(hc:SI c.s)(hd:SI d.s){v:V2}(hv:Dk v=v7)(h:∀b:Nat,v=(2,(b:Int))->c.s.c.tk b=v7/\∀ser fs,C7 c.s.c b ser fs->∃fs',C7 d.s.c b ser fs'):Cv d.s v=Cv c.s v:=by
 by_cases h2:v.1=2
 ·obtain⟨b,rfl,_⟩:=Dq hv h2;obtain⟨tb,hb⟩:=h b rfl;obtain⟨ser,fs,o,_⟩:=hc.hi.obj b tb;obtain⟨fs',o'⟩:=hb ser fs o;rw[Eo hc o,Eo hd o']
 ·rw[EX h2,EX h2]
def FE{α β : Type}{f f' : α -> β}{l:List α}(h:∀x∈l,f' x=f x):l.map f'=l.map f:=List.map_congr_left h
def KI.row_ok(h:KI cf E c)(t:Nat):∀v∈c.th.getD t [],Dk v=v7/\∀b:Nat,v=(2,(b:Int))->C0 c b:=λv hv=>by
 rcases Nat.lt_or_ge t c.th.length with hl|hl
 ·have e:c.th.getD t []∈c.th:=by rw[Dy hl];exact zW _
  exact⟨h.vok _ e v hv,λb eb=>h.ni.rt _ e b (by rw[<-eb];exact hv)⟩
 ·rw[xC,yC hl]at hv;cases hv
def C7.ok{ce:Ce}{a:Nat}{ser:Int}{fs:List V2}(o:C7 ce a ser fs){v:V2}(hv:v∈fs):Dk v=v7/\∃j:Nat,fs[j]?=vz v:=by obtain⟨j,hj,rfl⟩:=yS hv;exact⟨(o.fld j hj).1,j,xO hj⟩
def Cx.lk(h:Cx cf c g)(hc:KI cf E c)(hd:KI cf E' d)(k:Lk c d):Cx cf d g:=by
 have key:∀v:V2,Dk v=v7->(∀b:Nat,v=(2,(b:Int))->C0 d b)->Cv d.s v=Cv c.s v:=λv hv hb=>I0 hc.si hd.si hv λb e=>by
  obtain⟨x,y⟩:=k.kp b (hb b e);exact⟨x.1,λser fs o=>⟨fs,y.obj' o⟩⟩
 refine⟨h.tl,λt ht=>?_,by rw[k.th];exact h.le,by rw[k.made];exact h.nl,λa ser fs ka o=>?_⟩
 ·rw[h.tv t ht,k.live];have e:(d.th.getD t []).map (Cv d.s)=(c.th.getD t []).map (Cv c.s):=by rw[<-k.th];refine FE λv hv=>?_;obtain⟨v1,v2⟩:=hd.row_ok t v hv;exact key v v1 v2
  rw[e]
 ·obtain⟨x,y⟩:=k.kp a ka;rw[h.nd a ser fs x (y.obj.1 o)];have e:fs.map (Cv d.s)=fs.map (Cv c.s):=FE λv hv=>by
   obtain⟨v1,j,ej⟩:=o.ok hv;exact key v v1 λb eb=>hd.ni.cl a j b ka ⟨ser,fs,o,by rw[ej,eb]⟩
  rw[e]
def Cx.th(h:Cx cf c g)(hc:KI cf E c)(hl:c.r.live (t:Int)=v7):t<cf.threads.toNat/\g.live (t:Int)=v7/\g.held (t:Int)=(c.th.getD t []).map (Cv c.s):=by
 have ht:t<cf.threads.toNat:=by have:=DH.1 hl;have:=hc.rl;omega
 have e:=h.tv t ht;refine⟨ht,?_,?_⟩
 ·unfold BR.live;rw[zE,xC,e];exact hl
 ·unfold BR.held;rw[zE,xC,e];rfl
def Cx.obj(h:Cx cf c g){a:Nat}{ser:Int}{fs:List V2}(ka:C0 c a)(o:C7 c.s.c a ser fs):g.node ser=fs.map (Cv c.s):=by unfold BR.node;rw[xC,h.nd a ser fs ka o];rfl
def Cx.th_set(h:Cx cf c g)(ht:t<cf.threads.toNat){l:List V2}{c':Co}(h8:cf.threads.toNat<=c.th.length)(hl:l.length<=16)(e1:c'.th=c.th.set t l)(e2:c'.s=c.s)(e3:∀u:Nat,u≠t->c'.r.live (u:Int)=c.r.live (u:Int))(hk:∀a,C0 c' a->C0 c a):Cx cf c' { g with th:=g.th.set t (c'.r.live (t:Int),l.map (Cv c.s)) }:=by
 refine⟨by simp only[i8];exact h.tl,λu hu=>?_,λk hk=>?_,by rw[e2];exact h.nl,λa ser fs ka o=>?_⟩
 ·rw[e1,e2];by_cases e:t=u
  ·subst e;rw[zI,vn rfl,vn (by rw[h.tl];exact ht),FC,vn ⟨rfl,by omega⟩]
  ·rw[zI,vm e,h.tv u hu,FC,vm (λx=>e x.1),e3 u (λx=>e x.symm)]
 ·rw[e1]at hk;rcases Hm hk with rfl|hk
  ·exact hl
  ·exact h.le k hk
 ·rw[e2]at o ⊢;exact h.nd a ser fs (hk a ka) o
def Ro(hc:KI cf E c){v:V2}(hv:VG c t v):c.may v=v7:=by
 unfold Co.may;rw[hv.ok];by_cases h2:v.1=2
 ·obtain⟨b,rfl,_⟩:=Dq hv.ok h2;obtain⟨ser,fs,o,_⟩:=hc.si.hi.obj b (hv.kp b rfl).1;have:=(St.read_obj hc.si.hi.ci o).1;simp only[this];simp
 ·simp[h2]
def Cx.push(h:Cx cf c g)(hc:KI cf E c)(hl:c.r.live (t:Int)=v7){v:V2}(hv:VG c t v)(hn:(c.th.getD t []).length<16):(c.push (t:Int) v).2=v7/\Cx cf (c.push (t:Int) v).1 (g.hold (t:Int) (Cv c.s v)).1:=by obtain⟨ht,h1,h2⟩:=h.th hc hl;unfold Co.push;rw[zE,vn ⟨hl,Ro hc hv,hn⟩];refine⟨rfl,?_⟩;have:=h.th_set (c':={ c with th:=c.th.set t (c.th.getD t []++[v]) }) ht (l:=c.th.getD t []++[v]) (by have:=(hc.th_in hl).1;have:=hc.thl;have:=hc.t8;omega) (by rw[yY];simp only[zY,i7];omega) rfl rfl (λ_ _=>rfl) λa x=>x;unfold BR.hold;rw[h1,h2,zE];simpa[hl] using this
def R0(hn:¬(c.th.getD t []).length<16)(v:V2):(c.push (t:Int) v).2=v8:=by unfold Co.push;rw[zE,vm (λx=>hn x.2.2)]
def Cx.pop(h:Cx cf c g)(hc:KI cf E c)(hl:c.r.live (t:Int)=v7):match c.th.getD t [] with
  | []=>c.pop (t:Int)=(c,v6)
  | u::l=>(c.pop (t:Int)).2=vz ((u::l).getLast (by simp))/\Cx cf (c.pop (t:Int)).1 { g with th:=g.th.set t (g.live (t:Int),(g.held (t:Int)).dropLast) }:=by
 obtain⟨ht,h1,h2⟩:=h.th hc hl;have hth:=hc.th_in hl;have hle:=h.le _ hth.2;have h8:cf.threads.toNat<=c.th.length:=by have:=hc.thl;have:=hc.t8;omega
 unfold Co.pop;rw[vn hl,zE];have hs:=λl (hl':l.length<=16)=>h.th_set (c':={ c with th:=c.th.set t l }) ht (l:=l) h8 hl' rfl rfl (λ_ _=>rfl) λa x=>x;rw[h1,h2];generalize c.th.getD t []=r at hle;cases r with
 | nil=>rfl
 | cons u l=>
  simp only[List.getLast?_cons];refine⟨by simp[List.getLast_eq_getLastD],?_⟩;have:=hs (u::l).dropLast (by simp at hle ⊢;omega);rw[show c.r.live (t:Int)=v7 from hl]at this;simpa[List.map_dropLast] using this
def Cx.attach(h:Cx cf c g)(hc:KI cf E c)(ht:t<cf.threads.toNat)(hl:c.r.live (t:Int)=v8):Cx cf (c.attach (t:Int)) { g with th:=g.th.set t (v7,[]) }:=by
 have h8:cf.threads.toNat<=c.th.length:=by have:=hc.thl;have:=hc.t8;omega
 have htl:t<c.th.length:=by omega
 have hr:=hc.lv t hl;have he:c.th.set t []=c.th:=by
  apply zF;intro i;rw[zI];split
  ·rename_i e;subst e;rw[xO htl];rw[Dy htl]at hr;rw[hr]
  ·rfl
 have hrl:=hc.rl;have hlive:∀u:Int,(c.attach (t:Int)).r.live u=if u=t then v7 else c.r.live u:=λu=>by
  unfold Co.attach Rg.attach;rw[vn ⟨by omega,by omega,by rw[hl];simp⟩];exact FD (m:=(v7,c.r.ep)) (by omega) (by omega) u
 have:=h.th_set (c':=c.attach (t:Int)) ht (l:=[]) h8 (by simp) he.symm rfl (λu hu=>by rw[hlive,vm (by omega)]) λa x=>x;rw[hlive,vn rfl]at this;exact this
def Cx.detach(h:Cx cf c g)(hc:KI cf E c)(hE:E+4<=1000000000)(hl:c.r.live (t:Int)=v7):Cx cf (c.detach cf (t:Int)) { g with th:=g.th.set t (v8,[]) }:=by
 obtain⟨ht,h1,h2⟩:=h.th hc hl;have h8:cf.threads.toNat<=c.th.length:=by have:=hc.thl;have:=hc.t8;omega
 have hd:=NF hl;have:=h.th_set (c':={ c with th:=c.th.set t [],r:=c.r.detach (t:Int) }) ht (l:=[]) h8 (by simp) rfl rfl (λu hu=>by simp only;rw[hd,vm (by omega)]) λa x=>x;simp only at this;rw[hd,vn rfl]at this;have k1:=hc.gone (t:Int) hl;have k2:=hc.detach_lk (cf:=cf) (t:Int) hl;rw[zE]at k1 k2;exact this.lk k1 (hc.detach hE (t:Int)) k2
end
section
variable{cf:Cf}{E E':Int}{c d:Co}{g:BR}{t:Nat}
def MG(c:Co)(a:Int):(c.color cf a).r=c.r:=by
 unfold Co.color;split
 ·rfl
 ·split<;>rfl
def QK(c:Co){a b:Nat}(ha:a<2048)(hb:b≠a):(c.color cf (a:Int)).g.mks b=c.g.mks b/\(c.color cf (a:Int)).at_=c.at_:=by
 have h1:∀g:Gy,(g.black (a:Int)).mks b=g.mks b:=λg=>by
  rw[LC _ ha];unfold CG;simp only;rw[vm hb]
 unfold Co.color;split
 ·refine⟨?_,rfl⟩;simp only;generalize c.g=g;unfold Gy.shade;split
  ·rw[Nn];exact h1 g
  ·exact Eq.refl (g.mks b)
 split
 ·have:=h1 c.g;constructor
  ·simp only;exact this
  ·simp only
 ·constructor<;>simp only
def Cx.newO(h:Cx cf c g)(hc:KI cf E c){s':St}{a n:Nat}(hn:FP c.s s' a n){d:Co}(ed:d=({ c with s:=s' }:Co).color cf (a:Int))(hd:KI cf E' d)(hm:0<=c.s.made):Cx cf d { g with nd:=g.nd++[List.replicate n (0,0)] }/\Cv d.s (2,(a:Int))=(2,(g.nd.length:Int)):=by
 have es:d.s=s':=by rw[ed];exact Jr cf _ _
 have eth:d.th=c.th:=by rw[ed];exact Kx cf _ _
 have er:d.r=c.r:=by rw[ed];exact MG _ _
 have eph:d.phase=c.phase:=by rw[ed];exact (S9 _ _).1
 have ha:a<2048:=by have o:=hn.obj;rw[<-es]at o;have:=hd.si.hi.ci.tk_lt o.tk;have:=hd.si.hi.ci.small_n;omega
 have hk:∀b,b≠a->C0 d b->C0 c b:=λb hb x=>by
  obtain⟨x1,x2⟩:=x;rw[es,(hn.kept b hb).1]at x1;refine⟨x1,λe5=>?_⟩;have:=x2 (by rw[eph];exact e5);obtain⟨m1,m2⟩:=QK (cf:=cf) ({ c with s:=s' }:Co) ha hb;rw[<-ed]at m1 m2;rw[m1,m2]at this;exact this
 have key:∀v:V2,Dk v=v7->(∀b:Nat,v=(2,(b:Int))->b≠a/\C0 c b)->Cv d.s v=Cv c.s v:=λv hv hb=>I0 hc.si hd.si hv λb e=>by
  obtain⟨x,y⟩:=hb b e;exact⟨y.1,λser fs o=>⟨fs,by rw[es];exact (hn.kept b x).obj' o⟩⟩
 have off:∀b,C0 c b->b≠a:=λb x e=>by
  have:=x.1;rw[e,hn.off]at this;cases this
 refine⟨⟨h.tl,λu hu=>?_,by rw[eth];exact h.le,?_,λb ser fs kb o=>?_⟩,?_⟩
 ·rw[h.tv u hu,er,eth];have e:(c.th.getD u []).map (Cv d.s)=(c.th.getD u []).map (Cv c.s):=FE λv hv=>by
   obtain⟨v1,v2⟩:=hc.row_ok u v hv;exact key v v1 λb eb=>⟨off b (v2 b eb),v2 b eb⟩
  rw[e]
 ·rw[es,hn.made];have:=h.nl;simp only[yY,zY,i7];omega
 ·simp only;by_cases hb:b=a
  ·subst hb;rw[es]at o;obtain⟨rfl,rfl⟩:=o.same hn.obj;have e:c.s.made.toNat=g.nd.length:=by have:=h.nl;omega
   rw[e,xD (va _),Nat.sub_self];simp[Cv]
  ·have kc:=hk b hb kb;have oc:C7 c.s.c b ser fs:=by rw[es]at o;exact (hn.kept b hb).obj.1 o
   have e:=h.nd b ser fs kc oc;have hlt:ser.toNat<g.nd.length:=by apply xF;intro hx;rw[yC (by omega)]at e;cases e
   rw[xH hlt,e];have e:fs.map (Cv d.s)=fs.map (Cv c.s):=FE λv hv=>by
    obtain⟨v1,j,ej⟩:=oc.ok hv;refine key v v1 λx ex=>?_;have:=hc.ni.cl b j x kc ⟨ser,fs,oc,by rw[ej,ex]⟩;exact⟨off x this,this⟩
   rw[e]
 ·have o:=hn.obj;rw[<-es]at o;rw[Eo hd.si o,h.nl]
def Cx.write(h:Cx cf c g)(hc:KI cf E c)(hl:c.r.live (t:Int)=v7){a:Nat}{i:Int}{v:V2}(ha:VG c t (2,(a:Int)))(hv:VG c t v){ser:Int}{fs:List V2}(o:C7 c.s.c a ser fs):
  if 0<=i/\i<fs.length then (c.write (t:Int) (a:Int) i v).2=v7/\Cx cf (c.write (t:Int) (a:Int) i v).1 { g with nd:=g.nd.set ser.toNat ((g.node ser).set i.toNat (Cv c.s v)) } else c.write (t:Int) (a:Int) i v=(c,v8):=by
 have e:=St.get_obj hc.si.hi.ci o i;split
 rotate_left
 ·rename_i hi;have:(c.s.get (a:Int) i).2=v8:=by
   rw[e];by_cases h0:0<=i
   ·rw[vn h0,yC (by omega)]
   ·rw[vm h0]
  unfold Co.write;rw[vm (by rw[this];simp)]
 rename_i hi;obtain⟨i,rfl⟩:=xQ hi.1;have hlen:i<fs.length:=by omega
 rw[vn (by omega),zE,xO hlen]at e;simp only at e;have kw:=hc.write ha hv (i:=(i:Int));obtain⟨s1,s2,s3,s4,s5,s6⟩:=St.set_ok hc.si o (i:=(i:Int)) hv.ok (by omega);revert kw;unfold Co.write;rw[vn ⟨hl,Ro hc hv,by rw[e]⟩];intro kw;refine⟨s1,?_⟩;simp only at kw ⊢
 generalize (if (c.s.get (a:Int) (i:Int)).1.1=2/\¬(c.g.is (c.s.get (a:Int) (i:Int)).1.2=v7)/\c.barrier (t:Int)=v7 then FB c.b (t:Int) (c.s.get (a:Int) (i:Int)).1.2 else c.b)=b' at kw;generalize (c.s.set (a:Int) (i:Int) v).1=s' at *;have hk:∀b,C0 { c with b:=b',s:=s' } b->C0 c b:=λb x=>⟨by rw[<-s4];exact x.1,x.2⟩
 have key:∀v:V2,Dk v=v7->(∀b:Nat,v=(2,(b:Int))->C0 c b)->Cv s' v=Cv c.s v:=λv hv hb=>I0 (d:={ c with s:=s' }) hc.si s5 hv λb e=>by
  refine⟨(hb b e).1,λser' fs' o'=>?_⟩;by_cases hb:b=a
  ·subst hb;obtain⟨rfl,rfl⟩:=o'.same o;exact⟨_,s2⟩
  ·exact⟨fs',(s3 b hb).obj' o'⟩
 have hfs:fs.map (Cv s')=fs.map (Cv c.s):=FE λx hx=>by
  obtain⟨v1,j,ej⟩:=o.ok hx;exact key x v1 λb eb=>hc.ni.cl a j b (ha.kp a rfl) ⟨ser,fs,o,by rw[ej,eb]⟩
 have hnode:=h.obj (ha.kp a rfl) o;have hndser:=h.nd a ser fs (ha.kp a rfl) o;have hlt:ser.toNat<g.nd.length:=by apply xF;intro hx;rw[yC (by omega)]at hndser;cases hndser
 refine⟨h.tl,λu hu=>?_,h.le,?_,λb ser' fs' kb o'=>?_⟩
 ·rw[h.tv u hu];have e:(c.th.getD u []).map (Cv s')=(c.th.getD u []).map (Cv c.s):=FE λv hv=>by
   obtain⟨v1,v2⟩:=hc.row_ok u v hv;exact key v v1 v2
  simp only;rw[e]
 ·simp only[i8];rw[s6];exact h.nl
 ·simp only at o' ⊢;have kc:=hk b kb;by_cases hb:b=a
  ·subst hb;obtain⟨rfl,rfl⟩:=o'.same s2;rw[zI,vn rfl,vn hlt,hnode,zE,u6,hfs,key v hv.ok hv.kp]
  ·have oc:C7 c.s.c b ser' fs':=(s3 b hb).obj.1 o';have e:=h.nd b ser' fs' kc oc;have hne:ser.toNat≠ser'.toNat:=λes=>by
    have h0:=o.ser;have h1:=oc.ser;have:ser=ser':=by omega
    subst this;exact hb (hc.si.hi.one b a _ _ _ oc o)
   rw[zI,vm hne,e];have e:fs'.map (Cv s')=fs'.map (Cv c.s):=FE λx hx=>by
    obtain⟨v1,j,ej⟩:=oc.ok hx;exact key x v1 λy ey=>hc.ni.cl b j y kc ⟨ser',fs',oc,by rw[ej,ey]⟩
   rw[e]
def KI.tolds_inj(hc:KI cf E c){u v:V2}(hu:VG c t u)(hv:VG c t v):Cv c.s u=Cv c.s v↔u=v:=by
 refine⟨λh=>?_,λh=>by rw[h]⟩;have h1:u.1=v.1:=by unfold Cv at h;exact (uz.1 h).1
 by_cases h2:u.1=2
 ·obtain⟨a,rfl,_⟩:=Dq hu.ok h2;obtain⟨b,rfl,_⟩:=Dq hv.ok (by omega);obtain⟨s1,f1,o1,_⟩:=hc.si.hi.obj a (hu.kp a rfl).1;obtain⟨s2,f2,o2,_⟩:=hc.si.hi.obj b (hv.kp b rfl).1;rw[Eo hc.si o1,Eo hc.si o2]at h;have e:s1=s2:=(uz.1 h).2;subst e;rw[hc.si.hi.one a b _ _ _ o1 o2]
 ·rwa [EX h2,EX (by omega)]at h
end
section
variable{cf:Cf}{E:Int}{m:Ma}{g:BR}{x:BY}{t:Nat}
def FG(h:x.check=0):(1<=x.kd/\x.kd<=17)/\0<=x.t/\0<=x.i/\0<=x.f/\0<=x.j/\0<=x.cost:=by
 unfold BY.check at h;by_cases c1:x.kd<1∨17<x.kd
 ·rw[vn c1]at h;cases h
 rw[vm c1]at h;by_cases c2:(x.small.any λn=>decide (n<0) || decide (255<n))=v7
 ·rw[vn c2]at h;cases h
 ·unfold BY.small at c2;simp only[List.any_cons,List.any_nil,Bool.or_eq_true,zP]at c2;omega
def NE(x:BY):x.check=0∨x.check=12∨x.check=4∨x.check=16:=by
 unfold BY.check
 repeat' split
 all_goals simp
def RK(m:Ma)(x:BY):m.who cf x=0∨m.who cf x=4∨m.who cf x=9∨m.who cf x=14:=by
 unfold Ma.who
 repeat' split
 all_goals simp
def Cx.live(s:Cx cf m.co g){u:Int}(h0:0<=u)(h:u<cf.threads):g.live u=m.co.r.live u:=by obtain⟨t,rfl⟩:=xQ h0;unfold BR.live;rw[zE,xC,s.tv t (by omega)];rfl
def Cx.who(s:Cx cf m.co g)(h:MJ cf E m)(h0:0<=x.t):g.who x=m.who cf x:=by
 have h8:=h.c.k.t8;unfold BR.who Ma.who;rw[s.tl];by_cases c0:16<=x.kd
 ·rw[vn c0,vn c0]
 rw[vm c0,vm c0];by_cases c1:cf.threads<=x.t
 ·rw[vn (by omega),vn c1]
 rw[vm (by omega),vm c1,s.live h0 (by omega)]
def CB(cf:Cf)(g:BR)(x:BY)(r:Ma × BZ):Prop:=
 Cx cf r.1.co (g.step cf x r.2.code).1/\(⟨r.2.code,r.2.kd,r.2.n,0,0⟩:BZ)=(g.step cf x r.2.code).2/\((r.2.code=10∨r.2.code=21)->x.kd=3∨x.kd=15)
def Tw{no e:Int}(hc:x.check=0)(hw:g.who x=0)(he:e≠0)(h:x.nums cf=e∨x.nums cf=0/\g.hands x=e):g.step cf x no=(g,BZ.err e):=by
 have hcode:g.code cf x=e:=by
  unfold BR.code;rw[vm (by omega),vm (by omega)];rcases h with h|⟨h1,h2⟩
  ·rw[vn (by omega),h]
  ·rw[vm (by omega),h2]
 unfold BR.step;rw[vn (by omega),hcode]
def OM{no:Int}(hc:x.check=0)(hw:g.who x=0)(h1:x.nums cf=0)(h2:g.hands x=0):g.step cf x no=if (x.kd=3∨x.kd=15∨x.kd=17)/\no≠0 then (g,BZ.err no) else g.doS x:=by
 have hcode:g.code cf x=0:=by unfold BR.code;rw[vm (by omega),vm (by omega),vm (by omega),h2]
 unfold BR.step;rw[vm (by omega)]
def CB.err(s:Cx cf m.co g){e:Int}(hc:x.check=0)(hw:g.who x=0)(he:e≠0)(h:x.nums cf=e∨x.nums cf=0/\g.hands x=e)(hx:e=3∨e=4∨e=12):CB cf g x (m,BZ.err e):=by unfold CB;have:=Tw (no:=(BZ.err e).code) hc hw he h;simp only;rw[this];exact⟨s,rfl,λy=>by simp only[BZ.err]at y;omega⟩
def CB.of{r:Ma × BZ}(hc:x.check=0)(hw:g.who x=0)(h1:x.nums cf=0)(h2:g.hands x=0)(h0:r.2.code=0)(s:Cx cf r.1.co (g.doS x).1)(e:(⟨0,r.2.kd,r.2.n,0,0⟩:BZ)=(g.doS x).2):CB cf g x r:=by unfold CB;rw[OM hc hw h1 h2,vm (λy=>y.2 h0),h0];exact⟨s,e,λy=>by omega⟩
def CB.no{r:Ma × BZ}(hc:x.check=0)(hw:g.who x=0)(h1:x.nums cf=0)(h2:g.hands x=0)(hk:x.kd=3∨x.kd=15∨x.kd=17)(h0:r.2.code≠0)(ha:r.2.kd=0/\r.2.n=0)(s:Cx cf r.1.co g)(hcd:(r.2.code=10∨r.2.code=21)->x.kd=3∨x.kd=15):CB cf g x r:=by unfold CB;rw[OM hc hw h1 h2,vn ⟨hk,h0⟩];exact⟨s,by rw[ha.1,ha.2];rfl,hcd⟩
def Cx.heldT(s:Cx cf m.co g)(h:MJ cf E m)(ht:x.t=t)(hl:m.co.r.live (t:Int)=v7):g.held x.t=(m.co.roots (t:Int)).map (Cv m.co.s)/\m.co.roots (t:Int)=m.co.th.getD t []/\(m.co.roots (t:Int)).length<=16:=by
 have hr:m.co.roots (t:Int)=m.co.th.getD t []:=by unfold Co.roots;rw[vn hl,zE]
 obtain⟨_,_,h2⟩:=s.th h.c.k hl;rw[ht,hr];exact⟨h2,rfl,s.le _ (h.c.k.th_in hl).2⟩
def Cx.rootT(s:Cx cf m.co g)(h:MJ cf E m)(ht:x.t=t)(hl:m.co.r.live (t:Int)=v7)(i:Int):(g.held x.t)[i.toNat]?=(m.root x.t i).map (Cv m.co.s):=by obtain⟨h1,h2,_⟩:=s.heldT h ht hl;rw[h1];unfold Ma.root;rw[ht,zH]
def ED(i:Int)(u:Int):m.root u i=v6↔(m.co.roots u).length<=i.toNat:=by unfold Ma.root;rw[List.getElem?_eq_none_iff]
def Cx.objectT(s:Cx cf m.co g)(h:MJ cf E m)(ht:x.t=t)(hl:m.co.r.live (t:Int)=v7):
  ((m.object x).2=0/\∃(a:Nat) (ser:Int) (fs:List V2),(m.object x).1=a/\VG m.co t (2,(a:Int))/\C7 m.co.s.c a ser fs/\(g.held x.t)[x.i.toNat]?=vz (2,ser)/\g.node ser=fs.map (Cv m.co.s))∨
  ((m.object x).2≠0/\((m.object x).2=4∨(m.object x).2=12)/\∀b,g.object x b=(m.object x).2):=by
 have hr:=s.rootT h ht hl x.i;unfold Ma.object BR.object;cases hm:m.root x.t x.i with
 | none=>
  rw[hm]at hr;right;refine⟨by decide,wg rfl,λb=>?_⟩;rw[hr];rfl
 | some v=>
  rw[hm]at hr;simp only[j8]at hr;simp only;by_cases h2:v.1≠2
  ·right;rw[vn h2];refine⟨by decide,wh rfl,λb=>?_⟩;rw[hr];simp only;rw[vn (by unfold Cv;exact h2)]
  ·left;rw[vm h2];rw[ht]at hm;have hg:=h.root hl hm;obtain⟨b,rfl,_⟩:=Dq hg.ok (by omega);obtain⟨ser,fs,o,_⟩:=h.c.k.si.hi.obj b (hg.kp b rfl).1;refine⟨rfl,b,ser,fs,rfl,hg,o,?_,s.obj (hg.kp b rfl) o⟩;rw[hr,Eo h.c.k.si o]
def G3(h:x.kd≠3/\x.kd≠4/\x.kd≠13/\x.kd≠15/\x.kd≠16):x.nums cf=0:=by unfold BY.nums;rw[vm (by omega),vm (by omega)]
def Jx(h:x.kd<3∨12<x.kd):g.hands x=0:=by unfold BR.hands;rw[vn h]
def Cx.valueT(s:Cx cf m.co g)(h:MJ cf E m)(hz:GZ m.co)(ht:x.t=t)(hl:m.co.r.live (t:Int)=v7)(h0:0<=x.i/\0<=x.f)(hk:x.kd=4∨x.kd=5∨x.kd=6∨x.kd=7∨x.kd=9):
  ((m.value x).2≠0/\((m.value x).2=4∨(m.value x).2=12)/\(x.nums cf=(m.value x).2∨x.nums cf=0/\g.hands x=(m.value x).2))∨
  ((m.value x).2=0/\x.nums cf=0/\g.hands x=(if 16<=(g.held x.t).length then 3 else 0)/\g.pushed x=Cv m.co.s (m.value x).1):=by
 have hn:x.kd≠4->x.nums cf=0:=λhne=>G3 (by omega);have hh:(x.kd=4∨x.kd=5∨x.kd=6)->g.hands x=(if 16<=(g.held x.t).length then 3 else 0):=λhk=>by
  unfold BR.hands;rw[vm (by omega),vm (λy=>by omega),vm (by omega)];by_cases h16:16<=(g.held x.t).length
  ·rw[vn ⟨by omega,h16⟩,vn h16]
  ·rw[vm (λy=>h16 y.2),vm h16]
 unfold Ma.value BR.pushed;by_cases c4:x.kd=4
 ·rw[vn c4,vn c4];by_cases hc:D8 1 x.n=0
  ·right;rw[vn hc];have:=Gu hc;refine⟨rfl,?_,hh (wg c4),(EX (show (1:Int)≠2 by decide)).symm⟩;unfold BY.nums;rw[vm (by omega),vm (by omega)]
  ·left;rw[vm hc];refine⟨(show (4:Int)≠0 by decide),wg rfl,wg ?_⟩;unfold BY.nums;rw[vn];refine wh ⟨c4,?_⟩;apply xF;intro hx;refine hc ?_;unfold D8;simp only;rw[vm (by decide),vn trivial,vn (by omega)]
 rw[vm c4,vm c4];by_cases c6:x.kd=6
 ·right;rw[vn c6,vn c6];refine⟨rfl,hn c4,hh (wh (wh c6)),?_⟩;obtain⟨fs,o⟩:=hz;have hg:=h.c.k.gn;have e:Et m.co.global=(2,((m.co.global.toNat:Nat):Int)):=by unfold Et;rw[vn hg,yR hg.1]
  simp only;rw[e,Eo h.c.k.si o]
 rw[vm c6,vm c6];have hr:=s.rootT h ht hl x.i;obtain⟨l1,l2,l3⟩:=s.heldT h ht hl;have hlen:(g.held x.t).length=(m.co.roots x.t).length:=by rw[l1,i6,ht]
 by_cases c7:x.kd=7
 ·rw[vn c7,vn c7];cases hm:m.root x.t x.i with
  | none=>
   left;have:=(ED _ _).1 hm;refine⟨(show (4:Int)≠0 by decide),wg rfl,wh ⟨hn c4,?_⟩⟩;unfold BR.hands;rw[vm (by omega),vm (by omega),vn (wg ⟨wg c7,by omega⟩)]
  | some v=>
   right;rw[hm]at hr;have hlt:¬(m.co.roots x.t).length<=x.i.toNat:=λy=>by rw[(ED _ _).2 y]at hm;cases hm
   refine⟨rfl,hn c4,?_,?_⟩
   ·unfold BR.hands;rw[vm (by omega),vm (by omega),vm (by omega)];by_cases h16:16<=(g.held x.t).length
    ·rw[vn ⟨by omega,h16⟩,vn h16]
    ·rw[vm (λy=>h16 y.2),vm h16]
   ·rw[xC,hr];rfl
 rw[vm c7,vm c7];by_cases c9:x.kd=9
 rotate_left
 ·right;rw[vm c9,vm c9];exact⟨rfl,hn c4,hh (wh (wg (by omega))),(EX (by decide)).symm⟩
 rw[vn c9,vn c9];have hd:decide (x.kd≠12)=v7:=by simp;omega
 rcases s.objectT h ht hl with⟨o0,a,ser,fs,o1,o2,o3,o4,o5⟩|⟨o0,o1,o2⟩
 ·rw[vm (by omega),o1];have e:=St.get_obj h.c.k.si.hi.ci o3 x.f;rw[vn h0.2]at e;have hob:g.object x v7=if (fs.length:Int)<=x.f then 4 else 0:=by
   unfold BR.object;rw[o4];simp only;rw[vm (by decide),o5,i6];by_cases hf:(fs.length:Int)<=x.f
   ·rw[vn ⟨trivial,hf⟩,vn hf]
   ·rw[vm (λy=>hf y.2),vm hf]
  by_cases hf:(fs.length:Int)<=x.f
  ·left;rw[yC (by omega)]at e;simp only at e;rw[e,vm (by decide)];refine⟨(show (4:Int)≠0 by decide),wg rfl,wh ⟨hn c4,?_⟩⟩;unfold BR.hands;rw[vm (by omega),hd,hob,vn hf,vn ⟨wg c9,by decide⟩]
  ·right;have hlt:x.f.toNat<fs.length:=by omega
   rw[xO hlt]at e;simp only at e;rw[e,vn rfl];refine⟨rfl,hn c4,?_,?_⟩
   ·unfold BR.hands;rw[vm (by omega),hd,hob,vm hf,vm (λy=>y.2 rfl),vm (by omega)];by_cases h16:16<=(g.held x.t).length
    ·rw[vn ⟨by omega,h16⟩,vn h16]
    ·rw[vm (λy=>h16 y.2),vm h16]
   ·rw[xC (l:=g.held x.t),o4];simp only[d8];rw[o5,xC,zH,xO hlt];rfl
 ·left;rw[vn o0];refine⟨o0,o1,wh ⟨hn c4,?_⟩⟩;unfold BR.hands;rw[vm (by omega),hd,o2 v7,vn ⟨wg c9,o0⟩]
def Cx.pushS(s:Cx cf m.co g)(h:MJ cf E m)(hz:GZ m.co)(hc:x.check=0)(hw:g.who x=0)(ht:x.t=t)(hl:m.co.r.live (t:Int)=v7)(hk:x.kd=4∨x.kd=5∨x.kd=6∨x.kd=7∨x.kd=9):CB cf g x (m.pushS x):=by
 have h0:=FG hc;unfold Ma.pushS;rcases s.valueT h hz ht hl ⟨h0.2.2.1,h0.2.2.2.1⟩ hk with⟨v0,v1,v2⟩|⟨v0,v1,v2,v3⟩
 ·rw[vn v0];exact CB.err s hc hw v0 v2 (by omega)
 rw[vm (by omega)];obtain⟨l1,l2,l3⟩:=s.heldT h ht hl;have hlen:(g.held x.t).length=(m.co.th.getD t []).length:=by rw[l1,i6,l2]
 have hv:=h.value ht hl v0;by_cases h16:16<=(g.held x.t).length
 ·have hp:=R0 (c:=m.co) (t:=t) (by omega) (m.value x).1;rw[ht];generalize m.co.push (t:Int) (m.value x).1=z at hp;obtain⟨c,b⟩:=z;simp only at hp;subst hp;rw[vn h16]at v2;exact CB.err s hc hw (by decide) (wh ⟨v1,v2⟩) (wg rfl)
 ·obtain⟨p1,p2⟩:=s.push h.c.k hl hv (by omega);have ps:=Jc m.co (t:Int) (m.value x).1;rw[vm h16]at v2;have hd:g.doS x=g.hold x.t (g.pushed x):=by unfold BR.doS;rw[vm (by omega),vm (by omega),vm (by omega),vn (by omega)]
  rw[<-v3, <-ht]at p2;rw[ht]at p2 ⊢;generalize m.co.push (t:Int) (m.value x).1=z at p1 p2 ps;obtain⟨c,b⟩:=z;simp only at p1 p2 ps;subst p1;refine CB.of hc hw v1 v2 rfl ?_ ?_
  ·rw[hd,ht];exact p2
  ·rw[hd];simp only[OO];rw[ps, <-v3];rfl
end
section
variable{cf:Cf}{E:Int}{m:Ma}{g:BR}{x:BY}{t:Nat}
def Cx.popS(s:Cx cf m.co g)(h:MJ cf E m)(hc:x.check=0)(hw:g.who x=0)(ht:x.t=t)(hl:m.co.r.live (t:Int)=v7)(hk:x.kd=8):
  CB cf g x (match m.co.pop x.t with
  | (_,v6)=>(m,BZ.err 4)
  | (c,vz v)=>let m1:Ma:={ m with co:=c }; (m1,⟨0,(m1.told v).1,(m1.told v).2,0,0⟩)):=by
 obtain⟨l1,l2,l3⟩:=s.heldT h ht hl;have hp:=s.pop h.c.k hl;have ps:=PA m.co (t:Int);have hlen:(g.held x.t).length=(m.co.th.getD t []).length:=by rw[l1,i6,l2]
 rw[l2]at l1;have hn:x.nums cf=0:=G3 (by omega);have hh:g.hands x=if (g.held x.t).length=0 then 4 else 0:=by
  unfold BR.hands;rw[vm (by omega),vm (by omega)];by_cases h0:(g.held x.t).length=0
  ·rw[vn (wh (wh ⟨hk,h0⟩)),vn h0]
  ·rw[vm (by omega),vm (by omega),vm h0]
 rw[ht];generalize hr:m.co.th.getD t []=r at hp l1 hlen;cases r with
 | nil=>
  simp only at hp;rw[hp];rw[vn (by simpa using hlen)]at hh;exact CB.err s hc hw (by decide) (wh ⟨hn,hh⟩) (wh (wg rfl))
 | cons u l=>
  obtain⟨p1,p2⟩:=hp;generalize m.co.pop (t:Int)=z at p1 p2 ps;obtain⟨c,o⟩:=z;simp only at p1 p2 ps;subst p1;simp only;rw[vm (by rw[hlen];simp)]at hh;have hd:g.doS x=({ g with th:=g.th.set x.t.toNat (g.live x.t,(g.held x.t).dropLast) },⟨0,((g.held x.t).getLastD (0,0)).1,((g.held x.t).getLastD (0,0)).2,0,0⟩):=by unfold BR.doS;rw[vm (by omega),vm (by omega),vm (by omega),vm (by omega),vn hk]
  refine CB.of hc hw hn hh rfl ?_ ?_
  ·rw[hd,ht];exact p2
  ·rw[hd];have e:(g.held x.t).getLastD (0,0)=Cv c.s ((u::l).getLast (by simp)):=by rw[l1,ps,List.getLastD_eq_getLast?,List.getLast?_map];simp[List.getLast?_cons,List.getLast_eq_getLastD]
   simp only;rw[e];rfl
def Cx.writeT(s:Cx cf m.co g)(h:MJ cf E m)(hc:x.check=0)(hw:g.who x=0)(ht:x.t=t)(hl:m.co.r.live (t:Int)=v7)(hk:x.kd=10):CB cf g x (m.writeS x):=by
 have h0:=FG hc;obtain⟨l1,l2,l3⟩:=s.heldT h ht hl;have hlen:(g.held x.t).length=(m.co.roots x.t).length:=by rw[l1,i6,ht]
 have hn:x.nums cf=0:=G3 (by omega);have hd:decide (x.kd≠12)=v7:=by simp;omega
 unfold Ma.writeS;rcases s.objectT h ht hl with⟨o0,a,ser,fs,o1,o2,o3,o4,o5⟩|⟨o0,o1,o2⟩
 rotate_left
 ·rw[vn o0];refine CB.err s hc hw o0 (wh ⟨hn,?_⟩) (by omega);unfold BR.hands;rw[vm (by omega),hd,o2 v7,vn ⟨wh (wg hk),o0⟩]
 rw[vm (by omega)];have hob:g.object x v7=if (fs.length:Int)<=x.f then 4 else 0:=by
  unfold BR.object;rw[o4];simp only;rw[vm (by decide),o5,i6];by_cases hf:(fs.length:Int)<=x.f
  ·rw[vn ⟨trivial,hf⟩,vn hf]
  ·rw[vm (λy=>hf y.2),vm hf]
 have hr:=s.rootT h ht hl x.j;cases hm:m.root x.t x.j with
 | none=>
  simp only;have:=(ED _ _).1 hm;refine CB.err s hc hw (by decide) (wh ⟨hn,?_⟩) (wh (wg rfl));unfold BR.hands;rw[vm (by omega),hd,hob];by_cases hf:(fs.length:Int)<=x.f
  ·rw[vn hf,vn ⟨wh (wg hk),by decide⟩]
  ·rw[vm hf,vm (λy=>y.2 rfl),vn (by omega)]
 | some v=>
  simp only;rw[hm]at hr;simp only[j8]at hr;have hlt:¬(m.co.roots x.t).length<=x.j.toNat:=λy=>by rw[(ED _ _).2 y]at hm;cases hm
  rw[ht]at hm;have hv:=h.root hl hm;have hwr:=s.write h.c.k hl o2 hv o3 (i:=x.f);rw[o1,ht];by_cases hf:(fs.length:Int)<=x.f
  ·rw[vm (by omega)]at hwr;rw[hwr];simp only;refine CB.err s hc hw (by decide) (wh ⟨hn,?_⟩) (wh (wg rfl));unfold BR.hands;rw[vm (by omega),hd,hob,vn hf,vn ⟨wh (wg hk),by decide⟩]
  ·rw[vn (by omega)]at hwr;obtain⟨w1,w2⟩:=hwr;have hh:g.hands x=0:=by unfold BR.hands;rw[vm (by omega),hd,hob,vm hf,vm (λy=>y.2 rfl),vm (by omega),vm (by omega)]
   rw[w1,vn rfl];have hd2:g.doS x=({ g with nd:=g.nd.set ((g.held x.t).getD x.i.toNat (0,0)).2.toNat ((g.node ((g.held x.t).getD x.i.toNat (0,0)).2).set x.f.toNat ((g.held x.t).getD x.j.toNat (0,0))) },BZ.ok):=by unfold BR.doS;rw[vm (by omega),vm (by omega),vm (by omega),vm (by omega),vm (by omega),vn hk]
   refine CB.of hc hw hn hh rfl ?_ ?_
   ·rw[hd2,xC,o4,xC,hr];exact w2
   ·rw[hd2];rfl
def Cx.askT(s:Cx cf m.co g)(h:MJ cf E m)(hc:x.check=0)(hw:g.who x=0)(ht:x.t=t)(hl:m.co.r.live (t:Int)=v7)(hk:x.kd=11∨x.kd=12):CB cf g x (m,m.ask x):=by
 have h0:=FG hc;obtain⟨l1,l2,l3⟩:=s.heldT h ht hl;have hlen:(g.held x.t).length=(m.co.roots x.t).length:=by rw[l1,i6,ht]
 have hn:x.nums cf=0:=G3 (by omega);have hri:=s.rootT h ht hl x.i;have hrj:=s.rootT h ht hl x.j;unfold Ma.ask;cases hm:m.root x.t x.i with
 | none=>
  simp only;have:=(ED _ _).1 hm;rw[hm]at hri;refine CB.err s hc hw (by decide) (wh ⟨hn,?_⟩) (wh (wg rfl));unfold BR.hands;rw[vm (by omega)];by_cases c12:x.kd=12
  ·have:g.object x (decide (x.kd≠12))=4:=by unfold BR.object;rw[hri];rfl
   rw[this,vn ⟨wh (wh c12),by decide⟩]
  ·rw[vm (by omega),vn (by omega)]
 | some v=>
  rw[hm]at hri;simp only[j8]at hri;have hlt:¬(m.co.roots x.t).length<=x.i.toNat:=λy=>by rw[(ED _ _).2 y]at hm;cases hm
  have hm':=hm;rw[ht]at hm';have hv:=h.root hl hm';simp only;by_cases c12:x.kd=12
  ·rw[vm (by omega)];have hd:decide (x.kd≠12)=v8:=by simp[c12]
   have ho:(m.object x).1=(if v.1≠2 then 0 else v.2)/\(m.object x).2=if v.1≠2 then 12 else 0:=by unfold Ma.object;rw[hm];simp only;split<;>exact⟨rfl,rfl⟩
   rcases s.objectT h ht hl with⟨o0,a,ser,fs,o1,o2,o3,o4,o5⟩|⟨o0,o1,o2⟩
   ·have h2:v.1=2:=by apply xF;intro hx;rw[ho.2,vn hx]at o0;cases o0
    rw[vm (λy=>y.2 h2),vn c12];have ev:v.2=a:=by rw[<-o1,ho.1,vm (λy=>y h2)]
    have hh:g.hands x=0:=by
     unfold BR.hands;have:g.object x v8=0:=by unfold BR.object;rw[o4];simp only;rw[vm (by decide),vm (λy=>by cases y.1)]
     rw[vm (by omega),hd,this,vm (λy=>y.2 rfl),vm (by omega),vm (by omega)]
    have hd2:g.doS x=(g,⟨0,1,(g.node ((g.held x.t).getD x.i.toNat (0,0)).2).length,0,0⟩):=by unfold BR.doS;rw[vm (by omega),vm (by omega),vm (by omega),vm (by omega),vm (by omega),vm (by omega),vm (by omega),vn c12]
    refine CB.of hc hw hn hh rfl ?_ ?_
    ·rw[hd2];exact s
    ·rw[hd2,xC,o4];simp only[d8];rw[o5,i6,ev,(St.read_obj h.c.k.si.hi.ci o3).1]
   ·have h2:v.1≠2:=λe=>by rw[ho.2,vm (λy=>y e)]at o0;exact o0 rfl
    rw[vn ⟨c12,h2⟩];refine CB.err s hc hw (by decide) (wh ⟨hn,?_⟩) (wh (wh rfl));unfold BR.hands;have e12:(m.object x).2=12:=by rw[ho.2,vn h2]
    rw[vm (by omega),o2 _,e12,vn ⟨wh (wh c12),by decide⟩]
  have c11:x.kd=11:=by omega
  cases hmj:m.root x.t x.j with
  | none=>
   rw[vn ⟨c11,rfl⟩];have:=(ED _ _).1 hmj;refine CB.err s hc hw (by decide) (wh ⟨hn,?_⟩) (wh (wg rfl));unfold BR.hands;rw[vm (by omega),vm (by omega),vn (by omega)]
  | some u=>
   rw[vm (λy=>by cases y.2),vm (by omega),vm c12];rw[hmj]at hrj;simp only[j8]at hrj;have hltj:¬(m.co.roots x.t).length<=x.j.toNat:=λy=>by rw[(ED _ _).2 y]at hmj;cases hmj
   rw[ht]at hmj;have hu:=h.root hl hmj;have hh:g.hands x=0:=by unfold BR.hands;rw[vm (by omega),vm (by omega),vm (by omega),vm (by omega)]
   have hd2:g.doS x=(g,⟨0,1,if (g.held x.t).getD x.i.toNat (0,0)=(g.held x.t).getD x.j.toNat (0,0) then 1 else 0,0,0⟩):=by unfold BR.doS;rw[vm (by omega),vm (by omega),vm (by omega),vm (by omega),vm (by omega),vm (by omega),vn c11]
   have hi:=h.c.k.tolds_inj hv hu;refine CB.of hc hw hn hh (by simp only;split<;>rfl) ?_ ?_
   ·rw[hd2];exact s
   ·rw[hd2,xC,hri,xC,hrj];simp only[d8];by_cases e:v=u
    ·rw[vn e,vn (hi.2 e)]
    ·rw[vm e,vm (λy=>e (hi.1 y))]
def Vb(m:Ma)(x:BY):(m.tax cf x).2.kd=0/\(m.tax cf x).2.n=0:=by
 unfold Ma.tax;split
 ·exact⟨rfl,rfl⟩
 simp only;split<;>exact⟨rfl,rfl⟩
def MJ.ahead_lk(L:D1 cf)(h:MJ cf E m){n:Int}(hn:n<=64)(hE:E+320<=1000000000):Lk m.co (m.ahead cf n).1.co:=by have h1:=MI.work_lk L n.toNat m.co E h.c (by omega);unfold Ma.ahead Ma.put;exact h1
def MJ.tax_lk(L:D1 cf)(h:MJ cf E m)(x:BY)(hE:E+320<=1000000000):Lk m.co (m.tax cf x).1.co:=by
 unfold Ma.tax;split
 ·exact .refl _
 simp only;split
 ·exact .refl _
 simp only;have hb:=h.bk;have ht:=L.tx;have h1:=MI.work_lk L (cf.tax-min (m.bi-m.bo) cf.tax).toNat m.co E h.c (by omega);rw[GH];exact h1
def Cx.gotT{g':BR}{k:Nat}(s:Cx cf m.co g')(h:MJ cf E m)(ht:x.t=t)(hl:m.co.r.live (t:Int)=v7)(hn:(m.co.th.getD t []).length<16){a:Nat}(hv:VG m.co t (2,(a:Int)))(e:Cv m.co.s (2,(a:Int))=(2,(k:Int)))(y:BZ):
  Cx cf (m.got x (a:Int) y).1.co (g'.hold (t:Int) (2,(k:Int))).1/\(m.got x (a:Int) y).2={ y with kd:=2,n:=k }:=by
 have ev:Et (a:Int)=(2,(a:Int)):=by
  obtain⟨b,eb,hb⟩:=Dq hv.ok rfl;have:(a:Int)=b:=by simpa using eb
  unfold Et;rw[vn (by omega)]
 obtain⟨_,p2⟩:=s.push h.c.k hl hv hn;have ps:=Jc m.co (t:Int) (2,(a:Int));rw[e]at p2;unfold Ma.got;rw[ht,ev];refine⟨p2,?_⟩;simp only[OO];rw[ps,e]
def Cx.allocT(L:D1 cf)(s:Cx cf m.co g)(h:MJ cf E m)(hc:x.check=0)(hw:g.who x=0)(ht:x.t=t)(hl:m.co.r.live (t:Int)=v7)(hk:x.kd=3)(hE:E+330<=1000000000):CB cf g x (m.alloc cf x):=by
 have h0:=FG hc;obtain⟨l1,l2,l3⟩:=s.heldT h ht hl;have hlen:(g.held x.t).length=(m.co.roots x.t).length:=by rw[l1,i6,ht]
 unfold Ma.alloc;by_cases hbad:x.n<0∨127<x.n∨x.cost<1∨cf.quantum<x.cost
 ·rw[vn hbad];refine CB.err s hc hw (by decide) (wg ?_) (wh (wg rfl));unfold BY.nums;rw[vn (wg ⟨hk,hbad⟩)]
 rw[vm hbad];have hn:x.nums cf=0:=by unfold BY.nums;rw[vm (by omega),vm (by omega)]
 have hh:g.hands x=if 16<=(g.held x.t).length then 3 else 0:=by
  unfold BR.hands;rw[vm (by omega),vm (by omega),vm (by omega)];by_cases h16:16<=(g.held x.t).length
  ·rw[vn ⟨by omega,h16⟩,vn h16]
  ·rw[vm (λy=>h16 y.2),vm h16]
 by_cases h16:(m.co.roots x.t).length=16
 ·rw[vn h16];rw[vn (by omega)]at hh;exact CB.err s hc hw (by decide) (wh ⟨hn,hh⟩) (wg rfl)
 rw[vm h16];have h15:(m.co.th.getD t []).length<16:=by rw[<-l2];rw[ht]at h16;omega
 rw[vm (by rw[hlen,ht];rw[ht]at h16;omega)]at hh;have hd:g.doS x=BR.hold { g with nd:=g.nd++[List.replicate x.n.toNat (0,0)] } x.t (2,(g.nd.length:Int)):=by unfold BR.doS;rw[vm (by omega),vm (by omega),vn hk]
 have done:∀(c':Co) (b:Ma) (s':St) (a:Nat) (y:BZ) (E':Int),MJ cf E' b->Cx cf b.co g->b.co.r.live (t:Int)=v7->(b.co.th.getD t []).length<16->FP b.co.s s' a x.n.toNat->c'=({ b.co with s:=s' }:Co).color cf (a:Int)->MI cf (E'+1) c'->VG c' t (2,(a:Int))->y.code=0->CB cf g x (({ b with co:=c' }:Ma).got x (a:Int) y):=λc' b s' a y E' hb sb lb nb no ec mc vc ey=>by
  have sn:=sb.newO hb.c.k no ec mc.k hb.c.k.si.m0;have hlive:c'.r.live (t:Int)=v7:=by rw[ec,MG];exact lb
  have hth:(c'.th.getD t []).length<16:=by rw[ec,Kx];exact nb
  have:=sn.1.gotT (m:={ b with co:=c' }) (MJ.co (hb.up (show E'<=E'+1 by omega)) mc) ht hlive hth vc sn.2 y;refine CB.of hc hw hn hh (by rw[this.2];exact ey) ?_ ?_
  ·rw[hd,ht];exact this.1
  ·rw[hd,this.2];rfl
 have md:=h.c.md;rw[ht];rcases h.c.k.fast (by omega) t x.n with e1|⟨a,s1,c1,e1,n1,e2,e3,e4,e5⟩
 rotate_left
 ·obtain e6|⟨a',c2,e6,e7,e8⟩:=h.c.fast (by omega) t x.n
  ·rw[e6]at e1;cases (uz.1 e1).2
  rw[e1]at e6;have ec:c1=c2:=(uz.1 e6).1;rw[e1];simp only;exact done c1 m s1 a BZ.ok E h s hl h15 n1 e2 (by rw[ec];exact e7) e4 rfl
 rw[e1];simp only;unfold Ma.slow;simp only;have h1:∃m1:Ma,(if m.co.phase=0/\D4 m.co.s.c.ks<cf.trigger then ({ m with co:=(m.co.beginC cf).1 }:Ma) else m)=m1/\MJ cf (E+5) m1/\Lk m.co m1.co:=by
  refine⟨_,rfl,?_⟩;split
  ·exact⟨h.co (h.c.beginC (by omega)),LA _⟩
  ·exact⟨h.up (by omega),.refl _⟩
 obtain⟨m1,em1,j1,k1⟩:=h1;rw[em1];have h2:=j1.tax L x (by omega);have k2:=k1.trans (j1.tax_lk L x (by omega));have ta:=Vb (cf:=cf) m1 x;generalize m1.tax cf x=z at h2 k2 ta;obtain⟨m2,y⟩:=z;simp only at h2 k2 ta ⊢;have s2:=s.lk h.c.k h2.c.k k2;by_cases hy:y.code≠0
 ·rw[vn hy];simp only;rw[vn hy];exact CB.no hc hw hn hh (wg hk) hy ta s2 λ_=>wg hk
 rw[vm hy];have md2:=h2.c.md;rw[ht];rcases h2.c.k.slow (by omega) t x.n with⟨e0,ne,f1⟩|⟨a,s1,c1,f1,n1,f2,f3,f4,f5⟩
 ·rw[f1];simp only;rw[vn ne];exact CB.no hc hw hn hh (wg hk) ne ta s2 λ_=>wg hk
 ·rcases h2.c.slow (by omega) t x.n with⟨e0,ne,f6⟩|⟨a',c2,f6,f7,f8⟩
  ·rw[f6]at f1;have:=(uz.1 (uz.1 f1).2).2;exact absurd this ne
  rw[f1]at f6;have ec:c1=c2:=(uz.1 f6).1;rw[f1];simp only;rw[vm (λy=>y rfl)];have hl2:m2.co.r.live (t:Int)=v7:=by rw[k2.live];exact hl
  have ht2:(m2.co.th.getD t []).length<16:=by rw[k2.th];exact h15
  exact done c1 m2 s1 a { y with code:=0 } _ h2 s2 hl2 ht2 n1 f2 (by rw[ec];exact f7) f4 rfl
def Cx.spendT(L:D1 cf)(s:Cx cf m.co g)(h:MJ cf E m)(hc:x.check=0)(hw:g.who x=0)(hk:13<=x.kd/\x.kd<=17/\x.kd≠14)(hE:E+330<=1000000000):CB cf g x (m.spend cf x):=by
 have hh:g.hands x=0:=Jx (by omega);have hd:g.doS x=(g,BZ.ok):=by unfold BR.doS;rw[vm (by omega),vm (by omega),vm (by omega),vm (by omega),vm (by omega),vm (by omega),vm (by omega),vm (by omega)]
 unfold Ma.spend;by_cases c17:x.kd=17
 ·have hn:x.nums cf=0:=G3 (by omega);rw[vn c17];by_cases hb:(m.co.beginC cf).2=v7
  ·rw[vn hb];refine CB.of hc hw hn hh rfl ?_ ?_
   ·rw[hd];exact s.lk h.c.k (h.c.beginC (by omega)).k (LA _)
   ·rw[hd];rfl
  ·rw[vm hb];exact CB.no hc hw hn hh (wh (wh c17)) (show (9:Int)≠0 by decide) ⟨rfl,rfl⟩ s λy=>by simp only[BZ.err]at y;omega
 rw[vm c17];by_cases hn:x.n<1∨64<x.n
 ·rw[vn hn];refine CB.err s hc hw (by decide) (wg ?_) (wh (wg rfl));unfold BY.nums;rw[vm (by omega)];by_cases c15:x.kd=15
  ·rw[vn (wh ⟨c15,hn.elim wg λy=>wh (wg y)⟩)]
  ·rw[vn (wg ⟨by omega,hn⟩)]
 rw[vm hn];have hn0:x.kd≠15->x.nums cf=0:=λhne=>by
  unfold BY.nums;rw[vm (by omega),vm (by omega)]
 by_cases c13:x.kd=13
 ·rw[vn c13];refine CB.of hc hw (hn0 (by omega)) hh rfl ?_ ?_
  ·rw[hd];exact s
  ·rw[hd];rfl
 rw[vm c13];have ha:∀(n:Int),n<=64->Cx cf (m.ahead cf n).1.co g:=λn hn=>s.lk h.c.k (h.ahead L hn (by omega)).c.k (h.ahead_lk L hn (by omega));by_cases c16:x.kd=16
 ·rw[vn c16];refine CB.of hc hw (hn0 (by omega)) hh rfl ?_ ?_
  ·rw[hd];exact ha _ (by omega)
  ·rw[hd];rfl
 rw[vm c16];have c15:x.kd=15:=by omega
 by_cases hcost:x.cost<1∨cf.quantum<x.cost
 ·rw[vn hcost];refine CB.err s hc hw (by decide) (wg ?_) (wh (wg rfl));unfold BY.nums;rw[vm (by omega),vn (wh ⟨c15,wh (wh hcost)⟩)]
 rw[vm hcost];have hn:x.nums cf=0:=by unfold BY.nums;rw[vm (by omega),vm (by omega)]
 split
 ·exact CB.no hc hw hn hh (wh (wg c15)) (show (21:Int)≠0 by decide) ⟨rfl,rfl⟩ s λ_=>wh c15
 simp only;refine CB.of hc hw hn hh rfl ?_ ?_
 ·rw[hd];simp only;rw[GH];exact ha _ (by omega)
 ·rw[hd];rfl
def Cx.doT(L:D1 cf)(s:Cx cf m.co g)(h:MJ cf E m)(hz:GZ m.co)(hc:x.check=0)(hw:m.who cf x=0)(hE:E+330<=1000000000):CB cf g x (m.doS cf x):=by
 have h0:=FG hc;have hg:g.who x=0:=by rw[s.who h h0.2.1];exact hw
 obtain⟨t,ht⟩:=xQ h0.2.1;unfold Ma.doS;by_cases c1:x.kd=1
 ·rw[vn c1];have hw':=hw;unfold Ma.who at hw';rw[vm (by omega)]at hw';by_cases c4:cf.threads<=x.t
  ·rw[vn c4]at hw';cases hw'
  rw[vm c4]at hw';have hl:m.co.r.live (t:Int)=v8:=by
   cases hl:m.co.r.live (t:Int) with
   | false=>rfl
   | true=>rw[ht,vn ⟨c1,hl⟩]at hw';cases hw'
  have hd:g.doS x=({ g with th:=g.th.set x.t.toNat (v7,[]) },BZ.ok):=by unfold BR.doS;rw[vn c1]
  refine CB.of hc hg (G3 (by omega)) (Jx (by omega)) rfl ?_ ?_
  ·rw[hd,ht];exact s.attach h.c.k (by omega) hl
  ·rw[hd];rfl
 rw[vm c1];have hlive:x.kd<16->m.co.r.live (t:Int)=v7:=λhk=>by
  rw[<-ht];exact (PF hw hk).2 c1
 by_cases c2:x.kd=2
 ·rw[vn c2];have hd:g.doS x=({ g with th:=g.th.set x.t.toNat (v8,[]) },BZ.ok):=by unfold BR.doS;rw[vm c1,vn c2]
  refine CB.of hc hg (G3 (by omega)) (Jx (by omega)) rfl ?_ ?_
  ·rw[hd,ht];exact s.detach h.c.k (by omega) (hlive (by omega))
  ·rw[hd];rfl
 rw[vm c2];by_cases c3:x.kd=3
 ·rw[vn c3];exact s.allocT L h hc hg ht (hlive (by omega)) c3 hE
 rw[vm c3];by_cases c4:x.kd=4∨x.kd=5∨x.kd=6∨x.kd=7∨x.kd=9
 ·rw[vn c4];exact s.pushS h hz hc hg ht (hlive (by omega)) c4
 rw[vm c4];by_cases c8:x.kd=8
 ·rw[vn c8];exact s.popS h hc hg ht (hlive (by omega)) c8
 rw[vm c8];by_cases c10:x.kd=10
 ·rw[vn c10];exact s.writeT h hc hg ht (hlive (by omega)) c10
 rw[vm c10];by_cases c11:x.kd=11∨x.kd=12
 ·rw[vn c11];exact s.askT h hc hg ht (hlive (by omega)) c11
 rw[vm c11];by_cases c14:x.kd=14
 ·rw[vn c14];have hd:g.doS x=(g,BZ.ok):=by unfold BR.doS;rw[vm (by omega),vm (by omega),vm (by omega),vm (by omega),vm (by omega),vm (by omega),vm (by omega),vm (by omega)]
  refine CB.of hc hg (G3 (by omega)) (Jx (by omega)) rfl ?_ ?_
  ·rw[hd];exact s.lk h.c.k (h.c.poll (by omega) x.t).k (UV _ _)
  ·rw[hd];rfl
 rw[vm c14];exact s.spendT L h hc hg (by omega) hE
def Cx.step(L:D1 cf)(s:Cx cf m.co g)(h:MJ cf E m)(hz:GZ m.co)(x:BY)(hE:E+330<=1000000000):CB cf g x (m.step cf x):=by
 unfold Ma.step;by_cases hc:x.check≠0
 ·rw[vn hc];have e:∀no,g.step cf x no=(g,BZ.err x.check):=λno=>by
   unfold BR.step BR.code;rw[vn hc,vn hc]
  unfold CB;rw[e];refine⟨s,rfl,λy=>?_⟩;simp only[BZ.err]at y;rcases NE x with z|z|z|z<;>omega
 rw[vm hc];have hc:x.check=0:=by omega
 have h0:=FG hc;by_cases hw:m.who cf x≠0
 ·rw[vn hw];have e:∀no,g.step cf x no=(g,BZ.err (m.who cf x)):=λno=>by
   have ec:g.code cf x=m.who cf x:=by unfold BR.code;rw[vm (by omega),s.who h h0.2.1,vn hw]
   unfold BR.step;rw[ec,vn hw]
  unfold CB;rw[e];refine⟨s,rfl,λy=>?_⟩;simp only[BZ.err]at y;rcases RK (cf:=cf) m x with z|z|z|z<;>omega
 rw[vm hw];have:=s.doT L h hz hc (by omega) hE;simp only;split
 ·exact this
 ·exact this
def Cx.new(hp:1<=cf.pages/\cf.pages<=64)(ht:0<=cf.threads/\cf.threads<=8):Cx cf (Ma.new cf).co (BR.new cf):=by
 obtain⟨a,s',e,hn,hs⟩:=Ka cf hp ht;have es:(Ma.new cf).co.s=s':=by unfold Ma.new Co.new;simp only;rw[e]
 have eth:(Ma.new cf).co.th=List.replicate 8 []:=rfl;have eoff:∀b,(⟨Ce.new cf.pages,λ_=>v6,0⟩:St).c.tk b=v8:=λb=>rfl;refine⟨by simp[BR.new],λt htt=>?_,λl hl=>?_,?_,λb ser fs kb o=>?_⟩
 ·unfold BR.new;simp only;rw[xT,vn htt,eth];have hl:(Ma.new cf).co.r.live (t:Int)=v8:=by
   cases h:(Ma.new cf).co.r.live (t:Int) with
   | false=>rfl
   | true=>
    have:=(DH.1 h).2.2;simp[Ma.new,Co.new,xC,htt]at this
  rw[hl];have:(List.replicate 8 ([]:List V2)).getD t []=[]:=by rw[xC,xT];split<;>rfl
  rw[this];rfl
 ·rw[eth]at hl;rw[xN hl];simp
 ·rw[es,hn.made];rfl
 ·rw[es]at o ⊢;by_cases hb:b=a
  ·subst hb;obtain⟨rfl,rfl⟩:=o.same hn.obj;rfl
  ·have:=o.tk;rw[(hn.kept b hb).1,eoff]at this;cases this
end
end
section
open Go.Shelf
def LZ:Go.Shelf.Ren:=⟨fun | 6=>86 | 15=>94 | 14=>126 | 28=>140 | 29=>141 | 20=>189 | 21=>190 | 22=>191 | 23=>192 | 24=>193 | 25=>194 | 26=>195 | 27=>196 | 46=>254 | 47=>204 | 48=>205 | 49=>255 | 50=>256 | 57=>290 | n=>n,fun | 22=>54 | 24=>3 | 25=>151 | 3=>3 | 39=>157 | 0=>0 | 53=>208 | 55=>210 | 4=>4 | 46=>201 | 45=>200 | 50=>68 | 5=>5 | 9=>9 | 66=>275 | 70=>109 | 76=>306 | 77=>262 | n=>n,λn=>n⟩
def TK:SlLaysF.n6 Tryz.prog LZ:={
 mixed:=by kernel_rfl,
 f6:=⟨f86.name,by decide,func86.trans (vh vz (by kernel_rfl))⟩,
 f14:=⟨f126.name,by decide,func126.trans (vh vz (by kernel_rfl))⟩,
 f15:=func94.trans (vh vz (by kernel_rfl)),
 f20:=⟨f189.name,by decide,func189.trans (vh vz (by kernel_rfl))⟩,
 f21:=⟨f190.name,by decide,func190.trans (vh vz (by kernel_rfl))⟩,
 f22:=⟨f191.name,by decide,func191.trans (vh vz (by kernel_rfl))⟩,
 f23:=⟨f192.name,by decide,func192.trans (vh vz (by kernel_rfl))⟩,
 f24:=⟨f193.name,by decide,func193.trans (vh vz (by kernel_rfl))⟩,
 f25:=⟨f194.name,by decide,func194.trans (vh vz (by kernel_rfl))⟩,
 f26:=⟨f195.name,by decide,func195.trans (vh vz (by kernel_rfl))⟩,
 f27:=⟨f196.name,by decide,func196.trans (vh vz (by kernel_rfl))⟩,
 f28:=func140.trans (vh vz (by kernel_rfl)),
 f29:=func141.trans (vh vz (by kernel_rfl)),
 f46:=⟨f254.name,by decide,func254.trans (vh vz (by kernel_rfl))⟩,
 f47:=func204.trans (vh vz (by kernel_rfl)),
 f48:=func205.trans (vh vz (by kernel_rfl)),
 f49:=⟨f255.name,by decide,func255.trans (vh vz (by kernel_rfl))⟩,
 f50:=⟨f256.name,by decide,func256.trans (vh vz (by kernel_rfl))⟩,
 f57:=⟨f290.name,by decide,func290.trans (vh vz (by kernel_rfl))⟩,
 t0:=Tryz.underlying0,
 a0:=Tryz.isAgg0,
 z0:=Tryz.sizeOf0,
 v0:=Tryz.zeroValue0,
 t3:=Tryz.underlying3,
 a3:=Tryz.isAgg3,
 z3:=Tryz.sizeOf3,
 v3:=Tryz.zeroValue3,
 t4:=Tryz.underlying4,
 a4:=Tryz.isAgg4,
 z4:=Tryz.sizeOf4,
 v4:=Tryz.zeroValue4,
 t5:=Tryz.underlying5,
 a5:=Tryz.isAgg5,
 z5:=Tryz.sizeOf5,
 v5:=Tryz.zeroValue5,
 t9:=Tryz.underlying9,
 a9:=Tryz.isAgg9,
 z9:=Tryz.sizeOf9,
 v9:=Tryz.zeroValue9,
 t22:=Tryz.underlying54,
 a22:=Tryz.isAgg54,
 z22:=Tryz.sizeOf54,
 v22:=Tryz.zeroValue54,
 a24:=Tryz.isAgg3,
 z24:=Tryz.sizeOf3,
 t25:=Tryz.underlying151,
 a25:=Tryz.isAgg151,
 z25:=Tryz.sizeOf151,
 v25:=Tryz.zeroValue151,
 t39:=Tryz.underlying157,
 a39:=Tryz.isAgg157,
 z39:=Tryz.sizeOf157,
 v39:=Tryz.zeroValue157,
 t45:=Tryz.underlying200,
 a45:=Tryz.isAgg200,
 z45:=Tryz.sizeOf200,
 v45:=Tryz.zeroValue200,
 t46:=Tryz.underlying201,
 a46:=Tryz.isAgg201,
 z46:=Tryz.sizeOf201,
 v46:=Tryz.zeroValue201,
 t50:=Tryz.underlying68,
 a50:=Tryz.isAgg68,
 z50:=Tryz.sizeOf68,
 v50:=Tryz.zeroValue68,
 t53:=Tryz.underlying208,
 a53:=Tryz.isAgg208,
 z53:=Tryz.sizeOf208,
 v53:=Tryz.zeroValue208,
 t55:=Tryz.underlying210,
 a55:=Tryz.isAgg210,
 z55:=Tryz.sizeOf210,
 v55:=Tryz.zeroValue210,
 t66:=Tryz.underlying275,
 a66:=Tryz.isAgg275,
 z66:=Tryz.sizeOf275,
 v66:=Tryz.zeroValue275,
 t70:=Tryz.underlying109,
 a70:=Tryz.isAgg109,
 z70:=Tryz.sizeOf109,
 v70:=Tryz.zeroValue109,
 t76:=Tryz.underlying306,
 a76:=Tryz.isAgg306,
 z76:=Tryz.sizeOf306,
 v76:=Tryz.zeroValue306,
 t77:=Tryz.underlying262,
 a77:=Tryz.isAgg262,
 z77:=Tryz.sizeOf262,
 v77:=Tryz.zeroValue262 }
end
end Go.Proofs.QV
