/- Part 2 of what the law needs: own lemmas, in the order in which they build. -/
import Derived.Test.YtcakfaakbpdklaaGreatDoorTopEnds01
set_option linter.defProp false
set_option linter.unusedSimpArgs false
set_option linter.unusedVariables false
namespace Go.Proofs.QV
open Go Go.Proofs Go.RowKit
open Option renaming some->wh
open Option renaming none->wj
open Bool renaming true->wk
open Bool renaming false->wl
open Or renaming inl->wr
open Or renaming inr->ws
structure Cw(c:Ce)(a:Nat)(ser:Int)(fs:List V2):Prop where
 tk:c.tk a=wk
 head:Cn c.m (a:Int)=ser*128+fs.length
 ser:0<=ser/\ser<1099511627776
 len:fs.length<=127/\fs.length+1<=c.rsz a
 fld:∀(i:Nat) (h:i<fs.length),Dp fs[i]=wk/\Cn c.m ((a+1+i:Nat):Int)=ER fs[i]
structure HI(c:Ce)(made:Int):Prop where
 ci:CI c
 obj:∀a,c.tk a=wk->∃ser fs,Cw c a ser fs/\ser<made
 one:∀a b ser fs gs,Cw c a ser fs->Cw c b ser gs->a=b
def Hd{k n:Int}(h:DL k n=0):(k=0/\n=0)∨(k=1 /\ -1099511627776<=n/\n<1099511627776)∨(k=2/\0<=n/\n<2048):=by
 unfold DL at h;by_cases h0:k=0
 ·rw[vy h0]at h;by_cases h1:n=0
  ·exact wr ⟨h0,h1⟩
  ·rw[vx h1]at h;cases h
 ·rw[vx h0]at h;by_cases h1:k=1
  ·rw[vy h1]at h;by_cases h2 : -1099511627776<=n/\n<1099511627776
   ·exact ws (wr ⟨h1,h2⟩)
   ·rw[vx h2]at h;cases h
  ·rw[vx h1]at h;by_cases h2:k=2
   ·rw[vy h2]at h;by_cases h3:0<=n/\n<2048
    ·exact ws (ws ⟨h2,h3⟩)
    ·rw[vx h3]at h;cases h
   ·rw[vx h2]at h;cases h
def JZ{v:V2}(h:Dp v=wk):H1 (ER v)=(v,wk):=by
 obtain⟨k,n⟩:=v;have hc:DL k n=0:=by simpa[Dp] using h
 have key:LU (ER (k,n))=k/\LV (ER (k,n))=n:=by
  rcases Hd hc with⟨rfl,rfl⟩|⟨rfl,h1,h2⟩|⟨rfl,h1,h2⟩
  ·exact⟨by decide,by decide⟩
  ·simp only[ER,Li,LU,LV,show ¬((1:Int)=2) by decide,vq,vu];rw[vy (by omega),vy (by omega)];exact⟨rfl,by omega⟩
  ·simp only[ER,Li,LU,LV,vu];rw[vx (by omega),vx (by omega),vx (by omega),vx (by omega)];refine⟨rfl,?_⟩;rw[xD (by omega)];omega
 unfold H1;rw[key.1,key.2,vy hc]
def UP:ER (0,0)=0:=by decide
def Qm:Dp (0,0)=wk:=by decide
section
variable{c:Ce}{a:Nat}{ser:Int}{fs:List V2}
def E9{n:Int}(h : -9223372036854775808<=n/\n<=9223372036854775807):C7 n=n:=by unfold C7;exact BO h
def CI.small_n(h:CI c):c.m.length<=2048:=by have:=h.np;have:=h.ml;omega
def CI.tk_lt(h:CI c)(ha:c.tk a=wk):a<c.m.length:=by have:=h.rsz_pos ha;omega
def CI.isIt(h:CI c)(ha:c.tk a=wk):c.isIt (a:Int)=wk:=by have:=h.tk_lt ha;simp[Ce.isIt,Fu,Ce.n,ha,this]
def KW(h:CI c){x:Int}:c.isIt x=wk↔∃a:Nat,x=a/\c.tk a=wk:=by
 constructor
 ·intro hx;simp only[Ce.isIt,Fu,zY,zV]at hx;exact⟨x.toNat,by omega,hx.2⟩
 ·rintro⟨a,rfl,ha⟩;exact h.isIt ha
def Cw.split(h:Cw c a ser fs):Gs (Cn c.m (a:Int))=(ser,(fs.length:Int)):=by
 have h1:=h.ser;have h2:=h.len;unfold Gs;rw[h.head];have e1:(ser*128+(fs.length:Int)) / 128=ser:=by omega
 have e2:(ser*128+(fs.length:Int)) % 128=fs.length:=by omega
 rw[e1,e2,vy (by omega)]
def Cw.same{ser':Int}{gs:List V2}(h:Cw c a ser fs)(h':Cw c a ser' gs):ser=ser'/\fs=gs:=by
 have h1:=h.split;rw[h'.split,uz]at h1;have hl:gs.length=fs.length:=by omega
 refine⟨h1.1.symm,b7 hl.symm λi p q=>?_⟩;have e1:=(h.fld i p).2;have e2:=(h'.fld i q).2;rw[e1]at e2;have f1:=JZ (h.fld i p).1;have f2:=JZ (h'.fld i q).1;rw[e2,f2]at f1;exact (Prod.mk.inj f1).1.symm
def St.read_obj{s:St}(hc:CI s.c)(h:Cw s.c a ser fs):s.fields (a:Int)=fs.length/\s.serial (a:Int)=ser:=by unfold St.fields St.serial St.read;rw[vy (hc.isIt h.tk),h.split];exact⟨rfl,rfl⟩
def St.get_obj{s:St}(hc:CI s.c)(h:Cw s.c a ser fs)(x:Int):s.get (a:Int) x=match (if 0<=x then fs[x.toNat]? else wj) with
  | some v=>(v,wk)
  | none=>((0,0),wl):=by
 unfold St.get;rw[(St.read_obj hc h).1];have hb:=hc.tk_lt h.tk;have hn:=hc.small_n;have hl:=h.len;by_cases c1:0<=x/\x<fs.length
 ·obtain⟨i,rfl⟩:=xU c1.1;have hi:i<fs.length:=by omega
  rw[vy c1,vy c1.1,zK,xS hi];rw[E9 (n:=(a:Int)+1) (by omega),E9 (by omega),show (a:Int)+1+i=((a+1+i:Nat):Int) by omega,(h.fld i hi).2,JZ (h.fld i hi).1]
 ·rw[vx c1];by_cases c2:0<=x
  ·rw[vy c2,yG (by omega)]
  ·rw[vx c2]
def CI.base(h:CI c){x:Nat}(ha:c.tk a=wk)(h1:a<=x)(h2:x<a+c.rsz a):c.base (x:Int)=a:=by
 obtain⟨hp,hk⟩:=h.tk a ha;have hr:=h.rsz_pos ha;have hn:=h.small_n;have hpg:Cq (x:Int)=((x / 32:Nat):Int):=by unfold Cq;rw[vy (by omega)];omega
 have hit:=h.isIt ha;unfold Ce.base;simp only[hpg];unfold Ce.rsz at h2;rcases hk with⟨hk,hm⟩|⟨hk,hm⟩
 ·have h5:BT c.ks ((a / 32:Nat):Int)≠5:=λe=>by rw[e,IP]at hk;omega
  rw[vx h5]at h2;obtain⟨e1,e2⟩:=HF hk hm h1 h2;have hb:E2 (BT c.ks ((x / 32:Nat):Int)) (x:Int)=a:=by unfold E2;rw[e1,hpg,vx (by omega),e2]
  simp only[hb,show ¬((a:Int)<0) by omega,false_and,vq,hit,vu]
 ·rw[vy hk]at h2;obtain⟨s1,s2,s3,s4⟩:=Ed hk;generalize hs:Cr c.ks ((a / 32:Nat):Int)=z at *;have hd:x / 32=a / 32+(x / 32-a / 32):=by omega
  have hdn:=J9 (ks:=c.ks) (p:=a / 32) (by rw[hk];decide) (x / 32-a / 32) λi hi=>s3 i (by omega);rw[<-hd]at hdn;have hkx:BV (BT c.ks ((x / 32:Nat):Int))=0:=by
   by_cases e:x / 32=a / 32
   ·rw[e,hk];rfl
   ·have:=s3 (x / 32-a / 32-1) (by omega);rw[show a / 32+1+(x / 32-a / 32-1)=x / 32 by omega]at this;rw[this];rfl
  have hb:E2 (BT c.ks ((x / 32:Nat):Int)) (x:Int) = -1:=by unfold E2;rw[vy (wr hkx)]
  have hf:FA c.ks ((x / 32:Nat):Int)=((a / 32:Nat):Int):=by
   unfold FA;have h0:(0:Int)<=((x / 32:Nat):Int):=by omega
   simp only[h0,vu,zK,hdn,hs,show ¬(z=0) by omega,vq]
  have hnp:=h.np;have he:(GM ((a / 32:Nat):Int) 1).1=a:=by unfold GM;rw[vy (by omega)];simp only;omega
  simp only[hb,hf,show (-1:Int)<0 by decide,show (0:Int)<=((a / 32:Nat):Int) by omega,and_self,vu,he,hit]
def CI.store_in(h:CI c){x:Nat}{w:Int}(ha:c.tk a=wk)(h1:a<=x)(h2:x<a+c.rsz a):c.store (x:Int) w=({ c with m:=DN c.m x w },wk):=by have hr:=h.rsz_pos ha;unfold Ce.store;rw[h.base ha h1 h2,vy ⟨by omega,by unfold ET;omega⟩]
def CI.stored(h:CI c){x:Nat}{w:Int}(ha:c.tk a=wk)(h1:a<=x)(h2:x<a+c.rsz a):CI { c with m:=DN c.m x w }:=by
 have hr:=h.rsz_pos ha;refine h.words (E5 _ _ _) λy hy hne=>⟨a,ha,?_⟩;rw[GN (by omega) (by omega) (by omega) (by omega)]at hne;by_cases e:(y:Int)=x
 ·have:y=x:=by omega
  subst this;exact⟨h1,h2⟩
 ·rw[vx e]at hne;exact absurd rfl hne
end
def Oi{p i:Nat}{k:Int}(hp:p<64)(hi:(i:Int)<BR k):K9 (p:Int) k (i:Int)=((p:Int)*32+i*BV k,wk):=by unfold K9;rw[vy (by omega)]
def Jk{k:Int}{p i j:Nat}(h0:0<BV k)(h:(p:Int)*32+i*BV k=(p:Int)*32+j*BV k):i=j:=by rcases E1 k with⟨_,e,_⟩|⟨_,e,_⟩|⟨_,e,_⟩|⟨_,e,_⟩|⟨_,e,_⟩<;>rw[e]at h h0<;>omega
def Ku{k:Int}{p i:Nat}(hi:(i:Int)<BR k):0<BV k/\32*(p:Int)<=(p:Int)*32+i*BV k/\(p:Int)*32+i*BV k+BV k<=32*p+32:=by rcases E1 k with⟨_,e,f⟩|⟨_,e,f⟩|⟨_,e,f⟩|⟨_,e,f⟩|⟨_,e,f⟩<;>rw[f]at hi<;>rw[e]<;>omega
def MT(m:List Int)(p k i x:Int):(Gq m p k i x).length=m.length:=E5 _ _ _
def LC{m:List Int}{p i:Nat}{k x:Int}(hp:p<64)(hi:(i:Int)<BR k)(hm:p*32+31<m.length){y:Int}(h0:0<=y)(hy:y<m.length):Cn (Gq m p k i x) y=if y=(p:Int)*32+i*BV k then -1-x else Cn m y:=by have hs:=Ku (p:=p) hi;unfold Gq;rw[Oi hp hi];exact GN (by simp only;omega) (by simp only;omega) h0 hy
theorem KA{m:List Int}{p:Nat}{k:Int}(hp:p<64)(hm:p*32+31<m.length):∀(n:Nat),(n:Int)<=BR k->(E3 m p k n).length=m.length/\(∀j:Nat,j<n->Cn (E3 m p k n) ((p:Int)*32+j*BV k) = -1-((j+1:Nat):Int))/\∀y:Int,0<=y->y<m.length->(∀j:Nat,j<n->y≠(p:Int)*32+j*BV k)->Cn (E3 m p k n) y=Cn m y
 | 0,_=>⟨rfl,λj h=>by omega,λy _ _ _=>rfl⟩
 | n+1,hn=>by
  obtain⟨h1,h2,h3⟩:=KA (m:=m) (k:=k) hp hm n (by omega);have hi:(n:Int)<BR k:=by omega
  have e:∀y:Int,0<=y->y<m.length->Cn (E3 m p k (n+1)) y=if y=(p:Int)*32+n*BV k then -1-((n+1:Nat):Int) else Cn (E3 m p k n) y:=λy a b=>LC (x:=((n+1:Nat):Int)) hp hi (by omega) a (by omega);refine⟨(MT _ _ _ _ _).trans h1,λj hj=>?_,λy a b c=>?_⟩
  ·have hs:=Ku (p:=p) (k:=k) (i:=j) (by omega);rw[e _ (by omega) (by omega)];by_cases q:j=n
   ·subst q;rw[vy rfl]
   ·rw[vx λq'=>q (Jk hs.1 q'),h2 j (by omega)]
  ·rw[e y a b,vx (c n (by omega)),h3 y a b λj hj=>c j (by omega)]
theorem MZ{m:List Int}{p:Nat}{k:Int}{n:Nat}(hn:(n:Int)=BR k)(h:∀j:Nat,j<n->Cn m ((p:Int)*32+j*BV k) = -1-((j+1:Nat):Int)):∀(d i:Nat),i+d=n->GW m p k i ((List.range d).map (i + ·))
 | 0,i,e=>by show (i:Int)=BR k;omega
 | d+1,i,e=>by
  rw[List.range_succ_eq_map,uw,List.map_map];refine⟨by simp,((i+1:Nat):Int),?_,?_⟩
  ·have:=h i (by omega);simp only[u9];rw[<-this];congr 1;omega
  ·have:=MZ hn h d (i+1) (by omega);have e2:(λx=>i+x) ∘ Nat.succ=λx=>i+1+x:=by funext x;simp;omega
   rw[e2];exact this
def C0(c c':Ce)(b:Nat):Prop:=c'.tk b=c.tk b/\(c.tk b=wk->c'.rsz b=c.rsz b/\∀x:Nat,b<=x->x<b+c.rsz b->Cn c'.m (x:Int)=Cn c.m (x:Int))
def C0.refl(c:Ce)(b:Nat):C0 c c b:=⟨rfl,λ_=>⟨rfl,λ_ _ _=>rfl⟩⟩
def C0.trans{c c' c'':Ce}{b:Nat}(h:C0 c c' b)(g:C0 c' c'' b):C0 c c'' b:=
 ⟨g.1.trans h.1,λhb=>⟨(g.2 (by rw[h.1,hb])).1.trans (h.2 hb).1,λx a1 a2=>((g.2 (by rw[h.1,hb])).2 x a1 (by rw[(h.2 hb).1];exact a2)).trans ((h.2 hb).2 x a1 a2)⟩⟩
def C0.symm{c c':Ce}{b:Nat}(h:C0 c c' b):C0 c' c b:=
 ⟨h.1.symm,λhb=>⟨((h.2 (by rw[<-h.1,hb])).1).symm,λx a1 a2=>((h.2 (by rw[<-h.1,hb])).2 x a1 (by rw[<-(h.2 (by rw[<-h.1,hb])).1];exact a2)).symm⟩⟩
def C0.obj'{c c':Ce}{b:Nat}{ser:Int}{fs:List V2}(h:C0 c c' b)(o:Cw c b ser fs):Cw c' b ser fs:=by obtain⟨h1,h2⟩:=h.2 o.tk;have hl:=o.len;exact⟨by rw[h.1];exact o.tk,by rw[h2 b (by omega) (by omega)];exact o.head,o.ser,by rw[h1];exact hl,λi hi=>⟨(o.fld i hi).1,by rw[h2 _ (by omega) (by omega)];exact (o.fld i hi).2⟩⟩
def C0.obj{c c':Ce}{b:Nat}{ser:Int}{fs:List V2}(h:C0 c c' b):Cw c' b ser fs↔Cw c b ser fs:=⟨h.symm.obj',h.obj'⟩
section
variable{c:Ce}
def DD{c:Ce}{ks m:List Int}{tk:Bs}{p:Nat}{v:Int × Int}(hp:p<c.ch.length)(q:Nat):(⟨ks,m,c.ch.set p v,tk⟩:Ce).chain (q:Int)=if q=p then v else c.chain (q:Int):=by
 unfold Ce.chain;simp only[zK,xF,zO];by_cases e:p=q
 ·subst e;simp[hp]
 ·rw[vx e,vx (vv e)]
def QW{ks:List Int}{k:Int}{p:Nat}(h:FM ks k=wh p):BV k≠0/\p<ks.length/\BT ks (p:Int)=0:=by
 unfold FM at h;split at h
 ·cases h
 rename_i h0;obtain⟨h1,h2,_⟩:=wS.1 h;exact⟨h0,h1,by rw[FP h1];simpa using h2⟩
def Jh{c c':Ce}{b:Nat}(h5:BT c'.ks ((b / 32:Nat):Int)=BT c.ks ((b / 32:Nat):Int))(hs:BT c.ks ((b / 32:Nat):Int)=5->Cr c'.ks ((b / 32:Nat):Int)=Cr c.ks ((b / 32:Nat):Int)):c'.rsz b=c.rsz b:=by
 unfold Ce.rsz;rw[h5];by_cases e:BT c.ks ((b / 32:Nat):Int)=5
 ·rw[vy e,vy e,hs e]
 ·rw[vx e,vx e]
def IW{ks:List Int}{p n:Nat}(h:BT ks (p:Int)=5)(h1:1<=n)(h2:∀i,i+1<n->BT ks ((p+1+i:Nat):Int)=6)(h3:BT ks ((p+n:Nat):Int)≠6):Cr ks (p:Int)=n:=by
 unfold Cr;rw[h,vx (by decide),vy rfl,zK,Un (ks.drop (p+1)) (n-1)]
 ·omega
 ·intro i hi;have:=h2 i (by omega);rw[zC];rw[IU]at this;cases hx:ks[p+1+i]? with
  | none=>rw[hx]at this;simp at this
  | some x=>rw[hx]at this;simp at this;rw[this]
 ·intro hc;rw[zC,show p+1+(n-1)=p+n by omega]at hc;rw[IU,hc]at h3;exact h3 rfl
def LG{ks ks':List Int}{p:Nat}(h:BT ks (p:Int)=5)(hk:∀q:Nat,BT ks (q:Int)≠0->BT ks' (q:Int)=BT ks (q:Int))(h6:∀q:Nat,BT ks' (q:Int)=6->BT ks (q:Int)≠6->1<=q/\BT ks ((q-1:Nat):Int)=0):Cr ks' (p:Int)=Cr ks (p:Int):=by
 obtain⟨s1,s2,s3,s4⟩:=Ed h;refine IW (by rw[hk p (by rw[h];decide),h]) s1 (λi hi=>by rw[hk _ (by rw[s3 i hi];decide),s3 i hi]) λhc=>?_;obtain⟨g1,g2⟩:=h6 _ hc s4;by_cases e:Cr ks (p:Int)=1
 ·rw[e,show p+1-1=p by omega,h]at g2;cases g2
 ·have:=s3 (Cr ks (p:Int)-2) (by omega);rw[show p+1+(Cr ks (p:Int)-2)=p+Cr ks (p:Int)-1 by omega,g2]at this;cases this
def CI.tk_kind(h:CI c){a:Nat}(ha:c.tk a=wk):BT c.ks ((a / 32:Nat):Int)≠0/\BT c.ks ((a / 32:Nat):Int)≠6:=by
 obtain⟨_,⟨hk,_⟩|⟨hk,_⟩⟩:=h.tk a ha
 ·exact⟨λe=>by rw[e]at hk;exact absurd hk (by decide),λe=>by rw[e]at hk;exact absurd hk (by decide)⟩
 ·rw[hk];exact⟨by decide,by decide⟩
def CI.end_small(h:CI c){a x:Nat}(ha:c.tk a=wk)(h0:0<BV (BT c.ks ((a / 32:Nat):Int)))(h1:a<=x)(h2:x<a+c.rsz a):x / 32=a / 32:=by
 obtain⟨_,⟨hk,hm⟩|⟨hk,_⟩⟩:=h.tk a ha
 ·unfold Ce.rsz at h2;rw[vx (λe=>by rw[e,IP]at hk;omega)]at h2;exact (HF hk hm h1 h2).1
 ·rw[hk]at h0;exact absurd h0 (by decide)
def CI.word_kind(h:CI c){a x:Nat}(ha:c.tk a=wk)(h1:a<=x)(h2:x<a+c.rsz a):BT c.ks ((x / 32:Nat):Int)=BT c.ks ((a / 32:Nat):Int)∨BT c.ks ((x / 32:Nat):Int)=6:=by
 obtain⟨_,⟨hk,hm⟩|⟨hk,hm⟩⟩:=h.tk a ha
 ·rw[h.end_small ha hk h1 h2];exact wr rfl
 ·unfold Ce.rsz at h2;rw[vy hk]at h2;obtain⟨s1,s2,s3,s4⟩:=Ed hk;by_cases e:x / 32=a / 32
  ·rw[e];exact wr rfl
  ·right;have:=s3 (x / 32-a / 32-1) (by omega);rw[show a / 32+1+(x / 32-a / 32-1)=x / 32 by omega]at this;exact this
def CI.carve(h:CI c){k:Int}{p:Nat}(hk:FM c.ks k=wh p):CI (c.carve k).1/\(c.carve k).2=wh p/\(∀b,C0 c (c.carve k).1 b)/\(c.carve k).1.ks=c.ks.set p k/\BT c.ks (p:Int)=0/\p<c.ks.length:=by
 obtain⟨h0,hp,hz⟩:=QW hk;have hml:=h.ml;have hnp:=h.np;have hcl:=h.cl;have hcs:=E1 k;have hc0:0<BR k/\0<BV k/\BR k*BV k=32/\k≠5/\k≠6/\0<k:=by rcases hcs with⟨_,e,f⟩|⟨_,e,f⟩|⟨_,e,f⟩|⟨_,e,f⟩|⟨_,e,f⟩<;>rw[e]at h0 ⊢<;>rw[f]<;>omega
 have hopen:Fx c.m p k:=⟨by omega,by omega,hc0.1,by omega⟩;have hb:DM c.m p k=(E3 (CX c.m ((p:Int)*32) 32 0) p k (BR k).toNat,(0,BR k)):=by unfold DM;rw[vy hopen]
 have ec:c.carve k=({ c with ks:=c.ks.set p k,m:=(DM c.m p k).1,ch:=c.ch.set p (DM c.m p k).2 },wh p):=by unfold Ce.carve;rw[hk]
 have hfl:=Dw c.m ((p:Int)*32) 32 0;obtain⟨l1,l2,l3⟩:=KA (m:=CX c.m ((p:Int)*32) 32 0) (p:=p) (k:=k) (by omega) (by omega) (BR k).toNat (by omega);generalize hM:E3 (CX c.m ((p:Int)*32) 32 0) p k (BR k).toNat=M at *;have hoff:∀x:Nat,x<c.m.length->x / 32≠p->Cn M (x:Int)=Cn c.m (x:Int):=λx hx hne=>by
  rw[l3 x (by omega) (by omega) λj hj=>?_,Hy (by unfold ET;omega) (by omega) (by omega),vx (by omega)];have hs:=Ku (p:=p) (k:=k) (i:=j) (by omega);omega
 have hkq:∀q:Nat,BT (c.ks.set p k) (q:Int)=if q=p then k else BT c.ks (q:Int):=λq=>Mx q hp;have hno:∀a,c.tk a=wk->a / 32≠p:=λa ha e=>(h.tk_kind ha).1 (by rw[e,hz]);rw[ec,hb];refine⟨⟨by simp[h.np],by simp only[m8];rw[l1,hfl];exact hml,by simp[hcl],λa ha=>?_,λq hq=>?_,λq hq=>?_⟩,rfl,λb=>⟨rfl,λhb=>⟨Jh ?_ λh5=>LG h5 (λq hq=>?_) λq hq h6=>?_,λx h1 h2=>?_⟩⟩,rfl,hz,hp⟩
 ·simp only[m8];rw[hkq,vx (hno a ha)];exact h.tk a ha
 ·simp only at hq ⊢;rw[hkq]at hq;by_cases e:q=p
  ·rw[vy e]at hq;exact absurd hq hc0.2.2.2.2.1
  ·rw[vx e]at hq;have:=h.six q hq;refine⟨this.1,?_⟩;rw[hkq,vx]
   ·exact this.2
   ·intro e2;rw[e2,hz]at this;rcases this.2 with g | g<;>cases g
 ·simp only at hq ⊢;rw[hkq]at hq ⊢;by_cases e:q=p
  ·subst e;rw[vy rfl];refine⟨(List.range (BR k).toNat).map (0 + ·),?_,λi=>?_,?_,?_⟩
   ·simpa using List.nodup_range
   ·simp only[vd,List.map_id',uq];constructor
    ·intro hi;refine⟨by omega,?_⟩;cases ht:c.tk (32*q+i*(BV k).toNat) with
     | false=>rfl
     | true=>
      exfalso;have hs:=Ku (p:=q) (k:=k) (i:=i) (by omega);have:((i*(BV k).toNat:Nat):Int)=i*BV k:=by rw[Int.natCast_mul,yV (by omega)]
      exact hno _ ht (by omega)
    ·rintro⟨hi,_⟩;omega
   ·rw[DD (by omega),vy rfl];exact MZ (n:=(BR k).toNat) (by omega) l2 _ 0 (by omega)
   ·rw[DD (by omega),vy rfl];simp;omega
  ·rw[vx e]at hq ⊢;obtain⟨L,hL⟩:=h.fr q hq;have hql:=HG (ks:=c.ks) (p:=q) (by intro e;rw[e]at hq;revert hq;decide);refine⟨L,hL.nd,hL.mem,?_,?_⟩
   ·rw[DD (by omega),vx e];refine hL.ch.keep λi hi=>?_;obtain⟨q1,q2⟩:=(hL.mem i).1 hi;obtain⟨e1,_,_,e4,e5⟩:=CG (ks:=c.ks) (p:=q) (i:=i) rfl hq q1;rw[<-e4];exact hoff _ (by omega) (by omega)
   ·rw[DD (by omega),vx e];exact hL.n
 ·simp only;rw[hkq,vx (hno b hb)]
 ·rw[hkq,vx];intro e;rw[e,hz]at hq;exact hq rfl
 ·rw[hkq]at hq;by_cases e:q=p
  ·rw[vy e]at hq;exact absurd hq hc0.2.2.2.2.1
  ·rw[vx e]at hq;exact absurd hq h6
 ·have:=(h.rsz_pos hb).2;refine hoff x (by omega) λe=>?_;rcases h.word_kind hb h1 h2 with g|g
  ·rw[e,hz]at g;exact (h.tk_kind hb).1 g.symm
  ·rw[e,hz]at g;cases g
end
structure T9(c c':Ce)(a n:Nat):Prop where
 off:c.tk a=wl
 on:c'.tk a=wk
 kept:∀b,b≠a->C0 c c' b
 rsz:c'.rsz a=n
 zero:∀x:Nat,a<=x->x<a+n->Cn c'.m (x:Int)=0
section
variable{c:Ce}
def KC{m:List Int}{p:Nat}{k x:Int}{L:List Nat}(h:GW m p k x L)(hL:∀i∈L,(i:Int)<BR k)(h0:0<=BR k):0<=x/\x<=BR k:=by
 cases L with
 | nil=>have:x=BR k:=h;omega
 | cons j L=>have e:x=j:=h.1;have:=hL j (by simp);omega
def CI.left_eq(h:CI c){p:Nat}(hs:0<BV (BT c.ks (p:Int))){L:List Nat}(hL:Lr c p (BT c.ks (p:Int)) L):c.left (p:Int)=L.length:=by unfold Ce.left Ce.small;rw[vy (by simpa using hs),hL.n]
def CI.take(h:CI c)(p:Int):(c.take p=(c,wj)/\c.left p=0)∨∃(q a:Nat) (c':Ce),p=q/\q<c.ks.length/\0<BV (BT c.ks (q:Int))/\c.take p=(c',wh (a:Int))/\CI c'/\T9 c c' a (BV (BT c.ks (q:Int))).toNat/\c'.ks=c.ks/\a / 32=q:=by
 by_cases h0:c.left p=0
 ·left;refine⟨?_,h0⟩;unfold Ce.take;rw[vy h0]
 right;have hsm:0<BV (BT c.ks p):=by apply xI;intro hc;apply h0;unfold Ce.left Ce.small;rw[vx (by simpa using hc)]
 have hp0:0<=p/\p<c.ks.length:=by apply xI;intro hc;rw[Eg hc]at hsm;exact absurd hsm (by decide)
 obtain⟨q,rfl⟩:=xU hp0.1;have hml:=h.ml;have hnp:=h.np;have hcl:=h.cl;obtain⟨L,hL⟩:=h.fr q hsm;rw[h.left_eq hsm hL]at h0;generalize hkd:BT c.ks (q:Int)=k at *;obtain⟨nd,mem,ch,hn⟩:=hL;cases L with
 | nil=>exact absurd rfl h0
 | cons i L=>
  obtain⟨c1,x,c2,c3⟩:=ch;obtain⟨m1,m2⟩:=(mem i).1 (by simp);have hc0:0<BR k:=by omega
  have hx:=KC c3 (λj hj=>((mem j).1 (by simp[hj])).1) (by omega);obtain⟨e1,e2,e3,e4,e5⟩:=CG hkd hsm m1;have e4':(q:Int)*32+i*BV k=((32*q+i*(BV k).toNat:Nat):Int):=by omega
  have hop:Fx c.m (q:Int) k:=⟨by omega,by omega,hc0,by omega⟩;have hnx:Km c.m (q:Int) k (i:Int)=wh x:=by unfold Km;rw[Oi (by omega) m1];simp only;rw[show (q:Int)*32+i*BV k=32*q+i*BV k by omega,c2,vx (by omega)];congr 1;omega
  have ht:Eb c.m (q:Int) k (c.chain q)=((i:Int),(x,(c.chain q).2-1)):=by unfold Eb;rw[c1,vy ⟨hop,by simp only[hn,d9];omega,by omega,m1⟩,hnx]
  generalize ha:32*q+i*(BV k).toNat=a at *;have hsz:0<=BV k/\((BV k).toNat:Int)=BV k:=by omega
  have hst:c.take (q:Int)=({ c with ch:=c.ch.set q (x,(c.chain q).2-1),tk:=C9 c.tk a wk,m:=CX c.m (a:Int) (BV k) 0 },wh (a:Int)):=by
   have hne:¬c.left (q:Int)=0:=by unfold Ce.left Ce.small;rw[hkd,vy (by simpa using hsm),hn];simp only[d9];omega
   unfold Ce.take;rw[vx hne];simp only[hkd,ht,Oi (p:=q) (by omega) m1,e4',zK];unfold J1 Ce.n;rw[vy (by omega),zK]
  have htk:∀b,(C9 c.tk a wk) b=if b=a then wk else c.tk b:=λb=>rfl;have hfill:∀y:Nat,y<c.m.length->Cn (CX c.m (a:Int) (BV k) 0) (y:Int)=if a<=y/\y<a+(BV k).toNat then 0 else Cn c.m (y:Int):=λy hy=>by
   rw[Hy (by unfold ET;omega) (by omega) (by omega)];by_cases cc:a<=y/\y<a+(BV k).toNat
   ·rw[vy (by omega),vy cc]
   ·rw[vx (by omega),vx cc]
  refine⟨q,a,_,rfl,by omega,by rw[hkd];exact hsm,hst,⟨hnp,by simp only;rw[Dw];exact hml,by simp[hcl],λb hb=>?_,h.six,λp' hp'=>?_⟩,⟨m2,by simp only;rw[htk,vy rfl],λb hb=>⟨by simp only;rw[htk,vx hb],λtb=>⟨rfl,λy y1 y2=>?_⟩⟩,?_,λy y1 y2=>?_⟩,rfl,by omega⟩
  ·simp only at hb ⊢;rw[htk]at hb;by_cases e:b=a
   ·subst e;rw[e1,hkd];exact⟨by omega,wr ⟨hsm,e2⟩⟩
   ·rw[vx e]at hb;exact h.tk b hb
  ·simp only at hp' ⊢;by_cases e:p'=q
   ·subst e;rw[hkd];have hni:i∉L:=(o7.1 nd).1;refine⟨L,(o7.1 nd).2,λj=>?_,?_,?_⟩
    ·simp only[htk];constructor
     ·intro hj;obtain⟨g1,g2⟩:=(mem j).1 (by simp[hj]);refine⟨g1,?_⟩;rw[vx,g2];intro e;have:j=i:=Jk (k:=k) (p:=p') hsm (by
       have:=(CG hkd hsm g1).2.2.2.1;omega)
      subst this;exact hni hj
     ·rintro⟨g1,g2⟩;by_cases e:32*p'+j*(BV k).toNat=a
      ·rw[vy e]at g2;cases g2
      ·rw[vx e]at g2;have:=(mem j).2 ⟨g1,g2⟩;rcases ux.1 this with rfl|g
       ·exact absurd ha e
       ·exact g
    ·rw[DD (by omega),vy rfl];refine c3.keep λj hj=>?_;obtain⟨g1,g2⟩:=(mem j).1 (by simp[hj]);obtain⟨f1,f2,f3,f4,f5⟩:=CG hkd hsm g1;have hji:j≠i:=λe=>hni (e ▸ hj);rw[<-f4,hfill _ (by omega),vx];intro cc;obtain⟨_,z⟩:=HF hsm e2 cc.1 cc.2;have:32*p'+j*(BV k).toNat=a:=by omega
     exact hji (Jk (k:=k) (p:=p') hsm (by omega))
    ·rw[DD (by omega),vy rfl,hn];simp
   ·obtain⟨L',hL'⟩:=h.fr p' hp';have hql:=HG (ks:=c.ks) (p:=p') (by intro e;rw[e]at hp';revert hp';decide);refine⟨L',hL'.nd,λj=>?_,?_,?_⟩
    ·rw[hL'.mem j];simp only[htk];constructor
     ·rintro⟨g1,g2⟩;have:=(CG rfl hp' g1).1;exact⟨g1,by rw[vx (λe=>by rw[e]at this;omega)];exact g2⟩
     ·rintro⟨g1,g2⟩;have:=(CG rfl hp' g1).1;rw[vx (λe=>by rw[e]at this;omega)]at g2;exact⟨g1,g2⟩
    ·rw[DD (by omega),vx e];refine hL'.ch.keep λj hj=>?_;obtain⟨q1,q2⟩:=(hL'.mem j).1 hj;obtain⟨g1,_,_,g4,g5⟩:=CG rfl hp' q1;rw[<-g4,hfill _ (by omega),vx (by omega)]
    ·rw[DD (by omega),vx e];exact hL'.n
  ·have:=(h.rsz_pos tb).2;rw[hfill y (by omega),vx];intro cc;obtain⟨z1,z⟩:=HF hsm e2 cc.1 cc.2;have g:=h.home_in tb y1 y2;rw[IT (by rw[z1,e1,hkd];exact hsm),z1,e1,hkd,z]at g;omega
  ·show Ce.rsz _ a=_;unfold Ce.rsz;simp only;rw[e1,hkd,vx (λe=>by rw[e,IP]at hsm;omega)]
  ·rw[hkd]at y2;rw[hfill y (by omega),vy ⟨y1,y2⟩]
theorem HH(n:Nat):∀(l:List Int) (p run s:Nat),EO n l p run=wh s->run<=p->p-run<=s/\∀i,i<n->(p-run<=s+i/\s+i<p)∨(p<=s+i/\l[s+i-p]?=wh 0)
 | [],p,run,s,h,hr=>by
  unfold EO at h;split at h
  ·cases h;exact⟨by omega,λi hi=>wr (by omega)⟩
  ·cases h
 | k::ks,p,run,s,h,hr=>by
  unfold EO at h;split at h
  ·rename_i hk;obtain⟨g1,g2⟩:=HH n ks (p+1) (run+1) s h (by omega);refine⟨by omega,λi hi=>?_⟩;rcases g2 i hi with g|⟨g,g'⟩
   ·by_cases e:s+i=p
    ·right;refine⟨by omega,?_⟩;rw[e,vh];simp[hk]
    ·left;omega
   ·right;refine⟨by omega,?_⟩;rw[show s+i-p=(s+i-(p+1))+1 by omega];simpa using g'
  ·split at h
   ·cases h;exact⟨by omega,λi hi=>wr (by omega)⟩
   ·obtain⟨g1,g2⟩:=HH n ks (p+1) 0 s h (by omega);refine⟨by omega,λi hi=>?_⟩;rcases g2 i hi with g|⟨g,g'⟩
    ·omega
    ·right;refine⟨by omega,?_⟩;rw[show s+i-p=(s+i-(p+1))+1 by omega];simpa using g'
def QV{ks:List Int}{n:Int}{p:Nat}(h:Fy ks n=wh p):1<=n/\p+n.toNat<=ks.length/\∀q:Nat,p<=q->q<p+n.toNat->BT ks (q:Int)=0:=by
 unfold Fy at h;split at h
 ·cases h
 obtain⟨_,g⟩:=HH _ _ _ _ _ h (by omega);have g':∀q:Nat,p<=q->q<p+n.toNat->ks[q]?=wh 0:=λq a b=>by
  rcases g (q-p) (by omega)with g|⟨_,g⟩
  ·omega
  ·rw[<-g];congr 1;omega
 refine⟨by omega,?_,λq a b=>by rw[IU,g' q a b];rfl⟩;apply xI;intro hc;have:=g' (p+n.toNat-1) (by omega) (by omega);rw[yG (by omega)]at this;cases this
def CI.large(h:CI c){n:Int}{p:Nat}(hp:Fy c.ks n=wh p):∃c':Ce,c.large n=(c',wh ((32*p:Nat):Int))/\CI c'/\T9 c c' (32*p) (32*n.toNat)/\∀q:Nat,BT c.ks (q:Int)≠0->BT c'.ks (q:Int)=BT c.ks (q:Int):=by
 obtain⟨h1,h2,h3⟩:=QV hp;have hml:=h.ml;have hnp:=h.np;have hcl:=h.cl;have hkl:(Dj c.ks p n.toNat 6).length=c.ks.length:=D6 h2;have e:GM (p:Int) n=((p:Int)*32,((p:Int)+n)*32-1,wk):=by unfold GM;rw[vy (by omega)]
 have hst:c.large n=({ c with ks:=(Dj c.ks p n.toNat 6).set p 5,tk:=C9 c.tk (32*p) wk,m:=CX c.m ((32*p:Nat):Int) (n*32) 0 },wh ((32*p:Nat):Int)):=by unfold Ce.large;rw[hp];simp only[e,show (p:Int)*32=((32*p:Nat):Int) by omega];unfold J1 Ce.n;rw[vy (by omega),zK]
 have hk:∀q:Nat,BT ((Dj c.ks p n.toNat 6).set p 5) (q:Int)=if q=p then 5 else if p<=q/\q<p+n.toNat then 6 else BT c.ks (q:Int):=λq=>by
  rw[Mx q (by omega),Mw q h2]
 have hkeep:∀q:Nat,BT c.ks (q:Int)≠0->¬(p<=q/\q<p+n.toNat):=λq hq cc=>hq (h3 q cc.1 cc.2);have hk0:∀q:Nat,BT c.ks (q:Int)≠0->BT ((Dj c.ks p n.toNat 6).set p 5) (q:Int)=BT c.ks (q:Int):=λq hq=>by
  have:=hkeep q hq;rw[hk,vx (by omega),vx this]
 have h6:∀q:Nat,BT ((Dj c.ks p n.toNat 6).set p 5) (q:Int)=6->BT c.ks (q:Int)≠6->1<=q/\BT c.ks ((q-1:Nat):Int)=0:=λq hq ho=>by
  rw[hk]at hq;by_cases e1:q=p
  ·rw[vy e1]at hq;cases hq
  ·rw[vx e1]at hq;by_cases e2:p<=q/\q<p+n.toNat
   ·exact⟨by omega,h3 _ (by omega) (by omega)⟩
   ·rw[vx e2]at hq;exact absurd hq ho
 have htk:∀b,(C9 c.tk (32*p) wk) b=if b=32*p then wk else c.tk b:=λb=>rfl;have hno:∀b,c.tk b=wk->¬(p<=b / 32/\b / 32<p+n.toNat):=λb hb=>hkeep _ (h.tk_kind hb).1;have hfill:∀y:Nat,y<c.m.length->Cn (CX c.m ((32*p:Nat):Int) (n*32) 0) (y:Int)=if 32*p<=y/\y<32*p+32*n.toNat then 0 else Cn c.m (y:Int):=λy hy=>by
  rw[Hy (by unfold ET;omega) (by omega) (by omega)];by_cases cc:32*p<=y/\y<32*p+32*n.toNat
  ·rw[vy (by omega),vy cc]
  ·rw[vx (by omega),vx cc]
 refine⟨_,hst,⟨by simp only[m8];omega,by simp only[m8];rw[Dw];omega,hcl,λb hb=>?_,λq hq=>?_,λq hq=>?_⟩,⟨?_,by simp only;rw[htk,vy rfl],λb hb=>⟨by simp only;rw[htk,vx hb],λtb=>⟨Jh ?_ λh5=>LG h5 hk0 h6,λy y1 y2=>?_⟩⟩,?_,λy y1 y2=>?_⟩,hk0⟩
 ·simp only[m8]at hb ⊢;rw[htk]at hb;by_cases e1:b=32*p
  ·subst e1;rw[show 32*p / 32=p by omega,hk,vy rfl];exact⟨by omega,ws ⟨rfl,by omega⟩⟩
  ·rw[vx e1]at hb;rw[hkl,hk0 _ (h.tk_kind hb).1];exact h.tk b hb
 ·simp only at hq ⊢;by_cases ho:BT c.ks (q:Int)=6
  ·have:=h.six q ho;refine⟨this.1,?_⟩;rw[hk0 _ (by rcases this.2 with g | g<;>rw[g]<;>decide)];exact this.2
  ·obtain⟨g1,g2⟩:=h6 q hq ho;rw[hk]at hq;by_cases e1:q=p
   ·rw[vy e1]at hq;cases hq
   ·rw[vx e1]at hq;by_cases e2:p<=q/\q<p+n.toNat
    ·refine⟨g1,?_⟩;rw[hk];by_cases e3:q-1=p
     ·left;rw[vy e3]
     ·right;rw[vx e3,vy (by omega)]
    ·rw[vx e2]at hq;exact absurd hq ho
 ·simp only at hq ⊢;have hq0:¬(p<=q/\q<p+n.toNat)/\BT ((Dj c.ks p n.toNat 6).set p 5) (q:Int)=BT c.ks (q:Int):=by
   rw[hk]at hq ⊢;by_cases e1:q=p
   ·rw[vy e1]at hq;exact absurd hq (by decide)
   ·rw[vx e1]at hq ⊢;by_cases e2:p<=q/\q<p+n.toNat
    ·rw[vy e2]at hq;exact absurd hq (by decide)
    ·exact⟨e2,by rw[vx e2]⟩
  rw[hq0.2]at hq ⊢;obtain⟨L,hL⟩:=h.fr q hq;have hql:=HG (ks:=c.ks) (p:=q) (by intro e;rw[e]at hq;revert hq;decide);refine⟨L,hL.nd,λj=>?_,hL.ch.keep λj hj=>?_,hL.n⟩
  ·rw[hL.mem j];simp only[htk];constructor
   ·rintro⟨g1,g2⟩;have:=(CG rfl hq g1).1;exact⟨g1,by rw[vx (λe=>by rw[e]at this;omega)];exact g2⟩
   ·rintro⟨g1,g2⟩;have:=(CG rfl hq g1).1;rw[vx (λe=>by rw[e]at this;omega)]at g2;exact⟨g1,g2⟩
  ·obtain⟨q1,q2⟩:=(hL.mem j).1 hj;obtain⟨g1,_,_,g4,g5⟩:=CG rfl hq q1;rw[<-g4,hfill _ (by omega),vx (by omega)]
 ·cases ht:c.tk (32*p) with
  | false=>rfl
  | true=>exact absurd ⟨by omega,by omega⟩ (hno _ ht)
 ·simp only;exact hk0 _ (h.tk_kind tb).1
 ·have:=(h.rsz_pos tb).2;have hw:BT c.ks ((y / 32:Nat):Int)≠0:=by
   rcases h.word_kind tb y1 y2 with g|g
   ·rw[g];exact (h.tk_kind tb).1
   ·rw[g];decide
  have:=hkeep _ hw;rw[hfill y (by omega),vx (by omega)]
 ·show Ce.rsz _ (32*p)=_;unfold Ce.rsz;simp only;rw[show 32*p / 32=p by omega,hk,vy rfl,vy rfl,IW (n:=n.toNat) (by rw[hk,vy rfl]) (by omega) (λi hi=>by rw[hk,vx (by omega),vy (by omega)]) ?_];rw[hk,vx (by omega),vx (by omega)];intro hc;obtain⟨g1,g2⟩:=h.six _ hc;rw[show p+n.toNat-1=p+(n.toNat-1) by omega,h3 _ (by omega) (by omega)]at g2;rcases g2 with g|g<;>cases g
 ·rw[hfill y (by omega),vy ⟨y1,y2⟩]
end
theorem LM:∀(n:Nat) (L:List Nat),L.Nodup->(∀x∈L,x<n)->L.length<=n
 | 0,L,_,h=>by
  cases L with
  | nil=>simp
  | cons a L=>exact absurd (h a (by simp)) (by omega)
 | n+1,L,hn,h=>by
  have h1:=LM n (L.erase n) (hn.erase n) λx hx=>by
   have:=(hn.mem_erase_iff).1 hx;have:=h x this.2;omega
  have:(L.erase n).length=if n∈L then L.length-1 else L.length:=List.length_erase;split at this<;>omega
section
variable{c:Ce}
def Lr.few{p:Nat}{k:Int}{L:List Nat}(h:Lr c p k L){i:Nat}(hi:(i:Int)<BR k)(ht:c.tk (32*p+i*(BV k).toNat)=wk):(L.length:Int)<BR k:=by
 have hni:i∉L:=λhm=>by rw[((h.mem i).1 hm).2]at ht;cases ht
 have:=LM (BR k).toNat (i::L) (o7.2 ⟨hni,h.nd⟩) λx hx=>by
  rcases ux.1 hx with rfl|g
  ·omega
  ·have:=((h.mem x).1 g).1;omega
 simp only[d9]at this;omega
def PO{k:Int}{a:Nat}(h0:0<BV k)(hm:(a:Int) % BV k=0):∃i:Nat,(a:Int) % 32 / BV k=i/\(i:Int)<BR k/\a=32*(a / 32)+i*(BV k).toNat:=by refine⟨((a:Int) % 32 / BV k).toNat,?_⟩;rcases E1 k with⟨_,e,f⟩|⟨_,e,f⟩|⟨_,e,f⟩|⟨_,e,f⟩|⟨_,e,f⟩<;>rw[e]at h0 hm ⊢<;>rw[f]<;>simp only[Int.reduceToNat]<;>omega
def CI.give(h:CI c){a:Nat}(ha:c.tk a=wk):(c.give (a:Int)).2=wk/\CI (c.give (a:Int)).1/\(c.give (a:Int)).1.tk a=wl/\(∀b,b≠a->C0 c (c.give (a:Int)).1 b)/\∀q:Nat,0<BV (BT c.ks (q:Int))->BT (c.give (a:Int)).1.ks (q:Int)=BT c.ks (q:Int):=by
 have hit:=h.isIt ha;have hlt:=h.tk_lt ha;have hsm:=h.small_n;have hml:=h.ml;have hnp:=h.np;have hcl:=h.cl;obtain⟨hpl,hk⟩:=h.tk a ha;have hpg:Cq (a:Int)=((a / 32:Nat):Int):=by unfold Cq;rw[vy (by omega)];omega
 have hrem:KQ c.n c.tk (a:Int)=C9 c.tk a wl:=by have hit':Fu c.n c.tk (a:Int)=wk:=hit;unfold KQ;rw[vy hit',zK]
 have htk:∀b,(C9 c.tk a wl) b=if b=a then wl else c.tk b:=λb=>rfl;rcases hk with⟨hk,hm⟩|⟨hk,hm⟩
 ·obtain⟨i,e1,hi,e2⟩:=PO hk hm;generalize hp:a / 32=p at *;generalize hkd:BT c.ks (p:Int)=k at *;have hk5:k≠5:=λe=>by rw[e,IP]at hk;omega
  obtain⟨L,nd,mem,ch,hn⟩:=h.fr p (by rw[hkd];exact hk);rw[hkd]at mem ch;have hfew:=Lr.few ⟨nd,mem,ch,hn⟩ hi (by rw[<-e2];exact ha);have hni:i∉L:=λhm=>by have:=((mem i).1 hm).2;rw[<-e2,ha]at this;cases this
  have hx:=KC ch (λj hj=>((mem j).1 hj).1) (by omega);have hcell:(GL k (a:Int)).1=(i:Int):=by
   unfold GL;have hb:E2 k (a:Int)=a:=by unfold E2;rw[hpg,vx (by omega),hm];omega
   rw[hb,vx (by omega)];exact e1
  have hg:Fe c.m (p:Int) k (c.chain p) (i:Int)=(Gq c.m p k i (c.chain p).1,((i:Int),(c.chain p).2+1)):=by unfold Fe;rw[vy ⟨⟨by omega,by omega,by omega,by omega⟩,by omega,hi,by omega,by omega,hx.1,hx.2⟩]
  have hst:c.give (a:Int)=({ c with tk:=C9 c.tk a wl,m:=Gq c.m p k i (c.chain p).1,ch:=c.ch.set p ((i:Int),(c.chain p).2+1) },wk):=by unfold Ce.give;rw[vy hit];simp only[hpg,hkd,vx hk5,hcell,hg,hrem,zK]
  obtain⟨f1,f2,f3,f4,f5⟩:=CG hkd hk hi;have hld:∀y:Nat,y<c.m.length->Cn (Gq c.m (p:Int) k i (c.chain p).1) (y:Int)=if y=a then -1-(c.chain p).1 else Cn c.m (y:Int):=λy hy=>by
   rw[LC (by omega) hi (by omega) (by omega) (by omega)];by_cases cc:y=a
   ·rw[vy (by omega),vy cc]
   ·rw[vx (by omega),vx cc]
  rw[hst];refine⟨rfl,⟨hnp,by simp only;rw[MT];exact hml,by simp[hcl],λb hb=>?_,h.six,λq hq=>?_⟩,by simp only;rw[htk,vy rfl],λb hb=>⟨by simp only;rw[htk,vx hb],λtb=>⟨rfl,λy y1 y2=>?_⟩⟩,λq _=>rfl⟩
  ·simp only at hb ⊢;rw[htk]at hb;by_cases e:b=a
   ·rw[vy e]at hb;cases hb
   ·rw[vx e]at hb;exact h.tk b hb
  ·simp only at hq ⊢;by_cases e:q=p
   ·subst e;rw[hkd];refine⟨i::L,o7.2 ⟨hni,nd⟩,λj=>?_,?_,?_⟩
    ·simp only[htk,ux];constructor
     ·rintro (rfl|hj)
      ·exact⟨hi,by rw[vy e2.symm]⟩
      ·obtain⟨g1,g2⟩:=(mem j).1 hj;refine⟨g1,?_⟩;split
       ·rfl
       ·exact g2
     ·rintro⟨g1,g2⟩;by_cases e:32*q+j*(BV k).toNat=a
      ·left;have:=(CG hkd hk g1).2.2.2.1;exact Jk (k:=k) (p:=q) hk (by omega)
      ·rw[vx e]at g2;exact ws ((mem j).2 ⟨g1,g2⟩)
    ·rw[DD (by omega),vy rfl];refine⟨rfl,(c.chain q).1,?_,ch.keep λj hj=>?_⟩
     ·rw[<-f4,hld _ (by omega),vy e2.symm]
     ·obtain⟨g1,g2⟩:=(mem j).1 hj;obtain⟨w1,w2,w3,w4,w5⟩:=CG hkd hk g1;rw[<-w4,hld _ (by omega),vx];intro e;rw[e,ha]at g2;cases g2
    ·rw[DD (by omega),vy rfl,hn];simp only[d9];omega
   ·obtain⟨L',hL'⟩:=h.fr q hq;have hql:=HG (ks:=c.ks) (p:=q) (by intro e;rw[e]at hq;revert hq;decide);refine⟨L',hL'.nd,λj=>?_,?_,?_⟩
    ·rw[hL'.mem j];simp only[htk];constructor
     ·rintro⟨g1,g2⟩;have:=(CG rfl hq g1).1;exact⟨g1,by rw[vx (λe=>by rw[e]at this;omega)];exact g2⟩
     ·rintro⟨g1,g2⟩;have:=(CG rfl hq g1).1;rw[vx (λe=>by rw[e]at this;omega)]at g2;exact⟨g1,g2⟩
    ·rw[DD (by omega),vx e];refine hL'.ch.keep λj hj=>?_;obtain⟨q1,q2⟩:=(hL'.mem j).1 hj;obtain⟨g1,_,_,g4,g5⟩:=CG rfl hq q1;rw[<-g4,hld _ (by omega),vx (by omega)]
    ·rw[DD (by omega),vx e];exact hL'.n
  ·have hrb:=(h.rsz_pos tb).2;rw[hld y (by omega),vx];rintro rfl;exact hb (h.apart ha tb (vl _) (by have:=(h.rsz_pos ha).1;omega) y1 y2).symm
 ·obtain⟨s1,s2,s3,s4⟩:=Ed hk;have hrs:c.rsz a=32*Cr c.ks ((a / 32:Nat):Int):=by unfold Ce.rsz;rw[vy hk]
  have hpage:∀b,c.tk b=wk->b≠a->¬(a / 32<=b / 32/\b / 32<a / 32+Cr c.ks ((a / 32:Nat):Int)):=λb tb hb cc=>hb (h.apart tb ha (vl b) (by have:=(h.rsz_pos tb).1;omega) (by omega) (by rw[hrs];omega));generalize hp:a / 32=p at *;generalize hz:Cr c.ks (p:Int)=z at *;have hst:c.give (a:Int)=({ c with tk:=C9 c.tk a wl,ks:=Dj c.ks p z 0 },wk):=by unfold Ce.give;rw[vy hit];simp only[hpg,vy hk,hrem];unfold Ii;rw[hz,vx (by omega),zK]
  have hkp:∀q:Nat,BT (Dj c.ks p z 0) (q:Int)=if p<=q/\q<p+z then 0 else BT c.ks (q:Int):=λq=>Mw q s2;have hin:∀q:Nat,p<=q->q<p+z->BT c.ks (q:Int)=5∨BT c.ks (q:Int)=6:=λq q1 q2=>by
   by_cases e:q=p
   ·subst e;exact wr hk
   ·right;have:=s3 (q-p-1) (by omega)
    rwa [show p+1+(q-p-1)=q by omega]at this
  have hoff:∀q:Nat,0<BV (BT c.ks (q:Int))->¬(p<=q/\q<p+z):=λq hq cc=>by
   rcases hin q cc.1 cc.2 with g|g<;>rw[g]at hq<;>exact absurd hq (by decide)
  rw[hst];refine⟨rfl,⟨by simp only;rw[D6 s2];exact hnp,by simp only;rw[D6 s2];exact hml,hcl,λb hb=>?_,λq hq=>?_,λq hq=>?_⟩,by simp only;rw[htk,vy rfl],λb hb=>⟨by simp only;rw[htk,vx hb],λtb=>⟨Jh ?_ λh5=>?_,λy y1 y2=>rfl⟩⟩,λq hq=>?_⟩
  ·simp only at hb ⊢;rw[htk]at hb;by_cases e:b=a
   ·rw[vy e]at hb;cases hb
   ·rw[vx e]at hb;rw[D6 s2,hkp,vx (hpage b hb e)];exact h.tk b hb
  ·simp only at hq ⊢;rw[hkp]at hq;by_cases e:p<=q/\q<p+z
   ·rw[vy e]at hq;cases hq
   ·rw[vx e]at hq;obtain⟨g1,g2⟩:=h.six q hq;refine⟨g1,?_⟩;rw[hkp,vx]
    ·exact g2
    ·intro cc;have:q=p+z:=by omega
     subst this;exact s4 hq
  ·simp only at hq ⊢;have hnq:¬(p<=q/\q<p+z):=λcc=>by rw[hkp,vy cc]at hq;exact absurd hq (by decide)
   rw[hkp,vx hnq]at hq ⊢;obtain⟨L',hL'⟩:=h.fr q hq;refine⟨L',hL'.nd,λj=>?_,hL'.ch,hL'.n⟩;rw[hL'.mem j];simp only[htk];constructor
   ·rintro⟨g1,g2⟩;refine⟨g1,?_⟩;split
    ·rfl
    ·exact g2
   ·rintro⟨g1,g2⟩;have:=(CG rfl hq g1).1;rw[vx (λe=>by rw[e]at this;omega)]at g2;exact⟨g1,g2⟩
  ·simp only;rw[hkp,vx (hpage b tb hb)]
  ·obtain⟨t1,t2,t3,t4⟩:=Ed h5;have hrb:c.rsz b=32*Cr c.ks ((b / 32:Nat):Int):=by unfold Ce.rsz;rw[vy h5]
   have hb32:b % 32=0:=by
    obtain⟨_,⟨g,_⟩|⟨_,g⟩⟩:=h.tk b tb
    ·rw[h5]at g;exact absurd g (by decide)
    ·exact g
   refine IW (by simp only;rw[hkp,vx (hpage b tb hb),h5]) t1 (λj hj=>?_) ?_
   ·simp only;rw[hkp,vx,t3 j hj];intro cc;exact hb (h.apart tb ha (x:=32*(b / 32+1+j)) (by omega) (by rw[hrb];omega) (by omega) (by rw[hrs];omega))
   ·simp only;rw[hkp];by_cases cc:p<=b / 32+Cr c.ks ((b / 32:Nat):Int)/\b / 32+Cr c.ks ((b / 32:Nat):Int)<p+z
    ·rw[vy cc];decide
    ·rw[vx cc];exact t4
  ·simp only;rw[hkp,vx (hoff q hq)]
def CI.drop(h:CI c)(p:Int):CI (c.drop p).1/\(∀b,C0 c (c.drop p).1 b)/\(∀q:Nat,(q:Int)≠p->BT (c.drop p).1.ks (q:Int)=BT c.ks (q:Int)):=by
 by_cases hd:c.small p=wk/\BR (BT c.ks p)<=c.left p
 rotate_left
 ·have:c.drop p=(c,wl):=by unfold Ce.drop;rw[vx hd]
  rw[this];exact⟨h,λb=>C0.refl c b,λ_ _=>rfl⟩
 obtain⟨d1,d2⟩:=hd;have hs:0<BV (BT c.ks p):=by simpa[Ce.small] using d1
 have hp0:0<=p/\p<c.ks.length:=by apply xI;intro hc;rw[Eg hc]at hs;exact absurd hs (by decide)
 obtain⟨p,rfl⟩:=xU hp0.1;have hnp:=h.np;have hml:=h.ml;obtain⟨L,hL⟩:=h.fr p hs;rw[h.left_eq hs hL]at d2;have hno:∀b,c.tk b=wk->b / 32≠p:=λb tb e=>by
  obtain⟨_,⟨g,gm⟩|⟨g,_⟩⟩:=h.tk b tb
  ·rw[e]at g gm;obtain⟨i,_,hi,e2⟩:=PO g gm;rw[e]at e2;have:=hL.few hi (by rw[<-e2];exact tb);omega
  ·rw[e]at g;rw[g]at hs;exact absurd hs (by decide)
 have hst:c.drop (p:Int)=({ c with ks:=Dj c.ks p 1 0 },wk):=by unfold Ce.drop;rw[vy ⟨d1,by rw[h.left_eq hs hL];exact d2⟩];unfold Ii;rw[Pn hs,vx (by decide),zK]
 have hkp:∀q:Nat,BT (Dj c.ks p 1 0) (q:Int)=if q=p then 0 else BT c.ks (q:Int):=λq=>by
  rw[Mw q (by omega)];by_cases e:q=p
  ·rw[vy (by omega),vy e]
  ·rw[vx (by omega),vx e]
 have hnz:∀q:Nat,BV (BT c.ks (q:Int))=0->BT (Dj c.ks p 1 0) (q:Int)=BT c.ks (q:Int):=λq hq=>by
  rw[hkp,vx];rintro rfl;omega
 rw[hst];refine⟨⟨by simp only;rw[D6 (by omega)];exact hnp,by simp only;rw[D6 (by omega)];exact hml,h.cl,λb tb=>?_,λq hq=>?_,λq hq=>?_⟩,λb=>⟨rfl,λtb=>⟨Jh ?_ λh5=>?_,λy y1 y2=>rfl⟩⟩,λq hq=>?_⟩
 ·simp only at tb ⊢;rw[D6 (by omega),hkp,vx (hno b tb)];exact h.tk b tb
 ·simp only at hq ⊢;rw[hkp]at hq;by_cases e:q=p
  ·rw[vy e]at hq;cases hq
  ·rw[vx e]at hq;obtain⟨g1,g2⟩:=h.six q hq;refine⟨g1,?_⟩;rw[hnz]
   ·exact g2
   ·rcases g2 with g|g<;>rw[g]<;>decide
 ·simp only at hq ⊢;have hqp:q≠p:=λe=>by rw[hkp,vy e]at hq;exact absurd hq (by decide)
  rw[hkp,vx hqp]at hq ⊢;obtain⟨L',hL'⟩:=h.fr q hq;exact⟨L',hL'.nd,hL'.mem,hL'.ch,hL'.n⟩
 ·simp only;rw[hkp,vx (hno b tb)]
 ·obtain⟨t1,t2,t3,t4⟩:=Ed h5;refine IW (by simp only;rw[hnz _ (by rw[h5];decide),h5]) t1 (λj hj=>by simp only;rw[hnz _ (by rw[t3 j hj];decide),t3 j hj]) ?_;simp only;rw[hkp];by_cases e:b / 32+Cr c.ks ((b / 32:Nat):Int)=p
  ·rw[vy e];decide
  ·rw[vx e];exact t4
 ·simp only;rw[hkp,vx (by omega)]
end
structure SI(s:St):Prop where
 hi:HI s.c s.made
 m0:0<=s.made
 own:∀a p,s.own a=wh p->0<=p/\BT s.c.ks p=a.2/\0<BV a.2/\a∈FT
 inj:∀a b p,s.own a=wh p->s.own b=wh p->a=b
structure Gi(s s':St)(a n:Nat):Prop where
 off:s.c.tk a=wl
 obj:Cw s'.c a s.made (List.replicate n (0,0))
 kept:∀b,b≠a->C0 s.c s'.c b
 made:s'.made=s.made+1
def HI.ser_lt{c:Ce}{made:Int}(h:HI c made){a:Nat}{ser:Int}{fs:List V2}(o:Cw c a ser fs):ser<made:=by obtain⟨ser',fs',o',hl⟩:=h.obj a o.tk;rw[(o.same o').1];exact hl
def NT{c c':Ce}{own:Om}{made:Int}{a m:Nat}{n:Int}(h:HI c made)(hm:T9 c c' a m)(hc:CI c')(hn:0<=n/\n<=127)(hnm:n+1<=m)(h0:0<=made)(h1:made<1099511627775)(s:St)(hs:s.c=c/\s.made=made):
  ∃s',(⟨c',own,made⟩:St).begin (a:Int) n=s'/\Gi s s' a n.toNat/\HI s'.c s'.made/\s'.own=own/\s'.c.ks=c'.ks:=by
 obtain⟨rfl,rfl⟩:=hs;have hr:=hc.rsz_pos hm.on;have hrs:=hm.rsz;have hh:FI s.made n=s.made*128+n:=by unfold FI;rw[vy (by omega)]
 have hst:=hc.store_in (x:=a) (w:=FI s.made n) hm.on (vl _) (by omega);have hci:=hc.stored (x:=a) (w:=FI s.made n) hm.on (vl _) (by omega);have hld:∀y:Nat,y<c'.m.length->Cn (DN c'.m (a:Int) (FI s.made n)) (y:Int)=if y=a then s.made*128+n else Cn c'.m (y:Int):=λy hy=>by
  rw[GN (by omega) (by omega) (by omega) (by omega),hh];by_cases e:y=a
  ·rw[vy (by omega),vy e]
  ·rw[vx (by omega),vx e]
 have hk:∀b,b≠a->C0 s.c { c' with m:=DN c'.m (a:Int) (FI s.made n) } b:=λb hb=>by
  refine⟨(hm.kept b hb).1,λtb=>⟨((hm.kept b hb).2 tb).1,λx x1 x2=>?_⟩⟩;have tb':c'.tk b=wk:=by rw[(hm.kept b hb).1,tb]
  have hrb:c'.rsz b=s.c.rsz b:=((hm.kept b hb).2 tb).1;have:=(hc.rsz_pos tb').2;simp only;rw[hld x (by omega),vx,((hm.kept b hb).2 tb).2 x x1 x2];rintro rfl;exact hb (hc.apart tb' hm.on x1 (by omega) (vl _) (by omega))
 have ho:Cw { c' with m:=DN c'.m (a:Int) (FI s.made n) } a s.made (List.replicate n.toNat (0,0)):=by
  refine⟨hm.on,?_,by omega,?_,λi hi=>?_⟩
  ·simp only[yJ];rw[hld a (by omega),vy rfl];omega
  ·simp only[yJ];refine⟨by omega,?_⟩;show n.toNat+1<=c'.rsz a;omega
  ·simp only[yJ]at hi;simp only[yA];refine⟨Qm,?_⟩;rw[hld _ (by omega),vx (by omega),hm.zero _ (by omega) (by omega),UP]
 have hms:C7 (s.made+1)=s.made+1:=E9 (by omega);refine⟨_,rfl,⟨hm.off,?_,λb hb=>?_,?_⟩,?_,rfl,?_⟩
 ·unfold St.begin;simp only;rw[hst];exact ho
 ·unfold St.begin;simp only;rw[hst];exact hk b hb
 ·unfold St.begin;simp only;exact hms
 ·unfold St.begin;simp only;rw[hst,hms];refine⟨hci,λb hb=>?_,λb b' ser fs gs o1 o2=>?_⟩
  ·by_cases e:b=a
   ·subst e;exact⟨_,_,ho,by omega⟩
   ·rw[(hk b e).1]at hb;obtain⟨ser,fs,o,hl⟩:=h.obj b hb;exact⟨ser,fs,(hk b e).obj.2 o,by omega⟩
  ·by_cases e:b=a
   ·by_cases e':b'=a
    ·rw[e,e']
    ·subst e;have:=(ho.same o1).1;have:=h.ser_lt ((hk b' e').obj.1 o2);omega
   ·by_cases e':b'=a
    ·subst e';have:=(ho.same o2).1;have:=h.ser_lt ((hk b e).obj.1 o1);omega
    ·exact h.one b b' ser fs gs ((hk b e).obj.1 o1) ((hk b' e').obj.1 o2)
 ·unfold St.begin;simp only;rw[hst]
def Wd{n:Int}(h:BV (CD n)≠0):0<=n/\n<=127/\n+1<=BV (CD n):=by
 unfold CD at *;by_cases c0:n<0∨n>127
 ·rw[vy c0]at h;exact absurd rfl h
 rw[vx c0]at h ⊢;by_cases c1:n<2
 ·rw[vy c1]at h ⊢;rw[show BV 1=2 from rfl];omega
 rw[vx c1]at h ⊢;by_cases c2:n<4
 ·rw[vy c2]at h ⊢;rw[show BV 2=4 from rfl];omega
 rw[vx c2]at h ⊢;by_cases c3:n<8
 ·rw[vy c3]at h ⊢;rw[show BV 3=8 from rfl];omega
 rw[vx c3]at h ⊢;by_cases c4:n<16
 ·rw[vy c4]at h ⊢;rw[show BV 4=16 from rfl];omega
 ·rw[vx c4]at h;exact absurd rfl h
def Y2{n:Int}(h:CD n=5):0<=n/\n<=127/\Ez n=(n+32) / 32:=by
 have h':=h;unfold CD at h;refine⟨?_,?_,by unfold Ez;rw[vy h']⟩
 all_goals
  by_cases c0:n<0∨n>127
  ·rw[vy c0]at h;cases h
  ·omega
def X9(n:Int):CD n=0∨CD n=5∨(CD n≠5/\CD n≠0/\0<BV (CD n)/\1<=CD n/\CD n<=4):=by
 unfold CD
 repeat' split
 all_goals first | exact wr rfl | exact ws (wr rfl) | exact ws (ws (by decide))
section
variable{s:St}
def St.fast_ok(h:SI s)(hM:s.made<1099511627775)(t n:Int):(s.fast t n=(s,wj)/\(BV (CD n)=0∨s.c.left (Fi s.own (t,CD n))=0))∨∃(a:Nat) (s':St),s.fast t n=(s',wh (a:Int))/\Gi s s' a n.toNat/\SI s'/\s'.own=s.own:=by
 unfold St.fast;by_cases h0:BV (CD n)=0
 ·rw[vy h0];exact wr ⟨rfl,wr h0⟩
 rw[vx h0];rcases h.hi.ci.take (Fi s.own (t,CD n)) with⟨e,e0⟩|⟨q,a,c',e1,e2,e3,e4,e5,e6,e7,e8⟩
 ·rw[e];exact wr ⟨rfl,ws e0⟩
 right;rw[e4];have hq:s.own (t,CD n)=wh (q:Int):=by
  unfold Fi at e1;cases ho:s.own (t,CD n) with
  | none=>rw[ho]at e1;simp only[Option.getD_none]at e1;omega
  | some p=>rw[ho]at e1;simp at e1;rw[e1]
 obtain⟨_,k2,_,_⟩:=h.own _ _ hq;simp only at k2;obtain⟨n1,n2,n3⟩:=Wd h0;obtain⟨s',b1,b2,b3,b4,b5⟩:=NT (own:=s.own) h.hi e6 e5 ⟨n1,n2⟩ (by rw[k2];omega) h.m0 hM s ⟨rfl,rfl⟩;refine⟨a,s',by simp only;rw[b1],b2,⟨b3,by rw[b2.made];have:=h.m0;omega,λx p hx=>?_,λx y p hx hy=>h.inj x y p (by rw[<-b4];exact hx) (by rw[<-b4];exact hy)⟩,b4⟩;rw[b4]at hx;rw[b5,e7];exact h.own x p hx
def Jb{f:Om}{p:Int}(h:(Dx f p).1<0):∀a∈FT,f a≠wh p:=by
 intro a ha e;unfold Dx at h;cases hf:FT.find? (λa=>decide (f a=wh p)) with
 | none=>exact absurd e (by simpa using zB.1 hf a ha)
 | some b=>
  rw[hf]at h;have hb:=List.mem_of_find?_eq_some hf;have:∀b∈FT,0<=b.1:=by decide
  have:=this b hb;simp only at h;omega
def Rb{f:Om}{p:Int}(h:∀a∈FT,f a≠wh p):(Dx f p).1<0:=by unfold Dx;rw[zB.2 λa ha=>by simpa using h a ha];decide
def UD{t k:Int}(ht:0<=t/\t<9)(hk:1<=k/\k<=4):(t,k)∈FT:=by
 have key:∀t:Fin 9,∀k:Fin 5,1<=k.val->((t.val:Int),(k.val:Int))∈FT:=by decide
 have:=key ⟨t.toNat,by omega⟩ ⟨k.toNat,by omega⟩ (by simp only;omega);simpa[show (t.toNat:Int)=t by omega,show (k.toNat:Int)=k by omega] using this
theorem Nf{k:Int}:∀(d p:Nat) {q:Nat},s.openAt k d p=wh q->(Dx s.own q).1<0/\BT s.c.ks q=k/\0<s.c.left q
 | 0,_,_,h=>by cases h
 | d+1,p,q,h=>by
  unfold St.openAt at h;split at h
  ·rename_i hc;cases h;exact hc
  ·exact Nf d (p+1) h
def U3(h:SI s)(np:Nat){k:Int}(h0:0<BV k):((s.openP np k).2=wj)∨∃(p:Nat) (s':St),s.openP np k=(s',wh (p:Int))/\SI s'/\(Dx s'.own p).1<0/\BT s'.c.ks p=k/\0<s'.c.left p/\(∀b,C0 s.c s'.c b)/\s'.made=s.made/\s'.own=s.own:=by
 unfold St.openP;cases ho:s.openAt k np 0 with
 | some p=>
  obtain⟨o1,o2,o3⟩:=Nf np 0 ho;exact ws ⟨p,s,rfl,h,o1,o2,o3,λb=>C0.refl _ _,rfl,rfl⟩
 | none=>
  simp only;cases hk:FM s.c.ks k with
  | none=>left;unfold Ce.carve;rw[hk];rfl
  | some p=>
   right;obtain⟨c1,c2,c3,c4,c5,c6⟩:=h.hi.ci.carve hk;have hka:∀q:Nat,BT (s.c.carve k).1.ks (q:Int)=if q=p then k else BT s.c.ks (q:Int):=λq=>by rw[c4];exact Mx q c6
   have hhi:HI (s.c.carve k).1 s.made:=by refine⟨c1,λb hb=>?_,λa b ser fs gs o1 o2=>h.hi.one a b ser fs gs ((c3 a).obj.1 o1) ((c3 b).obj.1 o2)⟩;rw[(c3 b).1]at hb;obtain⟨ser,fs,o,hl⟩:=h.hi.obj b hb;exact⟨ser,fs,(c3 b).obj.2 o,hl⟩
   refine⟨p,⟨(s.c.carve k).1,s.own,s.made⟩,by rw[c2];rfl,⟨hhi,h.m0,λa q ha=>?_,h.inj⟩,Rb λa ha e=>?_,?_,?_,c3,rfl,rfl⟩
   ·obtain⟨q0,q1,q2,q3⟩:=h.own a q ha;refine⟨q0,?_,q2,q3⟩;obtain⟨q,rfl⟩:=xU q0;simp only;rw[hka,vx,q1];rintro rfl;rw[c5]at q1;rw[<-q1]at q2;exact absurd q2 (by decide)
   ·obtain⟨q0,q1,q2,q3⟩:=h.own a p e;rw[c5]at q1;rw[<-q1]at q2;exact absurd q2 (by decide)
   ·simp only;rw[hka,vy rfl]
   ·simp only;have hkp:BT (s.c.carve k).1.ks (p:Int)=k:=by rw[hka,vy rfl]
    obtain⟨L,hL⟩:=c1.fr p (by rw[hkp];exact h0);rw[c1.left_eq (by rw[hkp];exact h0) hL];have hc0:0<BR k:=by rcases E1 k with⟨_,e,f⟩|⟨_,e,f⟩|⟨_,e,f⟩|⟨_,e,f⟩|⟨_,e,f⟩<;>rw[e]at h0<;>rw[f]<;>omega
    have:(0:Nat)∈L:=by
     refine (hL.mem 0).2 ⟨by rw[hkp];omega,?_⟩;rw[(c3 _).1];cases ht:s.c.tk (32*p+0*(BV (BT (s.c.carve k).1.ks (p:Int))).toNat) with
     | false=>rfl
     | true=>have:=(h.hi.ci.tk_kind ht).1;rw[show (32*p+0*(BV (BT (s.c.carve k).1.ks (p:Int))).toNat) / 32=p by omega]at this;exact absurd c5 this
    have:=List.length_pos_of_mem this;omega
def St.slow_ok(h:SI s)(hM:s.made<1099511627775)(np:Nat){nt:Int}(hnt:nt<=9)(t n:Int):(∃e,e≠0/\s.slow np nt t n=(s,0,e))∨∃(a:Nat) (s':St),s.slow np nt t n=(s',(a:Int),0)/\Gi s s' a n.toNat/\SI s':=by
 unfold St.slow;simp only;by_cases c1:CD n=0∨t<0∨nt<=t
 ·rw[vy c1];exact wr ⟨4,by decide,rfl⟩
 rw[vx c1];by_cases c2:CD n=5
 ·rw[vy c2];obtain⟨n1,n2,n3⟩:=Y2 c2;cases hp:Fy s.c.ks (Ez n) with
  | none=>
   left;refine⟨10,by decide,?_⟩;unfold Ce.large;rw[hp]
  | some p=>
   right;obtain⟨c',l1,l2,l3,l4⟩:=h.hi.ci.large hp;obtain⟨s',b1,b2,b3,b4,b5⟩:=NT (own:=s.own) h.hi l3 l2 ⟨n1,n2⟩ (by omega) h.m0 hM s ⟨rfl,rfl⟩;refine⟨32*p,s',by rw[l1];simp only;rw[b1],b2,⟨b3,by rw[b2.made];have:=h.m0;omega,λx q hx=>?_,λx y p hx hy=>h.inj x y p (by rw[<-b4];exact hx) (by rw[<-b4];exact hy)⟩⟩;rw[b4]at hx;obtain⟨q0,q1,q2,q3⟩:=h.own x q hx;obtain⟨q,rfl⟩:=xU q0
   refine⟨q0,?_,q2,q3⟩;rw[b5,l4,q1];intro e;rw[q1]at e;rw[e]at q2;exact absurd q2 (by decide)
 rw[vx c2];have hk:0<BV (CD n)/\1<=CD n/\CD n<=4:=by rcases X9 n with g | g | g<;>omega
 rcases St.fast_ok h hM t n with⟨e,_⟩|⟨a,s',e,e1,e2,e3⟩
 rotate_left
 ·rw[e];exact ws ⟨a,s',rfl,e1,e2⟩
 rw[e];simp only;rcases U3 h np hk.1 with g|⟨p,s',g1,g2,g3,g4,g5,g6,g7,g8⟩
 ·left;refine⟨10,by decide,?_⟩;generalize s.openP np (CD n)=z at g;obtain⟨z1,z2⟩:=z;simp only at g;subst g;rfl
 right;rw[g1];simp only;have hpl:p<s'.c.ks.length:=HG (by rw[g4];omega);have hnp:=g2.hi.ci.np;have hmay:M3 nt s'.own t (CD n) p:=⟨by omega,by omega,by omega,by omega,by omega,g3⟩;rw[vy hmay];have hs2:SI ({ s' with own:=Lf s'.own (t,CD n) p }:St):=by
  refine⟨g2.hi,g2.m0,λa q ha=>?_,λa b q ha hb=>?_⟩
  ·simp only[Lf]at ha;by_cases e:a=(t,CD n)
   ·rw[vy e]at ha;cases ha;subst e;exact⟨by omega,g4,hk.1,UD (by omega) ⟨hk.2.1,hk.2.2⟩⟩
   ·rw[vx e]at ha;exact g2.own a q ha
  ·simp only[Lf]at ha hb;by_cases e:a=(t,CD n)
   ·by_cases e':b=(t,CD n)
    ·rw[e,e']
    ·rw[vy e]at ha;rw[vx e']at hb;cases ha;exact absurd hb (Jb g3 b (g2.own b p hb).2.2.2)
   ·by_cases e':b=(t,CD n)
    ·rw[vx e]at ha;rw[vy e']at hb;cases hb;exact absurd ha (Jb g3 a (g2.own a p ha).2.2.2)
    ·rw[vx e]at ha;rw[vx e']at hb;exact g2.inj a b q ha hb
 rcases St.fast_ok hs2 (by simp only;omega) t n with⟨z1,z2⟩|⟨a,s2,f1,f2,f3,f4⟩
 ·exfalso;rcases z2 with z|z
  ·omega
  ·unfold Fi at z;simp only[Lf,vu,j5]at z;omega
 ·refine⟨a,s2,by rw[f1];rfl,⟨?_,?_,λb hb=>(g6 b).trans (f2.kept b hb),?_⟩,f3⟩
  ·rw[<-(g6 a).1];exact f2.off
  ·have:=f2.obj;simp only at this;rw[g7]at this;exact this
  ·have:=f2.made;simp only at this;rw[g7]at this;exact this
end
section
variable{s:St}
def HI.kept{c c':Ce}{made:Int}(h:HI c made)(hc:CI c')(hk:∀b,C0 c c' b):HI c' made:=by refine⟨hc,λb hb=>?_,λa b ser fs gs o1 o2=>h.one a b ser fs gs ((hk a).obj.1 o1) ((hk b).obj.1 o2)⟩;rw[(hk b).1]at hb;obtain⟨ser,fs,o,hl⟩:=h.obj b hb;exact⟨ser,fs,(hk b).obj.2 o,hl⟩
def SI.drop(h:SI s){p:Int}(hp:∀a q,s.own a=wh q->q≠p):SI { s with c:=(s.c.drop p).1 }/\∀b,C0 s.c (s.c.drop p).1 b:=by obtain⟨d1,d2,d3⟩:=h.hi.ci.drop p;refine⟨⟨h.hi.kept d1 d2,h.m0,λa q ha=>?_,h.inj⟩,d2⟩;obtain⟨q0,q1,q2,q3⟩:=h.own a q ha;obtain⟨q,rfl⟩:=xU q0;exact⟨q0,by simp only;rw[d3 q (hp a q ha)];exact q1,q2,q3⟩
theorem LA:∀(l:List Int) (s:St),SI s->(∀a q,s.own a=wh q->q∉l)->SI (s.dropAll l)/\(∀b,C0 s.c (s.dropAll l).c b)/\(s.dropAll l).made=s.made/\(s.dropAll l).own=s.own
 | [],s,h,_=>⟨h,λb=>C0.refl _ _,rfl,rfl⟩
 | p::l,s,h,hl=>by
  obtain⟨d1,d2⟩:=h.drop (p:=p) λa q ha e=>hl a q ha (by rw[e];simp);obtain⟨e1,e2,e3,e4⟩:=LA l _ d1 λa q ha hq=>hl a q ha (by simp[hq]);exact⟨e1,λb=>(d2 b).trans (e2 b),e3,e4⟩
def St.quit_ok(h:SI s)(t:Int):SI (s.quit t)/\(∀b,C0 s.c (s.quit t).c b)/\(s.quit t).made=s.made:=by
 have h1:SI ({ s with own:=Ja s.own t }:St):=by
  refine⟨h.hi,h.m0,λa q ha=>?_,λa b p ha hb=>?_⟩
  ·simp only[Ja]at ha;split at ha
   ·cases ha
   ·exact h.own a q ha
  ·simp only[Ja]at ha hb;split at ha
   ·cases ha
   ·split at hb
    ·cases hb
    ·exact h.inj a b p ha hb
 obtain⟨d1,d2,d3,_⟩:=LA ((Fz s.own t).mergeSort λx y=>decide (x<=y)) _ h1 λa q ha hq=>by
  rw[List.mem_mergeSort]at hq;simp only[Ja]at ha;split at ha
  ·cases ha
  ·rename_i hne;unfold Fz at hq;obtain⟨k,_,hk⟩:=List.mem_filterMap.1 hq;exact hne (by rw[h.inj a (t,k) q ha hk])
 exact⟨d1,d2,d3⟩
def St.trim_ok(h:SI s)(p:Int):SI (s.trim p)/\(∀b,C0 s.c (s.trim p).c b)/\(s.trim p).made=s.made/\(s.trim p).own=s.own:=by
 unfold St.trim;split
 ·rename_i ho;obtain⟨d1,d2⟩:=h.drop (p:=p) λa q ha e=>Jb ho a (h.own a q ha).2.2.2 (by rw[ha,e]);exact⟨d1,d2,rfl,rfl⟩
 ·exact⟨h,λb=>C0.refl _ _,rfl,rfl⟩
def St.give_ok(h:SI s){a:Nat}(ha:s.c.tk a=wk):(s.c.give (a:Int)).2=wk/\SI { s with c:=(s.c.give (a:Int)).1 }/\(s.c.give (a:Int)).1.tk a=wl/\∀b,b≠a->C0 s.c (s.c.give (a:Int)).1 b:=by
 obtain⟨g1,g2,g3,g4,g5⟩:=h.hi.ci.give ha;refine⟨g1,⟨⟨g2,λb hb=>?_,λx y ser fs gs o1 o2=>?_⟩,h.m0,λx q hx=>?_,h.inj⟩,g3,g4⟩
 ·by_cases e:b=a
  ·subst e;simp only at hb;rw[g3]at hb;cases hb
  ·simp only at hb;rw[(g4 b e).1]at hb;obtain⟨ser,fs,o,hl⟩:=h.hi.obj b hb;exact⟨ser,fs,(g4 b e).obj.2 o,hl⟩
 ·have hx:x≠a:=by rintro rfl;have:=o1.tk;simp only at this;rw[g3]at this;cases this
  have hy:y≠a:=by rintro rfl;have:=o2.tk;simp only at this;rw[g3]at this;cases this
  exact h.hi.one x y ser fs gs ((g4 x hx).obj.1 o1) ((g4 y hy).obj.1 o2)
 ·obtain⟨q0,q1,q2,q3⟩:=h.own x q hx;obtain⟨q,rfl⟩:=xU q0;exact⟨q0,by simp only;rw[g5 q (by rw[q1];exact q2)];exact q1,q2,q3⟩
def St.set_ok(h:SI s){a:Nat}{ser:Int}{fs:List V2}(o:Cw s.c a ser fs){i:Int}{v:V2}(hv:Dp v=wk)(hi:0<=i/\i<fs.length):
  (s.set (a:Int) i v).2=wk/\Cw (s.set (a:Int) i v).1.c a ser (fs.set i.toNat v)/\(∀b,b≠a->C0 s.c (s.set (a:Int) i v).1.c b)/\(s.set (a:Int) i v).1.c.tk=s.c.tk/\SI (s.set (a:Int) i v).1/\(s.set (a:Int) i v).1.made=s.made:=by
 have hc:=h.hi.ci;have hn:=hc.small_n;have hr:=hc.rsz_pos o.tk;have hl:=o.len;obtain⟨i,rfl⟩:=xU hi.1;have hx:C7 (C7 ((a:Int)+1)+i)=((a+1+i:Nat):Int):=by rw[E9 (n:=(a:Int)+1) (by omega),E9 (by omega)];omega
 have hst:=hc.store_in (x:=a+1+i) (w:=ER v) o.tk (by omega) (by omega);have hci:=hc.stored (x:=a+1+i) (w:=ER v) o.tk (by omega) (by omega);have hset:s.set (a:Int) (i:Int) v=({ s with c:={ s.c with m:=DN s.c.m ((a+1+i:Nat):Int) (ER v) } },wk):=by unfold St.set;rw[(St.read_obj hc o).1,vy ⟨hv,by omega,by omega⟩,hx,hst]
 have hld:∀y:Nat,y<s.c.m.length->Cn (DN s.c.m ((a+1+i:Nat):Int) (ER v)) (y:Int)=if y=a+1+i then ER v else Cn s.c.m (y:Int):=λy hy=>by
  rw[GN (by omega) (by omega) (by omega) (by omega)];by_cases e:y=a+1+i
  ·rw[vy (by omega),vy e]
  ·rw[vx (by omega),vx e]
 have ho:Cw { s.c with m:=DN s.c.m ((a+1+i:Nat):Int) (ER v) } a ser (fs.set i v):=by
  refine⟨o.tk,?_,o.ser,by simp only[m8];exact o.len,λj hj=>?_⟩
  ·simp only[m8];rw[hld a (by omega),vx (by omega)];exact o.head
  ·simp only[m8]at hj;simp only;rw[hld _ (by omega),d8];by_cases e:i=j
   ·subst e;rw[vy rfl,vy rfl];exact⟨hv,rfl⟩
   ·rw[vx e,vx (by omega)];exact o.fld j hj
 have hk:∀b,b≠a->C0 s.c { s.c with m:=DN s.c.m ((a+1+i:Nat):Int) (ER v) } b:=λb hb=>⟨rfl,λtb=>⟨rfl,λx x1 x2=>by
  have:=(hc.rsz_pos tb).2;simp only;rw[hld x (by omega),vx];rintro rfl;exact hb (hc.apart tb o.tk x1 x2 (by omega) (by omega))⟩⟩
 rw[hset];refine⟨rfl,by simpa using ho,hk,rfl,⟨⟨hci,λb hb=>?_,λx y se f g o1 o2=>?_⟩,h.m0,h.own,h.inj⟩,rfl⟩
 ·by_cases e:b=a
  ·subst e;exact⟨_,_,ho,h.hi.ser_lt o⟩
  ·obtain⟨se,f,o',hl'⟩:=h.hi.obj b hb;exact⟨se,f,(hk b e).obj.2 o',hl'⟩
 ·by_cases e:x=a
  ·by_cases e':y=a
   ·rw[e,e']
   ·subst e;obtain⟨rfl,rfl⟩:=o1.same ho;exact h.hi.one _ _ _ _ _ o ((hk y e').obj.1 o2)
  ·by_cases e':y=a
   ·subst e';obtain⟨rfl,rfl⟩:=o2.same ho;exact h.hi.one _ _ _ _ _ ((hk x e).obj.1 o1) o
   ·exact h.hi.one x y se f g ((hk x e).obj.1 o1) ((hk y e').obj.1 o2)
def St.set_none{x i:Int}{v:V2}(h:¬(Dp v=wk/\0<=i/\i<s.fields x)):s.set x i v=(s,wl):=by unfold St.set;rw[vx h]
end
def Ce.new_ok{n:Int}(hn:n<=64):CI (Ce.new n)/\∀a,(Ce.new n).tk a=wl:=by
 have hk:∀p:Nat,BT (List.replicate n.toNat (0:Int)) (p:Int)=0∨BT (List.replicate n.toNat (0:Int)) (p:Int) = -1:=λp=>by
  by_cases c:p<n.toNat
  ·left;rw[FP (by simpa using c)];simp
  ·right;exact Eg (by simp;omega)
 refine⟨⟨by simp[Ce.new];omega,by simp[Ce.new],by simp[Ce.new],λa ha=>by simp[Ce.new]at ha,λp hp=>?_,λp hp=>?_⟩,λa=>rfl⟩
 ·rcases hk p with g|g<;>simp only[Ce.new]at hp<;>rw[g]at hp<;>cases hp
 ·rcases hk p with g|g<;>simp only[Ce.new]at hp<;>rw[g]at hp<;>exact absurd hp (by decide)
def St.new_ok{n:Int}(hn:n<=64):SI ⟨Ce.new n,λ_=>wj,0⟩:=by
 obtain⟨h1,h2⟩:=Ce.new_ok hn;refine⟨⟨h1,λa ha=>?_,λa b ser fs gs o=>?_⟩,vj 0,λa p h=>(by cases h),λa b p h=>(by cases h)⟩
 ·simp only at ha;rw[h2]at ha;cases ha
 ·have:=o.tk;rw[h2]at this;cases this
def SS(d:Int)(s s':St):Prop:=SI s->s.made+d<=1099511627775->SI s'/\s.made<=s'.made/\s'.made<=s.made+d
def SS.refl(s:St){d:Int}(h:0<=d:=by decide):SS d s s:=λa _=>⟨a,by omega,by omega⟩
def SS.of{s s':St}(e:s'=s){d:Int}(h:0<=d:=by decide):SS d s s':=by subst e;exact SS.refl _ h
def SS.trans{d d':Int}{s s' s'':St}(h:SS d s s')(g:SS d' s' s'')(h0:0<=d:=by decide)(h1:0<=d':=by decide):SS (d+d') s s'':=λa b=>by
 obtain⟨p1,p2,p3⟩:=h a (by omega);obtain⟨q1,q2,q3⟩:=g p1 (by omega);exact⟨q1,by omega,by omega⟩
def SS.then0{d:Int}{s s' s'':St}(h:SS d s s')(g:SS 0 s' s'')(h0:0<=d:=by decide):SS d s s'':=by have:=h.trans g h0;rwa [Int.add_zero]at this
def SS.mk0{s s':St}(h:SI s->SI s'/\s'.made=s.made):SS 0 s s':=λa _=>by
 obtain⟨p,q⟩:=h a;exact⟨p,by omega,by omega⟩
def Wg(s:St)(a:Int):SS 0 s { s with c:=(s.c.give a).1 }:=SS.mk0 λh=>by
 by_cases hi:s.c.isIt a=wk
 ·obtain⟨a,rfl,ha⟩:=(KW h.hi.ci).1 hi;exact⟨(St.give_ok h ha).2.1,rfl⟩
 ·have:s.c.give a=(s.c,wl):=by unfold Ce.give;rw[vx hi]
  rw[this];exact⟨h,rfl⟩
def XZ(s:St)(a i:Int)(v:V2):SS 0 s (s.set a i v).1:=SS.mk0 λh=>by
 by_cases hc:Dp v=wk/\0<=i/\i<s.fields a
 ·by_cases hi:s.c.isIt a=wk
  ·obtain⟨a,rfl,ha⟩:=(KW h.hi.ci).1 hi;obtain⟨ser,fs,o,_⟩:=h.hi.obj a ha;have:=(St.read_obj h.hi.ci o).1;obtain⟨_,_,_,_,h5,h6⟩:=St.set_ok h o hc.1 (i:=i) (by omega);exact⟨h5,h6⟩
  ·exfalso;unfold St.fields St.read at hc;rw[vx hi]at hc;simp only at hc;omega
 ·rw[St.set_none hc];exact⟨h,rfl⟩
section
variable(cf:Cf)
theorem Gj:∀(d:Nat) (c:Co),(c.advance cf d).s=c.s
 | 0,_=>rfl
 | d+1,c=>by
  unfold Co.advance
  repeat' split
  all_goals first | rfl | (rw[Gj];done) | (rw[Gj];rfl)
def H7(c:Co):(c.tUnit cf).1.s=c.s:=by
 unfold Co.tUnit
 repeat' split
 all_goals first | rfl | (unfold Co.entry;simp only;split<;>rfl) | (split<;>rfl)
def Pq(c:Co)(a:Int):SS 0 c.s (c.sweepOne a).s:=by
 unfold Co.sweepOne;split
 ·exact SS.refl _
 ·exact Wg _ _
theorem KJ:∀(l:List Int) (c:Co),SS 0 c.s (c.sweepAll l).s
 | [],c=>SS.refl _
 | a::l,c=>(Pq c a).then0 (KJ l _)
def US(c:Co):SS 0 c.s (c.wUnit cf).1.s:=by
 unfold Co.wUnit;split
 ·exact SS.refl _
 ·exact (KJ _ c).then0 (SS.mk0 λh=>⟨(St.trim_ok h _).1,(St.trim_ok h _).2.2.1⟩)
def W9(c:Co):SS 0 c.s (c.unit cf).1.s:=by
 have h1:∀(r:Co × Bool),SS 0 c.s r.1.s->SS 0 c.s (if r.2 then ({ r.1 with units:=C7 (r.1.units+1) }:Co) else r.1).s:=λr h=>by split<;>exact h
 unfold Co.unit;refine h1 _ ?_;split
 ·have ht:=H7 cf c;generalize c.tUnit cf=z at ht;obtain⟨d,b⟩:=z;simp only at ht;cases b with
  | true=>exact SS.of ht
  | false=>simp only;unfold Co.adv;rw[Gj];exact SS.of ht
 ·split
  ·have hw:=US cf c;generalize c.wUnit cf=z at hw;obtain⟨d,b⟩:=z;simp only at hw ⊢;split<;>exact hw
  ·exact SS.refl _
def NS(c:Co):(c.beginC cf).1.s=c.s:=by
 unfold Co.beginC Co.adv;split
 ·simp only;rw[Gj];rfl
 ·rfl
def So(c:Co)(t:Int):SS 0 c.s (c.detach cf t).s:=by
 unfold Co.detach Co.adv;split
 ·simp only;rw[Gj];exact SS.mk0 λh=>⟨(St.quit_ok h t).1,(St.quit_ok h t).2.2⟩
 ·exact SS.refl _
def OD(c:Co)(t:Int):(c.poll cf t).s=c.s:=by
 unfold Co.poll Co.adv;split
 ·simp only;rw[Gj];split
  ·rfl
  ·split<;>rfl
 ·rfl
def JL(c:Co)(t:Int)(v:V2):(c.push t v).1.s=c.s:=by unfold Co.push;split<;>rfl
def Re(c:Co)(t:Int):(c.pop t).1.s=c.s:=by
 unfold Co.pop;split
 ·split<;>rfl
 ·rfl
def Kg(c:Co)(a:Int):(c.color cf a).s=c.s:=by
 unfold Co.color;split
 ·rfl
 ·split<;>rfl
def UT(c:Co)(t a i:Int)(v:V2):SS 0 c.s (c.write t a i v).1.s:=by
 unfold Co.write;split
 ·exact XZ _ _ _ _
 ·exact SS.refl _
end
def Fl(s:St)(a j b:Nat):Prop:=∃ser fs,Cw s.c a ser fs/\fs[j]?=wh (2,(b:Int))
structure Ep(S:Nat->Prop)(g g':Gy):Prop where
 up:∀a,g.mks a=wk->g'.mks a=wk
 new:∀a,g'.mks a=wk->g.mks a=wk∨(S a/\a<2048/\(g'.over=wk∨((a:Int),0)∈g'.l))
 ov:g.over=wk->g'.over=wk
 li:∀e∈g.l,e∈g'.l
 ln:∀e∈g'.l,e∈g.l∨∃a:Nat,e=((a:Int),0)/\g'.mks a=wk
def Ep.refl(S:Nat->Prop)(g:Gy):Ep S g g:=⟨λ_ h=>h,λ_ h=>wr h,λh=>h,λ_ h=>h,λ_ h=>wr h⟩
def Ep.trans{S:Nat->Prop}{g g' g'':Gy}(h:Ep S g g')(k:Ep S g' g''):Ep S g g'':=by
 refine⟨λa x=>k.up a (h.up a x),λa x=>?_,λx=>k.ov (h.ov x),λe x=>k.li e (h.li e x),λe x=>?_⟩
 ·rcases k.new a x with y|y
  ·rcases h.new a y with z|⟨z1,z2,z3⟩
   ·exact wr z
   ·exact ws ⟨z1,z2,z3.imp k.ov (k.li _)⟩
  ·exact ws y
 ·rcases k.ln e x with y|y
  ·rcases h.ln e y with z|⟨a,z1,z2⟩
   ·exact wr z
   ·exact ws ⟨a,z1,k.up a z2⟩
  ·exact ws y
def Fm(g:Gy){a:Nat}(h:a<2048):g.is (a:Int)=g.mks a:=by unfold Gy.is Fu;rw[ur (show (0:Int)<=(a:Int) by omega),ur (show (a:Int)<2048 by omega)];rfl
def N3(g:Gy){a:Int}(h:g.is a=wk):∃n:Nat,a=n/\n<2048/\g.mks n=wk:=by unfold Gy.is Fu at h;simp only[zY,zV]at h;exact⟨a.toNat,by omega,by omega,h.2⟩
section
variable(room:Int)
def GH(S:Nat->Prop)(g:Gy){a:Int}(hS:∀n:Nat,a=n->S n):Ep S g (g.shade room a):=by
 unfold Gy.shade;split
 rotate_left
 ·exact Ep.refl S g
 rename_i hc;obtain⟨h0,h1,h2⟩:=hc;obtain⟨n,rfl⟩:=xU h0;have hb:g.black (n:Int)={ g with mks:=C9 g.mks n wk }:=by unfold Gy.black;rw[vy ⟨h0,h1⟩,zK]
 rw[hb];have hm:∀b,(C9 g.mks n wk) b=wk↔b=n∨g.mks b=wk:=λb=>by
  unfold C9;by_cases e:b=n
  ·rw[vy e];simp[e]
  ·rw[vx e];simp[e]
 unfold Gy.push;simp only;split
 ·refine⟨λb x=>(hm b).2 (ws x),λb x=>?_,λ_=>rfl,λe x=>x,λe x=>wr x⟩;rcases (hm b).1 x with rfl|y
  ·exact ws ⟨hS _ rfl,by omega,wr rfl⟩
  ·exact wr y
 ·refine⟨λb x=>(hm b).2 (ws x),λb x=>?_,λx=>x,λe x=>by simp[x],λe x=>?_⟩
  ·rcases (hm b).1 x with rfl|y
   ·exact ws ⟨hS _ rfl,by omega,ws (by simp)⟩
   ·exact wr y
  ·rcases n7.1 x with y|y
   ·exact wr y
   ·simp only[zF]at y;subst y;exact ws ⟨n,rfl,(hm n).2 (wr rfl)⟩
def Jj(g:Gy){n:Nat}(h:n<2048):(g.shade room (n:Int)).mks n=wk:=by
 by_cases hm:g.mks n=wk
 ·exact (GH room (λ_=>True) g λ_ _=>trivial).up n hm
 ·unfold Gy.shade;rw[vy ⟨by omega,by omega,by rw[Fm g h];simpa using hm⟩];have hb:g.black (n:Int)={ g with mks:=C9 g.mks n wk }:=by unfold Gy.black;rw[vy ⟨by omega,by omega⟩,zK]
  rw[hb];unfold Gy.push;split<;>simp[C9]
theorem Fs(S:Nat->Prop):∀(l:List Int) (g:Gy),(∀n:Nat,(n:Int)∈l->S n)->Ep S g (g.shadeAll room l)
 | [],g,_=>Ep.refl S g
 | a::l,g,h=>(GH room S g λn e=>h n (by simp[e])).trans (Fs S l _ λn x=>h n (by simp[x]))
theorem I3:∀(l:List Int) (g:Gy) (n:Nat),(n:Int)∈l->n<2048->(g.shadeAll room l).mks n=wk
 | [],g,n,h,_=>by cases h
 | a::l,g,n,h,hn=>by
  rw[Gy.shadeAll];by_cases e:a=(n:Int)
  ·subst e;exact (Fs room (λ_=>True) l _ λ_ _=>trivial).up n (Jj room g hn)
  ·rcases ux.1 h with rfl|x
   ·exact absurd rfl e
   ·exact I3 l _ n x hn
theorem FO(cf:Cf)(S:Nat->Prop){s:St}{a:Int}:∀(d:Nat) (i:Int) (g:Gy),(∀(j:Int) (n:Nat),i<=j->j<i+d->(s.get a j).1=(2,(n:Int))->S n)->Ep S g (thru cf s a d i g)
 | 0,_,g,_=>Ep.refl S g
 | d+1,i,g,h=>by
  rw[thru];by_cases e:(s.get a i).1.1=2
  ·rw[vy e];exact (GH cf.stack S g λn en=>h i n (by omega) (by omega) (Prod.ext e en)).trans (FO cf S d (i+1) _ λj n a1 a2=>h j n (by omega) (by omega))
  ·rw[vx e];exact FO cf S d (i+1) _ λj n a1 a2=>h j n (by omega) (by omega)
theorem M9(cf:Cf){s:St}{a:Int}:∀(d:Nat) (i:Int) (g:Gy) (j:Int) (n:Nat),i<=j->j<i+d->(s.get a j).1=(2,(n:Int))->n<2048->(thru cf s a d i g).mks n=wk
 | 0,i,g,j,n,a1,a2,_,_=>by omega
 | d+1,i,g,j,n,a1,a2,hg,hn=>by
  rw[thru];by_cases e:j=i
  ·subst e;rw[hg,vy rfl];have:=Jj cf.stack g hn;generalize g.shade cf.stack (n:Int)=g1 at this;exact (FO cf (λ_=>True) d (j+1) g1 λ_ _ _ _ _=>trivial).up n this
  ·exact M9 cf d (i+1) _ j n (by omega) (by omega) hg hn
theorem Hx(cf:Cf)(S:Nat->Prop){s:St}:∀(l:List Int) (g:Gy),(∀a∈l,∀(j:Int) (n:Nat),0<=j->(s.get a j).1=(2,(n:Int))->(lookAll cf s l g).is a=wk->S n)->Ep S g (lookAll cf s l g)
 | [],g,_=>Ep.refl S g
 | a::l,g,h=>by
  rw[lookAll];rw[lookAll]at h;have h2:=Hx cf (λ_=>True) (s:=s) l (if g.is a then thru cf s a (s.fields a).toNat 0 g else g) λ_ _ _ _ _ _ _=>trivial;have h1:Ep S g (if g.is a then thru cf s a (s.fields a).toNat 0 g else g):=by
   by_cases e:g.is a=wk
   ·rw[vy e];rw[vy e]at h h2;refine FO cf S _ 0 g λj n a1 a2 hg=>h a (by simp) j n a1 hg ?_;obtain⟨m,rfl,hm,hk⟩:=N3 g e;rw[Fm _ hm];exact h2.up m ((FO cf (λ_=>True) _ 0 g λ_ _ _ _ _=>trivial).up m hk)
   ·rw[vx e];exact Ep.refl S g
  exact h1.trans (Hx cf S l _ λb hb j n a1 hg hi=>h b (by simp[hb]) j n a1 hg hi)
theorem LJ(cf:Cf){s:St}:∀(l:List Int) (g:Gy) (a:Int),a∈l->g.is a=wk->∀(j:Int) (n:Nat),0<=j->j<s.fields a->(s.get a j).1=(2,(n:Int))->n<2048->(lookAll cf s l g).mks n=wk
 | [],g,a,h,_,_,_,_,_,_,_=>by cases h
 | b::l,g,a,h,hi,j,n,j0,j1,hg,hn=>by
  rw[lookAll];by_cases e:b=a
  ·subst e;rw[vy hi];exact (Hx cf (λ_=>True) l _ λ_ _ _ _ _ _ _=>trivial).up n (M9 cf _ 0 g j n j0 (by omega) hg hn)
  ·rcases ux.1 h with rfl|x
   ·exact absurd rfl e
   ·refine LJ cf l _ a x ?_ j n j0 j1 hg hn;split
    ·obtain⟨m,rfl,hm,hk⟩:=N3 g hi;rw[Fm _ hm];exact (FO cf (λ_=>True) _ 0 g λ_ _ _ _ _=>trivial).up m hk
    ·exact hi
end
def Pd(c:Co)(a j:Nat):Prop:=c.g.over=wk∨(∃i:Int,((a:Int),i)∈c.g.l/\i<=j)∨(c.tp ≠ -1/\c.tp<=((a / 32:Nat):Int))
structure PC(c:Co)(Q:Nat->Prop):Prop where
 m1:∀a,c.g.mks a=wk->Q a
 bf:∀l∈c.b,∀b:Nat,(b:Int)∈l->Q b
 pd:∀a j b,c.g.mks a=wk->Fl c.s a j b->Pd c a j->Q b
 cl:∀a j b,Q a->c.g.mks a=wl->Fl c.s a j b->Q b
def PC.shaded{S Q:Nat->Prop}{c c':Co}(h:PC c' Q)(hg:Ep S c.g c'.g)(hs:c'.s=c.s)(hb:∀l∈c.b,∀b:Nat,(b:Int)∈l->Q b)(ht:c'.tp=c.tp):PC c Q:=by
 refine⟨λa x=>h.m1 a (hg.up a x),hb,λa j b x f p=>h.pd a j b (hg.up a x) (by rw[hs];exact f) ?_,λa j b q x f=>?_⟩
 ·rcases p with p|⟨i,p,q⟩|p
  ·exact wr (hg.ov p)
  ·exact ws (wr ⟨i,hg.li _ p,q⟩)
  ·exact ws (ws (by rw[ht];exact p))
 ·by_cases e:c'.g.mks a=wk
  ·rcases hg.new a e with y|⟨_,_,y⟩
   ·rw[x]at y;cases y
   ·refine h.pd a j b e (by rw[hs];exact f) ?_;rcases y with y|y
    ·exact wr y
    ·exact ws (wr ⟨0,y,by omega⟩)
  ·exact h.cl a j b q (by simpa using e) (by rw[hs];exact f)
def CW{r:Rg}{t:Int}:r.live t=wk↔0<=t/\t<r.l.length/\(r.l.getD t.toNat (wl,0)).1=wk:=by unfold Rg.live;simp only[zY,zV];exact⟨λh=>⟨h.1.1,h.1.2,h.2⟩,λh=>⟨⟨h.1,h.2.1⟩,h.2.2⟩⟩
def O5{r:Rg}{t:Int}(h:r.live t=wk):r.ofT t=(r.l.getD t.toNat (wl,0)).2:=by unfold Rg.ofT;rw[vy h]
def El{α : Type}{l:List α}{i j:Nat}{x d : α}:(l.set i x).getD j d=if i=j/\i<l.length then x else l.getD j d:=by
 rw[xF,zO,xF];by_cases e:i=j
 ·subst e;by_cases h:i<l.length
  ·simp[h]
  ·simp[h]
 ·simp[e]
def HL{α : Type}{l:List α}{i:Nat}{x y : α}(h:y∈l.set i x):y=x∨y∈l:=by
 rcases xO h with h|h
 ·exact ws h
 ·exact wr h
def MN{r:Rg}(h:r.agreed=wk){t:Int}(ht:r.live t=wk):r.ep<=r.ofT t:=by
 obtain⟨h0,h1,h2⟩:=CW.1 ht;rw[O5 ht];unfold Rg.agreed at h;have hm:r.l.getD t.toNat (wl,0)∈r.l:=by rw[DC (by omega)];exact d7 _
 have:=zZ.1 h _ hm;rw[h2]at this;simp only[Bool.true_and,zJ,xY]at this;omega
def FB{r:Rg}{t:Int}{m:Bool × Int}(h0:0<=t)(h1:t<r.l.length)(u:Int):({ r with l:=r.l.set t.toNat m }:Rg).live u=if u=t then m.1 else r.live u:=by
 unfold Rg.live;simp only[m8,El];by_cases e:u=t
 ·subst e;rw[vy rfl,vy ⟨rfl,by omega⟩,ur h0,ur h1];simp
 ·rw[vx e];by_cases e2:0<=u
  ·rw[vx (by omega)]
  ·simp[e2]
def IC{r:Rg}{t:Int}{m:Bool × Int}(h0:0<=t)(h1:t<r.l.length)(u:Int):({ r with l:=r.l.set t.toNat m }:Rg).ofT u=if u=t then (if m.1 then m.2 else -1) else r.ofT u:=by
 unfold Rg.ofT;rw[FB h0 h1 u];simp only[El];by_cases e:u=t
 ·subst e;rw[vy rfl,vy rfl,vy (show u.toNat=u.toNat/\u.toNat<r.l.length from⟨rfl,by omega⟩)]
 ·rw[vx e,vx e];by_cases hl:r.live u=wk
  ·rw[vy hl,vy hl];obtain⟨u0,_,_⟩:=CW.1 hl;rw[vx (by omega)]
  ·rw[vx hl,vx hl]
structure NI(c:Co)(N:Nat->Prop):Prop where
 m1:∀a,c.g.mks a=wk->N a
 bf:∀l∈c.b,∀b:Nat,(b:Int)∈l->N b
 rt:∀l∈c.th,∀b:Nat,(2,(b:Int))∈l->N b
 gl:∀n:Nat,c.global=n->N n
 cl:∀a j b,N a->Fl c.s a j b->N b
def Fl.same{s s':St}(h:∀b,C0 s.c s'.c b){a j b:Nat}:Fl s' a j b↔Fl s a j b:=by
 constructor
 ·rintro⟨ser,fs,o,e⟩;exact⟨ser,fs,(h a).obj.1 o,e⟩
 ·rintro⟨ser,fs,o,e⟩;exact⟨ser,fs,(h a).obj.2 o,e⟩
def J8{s:St}(h:SI s){x i:Int}{n:Nat}(hg:(s.get x i).1=(2,(n:Int)))(hi:0<=i):∃a:Nat,x=a/\s.c.tk a=wk/\Fl s a i.toNat n/\n<2048/\i<s.fields x/\(s.get x i).2=wk:=by
 by_cases ht:s.c.isIt x=wk
 ·obtain⟨a,rfl,ha⟩:=(KW h.hi.ci).1 ht;obtain⟨ser,fs,o,_⟩:=h.hi.obj a ha;have e:=St.get_obj h.hi.ci o i;rw[vy hi]at e;cases hf:fs[i.toNat]? with
  | none=>rw[hf]at e;rw[e]at hg;simp at hg
  | some v=>
   rw[hf]at e;rw[e]at hg ⊢;simp only at hg;subst hg;have hl:i.toNat<fs.length:=by apply xI;intro hc;rw[yG (by omega)]at hf;cases hf
   refine⟨a,rfl,ha,⟨ser,fs,o,hf⟩,?_,?_,rfl⟩
   ·have:=(o.fld i.toNat hl).1;have e2:fs[i.toNat]=(2,(n:Int)):=by rw[xS hl]at hf;exact p6 hf
    rw[e2]at this;have:=Hd (by simpa[Dp] using this);omega
   ·rw[(St.read_obj h.hi.ci o).1];omega
 ·unfold St.get St.fields St.read at hg;rw[vx ht,vx (by simp only;omega)]at hg;simp at hg
def J6{s:St}(h:SI s){a j b:Nat}(hf:Fl s a j b):(s.get (a:Int) (j:Int)).1=(2,(b:Int))/\(j:Int)<s.fields (a:Int)/\s.c.tk a=wk/\b<2048:=by
 obtain⟨ser,fs,o,e⟩:=hf;have hl:j<fs.length:=by apply xI;intro hc;rw[yG (by omega)]at e;cases e
 refine⟨?_,by rw[(St.read_obj h.hi.ci o).1];omega,o.tk,?_⟩
 ·have:=St.get_obj h.hi.ci o (j:Int);rw[vy (by omega),zK,e]at this;rw[this]
 ·have:=(o.fld j hl).1;have e2:fs[j]=(2,(b:Int)):=by rw[xS hl]at e;exact p6 e
  rw[e2]at this;have:=Hd (by simpa[Dp] using this);omega
def Cy(c:Co)(a:Nat):Prop:=c.s.c.tk a=wk/\(c.phase=5->((a / 32:Nat):Int)<c.at_∨c.g.mks a=wk)
structure KI(cf:Cf)(E:Int)(c:Co):Prop where
 si:SI c.s
 ni:NI c (Cy c)
 t8:0<=cf.threads/\cf.threads<=8
 thl:c.th.length=8
 rl:c.r.l.length=cf.threads.toNat
 bl:c.b.length=cf.threads.toNat
 vok:∀l∈c.th,∀v∈l,Dp v=wk
 bok:∀l∈c.b,∀x∈l,0<=x/\x<2048
 ent:∀e∈c.g.l,∃n:Nat,e.1=n/\c.g.mks n=wk/\0<=e.2
 gn:0<=c.global/\c.global<2048
 lv:∀t:Nat,c.r.live t=wl->c.th.getD t []=[]
 ep:∀t:Nat,c.r.live t=wk->c.r.ofT t<=c.r.ep
 e0:0<=c.r.ep/\c.r.ep<=E
 ph:0<=c.phase/\c.phase<=5
 calm:c.phase<=1∨c.phase=5->c.g.l=[]/\c.tp = -1/\c.g.over=wl
 p01:c.phase<=1->∀a,c.g.mks a=wl
 p5:c.phase=5->(∀l∈c.b,l=[])/\0<=c.at_/\∀a,c.g.mks a=wk->c.at_<=((a / 32:Nat):Int)
 p24:2<=c.phase->c.phase<=4->c.g.mks c.global.toNat=wk/\∀Q,PC c Q->(∀t:Nat,c.r.live t=wk->(c.phase=2->c.r.ofT t=c.r.ep)->∀b:Nat,(2,(b:Int))∈c.th.getD t []->Q b)/\∀a j b,c.g.mks a=wk->Fl c.s a j b->Q b
 p2:c.phase=2->c.tp = -1/\∀a,c.g.mks a=wk->c.g.over=wk∨((a:Int),0)∈c.g.l
 tpr:c.tp = -1∨(0<=c.tp/\c.tp<cf.pages)
section
variable{cf:Cf}{E:Int}{c:Co}
def KI.up(h:KI cf E c){E':Int}(he:E<=E'):KI cf E' c:={ h with e0:=⟨h.e0.1,by have:=h.e0.2;omega⟩ }
def NI.gr{N S:Nat->Prop}{g':Gy}(h:NI c N)(hg:Ep S c.g g')(hS:∀a,S a->N a):NI { c with g:=g' } N:=
 ⟨λa x=>(hg.new a x).elim (h.m1 a) λy=>hS a y.1,h.bf,h.rt,h.gl,h.cl⟩
def KI.gr{S:Nat->Prop}{g':Gy}(h:KI cf E c)(h2:2<=c.phase)(h4:c.phase<=4)(hg:Ep S c.g g')(hS:∀a,S a->c.s.c.tk a=wk):KI cf E { c with g:=g' }:=by
 have hK:∀a,Cy { c with g:=g' } a↔Cy c a:=λa=>⟨λx=>⟨x.1,λe=>absurd e (by omega)⟩,λx=>⟨x.1,λe=>absurd e (by simp only;omega)⟩⟩;have hn:=h.ni.gr hg λa x=>⟨hS a x,λe=>absurd e (by omega)⟩
 refine { h with ni:=⟨λa x=>(hK a).2 (hn.m1 a x),λl hl b hb=>(hK b).2 (hn.bf l hl b hb),λl hl b hb=>(hK b).2 (hn.rt l hl b hb),λn e=>(hK n).2 (hn.gl n e),λa j b x f=>(hK b).2 (hn.cl a j b ((hK a).1 x) f)⟩,ent:=λe he=>?_,calm:=λe=>?_,p01:=λe=>?_,p5:=λe=>?_,p24:=λ_ _=>⟨hg.up _ (h.p24 h2 h4).1,λQ hQ=>?_⟩,p2:=λe=>⟨(h.p2 e).1,λa x=>?_⟩ }
 ·rcases hg.ln e he with y|⟨a,rfl,y⟩
  ·obtain⟨n,e1,e2,e3⟩:=h.ent e y;exact⟨n,e1,hg.up n e2,e3⟩
  ·exact⟨a,rfl,y,vj 0⟩
 ·simp only at e;omega
 ·simp only at e;omega
 ·simp only at e;omega
 ·have hQ':PC c Q:=hQ.shaded hg rfl hQ.bf rfl;obtain⟨q1,q2⟩:=(h.p24 h2 h4).2 Q hQ';refine⟨q1,λa j b x f=>?_⟩;rcases hg.new a x with y|⟨_,_,y⟩
  ·exact q2 a j b y f
  ·refine hQ.pd a j b x f ?_;rcases y with y|y
   ·exact wr y
   ·exact ws (wr ⟨0,y,by omega⟩)
 ·rcases hg.new a x with y|⟨_,_,y⟩
  ·exact ((h.p2 e).2 a y).imp hg.ov (hg.li _)
  ·exact y
def Mf(h:KI cf E c)(hE:E<=1000000000):C7 (c.r.ep+1)=c.r.ep+1:=E9 (by have:=h.e0;omega)
def KI.one_two(h:KI cf E c)(hE:E<=1000000000)(h1:c.phase=1):KI cf (E+1) (({ c with b:=c.b.map λ_=>[],g:=c.g.shade cf.stack c.global }:Co).raise 2):=by
 obtain⟨c1,c2,c3⟩:=h.calm (wr (by omega));have cm:=h.p01 (by omega);obtain⟨n,hn⟩:=xU h.gn.1;have hg2:=h.gn.2;have hkn:=h.ni.gl n hn;have hg:Ep (λa=>a=n) c.g (c.g.shade cf.stack c.global):=GH _ _ _ λm e=>by omega
 have hgm:(c.g.shade cf.stack c.global).mks n=wk:=by rw[hn];exact Jj _ _ (by omega)
 generalize c.g.shade cf.stack c.global=g' at hg hgm;have hb:∀l∈(c.b.map λ_=>([]:List Int)),l=[]:=λl hl=>by
  obtain⟨_,_,e⟩:=u7.1 hl;exact e.symm
 have hE':=Mf h hE;have hful:∀a,g'.mks a=wk->g'.over=wk∨((a:Int),0)∈g'.l:=λa x=>by
  rcases hg.new a x with y|y
  ·rw[cm]at y;cases y
  ·exact y.2.2
 have hKe:∀a,Cy c a->Cy (({ c with b:=c.b.map λ_=>[],g:=g' }:Co).raise 2) a:=λa x=>⟨x.1,λe=>absurd (show (2:Int)=5 from e) (by decide)⟩;unfold Co.raise at hKe ⊢;unfold Rg.raise at hKe ⊢
 refine⟨h.si,⟨λa x=>?_,λl hl b hb'=>?_,λl hl b hb'=>hKe _ (h.ni.rt l hl b hb'),λm e=>hKe _ (h.ni.gl m e),λa j b x f=>hKe _ (h.ni.cl a j b ⟨x.1,λe=>absurd e (by omega)⟩ f)⟩,h.t8,h.thl,h.rl,by simp only[j9];exact h.bl,h.vok,λl hl x hx=>?_,λe he=>?_,h.gn,h.lv,λt ht=>?_,?_,by simp only;decide,λe=>?_,λe=>?_,λe=>?_,λ_ _=>⟨by simp only;rw[hn];exact hgm,λQ hQ=>⟨λt ht hc=>?_,λa j b x f=>?_⟩⟩,λ_=>⟨c2,hful⟩,wr c2⟩
 ·rcases hg.new a x with y|y
  ·rw[cm]at y;cases y
  ·rw[y.1];exact hKe _ hkn
 ·rw[hb l hl]at hb';cases hb'
 ·rw[hb l hl]at hx;cases hx
 ·rcases hg.ln e he with y|⟨a,rfl,y⟩
  ·rw[c1]at y;cases y
  ·exact⟨a,rfl,y,vj 0⟩
 ·simp only at ht ⊢;have:=h.ep t ht;rw[hE'];show c.r.ofT t<=c.r.ep+1;omega
 ·simp only;rw[hE'];have:=h.e0;omega
 ·simp only at e;omega
 ·simp only at e;omega
 ·simp only at e;omega
 ·have h3:=h.ep t ht;have:=hc rfl;simp only at this;rw[hE']at this;have:c.r.ofT t=c.r.ep+1:=this;omega
 ·refine hQ.pd a j b x f ?_;rcases hful a x with y|y
  ·exact wr y
  ·exact ws (wr ⟨0,y,by omega⟩)
def KI.two_three(h:KI cf E c)(h2:c.phase=2)(ha:c.r.agreed=wk):KI cf E { c with phase:=3 }:=by
 have hK:∀a,Cy { c with phase:=3 } a↔Cy c a:=λa=>⟨λx=>⟨x.1,λe=>absurd e (by omega)⟩,λx=>⟨x.1,λe=>absurd (show (3:Int)=5 from e) (by decide)⟩⟩;obtain⟨g1,g2⟩:=h.p24 (by omega) (by omega)
 refine { h with ni:=⟨λa x=>(hK a).2 (h.ni.m1 a x),λl hl b hb=>(hK b).2 (h.ni.bf l hl b hb),λl hl b hb=>(hK b).2 (h.ni.rt l hl b hb),λn e=>(hK n).2 (h.ni.gl n e),λa j b x f=>(hK b).2 (h.ni.cl a j b ((hK a).1 x) f)⟩,ph:=by simp only;decide,calm:=λe=>?_,p01:=λe=>?_,p5:=λe=>?_,p24:=λ_ _=>⟨g1,λQ hQ=>?_⟩,p2:=λe=>?_ }
 ·simp only at e;omega
 ·simp only at e;omega
 ·simp only at e;omega
 ·obtain⟨q1,q2⟩:=g2 Q ⟨hQ.m1,hQ.bf,hQ.pd,hQ.cl⟩;refine⟨λt ht _=>q1 t ht λ_=>?_,q2⟩;have:=MN ha ht;have:=h.ep t ht;omega
 ·simp only at e;omega
def KI.three(h:KI cf E c){p:Int}(h3:c.phase=3∨c.phase=4)(hp:p=3∨p=4):KI cf E { c with phase:=p }:=by
 have hK:∀a,Cy { c with phase:=p } a↔Cy c a:=λa=>⟨λx=>⟨x.1,λe=>absurd e (by omega)⟩,λx=>⟨x.1,λe=>absurd e (by simp only;omega)⟩⟩;obtain⟨g1,g2⟩:=h.p24 (by omega) (by omega)
 refine { h with ni:=⟨λa x=>(hK a).2 (h.ni.m1 a x),λl hl b hb=>(hK b).2 (h.ni.bf l hl b hb),λl hl b hb=>(hK b).2 (h.ni.rt l hl b hb),λn e=>(hK n).2 (h.ni.gl n e),λa j b x f=>(hK b).2 (h.ni.cl a j b ((hK a).1 x) f)⟩,ph:=by simp only;omega,calm:=λe=>?_,p01:=λe=>?_,p5:=λe=>?_,p24:=λ_ _=>⟨g1,λQ hQ=>?_⟩,p2:=λe=>?_ }
 ·simp only at e;omega
 ·simp only at e;omega
 ·simp only at e;omega
 ·obtain⟨q1,q2⟩:=g2 Q ⟨hQ.m1,hQ.bf,hQ.pd,hQ.cl⟩;exact⟨λt ht _=>q1 t ht λe=>by omega,q2⟩
 ·simp only at e;omega
def KI.raised(h:KI cf E c)(hE:E<=1000000000)(h3:c.phase=3∨c.phase=4):KI cf (E+1) { c with r:=c.r.raise }:=by
 have hE':=Mf h hE;obtain⟨g1,g2⟩:=h.p24 (by omega) (by omega);refine { h with ni:=⟨h.ni.m1,h.ni.bf,h.ni.rt,h.ni.gl,h.ni.cl⟩,ep:=λt ht=>?_,e0:=?_,p24:=λ_ _=>⟨g1,λQ hQ=>?_⟩ }
 ·have:=h.ep t ht;show c.r.ofT t<=C7 (c.r.ep+1);rw[hE'];omega
 ·show 0<=C7 (c.r.ep+1)/\C7 (c.r.ep+1)<=E+1;rw[hE'];have:=h.e0;omega
 ·obtain⟨q1,q2⟩:=g2 Q ⟨hQ.m1,hQ.bf,hQ.pd,hQ.cl⟩;exact⟨λt ht _=>q1 t ht λe=>by omega,q2⟩
def KI.four_five(h:KI cf E c)(h4:c.phase=4)(hb:CL c.b=wk)(hi:c.tIdle=wk):KI cf E { c with phase:=5,at_:=0,freed:=0 }:=by
 obtain⟨g1,g2⟩:=h.p24 (by omega) (by omega);unfold Co.tIdle at hi;simp only[zY,List.isEmpty_iff,zV,zJ]at hi;obtain⟨⟨i1,i2⟩,i3⟩:=hi;have hbe:∀l∈c.b,l=[]:=λl hl=>by
  have:=zZ.1 hb l hl;simpa using this
 have hQ:PC c (λa=>c.g.mks a=wk):=by
  refine⟨λa x=>x,λl hl b hm=>?_,λa j b x f p=>?_,λa j b x y f=>?_⟩
  ·rw[hbe l hl]at hm;cases hm
  ·rcases p with p|⟨i,p,_⟩|p
   ·rw[i3]at p;cases p
   ·rw[i1]at p;cases p
   ·exact absurd i2 p.1
  ·rw[x]at y;cases y
 obtain⟨q1,q2⟩:=g2 _ hQ;have hKm:∀a,c.g.mks a=wk->Cy { c with phase:=5,at_:=0,freed:=0 } a:=λa x=>⟨(h.ni.m1 a x).1,λ_=>ws x⟩;have hKe:∀a,Cy { c with phase:=5,at_:=0,freed:=0 } a->c.g.mks a=wk:=λa x=>by
  rcases x.2 rfl with y|y
  ·simp only at y;omega
  ·exact y
 refine { h with ni:=⟨λa x=>hKm a x,λl hl b hm=>?_,λl hl b hm=>?_,λn e=>hKm n ?_,λa j b x f=>hKm b (q2 a j b (hKe a x) f)⟩,ph:=by simp only;decide,calm:=λ_=>⟨i1,i2,i3⟩,p01:=λe=>?_,p5:=λ_=>⟨hbe,vj 0,λa _=>by simp only;omega⟩,p24:=λ_ e=>?_,p2:=λe=>?_ }
 ·simp only at hl;rw[hbe l hl]at hm;cases hm
 ·simp only at hl;obtain⟨t,ht,e⟩:=yW hl;have e':c.th.getD t []=l:=by rw[DC ht,e]
  refine hKm b (q1 t ?_ (λe=>by omega) b (by rw[e'];exact hm));cases hlv:c.r.live t with
  | true=>rfl
  | false=>rw[h.lv t hlv]at e';rw[<-e']at hm;cases hm
 ·simp only at e;rw[e]at g1;simpa using g1
 ·simp only at e;omega
 ·simp only at e;omega
 ·simp only at e;omega
theorem KI.adv:∀(d:Nat) (c:Co) (E:Int),KI cf E c->(E:Int)+d<=1000000000->KI cf (E+d) (c.advance cf d)
 | 0,c,E,h,_=>by simpa[Co.advance] using h
 | d+1,c,E,h,hd=>by
  rw[Co.advance];by_cases ha:c.r.agreed=wk
  rotate_left
  ·rw[vx ha];exact h.up (by omega)
  rw[vy ha];by_cases c1:c.phase=1
  ·rw[vy c1];have:=h.one_two (by omega) c1;exact (KI.adv d _ (E+1) this (by omega)).up (by omega)
  rw[vx c1];by_cases c2:c.phase=2
  ·rw[vy c2];exact (KI.adv d _ E (h.two_three c2 ha) (by omega)).up (by omega)
  rw[vx c2];by_cases c4:c.phase=4/\CL c.b=wk/\c.tIdle=wk
  ·rw[vy c4];exact (KI.adv d _ E (h.four_five c4.1 c4.2.1 c4.2.2) (by omega)).up (by omega)
  rw[vx c4];by_cases c5:c.phase=4
  ·rw[vy c5];exact (KI.adv d _ E (h.three (ws c5) (wr rfl)) (by omega)).up (by omega)
  ·rw[vx c5];exact h.up (by omega)
end
structure VG(c:Co)(t:Nat)(v:V2):Prop where
 ok:Dp v=wk
 kp:∀b:Nat,v=(2,(b:Int))->Cy c b
 pc:2<=c.phase->c.phase<=4->(c.phase=2->c.r.ofT t=c.r.ep)->∀Q,PC c Q->∀b:Nat,v=(2,(b:Int))->Q b
def VG.plain{c:Co}{t:Nat}{v:V2}(h:Dp v=wk)(h2:v.1≠2):VG c t v:=
 ⟨h,λb e=>absurd (by rw[e]) h2,λ_ _ _ _ _ b e=>absurd (by rw[e]) h2⟩
def Dz{v:V2}(h:Dp v=wk)(h2:v.1=2):∃b:Nat,v=(2,(b:Int))/\b<2048:=by obtain⟨k,n⟩:=v;simp only at h2;subst h2;have:=Hd (by simpa[Dp] using h);exact⟨n.toNat,by rw[yV (by omega)],by omega⟩
section
variable{cf:Cf}{E:Int}{c:Co}
def KI.th_in(h:KI cf E c){t:Nat}(ht:c.r.live t=wk):t<c.th.length/\c.th.getD t []∈c.th:=by
 have:=CW.1 ht;have h1:=h.rl;have h2:=h.thl;have h3:=h.t8;have hl:t<c.th.length:=by omega
 exact⟨hl,by rw[DC hl];exact d7 _⟩
def KI.root(h:KI cf E c){t:Nat}(ht:c.r.live t=wk){v:V2}(hv:v∈c.th.getD t []):VG c t v:=
 ⟨h.vok _ (h.th_in ht).2 v hv,λb e=>h.ni.rt _ (h.th_in ht).2 b (by rw[<-e];exact hv),λh2 h4 hc Q hQ b e=>((h.p24 h2 h4).2 Q hQ).1 t ht hc b (by rw[<-e];exact hv)⟩
def KI.field(h:KI cf E c){t a:Nat}(ha:VG c t (2,(a:Int))){i:Int}(hg:(c.s.get (a:Int) i).2=wk):VG c t (c.s.get (a:Int) i).1:=by
 obtain⟨ser,fs,o,_⟩:=h.si.hi.obj a (ha.kp a rfl).1;have e:=St.get_obj h.si.hi.ci o i;have hi:0<=i:=by apply xI;intro hc;rw[vx hc]at e;rw[e]at hg;cases hg
 rw[vy hi]at e;cases hf:fs[i.toNat]? with
 | none=>rw[hf]at e;rw[e]at hg;cases hg
 | some v=>
  rw[hf]at e;rw[e];simp only;have hl:i.toNat<fs.length:=by apply xI;intro hc;rw[yG (by omega)]at hf;cases hf
  have hv:fs[i.toNat]=v:=by rw[xS hl]at hf;exact p6 hf
  have hfl:∀b:Nat,v=(2,(b:Int))->Fl c.s a i.toNat b:=λb eb=>⟨ser,fs,o,by rw[hf,eb]⟩;refine⟨by rw[<-hv];exact (o.fld _ hl).1,λb eb=>h.ni.cl a _ b (ha.kp a rfl) (hfl b eb),λh2 h4 hc Q hQ b eb=>?_⟩;have hq:=ha.pc h2 h4 hc Q hQ a rfl;by_cases hm:c.g.mks a=wk
  ·exact ((h.p24 h2 h4).2 Q hQ).2 a _ b hm (hfl b eb)
  ·exact hQ.cl a _ b hq (by simpa using hm) (hfl b eb)
def KI.glob(h:KI cf E c)(t:Nat):VG c t (EE c.global):=by
 have e:EE c.global=(2,c.global):=by unfold EE;rw[vy h.gn]
 have h0:=h.gn;rw[e];refine⟨?_,λb eb=>h.ni.gl b (by simpa using eb),λh2 h4 _ Q hQ b eb=>?_⟩
 ·simp[Dp,DL,h0]
 ·have:=hQ.m1 _ (h.p24 h2 h4).1;have eb:c.global=b:=by simpa using eb
  rw[eb]at this;simpa using this
def KI.th_set(h:KI cf E c){t:Nat}(ht:c.r.live t=wk){l:List V2}(hl:∀v∈l,VG c t v):KI cf E { c with th:=c.th.set t l }:=by
 obtain⟨t1,t2⟩:=h.th_in ht;refine { h with ni:=⟨h.ni.m1,h.ni.bf,λl' hl' b hb=>?_,h.ni.gl,h.ni.cl⟩,thl:=by simp only[m8];exact h.thl,vok:=λl' hl' v hv=>?_,lv:=λu hu=>?_,p24:=λh2 h4=>⟨(h.p24 h2 h4).1,λQ hQ=>?_⟩ }
 ·rcases HL hl' with rfl|g
  ·exact (hl _ hb).kp b rfl
  ·exact h.ni.rt l' g b hb
 ·rcases HL hl' with rfl|g
  ·exact (hl v hv).ok
  ·exact h.vok l' g v hv
 ·have hne:¬(t=u/\t<c.th.length):=λe=>by
   have hu':c.r.live u=wl:=hu;rw[<-e.1,ht]at hu';cases hu'
  show (c.th.set t l).getD u []=[];rw[El,vx hne];exact h.lv u hu
 ·have hQ':PC c Q:=⟨hQ.m1,hQ.bf,hQ.pd,hQ.cl⟩;obtain⟨q1,q2⟩:=(h.p24 h2 h4).2 Q hQ';refine⟨λu hu hc b hb=>?_,q2⟩;have hb':(2,(b:Int))∈(c.th.set t l).getD u []:=hb;rw[El]at hb';by_cases e:t=u/\t<c.th.length
  ·rw[vy e]at hb';obtain⟨rfl,_⟩:=e;exact (hl _ hb').pc h2 h4 hc Q hQ' b rfl
  ·rw[vx e]at hb';exact q1 u hu hc b hb'
def KI.push(h:KI cf E c){t:Nat}{v:V2}(hv:VG c t v):KI cf E (c.push (t:Int) v).1:=by
 unfold Co.push;split
 ·rename_i hc;simp only[zK];refine h.th_set hc.1 λx hx=>?_;rcases n7.1 hx with g|g
  ·exact h.root hc.1 g
  ·rw[zF.1 g];exact hv
 ·exact h
def KI.pop(h:KI cf E c)(t:Nat):KI cf E (c.pop (t:Int)).1:=by
 unfold Co.pop;split
 ·rename_i hc;split
  ·simp only[zK];exact h.th_set hc λx hx=>h.root hc (yO _ hx)
  ·exact h
 ·exact h
def KI.attach(h:KI cf E c)(t:Int):KI cf E (c.attach t):=by
 unfold Co.attach Rg.attach;split
 rotate_left
 ·exact h
 rename_i hc;obtain⟨h0,h1,h2⟩:=hc;have hlive:∀u:Nat,({ c.r with l:=c.r.l.set t.toNat (wk,c.r.ep) }:Rg).live u=if (u:Int)=t then wk else c.r.live u:=λu=>FB h0 h1 u;have hof:∀u:Nat,({ c.r with l:=c.r.l.set t.toNat (wk,c.r.ep) }:Rg).ofT u=if (u:Int)=t then c.r.ep else c.r.ofT u:=λu=>by rw[IC h0 h1 u];rfl
 have hdead:c.th.getD t.toNat []=[]:=h.lv t.toNat (by rw[yV h0];simpa using h2);refine { h with ni:=⟨h.ni.m1,h.ni.bf,h.ni.rt,h.ni.gl,h.ni.cl⟩,rl:=by simp only[m8];exact h.rl,lv:=λu hu=>?_,ep:=λu hu=>?_,p24:=λp2 p4=>⟨(h.p24 p2 p4).1,λQ hQ=>?_⟩ }
 ·simp only at hu;rw[hlive]at hu;by_cases e:(u:Int)=t
  ·rw[vy e]at hu;cases hu
  ·rw[vx e]at hu;exact h.lv u hu
 ·simp only at hu ⊢;rw[hlive]at hu;rw[hof];by_cases e:(u:Int)=t
  ·rw[vy e];exact vj _
  ·rw[vx e]at hu ⊢;exact h.ep u hu
 ·obtain⟨q1,q2⟩:=(h.p24 p2 p4).2 Q ⟨hQ.m1,hQ.bf,hQ.pd,hQ.cl⟩;refine⟨λu hu hc b hb=>?_,q2⟩;simp only at hu hc hb;rw[hlive]at hu;rw[hof]at hc;by_cases e:(u:Int)=t
  ·have:u=t.toNat:=by omega
   rw[this,hdead]at hb;cases hb
  ·rw[vx e]at hu hc;exact q1 u hu hc b hb
def KI.buf_in(h:KI cf E c)(t:Int){x:Int}(hx:x∈DQ c.b t):∃l∈c.b,x∈l:=by
 unfold DQ at hx;split at hx
 ·by_cases hl:t.toNat<c.b.length
  ·exact⟨_,d7 hl,by rwa [DC hl]at hx⟩
  ·rw[xF,yG (by omega)]at hx;cases hx
 ·cases hx
def KI.buf_gr(h:KI cf E c)(h2:2<=c.phase)(h4:c.phase<=4)(t:Int):KI cf E { c with g:=c.g.shadeAll cf.stack (DQ c.b t) }/\∀n:Nat,(n:Int)∈DQ c.b t->(c.g.shadeAll cf.stack (DQ c.b t)).mks n=wk:=by
 refine⟨h.gr h2 h4 (Fs _ (λn=>(n:Int)∈DQ c.b t) _ _ λn x=>x) λa x=>?_,λn x=>?_⟩
 ·obtain⟨l,hl,hx⟩:=h.buf_in t x;exact (h.ni.bf l hl a hx).1
 ·obtain⟨l,hl,hx⟩:=h.buf_in t x;exact I3 _ _ _ n x (by have:=h.bok l hl _ hx;omega)
def Uf{b:List (List Int)}{t:Int}{l:List Int}(h:l∈b):l∈CT b t∨l=DQ b t:=by
 unfold CT;split
 ·rename_i hc;obtain⟨i,hi,rfl⟩:=yW h;by_cases e:t.toNat=i
  ·right;unfold DQ;rw[vy hc.1,e,DC hi]
  ·left;refine yQ.2 ⟨i,by simpa using hi,?_⟩;rw[List.getElem_set_ne e]
 ·exact wr h
def Ie{b:List (List Int)}{t:Int}{l:List Int}(h:l∈CT b t):l=[]∨l∈b:=by
 unfold CT at h;split at h
 ·exact HL h
 ·exact ws h
def Ss(b:List (List Int))(t:Int):(CT b t).length=b.length:=by unfold CT;split<;>simp
def KI.buf_take(h:KI cf E c)(t:Int)(hm:2<=c.phase->c.phase<=4->∀n:Nat,(n:Int)∈DQ c.b t->c.g.mks n=wk):KI cf E { c with b:=CT c.b t }:=by
 refine { h with ni:=⟨h.ni.m1,λl hl b hb=>?_,h.ni.rt,h.ni.gl,h.ni.cl⟩,bl:=by simp only;rw[Ss];exact h.bl,bok:=λl hl x hx=>?_,p5:=λe=>⟨λl hl=>?_,(h.p5 e).2⟩,p24:=λp2 p4=>⟨(h.p24 p2 p4).1,λQ hQ=>(h.p24 p2 p4).2 Q ⟨hQ.m1,λl hl b hb=>?_,hQ.pd,hQ.cl⟩⟩ }
 ·rcases Ie hl with rfl|g
  ·cases hb
  ·exact h.ni.bf l g b hb
 ·rcases Ie hl with rfl|g
  ·cases hx
  ·exact h.bok l g x hx
 ·rcases Ie hl with rfl|g
  ·rfl
  ·exact (h.p5 e).1 l g
 ·rcases Uf (t:=t) hl with g|rfl
  ·exact hQ.bf l g b hb
  ·exact hQ.m1 b (hm p2 p4 b hb)
def KI.kept(h:KI cf E c){s':St}(hs:SI s')(hk:∀b,C0 c.s.c s'.c b):KI cf E { c with s:=s' }:=by
 have hK:∀a,Cy { c with s:=s' } a↔Cy c a:=λa=>by
  unfold Cy;simp only;rw[(hk a).1]
 have hF:∀ {a j b:Nat},Fl s' a j b↔Fl c.s a j b:=Fl.same hk;refine { h with si:=hs,ni:=⟨λa x=>(hK a).2 (h.ni.m1 a x),λl hl b hb=>(hK b).2 (h.ni.bf l hl b hb),λl hl b hb=>(hK b).2 (h.ni.rt l hl b hb),λn e=>(hK n).2 (h.ni.gl n e),λa j b x f=>(hK b).2 (h.ni.cl a j b ((hK a).1 x) (hF.1 f))⟩,p24:=λp2 p4=>⟨(h.p24 p2 p4).1,λQ hQ=>?_⟩ }
 obtain⟨q1,q2⟩:=(h.p24 p2 p4).2 Q ⟨hQ.m1,hQ.bf,λa j b x f p=>hQ.pd a j b x (hF.2 f) p,λa j b x y f=>hQ.cl a j b x y (hF.2 f)⟩;exact⟨q1,λa j b x f=>q2 a j b x (hF.1 f)⟩
def KI.gone(h:KI cf E c)(t:Int)(hl:c.r.live t=wk):KI cf E { c with th:=c.th.set t.toNat [],r:=c.r.detach t }:=by
 obtain⟨h0,h1,_⟩:=CW.1 hl;obtain⟨t,rfl⟩:=xU h0;have h':=h.th_set (t:=t) hl (l:=[]) λv hv=>by cases hv
 have hd:c.r.detach (t:Int)={ c.r with l:=c.r.l.set t (wl,0) }:=by unfold Rg.detach;rw[vy hl,zK]
 have hlive:∀u:Nat,(c.r.detach (t:Int)).live u=if (u:Int)=t then wl else c.r.live u:=λu=>by
  rw[hd];exact FB h0 h1 u
 have hof:∀u:Nat,(u:Int)≠t->(c.r.detach (t:Int)).ofT u=c.r.ofT u:=λu hu=>by
  rw[hd];have:=IC (m:=(wl,0)) h0 h1 (u:Int);rw[vx hu]at this;exact this
 have hep:(c.r.detach (t:Int)).ep=c.r.ep:=by rw[hd]
 have htl:=h.th_in hl;simp only[zK];refine { h' with ni:=⟨h'.ni.m1,h'.ni.bf,h'.ni.rt,h'.ni.gl,h'.ni.cl⟩,rl:=by rw[hd];simp only[m8];exact h.rl,lv:=λu hu=>?_,ep:=λu hu=>?_,e0:=by simp only;rw[hep];exact h.e0,p24:=λp2 p4=>⟨(h.p24 p2 p4).1,λQ hQ=>?_⟩ }
 ·simp only at hu ⊢;rw[El];by_cases e:t=u
  ·rw[vy ⟨e,htl.1⟩]
  ·rw[vx (λx=>e x.1)];rw[hlive,vx (by omega)]at hu;exact h.lv u hu
 ·simp only at hu ⊢;rw[hlive]at hu;by_cases e:(u:Int)=t
  ·rw[vy e]at hu;cases hu
  ·rw[vx e]at hu;rw[hof u e,hep];exact h.ep u hu
 ·obtain⟨q1,q2⟩:=(h'.p24 p2 p4).2 Q ⟨hQ.m1,hQ.bf,hQ.pd,hQ.cl⟩;refine⟨λu hu hc b hb=>?_,q2⟩;simp only at hu hc hb;rw[hlive]at hu;by_cases e:(u:Int)=t
  ·rw[vy e]at hu;cases hu
  ·rw[vx e]at hu;rw[hof u e,hep]at hc;exact q1 u hu hc b hb
def Iz(c:Co):c.marking=wk↔2<=c.phase/\c.phase<=4:=by unfold Co.marking;simp
def KI.detach(h:KI cf E c)(hE:E+4<=1000000000)(t:Int):KI cf (E+4) (c.detach cf t):=by
 unfold Co.detach;split
 rotate_left
 ·exact h.up (by omega)
 rename_i hl;simp only;have key:∀g',(KI cf E { c with g:=g' })->(2<=c.phase->c.phase<=4->∀n:Nat,(n:Int)∈DQ c.b t->g'.mks n=wk)->KI cf (E+4) (({ c with b:=CT c.b t,g:=g',th:=c.th.set t.toNat [],s:=c.s.quit t,r:=c.r.detach t }:Co).adv cf):=λg' hg hm=>by
  have k1:=hg.buf_take t hm;obtain⟨s1,s2,_⟩:=St.quit_ok h.si t;have k2:=k1.kept (s':=c.s.quit t) s1 s2;have k3:=k2.gone t hl;exact KI.adv 4 _ E k3 hE
 by_cases hmk:c.marking=wk
 ·rw[vy hmk];obtain⟨m2,m4⟩:=(Iz c).1 hmk;obtain⟨k1,k2⟩:=h.buf_gr m2 m4 t;exact key _ k1 λ_ _=>k2
 ·rw[vx hmk];exact key _ h λm2 m4=>absurd ((Iz c).2 ⟨m2,m4⟩) hmk
def KI.confirm(h:KI cf E c)(t:Int)(hl:c.r.live t=wk)(hm:c.phase=2->∀b:Nat,(2,(b:Int))∈c.th.getD t.toNat []->c.g.mks b=wk):KI cf E { c with r:=(c.r.confirm t).1 }:=by
 unfold Rg.confirm;split
 rotate_left
 ·exact h
 obtain⟨h0,h1,_⟩:=CW.1 hl;have hlive:∀u:Nat,({ c.r with l:=c.r.l.set t.toNat (wk,c.r.ep) }:Rg).live u=if (u:Int)=t then wk else c.r.live u:=λu=>FB h0 h1 u;have hof:∀u:Nat,({ c.r with l:=c.r.l.set t.toNat (wk,c.r.ep) }:Rg).ofT u=if (u:Int)=t then c.r.ep else c.r.ofT u:=λu=>by rw[IC h0 h1 u];rfl
 refine { h with ni:=⟨h.ni.m1,h.ni.bf,h.ni.rt,h.ni.gl,h.ni.cl⟩,rl:=by simp only[m8];exact h.rl,lv:=λu hu=>?_,ep:=λu hu=>?_,p24:=λp2 p4=>⟨(h.p24 p2 p4).1,λQ hQ=>?_⟩ }
 ·simp only at hu;rw[hlive]at hu;by_cases e:(u:Int)=t
  ·rw[vy e]at hu;cases hu
  ·rw[vx e]at hu;exact h.lv u hu
 ·simp only at hu ⊢;rw[hlive]at hu;rw[hof];by_cases e:(u:Int)=t
  ·rw[vy e];exact vj _
  ·rw[vx e]at hu ⊢;exact h.ep u hu
 ·obtain⟨q1,q2⟩:=(h.p24 p2 p4).2 Q ⟨hQ.m1,hQ.bf,hQ.pd,hQ.cl⟩;refine⟨λu hu hc b hb=>?_,q2⟩;simp only at hu hc hb;rw[hlive]at hu;rw[hof]at hc;by_cases e:(u:Int)=t
  ·by_cases e2:c.phase=2
   ·have:u=t.toNat:=by omega
    rw[this]at hb;exact hQ.m1 b (hm e2 b hb)
   ·exact q1 u (by rw[e];exact hl) (λx=>absurd x e2) b hb
  ·rw[vx e]at hu hc;exact q1 u hu hc b hb
def Io{l:List V2}{x:Int}:x∈D8 l↔(2,x)∈l:=by
 have key:∀(l:List V2) (out:List Int),x∈l.foldl (λout v=>if v.1=2/\v.2∉out then out++[v.2] else out) out↔x∈out∨(2,x)∈l:=by
  intro l;induction l with
  | nil=>intro out;simp
  | cons v l ih=>
   intro out;rw[List.foldl_cons,ih];by_cases hc:v.1=2/\v.2∉out
   ·rw[vy hc];obtain⟨k,n⟩:=v;obtain⟨rfl,h2⟩:=hc;simp only[ux,uz,true_and];constructor
    ·rintro (g|g)
     ·rcases n7.1 g with g|g
      ·exact wr g
      ·exact ws (wr (zF.1 g))
     ·exact ws (ws g)
    ·rintro (g|g|g)
     ·exact wr (n7.2 (wr g))
     ·exact wr (n7.2 (ws (zF.2 g)))
     ·exact ws g
   ·rw[vx hc];simp only[ux];constructor
    ·rintro (g|g)
     ·exact wr g
     ·exact ws (ws g)
    ·rintro (g|g|g)
     ·exact wr g
     ·left;apply xI;intro hx;exact hc (by rw[<-g];exact⟨rfl,hx⟩)
     ·exact ws g
 unfold D8;rw[key l []];simp
def KI.poll(h:KI cf E c)(hE:E+4<=1000000000)(t:Int):KI cf (E+4) (c.poll cf t):=by
 unfold Co.poll;split
 rotate_left
 ·exact h.up (by omega)
 rename_i hcf;have hl:c.r.live t=wk:=by
  unfold Rg.confirm at hcf;split at hcf
  ·rename_i hc;exact hc.1
  ·cases hcf
 obtain⟨t0,_,_⟩:=CW.1 hl;simp only;by_cases c2:c.phase=2
 ·rw[vy c2];have hin:=(h.th_in (t:=t.toNat) (by rw[yV t0];exact hl)).2;have k1:KI cf E { c with g:=c.g.shadeAll cf.stack (D8 (c.th.getD t.toNat [])) }:=
   h.gr (by omega) (by omega) (Fs _ (λn=>(n:Int)∈D8 (c.th.getD t.toNat [])) _ _ λn x=>x) λa x=>(h.ni.rt _ hin a (Io.1 x)).1
  have k2:=k1.confirm t hl λ_ b hb=>I3 _ _ _ b (Io.2 hb) (by
   obtain⟨n,e,hn⟩:=Dz (h.vok _ hin _ hb) rfl;have:(b:Int)=n:=by simpa using e
   omega)
  exact KI.adv 4 _ E k2 hE
 rw[vx c2];by_cases c4:c.phase=4
 ·rw[vy c4];obtain⟨k1,k2⟩:=h.buf_gr (by omega) (by omega) t;have k3:=(k1.buf_take t λ_ _=>k2).confirm t hl λe=>absurd e c2;exact KI.adv 4 _ E k3 hE
 ·rw[vx c4];exact KI.adv 4 _ E (h.confirm t hl λe=>absurd e c2) hE
end
section
variable{cf:Cf}{E:Int}{c:Co}
def Fl.set{s:St}(h:SI s){a i:Nat}{ser:Int}{fs:List V2}(o:Cw s.c a ser fs){v:V2}(hv:Dp v=wk)(hi:i<fs.length){x j b:Nat}:Fl (s.set (a:Int) (i:Int) v).1 x j b↔(x=a/\j=i/\v=(2,(b:Int)))∨(¬(x=a/\j=i)/\Fl s x j b):=by
 obtain⟨_,o',k,_,si,_⟩:=St.set_ok h o (i:=(i:Int)) hv (by omega);rw[zK]at o';constructor
 ·rintro⟨se,f,o2,e⟩;by_cases hx:x=a
  ·subst hx;obtain⟨rfl,rfl⟩:=o2.same o';rw[zO]at e;by_cases hj:i=j
   ·subst hj;rw[vy rfl,vy hi]at e;exact wr ⟨rfl,rfl,p6 e⟩
   ·rw[vx hj]at e;exact ws ⟨λh=>hj h.2.symm,_,_,o,e⟩
  ·exact ws ⟨λh=>hx h.1,se,f,(k x hx).obj.1 o2,e⟩
 ·rintro (⟨rfl,rfl,rfl⟩|⟨hn,se,f,o2,e⟩)
  ·exact⟨_,_,o',by rw[zO,vy rfl,vy hi]⟩
  ·by_cases hx:x=a
   ·subst hx;obtain⟨rfl,rfl⟩:=o2.same o;exact⟨_,_,o',by rw[zO,vx (λh=>hn ⟨rfl,h.symm⟩)];exact e⟩
   ·exact⟨se,f,(k x hx).obj.2 o2,e⟩
def Ub(b:List (List Int))(t a:Int):(F3 b t a).length=b.length:=by unfold F3;split<;>simp
def Ud{b:List (List Int)}{t a:Int}{l:List Int}(h:l∈F3 b t a):∀x∈l,x=a∨∃l'∈b,x∈l':=by
 intro x hx;unfold F3 at h;split at h
 ·rename_i hc;rcases HL h with rfl|g
  ·rcases n7.1 hx with y|y
   ·right;unfold DQ at y;rw[vy hc.1,DC (by omega)]at y;exact⟨_,d7 _,y⟩
   ·exact wr (zF.1 y)
  ·exact ws ⟨l,g,hx⟩
 ·exact ws ⟨l,h,hx⟩
def Ue{b:List (List Int)}{t a:Int}{l:List Int}(h:l∈b){x:Int}(hx:x∈l):∃l'∈F3 b t a,x∈l':=by
 unfold F3;split
 ·rename_i hc;obtain⟨i,hi,rfl⟩:=yW h;by_cases e:t.toNat=i
  ·refine⟨_,yQ.2 ⟨i,by simpa using hi,rfl⟩,?_⟩;rw[d8,vy e];unfold DQ;rw[vy hc.1,e,DC hi];exact n7.2 (wr hx)
  ·exact⟨_,yQ.2 ⟨i,by simpa using hi,rfl⟩,by rw[List.getElem_set_ne e];exact hx⟩
 ·exact⟨l,h,hx⟩
def Wf{b:List (List Int)}{t a:Int}(h0:0<=t/\t<b.length)(ha:0<=Cq a):∃l∈F3 b t a,a∈l:=by
 unfold F3;by_cases hm:a∈DQ b t
 ·rw[vx (λh=>h.2.2.2 hm)];unfold DQ at hm;rw[vy h0.1,DC (by omega)]at hm;exact⟨_,d7 _,hm⟩
 ·rw[vy ⟨h0.1,h0.2,ha,hm⟩];exact⟨_,yQ.2 ⟨t.toNat,by simp;omega,rfl⟩,by rw[d8,vy rfl];simp⟩
def KI.write(h:KI cf E c){t a:Nat}{i:Int}{v:V2}(ha:VG c t (2,(a:Int)))(hv:VG c t v):KI cf E (c.write (t:Int) (a:Int) i v).1:=by
 unfold Co.write;split
 rotate_left
 ·exact h
 rename_i hc;obtain⟨hl,hmay,hget⟩:=hc;obtain⟨ser,fs,o,_⟩:=h.si.hi.obj a (ha.kp a rfl).1;have e:=St.get_obj h.si.hi.ci o i;have hi:0<=i:=by apply xI;intro hc;rw[vx hc]at e;rw[e]at hget;cases hget
 obtain⟨i,rfl⟩:=xU hi;rw[vy hi,zK]at e;have hlen:i<fs.length:=by apply xI;intro hc;rw[yG (by omega)]at e;rw[e]at hget;cases hget
 rw[xS hlen]at e;simp only at e;rw[e];simp only;have hof:∀b:Nat,fs[i]=(2,(b:Int))->Fl c.s a i b:=λb eb=>⟨ser,fs,o,by rw[xS hlen,eb]⟩;obtain⟨s1,s2,s3,s4,s5,s6⟩:=St.set_ok h.si o (i:=(i:Int)) hv.ok (by omega);have hF:∀ {x j b:Nat},Fl (c.s.set (a:Int) (i:Int) v).1 x j b↔(x=a/\j=i/\v=(2,(b:Int)))∨(¬(x=a/\j=i)/\Fl c.s x j b):=Fl.set h.si o hv.ok hlen;generalize (c.s.set (a:Int) (i:Int) v).1=s' at *
 generalize hb':(if fs[i].1=2/\¬(c.g.is fs[i].2=wk)/\c.barrier (t:Int)=wk then F3 c.b (t:Int) fs[i].2 else c.b)=b';have hold:∀n:Nat,fs[i]=(2,(n:Int))->n<2048:=λn en=>by
  have:=(o.fld i hlen).1;rw[en]at this;obtain⟨m,em,hm⟩:=Dz this rfl;have:(n:Int)=m:=by simpa using em
  omega
 have ht8:(t:Int)<c.b.length:=by have:=(CW.1 hl).2.1;have:=h.rl;have:=h.bl;omega
 have hsub:∀l∈b',∀x∈l,(fs[i]=(2,x))∨∃l'∈c.b,x∈l':=λl hl' x hx=>by
  rw[<-hb']at hl';split at hl'
  ·rename_i hc;rcases Ud hl' x hx with y|y
   ·left;rw[y, <-hc.1]
   ·exact ws y
  ·exact ws ⟨l,hl',hx⟩
 have hsup:∀l∈c.b,∀x∈l,∃l'∈b',x∈l':=λl hl' x hx=>by
  rw[<-hb'];split
  ·exact Ue hl' hx
  ·exact⟨l,hl',hx⟩
 have hblen:b'.length=c.b.length:=by
  rw[<-hb'];split
  ·exact Ub _ _ _
  ·rfl
 have hlog:2<=c.phase->c.phase<=4->∀n:Nat,fs[i]=(2,(n:Int))->c.g.mks n=wk∨∃l∈b',(n:Int)∈l:=λp2 p4 n en=>by
  have hn:=hold n en;by_cases hm:c.g.mks n=wk
  ·exact wr hm
  ·right;rw[<-hb',vy]
   ·rw[en];exact Wf ⟨by omega,ht8⟩ (by unfold Cq;rw[vy (by simp only;omega)];simp only;omega)
   ·rw[en];refine⟨rfl,?_,?_⟩
    ·simp only;rw[Fm _ hn];exact hm
    ·unfold Co.barrier;rw[(Iz c).2 ⟨p2,p4⟩];rfl
 have hK:∀x,Cy { c with b:=b',s:=s' } x↔Cy c x:=λx=>by
  unfold Cy;simp only;rw[s4]
 refine { h with si:=s5,ni:=⟨λx y=>(hK x).2 (h.ni.m1 x y),λl hl' b hb=>(hK b).2 ?_,λl hl' b hb=>(hK b).2 (h.ni.rt l hl' b hb),λn en=>(hK n).2 (h.ni.gl n en),λx j b y f=>(hK b).2 ?_⟩,bl:=by simp only;rw[hblen];exact h.bl,bok:=λl hl' x hx=>?_,p5:=λe5=>⟨λl hl'=>?_,(h.p5 e5).2⟩,p24:=λp2 p4=>⟨(h.p24 p2 p4).1,λQ hQ=>?_⟩ }
 ·rcases hsub l hl' b hb with y|⟨l',y,z⟩
  ·exact h.ni.cl a i b (ha.kp a rfl) (hof b y)
  ·exact h.ni.bf l' y b z
 ·rcases hF.1 f with⟨_,_,ev⟩|⟨_,g⟩
  ·exact hv.kp b ev
  ·exact h.ni.cl x j b ((hK x).1 y) g
 ·rcases hsub l hl' x hx with y|⟨l',y,z⟩
  ·have:=(o.fld i hlen).1;rw[y]at this;obtain⟨m,em,hm⟩:=Dz this rfl;have:x=m:=by simpa using em
   omega
  ·exact h.bok l' y x z
 ·simp only at hl' e5;have hnb:c.barrier (t:Int)=wl:=by unfold Co.barrier Co.marking;rw[e5];rfl
  rw[<-hb',vx (by rw[hnb];intro x;exact absurd x.2.2 (by decide))]at hl';exact (h.p5 e5).1 l hl'
 ·simp only at p2 p4;have hQo:∀n:Nat,fs[i]=(2,(n:Int))->Q n:=λn en=>by
   rcases hlog p2 p4 n en with y|⟨l,y,z⟩
   ·exact hQ.m1 n y
   ·exact hQ.bf l y n z
  have hfl:∀x j b,Fl c.s x j b->(x=a/\j=i/\fs[i]=(2,(b:Int)))∨Fl s' x j b:=λx j b f=>by
   by_cases hx:x=a/\j=i
   ·left;obtain⟨rfl,rfl⟩:=hx;refine⟨rfl,rfl,?_⟩;obtain⟨se,f',o2,e2⟩:=f;obtain⟨rfl,rfl⟩:=o2.same o;rw[xS hlen]at e2;exact p6 e2
   ·exact ws (hF.2 (ws ⟨hx,f⟩))
  have hQ':PC c Q:=by
   refine⟨hQ.m1,λl hl' b hb=>?_,λx j b y f p=>?_,λx j b y z f=>?_⟩
   ·obtain⟨l',y,z⟩:=hsup l hl' _ hb;exact hQ.bf l' y b z
   ·rcases hfl x j b f with⟨_,_,eb⟩|g
    ·exact hQo b eb
    ·exact hQ.pd x j b y g p
   ·rcases hfl x j b f with⟨_,_,eb⟩|g
    ·exact hQo b eb
    ·exact hQ.cl x j b y z g
  obtain⟨q1,q2⟩:=(h.p24 p2 p4).2 Q hQ';refine⟨q1,λx j b y f=>?_⟩;rcases hF.1 f with⟨rfl,rfl,ev⟩|⟨_,g⟩
  ·by_cases e2:c.phase=2
   ·refine hQ.pd x j b y f ?_;rcases (h.p2 e2).2 x y with z|z
    ·exact wr z
    ·exact ws (wr ⟨0,z,by omega⟩)
   ·exact hv.pc p2 p4 (λe3=>absurd e3 e2) Q hQ' b ev
  ·exact q2 x j b y g
def Fl.new{s s':St}{a n:Nat}(h:Gi s s' a n){x j b:Nat}:Fl s' x j b↔Fl s x j b:=by
 constructor
 ·rintro⟨ser,fs,o,e⟩;by_cases hx:x=a
  ·subst hx;obtain⟨_,rfl⟩:=o.same h.obj;rw[xX]at e;split at e
   ·simp at e
   ·cases e
  ·exact⟨ser,fs,(h.kept x hx).obj.1 o,e⟩
 ·rintro⟨ser,fs,o,e⟩;by_cases hx:x=a
  ·subst hx;have:=o.tk;rw[h.off]at this;cases this
  ·exact⟨ser,fs,(h.kept x hx).obj.2 o,e⟩
def Gi.tk{s s':St}{a n:Nat}(h:Gi s s' a n){x:Nat}(hx:s.c.tk x=wk):s'.c.tk x=wk:=by
 by_cases e:x=a
 ·subst e;rw[h.off]at hx;cases hx
 ·rw[(h.kept x e).1];exact hx
def KI.newO(h:KI cf E c){s':St}{a n:Nat}(hn:Gi c.s s' a n)(hs:SI s'):KI cf E { c with s:=s' }:=by
 have hK:∀x,Cy c x->Cy { c with s:=s' } x:=λx y=>⟨hn.tk y.1,y.2⟩;have hK':∀x,x≠a->Cy { c with s:=s' } x->Cy c x:=λx e y=>⟨by have:=y.1;simp only at this;rw[(hn.kept x e).1]at this;exact this,y.2⟩
 refine { h with si:=hs,ni:=⟨λx y=>hK x (h.ni.m1 x y),λl hl b hb=>hK b (h.ni.bf l hl b hb),λl hl b hb=>hK b (h.ni.rt l hl b hb),λm e=>hK m (h.ni.gl m e),λx j b y f=>?_⟩,p24:=λp2 p4=>⟨(h.p24 p2 p4).1,λQ hQ=>?_⟩ }
 ·have f':=(Fl.new hn).1 f;by_cases e:x=a
  ·subst e;obtain⟨_,_,o,_⟩:=f';have:=o.tk;rw[hn.off]at this;cases this
  ·exact hK b (h.ni.cl x j b (hK' x e y) f')
 ·obtain⟨q1,q2⟩:=(h.p24 p2 p4).2 Q ⟨hQ.m1,hQ.bf,λx j b y f p=>hQ.pd x j b y ((Fl.new hn).2 f) p,λx j b y z f=>hQ.cl x j b y z ((Fl.new hn).2 f)⟩;exact⟨q1,λx j b y f=>q2 x j b y ((Fl.new hn).1 f)⟩
def HZ(g:Gy){a:Nat}(h:a<2048):g.black (a:Int)={ g with mks:=C9 g.mks a wk }:=by unfold Gy.black;rw[vy ⟨by omega,by omega⟩,zK]
def Ej{m:Bs}{a b:Nat}:(C9 m a wk) b=wk↔b=a∨m b=wk:=by
 unfold C9;by_cases e:b=a
 ·rw[vy e];simp[e]
 ·rw[vx e];simp[e]
def KI.color(h:KI cf E c){a:Nat}(ha:c.s.c.tk a=wk)(hnil:∀j b,¬Fl c.s a j b)(t:Nat):KI cf E (c.color cf (a:Int))/\VG (c.color cf (a:Int)) t (2,(a:Int))/\(c.color cf (a:Int)).s=c.s:=by
 have hlt:a<2048:=by have:=h.si.hi.ci.tk_lt ha;have:=h.si.hi.ci.small_n;omega
 have hpg:Cq (a:Int)=((a / 32:Nat):Int):=by unfold Cq;rw[vy (by omega)];omega
 have hok:Dp (2,(a:Int))=wk:=by simp[Dp,DL];omega
 have hph:=h.ph;unfold Co.color;by_cases c2:c.phase=2
 ·rw[vy c2];have hm:=Jj cf.stack c.g hlt;have k:=h.gr (by omega) (by omega) (GH cf.stack (λx=>x=a) c.g (a:=(a:Int)) λn e=>by omega) λx e=>by rw[e];exact ha
  generalize c.g.shade cf.stack (a:Int)=g' at hm k ⊢;refine⟨k,⟨hok,λb e=>?_,λp2 p4 _ Q hQ b e=>?_⟩,rfl⟩
  ·have:a=b:=uv (by simpa using e);subst this;exact⟨ha,λe5=>by simp only at e5;omega⟩
  ·have:a=b:=uv (by simpa using e);subst this;exact hQ.m1 a hm
 rw[vx c2];by_cases c3:c.phase=3∨c.phase=4∨(c.phase=5/\c.at_<=Cq (a:Int))
 ·rw[vy c3,HZ _ hlt];have hK:∀x,Cy c x->Cy { c with g:={ c.g with mks:=C9 c.g.mks a wk } } x:=λx y=>⟨y.1,λe5=>(y.2 e5).imp id λz=>Ej.2 (ws z)⟩;have hKa:Cy { c with g:={ c.g with mks:=C9 c.g.mks a wk } } a:=⟨ha,λ_=>ws (Ej.2 (wr rfl))⟩;have hK':∀x,x≠a->Cy { c with g:={ c.g with mks:=C9 c.g.mks a wk } } x->Cy c x:=λx e y=>⟨y.1,λe5=>(y.2 e5).imp id λz=>(Ej.1 z).resolve_left e⟩
  refine⟨{ h with ni:=⟨λx y=>?_,λl hl b hb=>hK b (h.ni.bf l hl b hb),λl hl b hb=>hK b (h.ni.rt l hl b hb),λm e=>hK m (h.ni.gl m e),λx j b y f=>?_⟩,ent:=λe he=>?_,p01:=λe=>?_,p5:=λe5=>⟨(h.p5 e5).1,(h.p5 e5).2.1,λx y=>?_⟩,p24:=λp2 p4=>⟨Ej.2 (ws (h.p24 p2 p4).1),λQ hQ=>?_⟩,p2:=λe=>absurd e c2 },⟨hok,λb e=>?_,λp2 p4 _ Q hQ b e=>?_⟩,rfl⟩
  ·rcases Ej.1 y with rfl|z
   ·exact hKa
   ·exact hK x (h.ni.m1 x z)
  ·by_cases e:x=a
   ·subst e;exact absurd f (hnil j b)
   ·exact hK b (h.ni.cl x j b (hK' x e y) f)
  ·obtain⟨m,e1,e2,e3⟩:=h.ent e he;exact⟨m,e1,Ej.2 (ws e2),e3⟩
  ·simp only at e;omega
  ·rcases Ej.1 y with rfl|z
   ·have:c.phase=5:=e5;show c.at_<=_;rcases c3 with c3|c3|c3
    ·omega
    ·omega
    ·rw[hpg]at c3;exact c3.2
   ·exact (h.p5 e5).2.2 x z
  ·have hQ':PC c Q:=by
    refine⟨λx y=>hQ.m1 x (Ej.2 (ws y)),hQ.bf,λx j b y f p=>hQ.pd x j b (Ej.2 (ws y)) f p,λx j b y z f=>?_⟩;by_cases e:x=a
    ·subst e;exact absurd f (hnil j b)
    ·refine hQ.cl x j b y ?_ f;show (C9 c.g.mks a wk) x=wl;unfold C9;rw[vx e];exact z
   obtain⟨q1,q2⟩:=(h.p24 p2 p4).2 Q hQ';refine⟨q1,λx j b y f=>?_⟩;rcases Ej.1 y with rfl|z
   ·exact absurd f (hnil j b)
   ·exact q2 x j b z f
  ·have:a=b:=uv (by simpa using e);subst this;exact hKa
  ·have:a=b:=uv (by simpa using e);subst this;exact hQ.m1 a (Ej.2 (wr rfl))
 ·rw[vx c3];refine⟨h,⟨hok,λb e=>?_,λp2 p4 _ Q hQ b e=>?_⟩,rfl⟩
  ·have:a=b:=uv (by simpa using e);subst this;refine⟨ha,λe5=>wr ?_⟩;rw[hpg]at c3;omega
  ·omega
def O2{s s':St}{a n:Nat}(h:Gi s s' a n):∀j b,¬Fl s' a j b:=λj b f=>by
 obtain⟨_,_,o,_⟩:=(Fl.new h).1 f;have:=o.tk;rw[h.off]at this;cases this
def KI.fast(h:KI cf E c)(hM:c.s.made<1099511627775)(t:Nat)(n:Int):c.fast cf (t:Int) n=(c,wj)∨∃(a:Nat) (s':St) (c':Co),c.fast cf (t:Int) n=(c',wh (a:Int))/\Gi c.s s' a n.toNat/\c'=({ c with s:=s' }:Co).color cf (a:Int)/\KI cf E c'/\VG c' t (2,(a:Int))/\c'.s=s':=by
 unfold Co.fast;split
 ·rcases St.fast_ok h.si hM t n with⟨e,_⟩|⟨a,s',e,e1,e2,e3⟩
  ·rw[e];exact wr rfl
  ·rw[e];right;obtain⟨k1,k2,k3⟩:=(h.newO e1 e2).color (a:=a) e1.obj.tk (O2 e1) t;exact⟨a,s',_,rfl,e1,rfl,k1,k2,k3⟩
 ·exact wr rfl
def KI.slow(h:KI cf E c)(hM:c.s.made<1099511627775)(t:Nat)(n:Int):(∃e,e≠0/\c.slow cf (t:Int) n=(c,0,e))∨∃(a:Nat) (s':St) (c':Co),c.slow cf (t:Int) n=(c',(a:Int),0)/\Gi c.s s' a n.toNat/\c'=({ c with s:=s' }:Co).color cf (a:Int)/\KI cf E c'/\VG c' t (2,(a:Int))/\c'.s=s':=by
 unfold Co.slow;split
 ·rcases St.slow_ok h.si hM cf.pages.toNat (nt:=cf.threads+1) (by have:=h.t8;omega) t n with⟨e,e0,e1⟩|⟨a,s',e,e1,e2⟩
  ·rw[e1];simp only;rw[vx e0];exact wr ⟨e,e0,rfl⟩
  ·rw[e];right;obtain⟨k1,k2,k3⟩:=(h.newO e1 e2).color (a:=a) e1.obj.tk (O2 e1) t;refine⟨a,s',_,?_,e1,rfl,k1,k2,k3⟩;simp only;rw[vy trivial]
 ·exact wr ⟨4,by decide,rfl⟩
end
section
variable{cf:Cf}{E:Int}{c:Co}
def KI.traced(h:KI cf E c)(h3:c.phase=3){g':Gy}{tp':Int}(up:∀a,c.g.mks a=wk->g'.mks a=wk)(new:∀a,g'.mks a=wk->c.g.mks a=wk∨(c.s.c.tk a=wk/\(g'.over=wk∨((a:Int),0)∈g'.l)))(ent:∀e∈g'.l,∃n:Nat,e.1=n/\g'.mks n=wk/\0<=e.2)(tpr:tp' = -1∨(0<=tp'/\tp'<cf.pages))(pdk:∀a j b,c.g.mks a=wk->Fl c.s a j b->Pd c a j->g'.mks b=wk∨Pd { c with g:=g',tp:=tp' } a j):KI cf E { c with g:=g',tp:=tp' }:=by
 have hK:∀a,Cy { c with g:=g',tp:=tp' } a↔Cy c a:=λa=>⟨λx=>⟨x.1,λe=>absurd e (by omega)⟩,λx=>⟨x.1,λe=>absurd e (by simp only;omega)⟩⟩;obtain⟨g1,g2⟩:=h.p24 (by omega) (by omega)
 refine { h with ni:=⟨λa x=>(hK a).2 ?_,λl hl b hb=>(hK b).2 (h.ni.bf l hl b hb),λl hl b hb=>(hK b).2 (h.ni.rt l hl b hb),λn e=>(hK n).2 (h.ni.gl n e),λa j b x f=>(hK b).2 (h.ni.cl a j b ((hK a).1 x) f)⟩,ent:=ent,calm:=λe=>?_,p01:=λe=>?_,p5:=λe=>?_,p24:=λ_ _=>⟨up _ g1,λQ hQ=>?_⟩,p2:=λe=>?_,tpr:=tpr }
 ·rcases new a x with y|⟨y,_⟩
  ·exact h.ni.m1 a y
  ·exact⟨y,λe=>by omega⟩
 ·simp only at e;omega
 ·simp only at e;omega
 ·simp only at e;omega
 ·have hQ':PC c Q:=by
   refine⟨λa x=>hQ.m1 a (up a x),hQ.bf,λa j b x f p=>?_,λa j b q x f=>?_⟩
   ·rcases pdk a j b x f p with y|y
    ·exact hQ.m1 b y
    ·exact hQ.pd a j b (up a x) f y
   ·by_cases e:g'.mks a=wk
    ·rcases new a e with y|⟨_,y⟩
     ·rw[x]at y;cases y
     ·refine hQ.pd a j b e f ?_;rcases y with y|y
      ·exact wr y
      ·exact ws (wr ⟨0,y,by omega⟩)
    ·exact hQ.cl a j b q (by simpa using e) f
  obtain⟨q1,q2⟩:=g2 Q hQ';refine⟨λt ht _=>q1 t ht λe=>by omega,λa j b x f=>?_⟩;rcases new a x with y|⟨_,y⟩
  ·exact q2 a j b y f
  ·refine hQ.pd a j b x f ?_;rcases y with y|y
   ·exact wr y
   ·exact ws (wr ⟨0,y,by omega⟩)
 ·simp only at e;omega
def Lh(room:Int)(g:Gy)(e:Int × Int):(g.push room e).mks=g.mks:=by unfold Gy.push;split<;>rfl
def SU(room:Int)(g:Gy)(e:Int × Int):(g.push room e).over=wk∨e∈(g.push room e).l:=by
 unfold Gy.push;split
 ·exact wr rfl
 ·exact ws (by simp)
def Wv(room:Int)(g:Gy)(e:Int × Int):(∀x∈g.l,x∈(g.push room e).l)/\(g.over=wk->(g.push room e).over=wk)/\∀x∈(g.push room e).l,x∈g.l∨x=e:=by
 unfold Gy.push;split
 ·exact⟨λx hx=>hx,λ_=>rfl,λx hx=>wr hx⟩
 ·refine⟨λx hx=>by simp[hx],λh=>h,λx hx=>?_⟩;rcases n7.1 hx with y|y
  ·exact wr y
  ·exact ws (zF.1 y)
def KI.entry(h:KI cf E c)(h3:c.phase=3)(hch:0<=cf.chunk/\cf.chunk<=1000){e:Int × Int}(he:c.g.l.getLast?=wh e):KI cf E (({ c with g:={ c.g with l:=c.g.l.dropLast } }:Co).entry cf e):=by
 have hlast:∀x∈c.g.l,x∈c.g.l.dropLast∨x=e:=λx hx=>by
  have hne:c.g.l≠[]:=List.ne_nil_of_mem hx;have e1:=wZ hne;rw[wX hne]at he;rw[<-e1]at hx;rcases n7.1 hx with y|y
  ·exact wr y
  ·right;rw[zF.1 y];exact p6 he
 have hsub:∀x∈c.g.l.dropLast,x∈c.g.l:=λx hx=>yO _ hx;have hem:e∈c.g.l:=List.mem_of_getLast? he;obtain⟨a,ea,em,e0⟩:=h.ent e hem;have hta:=(h.ni.m1 a em).1;have hpd0:∀ {x j:Nat},Pd c x j->(x=a/\e.2<=j)∨Pd { c with g:={ c.g with l:=c.g.l.dropLast } } x j:=fun {x j} p=>by
  rcases p with p|⟨i,p,q⟩|p
  ·exact ws (wr p)
  ·rcases hlast _ p with y|y
   ·exact ws (ws (wr ⟨i,y,q⟩))
   ·left;rw[<-y]at ea ⊢;simp only at ea ⊢;exact⟨by omega,q⟩
  ·exact ws (ws (ws p))
 unfold Co.entry;simp only;by_cases hc:e.2<0∨c.s.fields e.1<=e.2
 ·rw[vy hc];refine h.traced h3 (g':={ c.g with l:=c.g.l.dropLast }) (tp':=c.tp) (λ_ x=>x) (λ_ x=>wr x) (λx hx=>h.ent x (hsub x hx)) h.tpr λx j b m f p=>?_;rcases hpd0 p with⟨rfl,q⟩|y
  ·exfalso;have:=(J6 h.si f).2.1;rw[ea]at hc;omega
  ·exact ws y
 rw[vx hc];have hn:c.s.fields e.1<=127:=by obtain⟨ser,fs,o,_⟩:=h.si.hi.obj a hta;rw[ea,(St.read_obj h.si.hi.ci o).1];have:=o.len;omega
 have hw:C7 (e.2+cf.chunk)=e.2+cf.chunk:=E9 (by omega);rw[hw];generalize hto:min (e.2+cf.chunk) (c.s.fields e.1)=to;have htb:e.2<=to/\to<=c.s.fields e.1:=by omega
 generalize hg1:(if to<c.s.fields e.1 then ({ c.g with l:=c.g.l.dropLast }:Gy).push cf.stack (e.1,to) else { c.g with l:=c.g.l.dropLast })=g1;have g1m:g1.mks=c.g.mks:=by
  rw[<-hg1];split
  ·rw[Lh]
  ·rfl
 have g1l:(∀x∈c.g.l.dropLast,x∈g1.l)/\(c.g.over=wk->g1.over=wk)/\(∀x∈g1.l,x∈c.g.l.dropLast∨x=(e.1,to))/\(to<c.s.fields e.1->g1.over=wk∨(e.1,to)∈g1.l):=by
  rw[<-hg1];split
  ·obtain⟨p1,p2,p3⟩:=Wv cf.stack ({ c.g with l:=c.g.l.dropLast }:Gy) (e.1,to);exact⟨p1,p2,p3,λ_=>SU _ _ _⟩
  ·rename_i hnt;exact⟨λx hx=>hx,λx=>x,λx hx=>wr hx,λy=>absurd y hnt⟩
 obtain⟨l1,l2,l3,l4⟩:=g1l;have hgr:Ep (λn=>c.s.c.tk n=wk) g1 (thru cf c.s e.1 (to-e.2).toNat e.2 g1):=FO cf _ _ _ _ λj n j1 j2 hj=>by
  obtain⟨x,ex,_,hf,_⟩:=J8 h.si hj (by omega);have:x=a:=by omega
  subst this;exact (h.ni.cl x _ n (h.ni.m1 x em) hf).1
 have hmk:∀(j n:Nat),e.2<=j->(j:Int)<to->Fl c.s a j n->(thru cf c.s e.1 (to-e.2).toNat e.2 g1).mks n=wk:=λj n j1 j2 f=>by
  obtain⟨f1,_,_,f4⟩:=J6 h.si f;exact M9 cf _ _ _ (j:Int) n (by omega) (by omega) (by rw[ea];exact f1) f4
 generalize thru cf c.s e.1 (to-e.2).toNat e.2 g1=g2 at hgr hmk;refine h.traced h3 (g':=g2) (tp':=c.tp) (λx y=>hgr.up x (by rw[g1m];exact y)) (λx y=>?_) (λx hx=>?_) h.tpr λx j b m f p=>?_
 ·rcases hgr.new x y with z|⟨z1,_,z3⟩
  ·rw[g1m]at z;exact wr z
  ·exact ws ⟨z1,z3⟩
 ·rcases hgr.ln x hx with y|⟨n,rfl,y⟩
  ·rcases l3 x y with z|rfl
   ·obtain⟨n,e1,e2,e3⟩:=h.ent x (hsub x z);exact⟨n,e1,hgr.up n (by rw[g1m];exact e2),e3⟩
   ·exact⟨a,ea,hgr.up a (by rw[g1m];exact em),by simp only;omega⟩
  ·exact⟨n,rfl,y,vj 0⟩
 ·rcases hpd0 p with⟨rfl,q⟩|y
  ·by_cases hj:(j:Int)<to
   ·exact wr (hmk j b q hj f)
   ·right;have hjn:=(J6 h.si f).2.1;rw[<-ea]at hjn;rcases l4 (by omega)with z|z
    ·exact wr (hgr.ov z)
    ·exact ws (wr ⟨to,by rw[<-ea];exact hgr.li _ z,by omega⟩)
  ·right;rcases y with y|⟨i,y,z⟩|y
   ·exact wr (hgr.ov (l2 y))
   ·exact ws (wr ⟨i,hgr.li _ (l1 _ y),z⟩)
   ·exact ws (ws y)
def Ef{s:St}(h:SI s){p x:Int}:x∈s.inP p↔∃a:Nat,x=a/\s.c.tk a=wk/\((a / 32:Nat):Int)=p:=by
 unfold St.inP St.objects HB;have hn:=h.hi.ci.small_n;simp only[p7,u7,uq,zV];constructor
 ·rintro⟨⟨a,⟨a1,a2⟩,rfl⟩,e⟩;refine⟨a,rfl,a2,?_⟩;have:=h.hi.ci.tk_lt a2;rw[<-e];show _=Cq (a:Int);unfold Cq;rw[vy (by omega)];omega
 ·rintro⟨a,rfl,ha,rfl⟩;have:=h.hi.ci.tk_lt ha;refine⟨⟨a,⟨by unfold Ce.n;omega,ha⟩,rfl⟩,?_⟩;show Cq (a:Int)=_;unfold Cq;rw[vy (by omega)];omega
def F4(s:St)(p:Int):(s.inP p).Nodup:=by unfold St.inP St.objects HB;refine List.Pairwise.filter _ ?_;refine List.Pairwise.map _ ?_ (List.Pairwise.filter _ List.nodup_range);intro a b hab e;exact hab (uv e)
def KI.look(h:KI cf E c)(h3:c.phase=3)(hp:1<=cf.pages/\cf.pages<=64)(hks:(c.s.c.ks.length:Int)=cf.pages)(hl:c.g.l=[]){p:Int}(h0:0<=p/\p<cf.pages){ov:Bool}(hov:(c.tp = -1/\p=0)∨(c.tp=p/\ov=c.g.over)):
  KI cf E (({ c with g:={ c.g with over:=ov },tp:=p }:Co).look cf):=by
 unfold Co.look;simp only;have hw:C7 (p+1)=p+1:=E9 (by omega);rw[hw];have hgr:Ep (λn=>c.s.c.tk n=wk) { c.g with over:=ov } (lookAll cf c.s (c.s.inP p) { c.g with over:=ov }):=Hx cf _ _ _ λx hx j n j0 hj hi=>by
  obtain⟨a,ea,ta,hf,_⟩:=J8 h.si hj j0;have hka:Cy c a:=⟨ta,λe=>by omega⟩;exact (h.ni.cl a _ n hka hf).1
 have hmk:∀(a j n:Nat),c.g.mks a=wk->((a / 32:Nat):Int)=p->Fl c.s a j n->(lookAll cf c.s (c.s.inP p) { c.g with over:=ov }).mks n=wk:=λa j n m e f=>by
  obtain⟨f1,f2,f3,f4⟩:=J6 h.si f;have hlt:a<2048:=by have:=h.si.hi.ci.tk_lt f3;have:=h.si.hi.ci.small_n;omega
  exact LJ cf _ _ (a:Int) ((Ef h.si).2 ⟨a,rfl,f3,e⟩) (by rw[Fm _ hlt];exact m) (j:Int) n (by omega) f2 f1 f4
 generalize lookAll cf c.s (c.s.inP p) { c.g with over:=ov }=g2 at hgr hmk;refine h.traced h3 (g':=g2) (λx y=>hgr.up x y) (λx y=>?_) (λx hx=>?_) ?_ λx j b m f q=>?_
 ·rcases hgr.new x y with z|⟨z1,_,z3⟩
  ·exact wr z
  ·exact ws ⟨z1,z3⟩
 ·rcases hgr.ln x hx with y|⟨n,rfl,y⟩
  ·simp only at y;rw[hl]at y;cases y
  ·exact⟨n,rfl,y,vj 0⟩
 ·by_cases e:p+1=cf.pages
  ·rw[vy e];exact wr rfl
  ·rw[vx e];right;omega
 ·have hxp:((x / 32:Nat):Int)<cf.pages:=by have:=(h.si.hi.ci.tk x (J6 h.si f).2.2.1).1;omega
  have hlate:p<((x / 32:Nat):Int)->Pd { c with g:=g2,tp:=if p+1=cf.pages then -1 else p+1 } x j:=λhlt=>by
   right;right;simp only;rw[vx (by omega)];omega
  by_cases e:((x / 32:Nat):Int)=p
  ·exact wr (hmk x j b m e f)
  ·right;rcases hov with⟨t1,t2⟩|⟨t1,t2⟩
   ·exact hlate (by omega)
   ·rcases q with q|⟨i,q,_⟩|q
    ·exact wr (hgr.ov (by simp only;rw[t2];exact q))
    ·rw[hl]at q;cases q
    ·exact hlate (by omega)
def KI.tUnit(h:KI cf E c)(h3:c.phase=3)(hch:0<=cf.chunk/\cf.chunk<=1000)(hp:1<=cf.pages/\cf.pages<=64)(hks:(c.s.c.ks.length:Int)=cf.pages):KI cf E (c.tUnit cf).1/\(c.tUnit cf).1.phase=3:=by
 have hph:∀(d:Co) (e:Int × Int),(d.entry cf e).phase=d.phase:=λd e=>by
  unfold Co.entry;simp only;split<;>rfl
 unfold Co.tUnit;split
 ·exact⟨h,h3⟩
 rename_i hni;cases he:c.g.l.getLast? with
 | some e=>exact⟨h.entry h3 hch he,by simp only;rw[hph];exact h3⟩
 | none=>
  have hl:c.g.l=[]:=List.getLast?_eq_none_iff.1 he;simp only;by_cases ht:c.tp = -1
  ·rw[vy ht];exact⟨h.look h3 hp hks hl (p:=0) (ov:=wl) (by omega) (wr ⟨ht,rfl⟩),h3⟩
  ·rw[vx ht];refine⟨?_,h3⟩;have:=h.look h3 hp hks hl (p:=c.tp) (ov:=c.g.over) (by have:=h.tpr;omega) (ws ⟨rfl,rfl⟩);exact this
end
theorem MU(m:List Int)(p k:Int):∀n,(E3 m p k n).length=m.length
 | 0=>rfl
 | n+1=>(E5 _ _ _).trans (MU m p k n)
def Sz(m:List Int)(p k:Int):(DM m p k).1.length=m.length:=by
 unfold DM;split
 ·exact (MU _ _ _ _).trans (Dw _ _ _ _)
 ·rfl
def Sh(c:Ce)(k:Int):(c.carve k).1.m.length=c.m.length:=by
 unfold Ce.carve;split
 ·rfl
 ·exact Sz _ _ _
def UK(c:Ce)(p:Int):(c.take p).1.m.length=c.m.length:=by
 unfold Ce.take;split
 ·rfl
 ·exact Dw _ _ _ _
def S8(c:Ce)(n:Int):(c.large n).1.m.length=c.m.length:=by
 unfold Ce.large;split
 ·rfl
 ·exact Dw _ _ _ _
def S1(m:List Int)(p k:Int)(l:Int × Int)(i:Int):(Fe m p k l i).1.length=m.length:=by
 unfold Fe;split
 ·exact E5 _ _ _
 ·rfl
def Uh(c:Ce)(a:Int):(c.give a).1.m.length=c.m.length:=by
 unfold Ce.give;split
 ·simp only;split
  ·rfl
  ·exact S1 _ _ _ _ _
 ·rfl
def Od(c:Ce)(p:Int):(c.drop p).1.m.length=c.m.length:=by unfold Ce.drop;split<;>rfl
def Nn(c:Ce)(a w:Int):(c.store a w).1.m.length=c.m.length:=by
 unfold Ce.store;split
 ·exact E5 _ _ _
 ·rfl
def MP(s:St)(a n:Int):(s.begin a n).c.m.length=s.c.m.length:=Nn _ _ _
def KS(s:St)(t n:Int):(s.fast t n).1.c.m.length=s.c.m.length:=by
 unfold St.fast;split
 ·rfl
 ·have h:=UK s.c (Fi s.own (t,CD n));generalize s.c.take (Fi s.own (t,CD n))=z at h;obtain⟨c,o⟩:=z;cases o
  ·rfl
  ·exact (MP _ _ _).trans h
def SL(s:St)(np:Nat)(k:Int):(s.openP np k).1.c.m.length=s.c.m.length:=by
 unfold St.openP;split
 ·rfl
 ·exact Sh _ _
def OL(s:St)(np:Nat)(nt t n:Int):(s.slow np nt t n).1.c.m.length=s.c.m.length:=by
 unfold St.slow;simp only;split
 ·rfl
 split
 ·have h:=S8 s.c (Ez n);generalize s.c.large (Ez n)=z at h;obtain⟨c,o⟩:=z;cases o
  ·rfl
  ·exact (MP _ _ _).trans h
 ·have h:=KS s t n;generalize s.fast t n=z at h;obtain⟨c,o⟩:=z;cases o
  ·simp only;have h2:=SL s np (CD n);generalize s.openP np (CD n)=z2 at h2;obtain⟨c2,o2⟩:=z2;cases o2
   ·rfl
   ·simp only;rw[KS];split
    ·exact h2
    ·exact h2
  ·exact h
theorem K7:∀(l:List Int) (s:St),(s.dropAll l).c.m.length=s.c.m.length
 | [],_=>rfl
 | p::l,s=>(K7 l _).trans (Od _ _)
def UA(s:St)(t:Int):(s.quit t).c.m.length=s.c.m.length:=K7 _ _
def UN(s:St)(p:Int):(s.trim p).c.m.length=s.c.m.length:=by
 unfold St.trim;split
 ·exact Od _ _
 ·rfl
def Wz(s:St)(a i:Int)(v:V2):(s.set a i v).1.c.m.length=s.c.m.length:=by
 unfold St.set;split
 ·exact Nn _ _ _
 ·rfl
section
variable(cf:Cf)
def OO(c:Co)(a:Int):(c.sweepOne a).s.c.m.length=c.s.c.m.length:=by
 unfold Co.sweepOne;split
 ·rfl
 ·exact Uh _ _
theorem JX:∀(l:List Int) (c:Co),(c.sweepAll l).s.c.m.length=c.s.c.m.length
 | [],_=>rfl
 | a::l,c=>(JX l _).trans (OO c a)
def It(c:Co):(c.wUnit cf).1.s.c.m.length=c.s.c.m.length:=by
 unfold Co.wUnit;split
 ·rfl
 ·exact (UN _ _).trans (JX _ _)
def W8(c:Co):(c.unit cf).1.s.c.m.length=c.s.c.m.length:=by
 have h1:∀(r:Co × Bool),r.1.s.c.m.length=c.s.c.m.length->(if r.2 then ({ r.1 with units:=C7 (r.1.units+1) }:Co) else r.1).s.c.m.length=c.s.c.m.length:=λr h=>by split<;>exact h
 unfold Co.unit;refine h1 _ ?_;split
 ·have ht:=H7 cf c;generalize c.tUnit cf=z at ht;obtain⟨d,b⟩:=z;simp only at ht;cases b with
  | true=>simp only;rw[ht]
  | false=>simp only;unfold Co.adv;rw[Gj];show d.s.c.m.length=_;rw[ht]
 ·split
  ·have hw:=It cf c;generalize c.wUnit cf=z at hw;obtain⟨d,b⟩:=z;simp only at hw ⊢;split<;>exact hw
  ·rfl
def Sn(c:Co)(t:Int):(c.detach cf t).s.c.m.length=c.s.c.m.length:=by
 unfold Co.detach Co.adv;split
 ·simp only;rw[Gj];exact UA _ _
 ·rfl
def Si(c:Co)(t n:Int):(c.fast cf t n).1.s.c.m.length=c.s.c.m.length:=by
 unfold Co.fast;split
 ·have h:=KS c.s t n;generalize c.s.fast t n=z at h;obtain⟨s',o⟩:=z;cases o with
  | none=>rfl
  | some a=>simp only;rw[Kg];exact h
 ·rfl
def Sm(c:Co)(t n:Int):(c.slow cf t n).1.s.c.m.length=c.s.c.m.length:=by
 unfold Co.slow;split
 ·have h:=OL c.s cf.pages.toNat (cf.threads+1) t n;generalize c.s.slow cf.pages.toNat (cf.threads+1) t n=z at h;obtain⟨s',a,e⟩:=z;simp only at h ⊢;split
  ·rw[Kg];exact h
  ·exact h
 ·rfl
def Ts(c:Co)(t a i:Int)(v:V2):(c.write t a i v).1.s.c.m.length=c.s.c.m.length:=by
 unfold Co.write;split
 ·exact Wz _ _ _ _
 ·rfl
end
structure N0(c d:Co)(l:List Int):Prop where
 si:SI c.s->SI d.s
 out:∀b:Nat,(b:Int)∉l->C0 c.s.c d.s.c b/\d.g.mks b=c.g.mks b
 inn:∀b:Nat,(b:Int)∈l->c.g.mks b=wk->C0 c.s.c d.s.c b
 gone:∀b:Nat,(b:Int)∈l->c.g.mks b=wl->d.s.c.tk b=wl
 clear:∀b:Nat,(b:Int)∈l->d.g.mks b=wl
 gl:d.g.l=c.g.l/\d.g.over=c.g.over
 r:d.r=c.r
 b:d.b=c.b
 tp:d.tp=c.tp
 at_:d.at_=c.at_
 th:d.th=c.th
 global:d.global=c.global
 phase:d.phase=c.phase
 cycles:d.cycles=c.cycles
 made:d.s.made=c.s.made
theorem DJ:∀(l:List Int) (c:Co),SI c.s->l.Nodup->(∀x∈l,∃a:Nat,x=a/\c.s.c.tk a=wk)->N0 c (c.sweepAll l) l
 | [],c,h,_,_=>⟨λx=>x,λb _=>⟨C0.refl _ _,rfl⟩,λb hb=>(by cases hb),λb hb=>(by cases hb),λb hb=>(by cases hb),⟨rfl,rfl⟩,rfl,rfl,rfl,rfl,rfl,rfl,rfl,rfl,rfl⟩
 | x::l,c,h,hn,hm=>by
  obtain⟨a,rfl,ha⟩:=hm x (by simp);have hna:(a:Int)∉l:=(o7.1 hn).1;have hlt:a<2048:=by have:=h.hi.ci.tk_lt ha;have:=h.hi.ci.small_n;omega
  have hne:∀b:Nat,(b:Int)≠(a:Int)->b≠a:=λb e e'=>e (by rw[e']);rw[Co.sweepAll];by_cases hmk:c.g.mks a=wk
  ·have hc:c.g.clear (a:Int)={ c.g with mks:=C9 c.g.mks a wl }:=by unfold Gy.clear;rw[Fm _ hlt,vy hmk,zK]
   have h1:c.sweepOne (a:Int)={ c with g:={ c.g with mks:=C9 c.g.mks a wl } }:=by unfold Co.sweepOne;rw[Fm _ hlt,vy hmk,hc]
   rw[h1];have ih:=DJ l { c with g:={ c.g with mks:=C9 c.g.mks a wl } } h (o7.1 hn).2 λy hy=>hm y (by simp[hy]);generalize Co.sweepAll { c with g:={ c.g with mks:=C9 c.g.mks a wl } } l=d at ih;have hb0:∀b,b≠a->(C9 c.g.mks a wl) b=c.g.mks b:=λb e=>by unfold C9;rw[vx e]
   refine⟨ih.si,λb hb=>?_,λb hb m=>?_,λb hb m=>?_,λb hb=>?_,ih.gl,ih.r,ih.b,ih.tp,ih.at_,ih.th,ih.global,ih.phase,ih.cycles,ih.made⟩
   ·simp only[ux,not_or]at hb;obtain⟨k1,k2⟩:=ih.out b hb.2;exact⟨k1,k2.trans (hb0 b (hne b hb.1))⟩
   ·rcases ux.1 hb with e|g
    ·have:b=a:=by omega
     subst this;exact (ih.out b hna).1
    ·by_cases e:b=a
     ·subst e;exact absurd g hna
     ·exact ih.inn b g (by simp only;rw[hb0 b e];exact m)
   ·rcases ux.1 hb with e|g
    ·have:b=a:=by omega
     subst this;rw[m]at hmk;cases hmk
    ·by_cases e:b=a
     ·subst e;exact absurd g hna
     ·exact ih.gone b g (by simp only;rw[hb0 b e];exact m)
   ·rcases ux.1 hb with e|g
    ·have:b=a:=by omega
     subst this;rw[(ih.out b hna).2];simp[C9]
    ·exact ih.clear b g
  ·have hmf:c.g.mks a=wl:=by simpa using hmk
   obtain⟨g1,g2,g3,g4⟩:=St.give_ok h ha;have h1:c.sweepOne (a:Int)={ c with s:={ c.s with c:=(c.s.c.give (a:Int)).1 },freed:=if (c.s.c.give (a:Int)).2 then C7 (c.freed+1) else c.freed }:=by unfold Co.sweepOne;rw[Fm _ hlt,vx hmk]
   rw[h1];have ih:=DJ l { c with s:={ c.s with c:=(c.s.c.give (a:Int)).1 },freed:=if (c.s.c.give (a:Int)).2 then C7 (c.freed+1) else c.freed } g2 (o7.1 hn).2 λy hy=>by
    obtain⟨b,rfl,hb⟩:=hm y (by simp[hy]);have:b≠a:=λe=>hna (by rw[<-e];exact hy);exact⟨b,rfl,by simp only;rw[(g4 b this).1];exact hb⟩
   generalize Co.sweepAll { c with s:={ c.s with c:=(c.s.c.give (a:Int)).1 },freed:=if (c.s.c.give (a:Int)).2 then C7 (c.freed+1) else c.freed } l=d at ih;refine⟨λ_=>ih.si g2,λb hb=>?_,λb hb m=>?_,λb hb m=>?_,λb hb=>?_,ih.gl,ih.r,ih.b,ih.tp,ih.at_,ih.th,ih.global,ih.phase,ih.cycles,ih.made⟩
   ·simp only[ux,not_or]at hb;obtain⟨k1,k2⟩:=ih.out b hb.2;exact⟨(g4 b (hne b hb.1)).trans k1,k2⟩
   ·rcases ux.1 hb with e|g
    ·have:b=a:=by omega
     subst this;rw[hmf]at m;cases m
    ·by_cases e:b=a
     ·subst e;exact absurd g hna
     ·exact (g4 b e).trans (ih.inn b g m)
   ·rcases ux.1 hb with e|g
    ·have:b=a:=by omega
     subst this;rw[(ih.out b hna).1.1];exact g3
    ·exact ih.gone b g m
   ·rcases ux.1 hb with e|g
    ·have:b=a:=by omega
     subst this;rw[(ih.out b hna).2];exact hmf
    ·exact ih.clear b g
def N0.fl{c d:Co}{l:List Int}(h:N0 c d l){x j b:Nat}(f:Fl d.s x j b):Fl c.s x j b:=by
 obtain⟨ser,fs,o,e⟩:=f;by_cases hx:(x:Int)∈l
 ·by_cases hm:c.g.mks x=wk
  ·exact⟨ser,fs,(h.inn x hx hm).obj.1 o,e⟩
  ·have:=h.gone x hx (by simpa using hm);rw[o.tk]at this;cases this
 ·exact⟨ser,fs,(h.out x hx).1.obj.1 o,e⟩
section
variable{cf:Cf}{E:Int}{c:Co}
def KI.swept(h:KI cf E c)(h5:c.phase=5){d:Co}(hs:N0 c d (c.s.inP c.at_))(hat:c.at_<=1000){s':St}(hs':SI s')(hk:∀b,C0 d.s.c s'.c b)(hm:s'.made=d.s.made):KI cf E { d with s:=s',at_:=C7 (d.at_+1) }:=by
 obtain⟨b5,a5,m5⟩:=h.p5 h5;have hw:C7 (d.at_+1)=c.at_+1:=by rw[hs.at_];exact E9 (by omega)
 rw[hw];have hin:∀b:Nat,c.s.c.tk b=wk->((b / 32:Nat):Int)=c.at_->(b:Int)∈c.s.inP c.at_:=λb tb e=>(Ef h.si).2 ⟨b,rfl,tb,e⟩;have hout:∀b:Nat,(b:Int)∈c.s.inP c.at_->((b / 32:Nat):Int)=c.at_:=λb hb=>by
  obtain⟨a,e,_,e2⟩:=(Ef h.si).1 hb;have:b=a:=by omega
  rw[this];exact e2
 have hmks:∀b,d.g.mks b=wk->(b:Int)∉c.s.inP c.at_/\c.g.mks b=wk:=λb m=>by
  by_cases hb:(b:Int)∈c.s.inP c.at_
  ·rw[hs.clear b hb]at m;cases m
  ·exact⟨hb,by rw[<-(hs.out b hb).2];exact m⟩
 have hK:∀a,Cy { d with s:=s',at_:=c.at_+1 } a↔Cy c a:=λa=>by
  constructor
  ·rintro⟨x1,x2⟩;have x2:=x2 (by simp only;rw[hs.phase];exact h5);simp only at x1 x2;rw[(hk a).1]at x1;by_cases ha:(a:Int)∈c.s.inP c.at_
   ·by_cases hm:c.g.mks a=wk
    ·exact⟨(h.ni.m1 a hm).1,λ_=>ws hm⟩
    ·rw[hs.gone a ha (by simpa using hm)]at x1;cases x1
   ·obtain⟨k1,k2⟩:=hs.out a ha;rw[k1.1]at x1;refine⟨x1,λ_=>?_⟩;rcases x2 with x2|x2
    ·left;have:((a / 32:Nat):Int)≠c.at_:=λe=>ha (hin a x1 e);omega
    ·exact ws (by rw[<-k2];exact x2)
  ·rintro⟨x1,x2⟩;have x2:=x2 h5;by_cases ha:(a:Int)∈c.s.inP c.at_
   ·have hp:=hout a ha;have hm:c.g.mks a=wk:=x2.resolve_left (by omega);refine⟨?_,λ_=>wr ?_⟩
    ·simp only;rw[(hk a).1,(hs.inn a ha hm).1];exact x1
    ·simp only;omega
   ·obtain⟨k1,k2⟩:=hs.out a ha;refine⟨by simp only;rw[(hk a).1,k1.1];exact x1,λ_=>?_⟩;rcases x2 with x2|x2
    ·left;simp only;omega
    ·right;simp only;rw[k2];exact x2
 have hcalm:=h.calm (ws h5);have hlive:∀u:Int,d.r.live u=c.r.live u:=λu=>by rw[hs.r]
 refine⟨hs',⟨λa x=>(hK a).2 (h.ni.m1 a (hmks a x).2),λl hl b hb=>(hK b).2 (h.ni.bf l (by simp only at hl;rw[hs.b]at hl;exact hl) b hb),λl hl b hb=>(hK b).2 (h.ni.rt l (by simp only at hl;rw[hs.th]at hl;exact hl) b hb),λn e=>(hK n).2 (h.ni.gl n (by simp only at e;rw[hs.global]at e;exact e)),λa j b x f=>(hK b).2 (h.ni.cl a j b ((hK a).1 x) (hs.fl ((Fl.same hk).1 f)))⟩,h.t8,by simp only;rw[hs.th];exact h.thl,by simp only;rw[hs.r];exact h.rl,by simp only;rw[hs.b];exact h.bl,by simp only;rw[hs.th];exact h.vok,by simp only;rw[hs.b];exact h.bok,λe he=>?_,by simp only;rw[hs.global];exact h.gn,by simp only;rw[hs.r,hs.th];exact h.lv,by simp only;rw[hs.r];exact h.ep,by simp only;rw[hs.r];exact h.e0,by simp only;rw[hs.phase];exact h.ph,λ_=>?_,λe=>?_,λ_=>⟨by simp only;rw[hs.b];exact b5,by simp only;omega,λa x=>?_⟩,λp2 p4=>?_,λe=>?_,by simp only;rw[hs.tp];exact h.tpr⟩
 ·simp only at he;rw[hs.gl.1,hcalm.1]at he;cases he
 ·simp only;rw[hs.gl.1,hs.gl.2,hs.tp];exact hcalm
 ·simp only at e;rw[hs.phase]at e;omega
 ·obtain⟨x1,x2⟩:=hmks a x;have:=m5 a x2;have:((a / 32:Nat):Int)≠c.at_:=λe=>x1 (hin a (h.ni.m1 a x2).1 e);simp only;omega
 ·simp only at p4;rw[hs.phase]at p4;omega
 ·simp only at e;rw[hs.phase]at e;omega
def KI.wUnit(h:KI cf E c)(h5:c.phase=5)(hp:cf.pages<=64):KI cf E (c.wUnit cf).1/\(c.wUnit cf).1.phase=5/\((c.wUnit cf).2=wl->cf.pages<=c.at_/\(c.wUnit cf).1=c):=by
 unfold Co.wUnit;split
 ·rename_i hc;exact⟨h,h5,λ_=>⟨hc,rfl⟩⟩
 ·rename_i hc;simp only;have hs:=DJ (c.s.inP c.at_) c h.si (F4 _ _) λx hx=>by
   obtain⟨a,e,ta,_⟩:=(Ef h.si).1 hx;exact⟨a,e,ta⟩
  generalize c.sweepAll (c.s.inP c.at_)=d at hs;obtain⟨t1,t2,t3,t4⟩:=St.trim_ok (hs.si h.si) d.at_;exact⟨h.swept h5 hs (by omega) t1 t2 t3,by rw[hs.phase];exact h5,λe=>by cases e⟩
def KI.five_none(h:KI cf E c)(h5:c.phase=5)(hks:(c.s.c.ks.length:Int)=cf.pages)(hat:cf.pages<=c.at_)(n:Int):KI cf E { c with phase:=0,cycles:=n }:=by
 obtain⟨b5,a5,m5⟩:=h.p5 h5;have hcalm:=h.calm (ws h5);have hpg:∀a,c.s.c.tk a=wk->((a / 32:Nat):Int)<cf.pages:=λa ta=>by have:=(h.si.hi.ci.tk a ta).1;omega
 have hno:∀a,c.g.mks a=wl:=λa=>by
  cases hm:c.g.mks a with
  | false=>rfl
  | true=>have:=m5 a hm;have:=hpg a (h.ni.m1 a hm).1;omega
 have hK:∀a,Cy { c with phase:=0,cycles:=n } a↔Cy c a:=λa=>⟨λx=>⟨x.1,λ_=>wr (by have:=hpg a x.1;omega)⟩,λx=>⟨x.1,λe=>absurd (show (0:Int)=5 from e) (by decide)⟩⟩
 refine { h with ni:=⟨λa x=>(hK a).2 (h.ni.m1 a x),λl hl b hb=>(hK b).2 (h.ni.bf l hl b hb),λl hl b hb=>(hK b).2 (h.ni.rt l hl b hb),λn e=>(hK n).2 (h.ni.gl n e),λa j b x f=>(hK b).2 (h.ni.cl a j b ((hK a).1 x) f)⟩,ph:=by simp only;decide,calm:=λ_=>hcalm,p01:=λ_=>hno,p5:=λe=>absurd (show (0:Int)=5 from e) (by decide),p24:=λe=>absurd (show (2:Int)<=0 from e) (by decide),p2:=λe=>absurd (show (0:Int)=2 from e) (by decide) }
def KI.units(h:KI cf E c)(n:Int):KI cf E { c with units:=n }:=
 { h with ni:=⟨h.ni.m1,h.ni.bf,h.ni.rt,h.ni.gl,h.ni.cl⟩,p24:=λp2 p4=>⟨(h.p24 p2 p4).1,λQ hQ=>(h.p24 p2 p4).2 Q ⟨hQ.m1,hQ.bf,hQ.pd,hQ.cl⟩⟩ }
def KI.unit(h:KI cf E c)(hE:E+5<=1000000000)(hch:0<=cf.chunk/\cf.chunk<=1000)(hp:1<=cf.pages/\cf.pages<=64)(hks:(c.s.c.ks.length:Int)=cf.pages):KI cf (E+5) (c.unit cf).1:=by
 have hu:∀(r:Co × Bool),KI cf (E+5) r.1->KI cf (E+5) (if r.2 then ({ r.1 with units:=C7 (r.1.units+1) }:Co) else r.1):=λr h=>by
  split
  ·exact h.units _
  ·exact h
 unfold Co.unit;refine hu _ ?_;by_cases c3:c.phase=3
 ·rw[vy c3];obtain⟨k1,k2⟩:=h.tUnit c3 hch hp hks;generalize c.tUnit cf=z at k1 k2;obtain⟨d,b⟩:=z;cases b with
  | true=>exact k1.up (by omega)
  | false=>
   have k3:=(k1.raised (by omega) (wr k2)).three (p:=4) (wr k2) (ws rfl);exact (KI.adv 4 _ _ k3 (by omega)).up (by omega)
 rw[vx c3];by_cases c5:c.phase=5
 ·rw[vy c5];obtain⟨k1,k2,k3⟩:=h.wUnit c5 hp.2;have hl:((c.wUnit cf).1.s.c.ks.length:Int)=cf.pages∨True:=ws trivial;have hks':∀d:Co,KI cf E d->d.s.c.m.length=c.s.c.m.length->(d.s.c.ks.length:Int)=cf.pages:=λd kd e=>by
   have:=kd.si.hi.ci.ml;have:=h.si.hi.ci.ml;omega
  generalize hz:c.wUnit cf=z at k1 k2 k3;obtain⟨d,b⟩:=z;simp only at k1 k2 k3 ⊢;by_cases hd:cf.pages<=d.at_
  ·rw[vy hd];refine (k1.five_none k2 ?_ hd _).up (by omega);refine hks' d k1 ?_;have:d=(c.wUnit cf).1:=by rw[hz]
   rw[this];exact It cf c
  ·rw[vx hd];exact k1.up (by omega)
 ·rw[vx c5];exact h.up (by omega)
def KI.beginC(h:KI cf E c)(hE:E+5<=1000000000):KI cf (E+5) (c.beginC cf).1:=by
 unfold Co.beginC;by_cases c0:c.phase=0
 ·rw[vy c0];have hE':=Mf h (by omega);have hcalm:=h.calm (wr (by omega));have hno:=h.p01 (by omega);have k:KI cf (E+1) (({ c with units:=0 }:Co).raise 1):=by
   unfold Co.raise Rg.raise
   refine { h with ni:=⟨λa x=>⟨(h.ni.m1 a x).1,λe=>absurd (show (1:Int)=5 from e) (by decide)⟩,λl hl b hb=>⟨(h.ni.bf l hl b hb).1,λe=>absurd (show (1:Int)=5 from e) (by decide)⟩,λl hl b hb=>⟨(h.ni.rt l hl b hb).1,λe=>absurd (show (1:Int)=5 from e) (by decide)⟩,λn e=>⟨(h.ni.gl n e).1,λe=>absurd (show (1:Int)=5 from e) (by decide)⟩,λa j b x f=>⟨(h.ni.cl a j b ⟨x.1,λe=>by omega⟩ f).1,λe=>absurd (show (1:Int)=5 from e) (by decide)⟩⟩,ep:=λt ht=>?_,e0:=?_,ph:=by simp only;decide,calm:=λ_=>hcalm,p01:=λ_=>hno,p5:=λe=>absurd (show (1:Int)=5 from e) (by decide),p24:=λe=>absurd (show (2:Int)<=1 from e) (by decide),p2:=λe=>absurd (show (1:Int)=2 from e) (by decide) }
   ·have:=h.ep t ht;show c.r.ofT t<=C7 (c.r.ep+1);rw[hE'];omega
   ·show 0<=C7 (c.r.ep+1)/\C7 (c.r.ep+1)<=E+1;rw[hE'];have:=h.e0;omega
  exact (KI.adv 4 _ _ k (by omega)).up (by omega)
 ·rw[vx c0];exact h.up (by omega)
end
structure MI(cf:Cf)(E:Int)(c:Co):Prop where
 k:KI cf E c
 ln:c.s.c.m.length=cf.pages.toNat*32
 md:c.s.made<=E
structure C3(cf:Cf):Prop where
 ch:0<=cf.chunk/\cf.chunk<=1000
 pg:1<=cf.pages/\cf.pages<=64
 tx:0<=cf.tax/\cf.tax<=64
section
variable{cf:Cf}{E:Int}{c:Co}
def MI.ks(h:MI cf E c)(L:C3 cf):(c.s.c.ks.length:Int)=cf.pages:=by have:=h.k.si.hi.ci.ml;have:=h.ln;have:=L.pg;omega
def MI.up(h:MI cf E c){E':Int}(he:E<=E'):MI cf E' c:=⟨h.k.up he,h.ln,by have:=h.md;omega⟩
def MI.unit(h:MI cf E c)(L:C3 cf)(hE:E+5<=1000000000):MI cf (E+5) (c.unit cf).1:=by obtain⟨s1,s2,s3⟩:=W9 cf c h.k.si (by have:=h.md;omega);exact⟨h.k.unit hE L.ch L.pg (h.ks L),by rw[W8];exact h.ln,by have:=h.md;omega⟩
theorem MI.workN(L:C3 cf):∀(n:Nat) (c:Co) (E:Int),MI cf E c->E+5*n<=1000000000->MI cf (E+5*n) (c.workN cf n).1
 | 0,c,E,h,_=>h.up (by omega)
 | n+1,c,E,h,hE=>by
  have h1:=h.unit L (by omega);unfold Co.workN;generalize c.unit cf=z at h1;obtain⟨d,b⟩:=z;cases b with
  | true=>exact (MI.workN L n d _ h1 (by omega)).up (by omega)
  | false=>exact h1.up (by omega)
def MI.same{d:Co}(h:MI cf E c)(k:KI cf E d)(e:d.s=c.s):MI cf E d:=⟨k,by rw[e];exact h.ln,by rw[e];exact h.md⟩
def MI.beginC(h:MI cf E c)(hE:E+5<=1000000000):MI cf (E+5) (c.beginC cf).1:=
 (h.up (show E<=E+5 by omega)).same (h.k.beginC hE) (NS cf c)
def MI.attach(h:MI cf E c)(t:Int):MI cf E (c.attach t):=h.same (h.k.attach t) rfl
def MI.detach(h:MI cf E c)(hE:E+5<=1000000000)(t:Int):MI cf (E+5) (c.detach cf t):=by obtain⟨s1,s2,s3⟩:=So cf c t h.k.si (by have:=h.md;omega);exact⟨(h.k.detach (by omega) t).up (by omega),by rw[Sn];exact h.ln,by have:=h.md;omega⟩
def MI.poll(h:MI cf E c)(hE:E+5<=1000000000)(t:Int):MI cf (E+5) (c.poll cf t):=
 (h.up (show E<=E+5 by omega)).same ((h.k.poll (by omega) t).up (by omega)) (OD cf c t)
def MI.push(h:MI cf E c){t:Nat}{v:V2}(hv:VG c t v):MI cf E (c.push (t:Int) v).1:=h.same (h.k.push hv) (JL c t v)
def MI.pop(h:MI cf E c)(t:Nat):MI cf E (c.pop (t:Int)).1:=h.same (h.k.pop t) (Re c t)
def MI.write(h:MI cf E c)(hE:E<=1000000000){t a:Nat}{i:Int}{v:V2}(ha:VG c t (2,(a:Int)))(hv:VG c t v):MI cf E (c.write (t:Int) (a:Int) i v).1:=by obtain⟨s1,s2,s3⟩:=UT c (t:Int) (a:Int) i v h.k.si (by have:=h.md;omega);exact⟨h.k.write ha hv,by rw[Ts];exact h.ln,by have:=h.md;omega⟩
end
structure MJ(cf:Cf)(E:Int)(m:Ma):Prop where
 c:MI cf E m.co
 bk:0<=m.bi-m.bo/\m.bi-m.bo<=cf.cap
section
variable{cf:Cf}{E:Int}{m:Ma}
def MJ.up(h:MJ cf E m){E':Int}(he:E<=E'):MJ cf E' m:=⟨h.c.up he,h.bk⟩
def MJ.co(h:MJ cf E m){E':Int}{c:Co}(hc:MI cf E' c):MJ cf E' { m with co:=c }:=⟨hc,h.bk⟩
def MJ.charge(h:MJ cf E m)(t n:Int):MJ cf E (m.charge cf t n):=by
 unfold Ma.charge;split
 ·exact⟨h.c,h.bk⟩
 ·exact h
def MJ.ownT(h:MJ cf E m)(t n:Int):MJ cf E (m.ownT cf t n):=⟨h.c,h.bk⟩
def MJ.put(h:MJ cf E m){n:Int}(hn:0<=n):MJ cf E (m.put cf n):=by have:=h.bk;refine⟨h.c,?_⟩;unfold Ma.put;simp only;omega
def MJ.ahead(L:C3 cf)(h:MJ cf E m){n:Int}(hn:n<=64)(hE:E+320<=1000000000):MJ cf (E+320) (m.ahead cf n).1:=by have h1:=MI.workN L n.toNat m.co E h.c (by omega);unfold Ma.ahead;exact (h.co (h1.up (by omega))).put (by omega)
def MJ.tax(L:C3 cf)(h:MJ cf E m)(x:Cd)(hE:E+320<=1000000000):MJ cf (E+320) (m.tax cf x).1:=by
 unfold Ma.tax;split
 ·exact h.up (by omega)
 simp only;split
 ·exact h.up (by omega)
 simp only;have hb:=h.bk;have ht:=L.tx;have h1:=MI.workN L (cf.tax-min (m.bi-m.bo) cf.tax).toNat m.co E h.c (by omega);refine MJ.charge (m:={ m with co:=_,bo:=_ }) ⟨h1.up (by omega),?_⟩ _ _;simp only;omega
def MJ.root(h:MJ cf E m){t:Nat}{i:Int}{v:V2}(hl:m.co.r.live (t:Int)=wk)(hv:m.root (t:Int) i=wh v):VG m.co t v:=by unfold Ma.root Co.roots at hv;rw[vy hl,zK]at hv;exact h.c.k.root hl (yR hv)
def MJ.object(h:MJ cf E m){x:Cd}{t:Nat}(ht:x.t=t)(hl:m.co.r.live (t:Int)=wk)(ho:(m.object x).2=0):∃a:Nat,(m.object x).1=a/\VG m.co t (2,(a:Int)):=by
 unfold Ma.object at *;rw[ht] at *;cases hr:m.root (t:Int) x.i with
 | none=>rw[hr]at ho;cases ho
 | some v=>
  rw[hr]at ho;simp only at ho ⊢;by_cases h2:v.1≠2
  ·rw[vy h2]at ho;cases ho
  ·rw[vx h2];have hg:=h.root hl hr;obtain⟨b,rfl,_⟩:=Dz hg.ok (by omega);exact⟨b,rfl,hg⟩
def MJ.value(h:MJ cf E m){x:Cd}{t:Nat}(ht:x.t=t)(hl:m.co.r.live (t:Int)=wk)(ho:(m.value x).2=0):VG m.co t (m.value x).1:=by
 have hnil:VG m.co t (0,0):=VG.plain Qm (by decide);unfold Ma.value at *;by_cases c4:x.kd=4
 ·rw[vy c4]at ho ⊢;by_cases hc:DL 1 x.n=0
  ·rw[vy hc];exact VG.plain (by simpa[Dp] using hc) (show (1:Int)≠2 by decide)
  ·rw[vx hc];exact hnil
 rw[vx c4]at ho ⊢;by_cases c6:x.kd=6
 ·rw[vy c6];exact h.c.k.glob t
 rw[vx c6]at ho ⊢;by_cases c7:x.kd=7
 ·rw[vy c7]at ho ⊢;cases hr:m.root x.t x.i with
  | none=>exact hnil
  | some v=>rw[ht]at hr;exact h.root hl hr
 rw[vx c7]at ho ⊢;by_cases c9:x.kd=9
 ·rw[vy c9]at ho ⊢;by_cases h1:(m.object x).2≠0
  ·rw[vy h1];exact hnil
  ·rw[vx h1];obtain⟨a,e,hg⟩:=h.object ht hl (by omega);rw[e];split
   ·rename_i hgt;exact h.c.k.field hg hgt
   ·exact hnil
 ·rw[vx c9];exact hnil
def MJ.got(h:MJ cf E m){x:Cd}{t a:Nat}(ht:x.t=t)(hg:VG m.co t (2,(a:Int)))(y:Ch):MJ cf E (m.got x (a:Int) y).1:=by
 have e:EE (a:Int)=(2,(a:Int)):=by
  obtain⟨b,eb,hb⟩:=Dz hg.ok rfl;have:(a:Int)=b:=by simpa using eb
  unfold EE;rw[vy (by omega)]
 unfold Ma.got;simp only;rw[ht,e];exact h.co (h.c.push hg)
def MI.fast(h:MI cf E m.co)(hE:E<=1000000000)(t:Nat)(n:Int):m.co.fast cf (t:Int) n=(m.co,wj)∨∃(a:Nat) (c':Co),m.co.fast cf (t:Int) n=(c',wh (a:Int))/\MI cf (E+1) c'/\VG c' t (2,(a:Int)):=by
 have h2:=Si cf m.co (t:Int) n;rcases h.k.fast (by have:=h.md;omega) t n with e|⟨a,s',c',e,e1,e2,e3,e4,e5⟩
 ·exact wr e
 ·right;rw[e]at h2;exact⟨a,c',e,⟨e3.up (by omega),by rw[<-h.ln];exact h2,by rw[e5,e1.made];have:=h.md;omega⟩,e4⟩
def MI.slow(h:MI cf E m.co)(hE:E<=1000000000)(t:Nat)(n:Int):(∃e,e≠0/\m.co.slow cf (t:Int) n=(m.co,0,e))∨∃(a:Nat) (c':Co),m.co.slow cf (t:Int) n=(c',(a:Int),0)/\MI cf (E+1) c'/\VG c' t (2,(a:Int)):=by
 have h2:=Sm cf m.co (t:Int) n;rcases h.k.slow (by have:=h.md;omega) t n with⟨e0,e1,e⟩|⟨a,s',c',e,e1,e2,e3,e4,e5⟩
 ·exact wr ⟨e0,e1,e⟩
 ·right;rw[e]at h2;exact⟨a,c',e,⟨e3.up (by omega),by rw[<-h.ln];exact h2,by rw[e5,e1.made];have:=h.md;omega⟩,e4⟩
def MJ.slowM(L:C3 cf)(h:MJ cf E m){x:Cd}{t:Nat}(ht:x.t=t)(hE:E+330<=1000000000):MJ cf (E+330) (m.slow cf x).1/\((m.slow cf x).2.2.code=0->∃a:Nat,(m.slow cf x).2.1=a/\VG (m.slow cf x).1.co t (2,(a:Int))):=by
 unfold Ma.slow;simp only;have h1:MJ cf (E+5) (if m.co.phase=0/\Dt m.co.s.c.ks<cf.trigger then ({ m with co:=(m.co.beginC cf).1 }:Ma) else m):=by
  split
  ·exact h.co (h.c.beginC (by omega))
  ·exact h.up (by omega)
 generalize (if m.co.phase=0/\Dt m.co.s.c.ks<cf.trigger then ({ m with co:=(m.co.beginC cf).1 }:Ma) else m)=m1 at h1;have h2:=h1.tax L x (by omega);generalize m1.tax cf x=z at h2;obtain⟨m2,y⟩:=z;simp only at h2 ⊢;by_cases hc:y.code≠0
 ·rw[vy hc];exact⟨h2.up (by omega),λe=>absurd e hc⟩
 rw[vx hc,ht];rcases h2.c.slow (by omega) t x.n with⟨e0,e1,e⟩|⟨a,c',e,e1,e2⟩
 ·rw[e];exact⟨h2.up (by omega),λe=>absurd e e1⟩
 ·rw[e];exact⟨(h2.co e1).up (by omega),λ_=>⟨a,rfl,e2⟩⟩
def MJ.alloc(L:C3 cf)(h:MJ cf E m){x:Cd}{t:Nat}(ht:x.t=t)(hE:E+330<=1000000000):MJ cf (E+330) (m.alloc cf x).1:=by
 unfold Ma.alloc;split
 ·exact h.up (by omega)
 split
 ·exact h.up (by omega)
 rw[ht];rcases h.c.fast (by omega) t x.n with e|⟨a,c',e,e1,e2⟩
 ·rw[e];simp only;obtain⟨k1,k2⟩:=h.slowM L ht hE;by_cases hc:(m.slow cf x).2.2.code≠0
  ·rw[vy hc];exact k1
  ·rw[vx hc];obtain⟨a,e,hg⟩:=k2 (by omega);rw[e];exact k1.got ht hg _
 ·rw[e];exact ((h.co e1).got ht e2 _).up (by omega)
def MJ.pushS(h:MJ cf E m){x:Cd}{t:Nat}(ht:x.t=t)(hl:m.co.r.live (t:Int)=wk):MJ cf E (m.pushS x).1:=by
 unfold Ma.pushS;split
 ·exact h
 rename_i hv;have hg:=h.value ht hl (by omega);have hp:=h.c.push hg;rw[ht];generalize m.co.push (t:Int) (m.value x).1=z at hp;obtain⟨c,o⟩:=z;cases o
 ·exact h
 ·exact h.co hp
def MJ.doS(L:C3 cf)(h:MJ cf E m){x:Cd}(hx:x.kd<16->∃t:Nat,x.t=t/\(x.kd≠1->m.co.r.live (t:Int)=wk))(hE:E+330<=1000000000):MJ cf (E+330) (m.doS cf x).1:=by
 unfold Ma.doS;split
 ·exact (h.co (h.c.attach x.t)).up (by omega)
 split
 ·exact (h.co (h.c.detach (by omega) x.t)).up (by omega)
 split
 ·rename_i hk;obtain⟨t,ht,_⟩:=hx (by omega);exact h.alloc L ht hE
 split
 ·rename_i hk;obtain⟨t,ht,hl⟩:=hx (by omega);exact (h.pushS ht (hl (by omega))).up (by omega)
 split
 ·rename_i hk;obtain⟨t,ht,_⟩:=hx (by omega);have hp:=h.c.pop t;rw[ht];generalize m.co.pop (t:Int)=z at hp;obtain⟨c,o⟩:=z;cases o
  ·exact h.up (by omega)
  ·exact (h.co hp).up (by omega)
 split
 ·rename_i hk;obtain⟨t,ht,hl⟩:=hx (by omega);have hl:=hl (by omega);unfold Ma.writeS;split
  ·exact h.up (by omega)
  rename_i ho;obtain⟨a,e,hg⟩:=h.object ht hl (by omega);rw[ht,e];cases hr:m.root (t:Int) x.j with
  | none=>exact h.up (by omega)
  | some v=>exact (h.co (h.c.write (by omega) hg (h.root hl hr))).up (by omega)
 split
 ·exact h.up (by omega)
 split
 ·exact (h.co (h.c.poll (by omega) x.t)).up (by omega)
 unfold Ma.spend;split
 ·split
  ·exact (h.co (h.c.beginC (by omega))).up (by omega)
  ·exact h.up (by omega)
 split
 ·exact h.up (by omega)
 rename_i hn;split
 ·exact (h.ownT _ _).up (by omega)
 split
 ·exact (h.ahead L (by omega) (by omega)).up (by omega)
 split
 ·exact h.up (by omega)
 split
 ·exact h.up (by omega)
 simp only;exact ((h.ahead L (by omega) (by omega)).charge _ _).up (by omega)
def Mr{x:Cd}(h:x.check=0):0<=x.t/\x.t<=255:=by
 unfold Cd.check at h;by_cases c1:x.kd<1∨17<x.kd
 ·rw[vy c1]at h;cases h
 rw[vx c1]at h;by_cases c2:(x.small.any λn=>decide (n<0) || decide (255<n))=wk
 ·rw[vy c2]at h;cases h
 ·unfold Cd.small at c2;simp only[List.any_cons,Bool.or_eq_true,zV]at c2;omega
def N6{x:Cd}(h:m.who cf x=0)(hk:x.kd<16):x.t<cf.threads/\(x.kd≠1->m.co.r.live x.t=wk):=by
 unfold Ma.who at h;rw[vx (by omega)]at h;by_cases c1:cf.threads<=x.t
 ·rw[vy c1]at h;cases h
 rw[vx c1]at h;refine⟨by omega,λhne=>?_⟩;rw[vx (λe=>hne e.1)]at h;cases hl:m.co.r.live x.t with
 | true=>rfl
 | false=>rw[hl,vy ⟨hne,by decide⟩]at h;cases h
def MJ.step(L:C3 cf)(h:MJ cf E m)(x:Cd)(hE:E+330<=1000000000):MJ cf (E+330) (m.step cf x).1:=by
 unfold Ma.step;split
 ·exact h.up (by omega)
 rename_i hc;split
 ·exact h.up (by omega)
 rename_i hw;have hc:=Mr (by omega:x.check=0);have h1:=h.doS L (x:=x) (λhk=>by
  obtain⟨w1,w2⟩:=N6 (by omega:m.who cf x=0) hk;refine⟨x.t.toNat,by omega,λhne=>?_⟩;rw[yV hc.1];exact w2 hne) hE
 simp only;split
 ·exact h1.ownT _ _
 ·exact h1
def Le(cf:Cf)(hp:1<=cf.pages/\cf.pages<=64)(ht:0<=cf.threads/\cf.threads<=8):∃(a:Nat) (s':St),(⟨Ce.new cf.pages,λ_=>wj,0⟩:St).slow cf.pages.toNat (cf.threads+1) cf.threads 4=(s',(a:Int),0)/\Gi (⟨Ce.new cf.pages,λ_=>wj,0⟩:St) s' a 4/\SI s':=by
 have h0:=St.new_ok hp.2;rcases St.slow_ok h0 (by simp only;decide) cf.pages.toNat (nt:=cf.threads+1) (by omega) cf.threads 4 with⟨e,e0,e1⟩|h
 rotate_left
 ·exact h
 exfalso;have hk:CD 4=3:=by decide
 have hf:(⟨Ce.new cf.pages,λ_=>wj,0⟩:St).fast cf.threads 4=(⟨Ce.new cf.pages,λ_=>wj,0⟩,wj):=by
  rcases St.fast_ok h0 (by simp only;decide) cf.threads 4 with⟨e,_⟩|⟨a,s',e2,_,_,_⟩
  ·exact e
  ·exfalso;unfold St.fast at e2;rw[hk,vx (by decide)]at e2;have hl:(Ce.new cf.pages).left (-1)=0:=by unfold Ce.left Ce.small;rw[Eg (by omega),vx (by decide)]
   have ht:(Ce.new cf.pages).take (-1)=(Ce.new cf.pages,wj):=by unfold Ce.take;rw[vy hl]
   have:Fi (λ_=>wj) (cf.threads,(3:Int)) = -1:=rfl;simp only[this,ht]at e2;cases e2
 unfold St.slow at e1;simp only[hk]at e1;rw[vx (by omega),vx (by decide),hf]at e1;simp only at e1;have ho:∃p s',(⟨Ce.new cf.pages,λ_=>wj,0⟩:St).openP cf.pages.toNat 3=(s',wh p):=by
  unfold St.openP;split
  ·exact⟨_,_,rfl⟩
  ·have:∃p,FM (Ce.new cf.pages).ks 3=wh p:=by unfold FM Ce.new;rw[vx (by decide)];obtain⟨n,hn⟩:∃n,cf.pages.toNat=n+1:=⟨cf.pages.toNat-1,by omega⟩;simp only[hn,yX];exact⟨0,by simp[List.findIdx?_cons]⟩
   obtain⟨p,hp⟩:=this;have hc:((Ce.new cf.pages).carve 3).2=wh p:=by unfold Ce.carve;rw[hp]
   exact⟨(p:Int),⟨((Ce.new cf.pages).carve 3).1,λ_=>wj,0⟩,by simp only[hc];rfl⟩
 obtain⟨p,s',hp'⟩:=ho;rw[hp']at e1;simp only at e1;have:=vr (λz=>z.2.2) e1;simp only at this;exact e0 this.symm
def MJ.new(cf:Cf)(hp:1<=cf.pages/\cf.pages<=64)(ht:0<=cf.threads/\cf.threads<=8)(hc:0<=cf.cap):MJ cf 1 (Ma.new cf):=by
 obtain⟨a,s',e,e1,e2⟩:=Le cf hp ht;have hln:=OL (⟨Ce.new cf.pages,λ_=>wj,0⟩:St) cf.pages.toNat (cf.threads+1) cf.threads 4;rw[e]at hln;have hlen:s'.c.m.length=cf.pages.toNat*32:=by rw[hln];simp[Ce.new]
 have ha:s'.c.tk a=wk:=e1.obj.tk;have hlt:a<2048:=by have:=e2.hi.ci.tk_lt ha;have:=e2.hi.ci.small_n;omega
 have hco:Co.new cf=⟨s',⟨[],wl,λ_=>wl⟩,⟨0,List.replicate cf.threads.toNat (wl,0)⟩,List.replicate cf.threads.toNat [], -1,cf.pages,0,List.replicate 8 [],(a:Int),0,0,0⟩:=by unfold Co.new;simp only[e]
 have hdead:∀t:Nat,(⟨0,List.replicate cf.threads.toNat (wl,0)⟩:Rg).live (t:Int)=wk->False:=λt hl=>by
  obtain⟨_,_,h3⟩:=CW.1 hl;simp only[zK,xF,xX]at h3;split at h3<;>simp at h3
 have hnil:∀ {α : Type} {l:List α} {n:Nat},l∈List.replicate n ([]:List α)->l=[]:=λh=>(List.mem_replicate.1 h).2;have hfl:∀x j b,¬Fl s' x j b:=λx j b f=>by
  obtain⟨_,_,o,_⟩:=(Fl.new e1).1 f;have:=o.tk;simp[Ce.new]at this
 refine⟨⟨?_,by show (Co.new cf).s.c.m.length=_;rw[hco];exact hlen,by show (Co.new cf).s.made<=1;rw[hco];simp only;rw[e1.made];simp⟩,by unfold Ma.new;simp;exact hc⟩;show KI cf 1 (Co.new cf);rw[hco]
 refine⟨e2,⟨λx y=>(by cases y),λl hl b hb=>(by rw[hnil hl]at hb;cases hb),λl hl b hb=>(by rw[hnil hl]at hb;cases hb),λn en=>?_,λx j b _ f=>absurd f (hfl x j b)⟩,ht,by simp,by simp,by simp,λl hl v hv=>(by rw[hnil hl]at hv;cases hv),λl hl v hv=>(by rw[hnil hl]at hv;cases hv),λe he=>(by cases he),by simp only;omega,λt _=>?_,λt hl=>(hdead t hl).elim,by simp,by simp,λ_=>⟨rfl,rfl,rfl⟩,λ_ _=>rfl,λe5=>absurd (show (0:Int)=5 from e5) (by decide),λe2=>absurd (show (2:Int)<=0 from e2) (by decide),λe2=>absurd (show (0:Int)=2 from e2) (by decide),wr rfl⟩
 ·have:a=n:=by have:(a:Int)=n:=en;omega
  subst this;exact⟨ha,λe5=>absurd (show (0:Int)=5 from e5) (by decide)⟩
 ·simp only[xF,xX];split<;>rfl
end
def Dd(DS:Int->Prop)(s:St)(a:Nat):Prop:=∃ser fs,Cw s.c a ser fs/\DS ser
structure AF(DS:Int->Prop)(c:Co):Prop where
 ph:2<=c.phase
 ni:NI c (λa=>¬Dd DS c.s a)
 at5:c.phase=5->∀a,Dd DS c.s a->c.at_<=((a / 32:Nat):Int)
def QF(DS:Int->Prop)(c:Co):Prop:=(∀a,¬Dd DS c.s a)∨AF DS c
section
variable{DS:Int->Prop}{cf:Cf}{E:Int}{c:Co}
def Dd.same{s s':St}(h:∀b,C0 s.c s'.c b){a:Nat}:Dd DS s' a↔Dd DS s a:=by
 constructor
 ·rintro⟨ser,fs,o,d⟩;exact⟨ser,fs,(h a).obj.1 o,d⟩
 ·rintro⟨ser,fs,o,d⟩;exact⟨ser,fs,(h a).obj.2 o,d⟩
def QF.of{c':Co}(h:QF DS c)(hs:c'.s=c.s)(ha:AF DS c->AF DS c'):QF DS c':=by
 rcases h with h|h
 ·left;intro a;rw[hs];exact h a
 ·exact ws (ha h)
def AF.gr{S:Nat->Prop}{g':Gy}(h:AF DS c)(hg:Ep S c.g g')(hS:∀a,S a->¬Dd DS c.s a):AF DS { c with g:=g' }:=⟨h.ph,h.ni.gr hg hS,h.at5⟩
theorem AF.adv:∀(d:Nat) (c:Co),AF DS c->AF DS (c.advance cf d)
 | 0,c,h=>h
 | d+1,c,h=>by
  have hp:=h.ph;rw[Co.advance];by_cases ha:c.r.agreed=wk
  rotate_left
  ·rw[vx ha];exact h
  rw[vy ha,vx (by omega)];by_cases c2:c.phase=2
  ·rw[vy c2];exact AF.adv d _ ⟨show (2:Int)<=3 by decide,⟨h.ni.m1,h.ni.bf,h.ni.rt,h.ni.gl,h.ni.cl⟩,λe=>absurd (show (3:Int)=5 from e) (by decide)⟩
  rw[vx c2];by_cases c4:c.phase=4/\CL c.b=wk/\c.tIdle=wk
  ·rw[vy c4];exact AF.adv d _ ⟨show (2:Int)<=5 by decide,⟨h.ni.m1,h.ni.bf,h.ni.rt,h.ni.gl,h.ni.cl⟩,λ_ a _=>by simp only;omega⟩
  rw[vx c4];by_cases c5:c.phase=4
  ·rw[vy c5];exact AF.adv d _ ⟨show (2:Int)<=3 by decide,⟨h.ni.m1,h.ni.bf,h.ni.rt,h.ni.gl,h.ni.cl⟩,λe=>absurd (show (3:Int)=5 from e) (by decide)⟩
  ·rw[vx c5];exact h
def QF.adv(h:QF DS c):QF DS (c.adv cf):=h.of (by unfold Co.adv;rw[Gj]) (AF.adv 4 c)
def Ol{α : Type}{l:List (List α)}{i:Nat}{x : α}(h:x∈l.getD i []):∃k∈l,x∈k:=by
 rw[xF]at h;cases hg:l[i]? with
 | none=>rw[hg]at h;cases h
 | some k=>rw[hg]at h;exact⟨k,yR hg,h⟩
def AF.row(h:AF DS c)(i:Nat):∀b:Nat,(2,(b:Int))∈c.th.getD i []->¬Dd DS c.s b:=λb hb=>by
 obtain⟨k,hk,hx⟩:=Ol hb;exact h.ni.rt k hk b hx
def AF.buf(h:AF DS c)(t:Int):∀b:Nat,(b:Int)∈DQ c.b t->¬Dd DS c.s b:=λb hb=>by
 unfold DQ at hb;split at hb
 ·obtain⟨k,hk,hx⟩:=Ol hb;exact h.ni.bf k hk b hx
 ·cases hb
def AF.take(h:AF DS c)(t:Int):AF DS { c with b:=CT c.b t }:=
 ⟨h.ph,⟨h.ni.m1,λl hl b hb=>by
  rcases Ie hl with rfl|g
  ·cases hb
  ·exact h.ni.bf l g b hb,h.ni.rt,h.ni.gl,h.ni.cl⟩,h.at5⟩
def AF.setR(h:AF DS c)(r:Rg):AF DS { c with r:=r }:=⟨h.ph,⟨h.ni.m1,h.ni.bf,h.ni.rt,h.ni.gl,h.ni.cl⟩,h.at5⟩
def QF.poll(h:QF DS c)(t:Int):QF DS (c.poll cf t):=by
 unfold Co.poll;split
 rotate_left
 ·exact h
 simp only;refine QF.adv ?_;refine h.of ?_ λa=>?_
 ·split
  ·rfl
  ·split<;>rfl
 ·by_cases c2:c.phase=2
  ·rw[vy c2];exact (a.gr (Fs cf.stack (λn=>(n:Int)∈D8 (c.th.getD t.toNat [])) _ _ λn x=>x) λb x=>a.row _ b (Io.1 x)).setR _
  rw[vx c2];by_cases c4:c.phase=4
  ·rw[vy c4];exact ((a.gr (Fs cf.stack (λn=>(n:Int)∈DQ c.b t) _ _ λn x=>x) λb x=>a.buf t b x).take t).setR _
  ·rw[vx c4];exact a.setR _
def AF.field(h:AF DS c)(hk:SI c.s){a:Nat}(ha:¬Dd DS c.s a){i:Int}{b:Nat}(hi:0<=i)(hg:(c.s.get (a:Int) i).1=(2,(b:Int))):¬Dd DS c.s b:=by
 obtain⟨x,ex,_,hf,_⟩:=J8 hk hg hi;have:x=a:=by omega
 subst this;exact h.ni.cl x _ b ha hf
def AF.scan(h:AF DS c)(hk:KI cf E c){e:Int}(he:∀n:Nat,e=n->¬Dd DS c.s n)(d:Nat){i:Int}(hi:0<=i){g1:Gy}(h1:AF DS { c with g:=g1 }):AF DS { c with g:=thru cf c.s e d i g1 }:=by
 have hgr:Ep (λn=>¬Dd DS c.s n) g1 (thru cf c.s e d i g1):=FO cf _ _ _ _ λj n j1 j2 hj=>by
  obtain⟨x,ex,_,hf,_⟩:=J8 hk.si hj (by omega);exact h.ni.cl x _ n (he x ex) hf
 exact h1.gr (c:={ c with g:=g1 }) hgr λa x=>x
theorem LI{s:St}{S:Nat->Prop}(hS:∀(a:Nat) (j:Int) (n:Nat),0<=j->S a->(s.get (a:Int) j).1=(2,(n:Int))->S n):∀(l:List Int) (g:Gy),(∀a,g.mks a=wk->S a)->Ep S g (lookAll cf s l g)
 | [],g,_=>Ep.refl S g
 | a::l,g,h=>by
  rw[lookAll];have h1:Ep S g (if g.is a then thru cf s a (s.fields a).toNat 0 g else g):=by
   by_cases e:g.is a=wk
   ·rw[vy e];obtain⟨m,rfl,hm,hk⟩:=N3 g e;exact FO cf S _ 0 g λj n a1 a2 hg=>hS m j n a1 (h m hk) hg
   ·rw[vx e];exact Ep.refl S g
  exact h1.trans (LI hS l _ λb hb=>(h1.new b hb).elim (h b) λz=>z.1)
def QF.tUnit(hk:KI cf E c)(h:QF DS c)(h3:c.phase=3):QF DS (c.tUnit cf).1:=h.of (H7 cf c) λa=>by
 unfold Co.tUnit;split
 ·exact a
 cases he:c.g.l.getLast? with
 | some e=>
  have hem:e∈c.g.l:=List.mem_of_getLast? he;obtain⟨n,en,em,e0⟩:=hk.ent e hem;have h0:AF DS ({ c with g:={ c.g with l:=c.g.l.dropLast } }:Co):=⟨a.ph,⟨a.ni.m1,a.ni.bf,a.ni.rt,a.ni.gl,a.ni.cl⟩,a.at5⟩;simp only;unfold Co.entry;simp only;split
  ·exact h0
  ·refine a.scan hk (λm em'=>?_) _ e0 ?_
   ·have:m=n:=by omega
    rw[this];exact a.ni.m1 n em
   ·split
    ·refine⟨a.ph,⟨λx y=>?_,a.ni.bf,a.ni.rt,a.ni.gl,a.ni.cl⟩,a.at5⟩;simp only at y;rw[Lh]at y;exact a.ni.m1 x y
    ·exact h0
 | none=>
  have key:∀(ov:Bool) (p:Int),AF DS (({ c with g:={ c.g with over:=ov },tp:=p }:Co).look cf):=λov p=>by
   unfold Co.look;simp only;have h0:AF DS ({ c with g:={ c.g with over:=ov } }:Co):=⟨a.ph,⟨a.ni.m1,a.ni.bf,a.ni.rt,a.ni.gl,a.ni.cl⟩,a.at5⟩;have hgr:Ep (λn=>¬Dd DS c.s n) { c.g with over:=ov } (lookAll cf c.s (c.s.inP p) { c.g with over:=ov }):=LI (λx j n j0 hx hj=>a.field hk.si hx j0 hj) _ _ λx y=>a.ni.m1 x y;have h1:=h0.gr (c:={ c with g:={ c.g with over:=ov } }) hgr λ_ x=>x
   exact⟨h1.ph,⟨h1.ni.m1,h1.ni.bf,h1.ni.rt,h1.ni.gl,h1.ni.cl⟩,h1.at5⟩
  simp only;split
  ·exact key wl 0
  ·exact key c.g.over c.tp
def QF.wUnit(hk:KI cf E c)(h:QF DS c)(h5:c.phase=5)(hp:cf.pages<=64):QF DS (c.wUnit cf).1:=by
 unfold Co.wUnit;split
 ·exact h
 rename_i hc;simp only;have hs:=DJ (c.s.inP c.at_) c hk.si (F4 _ _) λx hx=>by
  obtain⟨a,e,ta,_⟩:=(Ef hk.si).1 hx;exact⟨a,e,ta⟩
 generalize c.sweepAll (c.s.inP c.at_)=d at hs;obtain⟨t1,t2,t3,t4⟩:=St.trim_ok (hs.si hk.si) d.at_;have hD:∀ {x:Nat},Dd DS (d.s.trim d.at_) x->Dd DS c.s x:=fun {x} hd=>by
  obtain⟨se,f,o,q⟩:=(Dd.same t2).1 hd;by_cases hx:(x:Int)∈c.s.inP c.at_
  ·by_cases hm:c.g.mks x=wk
   ·exact⟨se,f,(hs.inn x hx hm).obj.1 o,q⟩
   ·have:=hs.gone x hx (by simpa using hm);rw[o.tk]at this;cases this
  ·exact⟨se,f,(hs.out x hx).1.obj.1 o,q⟩
 rcases h with h|h
 ·left;intro x hd;exact h x (hD hd)
 right;have hmk:∀b,d.g.mks b=wk->c.g.mks b=wk:=λb m=>by
  by_cases hb:(b:Int)∈c.s.inP c.at_
  ·rw[hs.clear b hb]at m;cases m
  ·rw[<-(hs.out b hb).2];exact m
 refine⟨by simp only;rw[hs.phase];exact h.ph,⟨λx y q=>h.ni.m1 x (hmk x y) (hD q),λl hl b hb q=>h.ni.bf l (by simp only at hl;rw[hs.b]at hl;exact hl) b hb (hD q),λl hl b hb q=>h.ni.rt l (by simp only at hl;rw[hs.th]at hl;exact hl) b hb (hD q),λn e q=>h.ni.gl n (by simp only at e;rw[hs.global]at e;exact e) (hD q),λx j b y f q=>?_⟩,λ_ x q=>?_⟩
 ·have f':Fl c.s x j b:=hs.fl ((Fl.same t2).1 f);refine h.ni.cl x j b (λz=>y ?_) f' (hD q);obtain⟨se,fl,o,w⟩:=z;obtain⟨se',fl',o',_⟩:=(Fl.same t2).1 f;refine (Dd.same t2).2 ⟨se',fl',o',?_⟩;have:Cw c.s.c x se' fl':=by
   by_cases hx:(x:Int)∈c.s.inP c.at_
   ·by_cases hm:c.g.mks x=wk
    ·exact (hs.inn x hx hm).obj.1 o'
    ·have:=hs.gone x hx (by simpa using hm);rw[o'.tk]at this;cases this
   ·exact (hs.out x hx).1.obj.1 o'
  rw[<-(o.same this).1];exact w
 ·have h1:=h.at5 h5 x (hD q);have hw:C7 (d.at_+1)=c.at_+1:=by rw[hs.at_];exact E9 (by have:=(hk.p5 h5).2.1;omega)
  simp only;rw[hw];have hne:((x / 32:Nat):Int)≠c.at_:=λe=>by
   obtain⟨se,f,o,w⟩:=(Dd.same t2).1 q;obtain⟨se0,f0,o0,w0⟩:=hD q;have hx:(x:Int)∈c.s.inP c.at_:=(Ef hk.si).2 ⟨x,rfl,o0.tk,e⟩;by_cases hm:c.g.mks x=wk
   ·exact h.ni.m1 x hm ⟨se0,f0,o0,w0⟩
   ·have:=hs.gone x hx (by simpa using hm);rw[o.tk]at this;cases this
  omega
def QF.unit(hk:KI cf E c)(h:QF DS c)(hch:0<=cf.chunk/\cf.chunk<=1000)(hp:1<=cf.pages/\cf.pages<=64)(hks:(c.s.c.ks.length:Int)=cf.pages):QF DS (c.unit cf).1:=by
 have hu:∀(r:Co × Bool),QF DS r.1->QF DS (if r.2 then ({ r.1 with units:=C7 (r.1.units+1) }:Co) else r.1):=λr h=>by
  split
  ·exact h.of rfl λa=>⟨a.ph,⟨a.ni.m1,a.ni.bf,a.ni.rt,a.ni.gl,a.ni.cl⟩,a.at5⟩
  ·exact h
 unfold Co.unit;refine hu _ ?_;by_cases c3:c.phase=3
 ·rw[vy c3];have k1:=h.tUnit hk c3;have k2:=(hk.tUnit c3 hch hp hks).2;generalize c.tUnit cf=z at k1 k2;obtain⟨d,b⟩:=z;cases b with
  | true=>exact k1
  | false=>
   refine QF.adv ?_;exact k1.of rfl λa=>⟨show (2:Int)<=4 by decide,⟨a.ni.m1,a.ni.bf,a.ni.rt,a.ni.gl,a.ni.cl⟩,λe=>absurd (show (4:Int)=5 from e) (by decide)⟩
 rw[vx c3];by_cases c5:c.phase=5
 ·rw[vy c5];have k0:=h.wUnit hk c5 hp.2;obtain⟨k1,k2,k3⟩:=hk.wUnit c5 hp.2;have hln:=It cf c;generalize c.wUnit cf=z at k0 k1 k2 k3 hln;obtain⟨d,b⟩:=z;simp only at k0 k1 k2 k3 hln ⊢;by_cases hd:cf.pages<=d.at_
  ·rw[vy hd];left;intro x q;rcases k0 with k0|k0
   ·exact k0 x q
   ·have h1:=k0.at5 k2 x q;obtain⟨se,f,o,_⟩:=q;have h2:=(k1.si.hi.ci.tk x o.tk).1;have h3:=k1.si.hi.ci.ml;have h4:=hk.si.hi.ci.ml;omega
  ·rw[vx hd];exact k0
 ·rw[vx c5];exact h
end
end Go.Proofs.QV
