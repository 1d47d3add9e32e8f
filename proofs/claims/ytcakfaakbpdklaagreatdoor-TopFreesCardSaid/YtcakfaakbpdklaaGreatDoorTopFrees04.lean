/- Part 4 of what the law needs: own lemmas, in the order in which they build. -/
import Derived.Test.YtcakfaakbpdklaaGreatDoorTopFrees03
set_option linter.unusedSimpArgs false
set_option linter.unusedVariables false
namespace Go.Proofs.YtcakfaakbpdklaaGreatDoorV
open Go Go.Proofs Go.RowKit
structure VG (c:Co) (t:Nat) (v:V2):Prop where
 ok:vOk v=true
 kp:∀b:Nat,v=(2,(b:Int))→qa5 c b
 pc:2≤c.phase→c.phase≤4→(c.phase=2→c.r.ofT t=c.r.ep)→∀Q,PC c Q→∀b:Nat,v=(2,(b:Int))→Q b
theorem VG.plain {c:Co} {t:Nat} {v:V2} (h:vOk v=true) (h2:v.1≠2):VG c t v:=
 ⟨h,fun b e=>absurd (by rw[e]) h2,fun _ _ _ _ _ b e=>absurd (by rw[e]) h2⟩
theorem qfp {v:V2} (h:vOk v=true) (h2:v.1=2):∃b:Nat,v=(2,(b:Int))∧b<2048:=by
 obtain⟨k,n⟩:=v
 simp only at h2
 subst h2
 have:=qhg (by simpa[vOk] using h)
 exact⟨n.toNat,by rw[y1z (by omega)],by omega⟩
section
variable {cf:Cf} {E:Int} {c:Co}
theorem KI.th_in (h:KI cf E c) {t:Nat} (ht:c.r.live t=true):t<c.th.length∧c.th.getD t []∈c.th:=by
 have:=qds.1 ht
 have h1:=h.rl
 have h2:=h.thl
 have h3:=h.t8
 have hl:t<c.th.length:=by omega
 exact⟨hl,by rw[qcb hl];exact y3g _⟩
theorem KI.root (h:KI cf E c) {t:Nat} (ht:c.r.live t=true) {v:V2} (hv:v∈c.th.getD t []):VG c t v:=
 ⟨h.vok _ (h.th_in ht).2 v hv,fun b e=>h.ni.rt _ (h.th_in ht).2 b (by rw[←e];exact hv),fun h2 h4 hc Q hQ b e=>((h.p24 h2 h4).2 Q hQ).1 t ht hc b (by rw[←e];exact hv)⟩
theorem KI.field (h:KI cf E c) {t a:Nat} (ha:VG c t (2,(a:Int))) {i:Int} (hg:(c.s.get (a:Int) i).2=true):VG c t (c.s.get (a:Int) i).1:=by
 obtain⟨ser,fs,o,_⟩:=h.si.hi.obj a (ha.kp a rfl).1
 have e:=St.get_obj h.si.hi.ci o i
 have hi:0≤i:=by
  apply y0q
  intro hc
  rw[if_neg hc] at e;rw[e] at hg;cases hg
 rw[if_pos hi] at e
 cases hf:fs[i.toNat]? with
 | none=>rw[hf] at e;rw[e] at hg;cases hg
 | some v=>
  rw[hf] at e
  rw[e]
  simp only
  have hl:i.toNat<fs.length:=by
   apply y0q
   intro hc
   rw[y1l (by omega)] at hf;cases hf
  have hv:fs[i.toNat]=v:=by rw[y0v hl] at hf;exact y3k hf
  have hfl:∀b:Nat,v=(2,(b:Int))→Fl c.s a i.toNat b:=fun b eb=>⟨ser,fs,o,by rw[hf,eb]⟩
  refine⟨by rw[←hv];exact (o.fld _ hl).1,fun b eb=>h.ni.cl a _ b (ha.kp a rfl) (hfl b eb),fun h2 h4 hc Q hQ b eb=>?_⟩
  have hq:=ha.pc h2 h4 hc Q hQ a rfl
  by_cases hm:c.g.mks a=true
  ·exact ((h.p24 h2 h4).2 Q hQ).2 a _ b hm (hfl b eb)
  ·exact hQ.cl a _ b hq (by simpa using hm) (hfl b eb)
theorem KI.glob (h:KI cf E c) (t:Nat):VG c t (qdx c.global):=by
 have e:qdx c.global=(2,c.global):=by unfold qdx;rw[if_pos h.gn]
 have h0:=h.gn
 rw[e]
 refine⟨?_,fun b eb=>h.ni.gl b (by simpa using eb),fun h2 h4 _ Q hQ b eb=>?_⟩
 ·simp[vOk,chk,h0]
 ·have:=hQ.m1 _ (h.p24 h2 h4).1
  have eb:c.global=b:=by simpa using eb
  rw[eb] at this;simpa using this
theorem KI.th_set (h:KI cf E c) {t:Nat} (ht:c.r.live t=true) {l:List V2} (hl:∀v∈l,VG c t v):KI cf E { c with th:=c.th.set t l }:=by
 obtain⟨t1,t2⟩:=h.th_in ht
 refine { h with ni:=⟨h.ni.m1,h.ni.bf,fun l' hl' b hb=>?_,h.ni.gl,h.ni.cl⟩,thl:=by simp only[y3r];exact h.thl,vok:=fun l' hl' v hv=>?_,lv:=fun u hu=>?_,p24:=fun h2 h4=>⟨(h.p24 h2 h4).1,fun Q hQ=>?_⟩ }
 ·rcases qg4 hl' with rfl | g
  ·exact (hl _ hb).kp b rfl
  ·exact h.ni.rt l' g b hb
 ·rcases qg4 hl' with rfl | g
  ·exact (hl v hv).ok
  ·exact h.vok l' g v hv
 ·have hne:¬(t=u∧t<c.th.length):=fun e=>by
   have hu':c.r.live u=false:=hu
   rw[←e.1,ht] at hu';cases hu'
  show (c.th.set t l).getD u []=[]
  rw[qgx,if_neg hne]
  exact h.lv u hu
 ·have hQ':PC c Q:=⟨hQ.m1,hQ.bf,hQ.pd,hQ.cl⟩
  obtain⟨q1,q2⟩:=(h.p24 h2 h4).2 Q hQ'
  refine⟨fun u hu hc b hb=>?_,q2⟩
  have hb':(2,(b:Int))∈(c.th.set t l).getD u []:=hb
  rw[qgx] at hb'
  by_cases e:t=u∧t<c.th.length
  ·rw[if_pos e] at hb'
   obtain⟨rfl,_⟩:=e
   exact (hl _ hb').pc h2 h4 hc Q hQ' b rfl
  ·rw[if_neg e] at hb'
   exact q1 u hu hc b hb'
theorem KI.push (h:KI cf E c) {t:Nat} {v:V2} (hv:VG c t v):KI cf E (c.push (t:Int) v).1:=by
 unfold Co.push
 split
 ·rename_i hc
  simp only[y2t]
  refine h.th_set hc.1 fun x hx=>?_
  rcases y3q.1 hx with g | g
  ·exact h.root hc.1 g
  ·rw[y2d.1 g];exact hv
 ·exact h
theorem KI.pop (h:KI cf E c) (t:Nat):KI cf E (c.pop (t:Int)).1:=by
 unfold Co.pop
 split
 ·rename_i hc
  split
  ·simp only[y2t]
   exact h.th_set hc fun x hx=>h.root hc (y1v _ hx)
  ·exact h
 ·exact h
theorem KI.attach (h:KI cf E c) (t:Int):KI cf E (c.attach t):=by
 unfold Co.attach Rg.attach
 split
 rotate_left
 ·exact h
 rename_i hc
 obtain⟨h0,h1,h2⟩:=hc
 have hlive:∀u:Nat,({ c.r with l:=c.r.l.set t.toNat (true,c.r.ep) }:Rg).live u=if (u:Int)=t then true else c.r.live u:=fun u=>qim h0 h1 u
 have hof:∀u:Nat,({ c.r with l:=c.r.l.set t.toNat (true,c.r.ep) }:Rg).ofT u=if (u:Int)=t then c.r.ep else c.r.ofT u:=fun u=>by rw[qni h0 h1 u];rfl
 have hdead:c.th.getD t.toNat []=[]:=h.lv t.toNat (by rw[y1z h0];simpa using h2)
 refine { h with ni:=⟨h.ni.m1,h.ni.bf,h.ni.rt,h.ni.gl,h.ni.cl⟩,rl:=by simp only[y3r];exact h.rl,lv:=fun u hu=>?_,ep:=fun u hu=>?_,p24:=fun p2 p4=>⟨(h.p24 p2 p4).1,fun Q hQ=>?_⟩ }
 ·simp only at hu
  rw[hlive] at hu
  by_cases e:(u:Int)=t
  ·rw[if_pos e] at hu;cases hu
  ·rw[if_neg e] at hu;exact h.lv u hu
 ·simp only at hu ⊢
  rw[hlive] at hu
  rw[hof]
  by_cases e:(u:Int)=t
  ·rw[if_pos e];exact y4s _
  ·rw[if_neg e] at hu ⊢;exact h.ep u hu
 ·obtain⟨q1,q2⟩:=(h.p24 p2 p4).2 Q ⟨hQ.m1,hQ.bf,hQ.pd,hQ.cl⟩
  refine⟨fun u hu hc b hb=>?_,q2⟩
  simp only at hu hc hb
  rw[hlive] at hu
  rw[hof] at hc
  by_cases e:(u:Int)=t
  ·have:u=t.toNat:=by omega
   rw[this,hdead] at hb;cases hb
  ·rw[if_neg e] at hu hc;exact q1 u hu hc b hb
theorem KI.buf_in (h:KI cf E c) (t:Int) {x:Int} (hx:x∈fOf c.b t):∃l∈c.b,x∈l:=by
 unfold fOf at hx
 split at hx
 ·by_cases hl:t.toNat<c.b.length
  ·exact⟨_,y3g hl,by rwa [qcb hl] at hx⟩
  ·rw[y0h,y1l (by omega)] at hx;cases hx
 ·cases hx
theorem KI.buf_gr (h:KI cf E c) (h2:2≤c.phase) (h4:c.phase≤4) (t:Int):KI cf E { c with g:=c.g.shadeAll cf.stack (fOf c.b t) }∧∀n:Nat,(n:Int)∈fOf c.b t→(c.g.shadeAll cf.stack (fOf c.b t)).mks n=true:=by
 refine⟨h.gr h2 h4 (qc6 _ (fun n=>(n:Int)∈fOf c.b t) _ _ fun n x=>x) fun a x=>?_,fun n x=>?_⟩
 ·obtain⟨l,hl,hx⟩:=h.buf_in t x
  exact (h.ni.bf l hl a hx).1
 ·obtain⟨l,hl,hx⟩:=h.buf_in t x
  exact qhw _ _ _ n x (by have:=h.bok l hl _ hx;omega)
theorem qy1 {b:List (List Int)} {t:Int} {l:List Int} (h:l∈b):l∈qb3 b t∨l=fOf b t:=by
 unfold qb3
 split
 ·rename_i hc
  obtain⟨i,hi,rfl⟩:=y1y h
  by_cases e:t.toNat=i
  ·right
   unfold fOf
   rw[if_pos hc.1,e,qcb hi]
  ·left
   refine y1w.2 ⟨i,by simpa using hi,?_⟩
   rw[List.getElem_set_ne e]
 ·exact .inl h
theorem qhi {b:List (List Int)} {t:Int} {l:List Int} (h:l∈qb3 b t):l=[]∨l∈b:=by
 unfold qb3 at h
 split at h
 ·exact qg4 h
 ·exact .inr h
theorem qwc (b:List (List Int)) (t:Int):(qb3 b t).length=b.length:=by
 unfold qb3;split <;> simp
theorem KI.buf_take (h:KI cf E c) (t:Int) (hm:2≤c.phase→c.phase≤4→∀n:Nat,(n:Int)∈fOf c.b t→c.g.mks n=true):KI cf E { c with b:=qb3 c.b t }:=by
 refine { h with ni:=⟨h.ni.m1,fun l hl b hb=>?_,h.ni.rt,h.ni.gl,h.ni.cl⟩,bl:=by simp only;rw[qwc];exact h.bl,bok:=fun l hl x hx=>?_,p5:=fun e=>⟨fun l hl=>?_,(h.p5 e).2⟩,p24:=fun p2 p4=>⟨(h.p24 p2 p4).1,fun Q hQ=>(h.p24 p2 p4).2 Q ⟨hQ.m1,fun l hl b hb=>?_,hQ.pd,hQ.cl⟩⟩ }
 ·rcases qhi hl with rfl | g
  ·cases hb
  ·exact h.ni.bf l g b hb
 ·rcases qhi hl with rfl | g
  ·cases hx
  ·exact h.bok l g x hx
 ·rcases qhi hl with rfl | g
  ·rfl
  ·exact (h.p5 e).1 l g
 ·rcases qy1 (t:=t) hl with g | rfl
  ·exact hQ.bf l g b hb
  ·exact hQ.m1 b (hm p2 p4 b hb)
theorem KI.kept (h:KI cf E c) {s':St} (hs:SI s') (hk:∀b,qav c.s.c s'.c b):KI cf E { c with s:=s' }:=by
 have hK:∀a,qa5 { c with s:=s' } a↔qa5 c a:=fun a=>by
  unfold qa5
  simp only
  rw[(hk a).1]
 have hF:∀ {a j b:Nat},Fl s' a j b↔Fl c.s a j b:=Fl.same hk
 refine { h with si:=hs,ni:=⟨fun a x=>(hK a).2 (h.ni.m1 a x),fun l hl b hb=>(hK b).2 (h.ni.bf l hl b hb),fun l hl b hb=>(hK b).2 (h.ni.rt l hl b hb),fun n e=>(hK n).2 (h.ni.gl n e),fun a j b x f=>(hK b).2 (h.ni.cl a j b ((hK a).1 x) (hF.1 f))⟩,p24:=fun p2 p4=>⟨(h.p24 p2 p4).1,fun Q hQ=>?_⟩ }
 obtain⟨q1,q2⟩:=(h.p24 p2 p4).2 Q ⟨hQ.m1,hQ.bf,fun a j b x f p=>hQ.pd a j b x (hF.2 f) p,fun a j b x y f=>hQ.cl a j b x y (hF.2 f)⟩
 exact⟨q1,fun a j b x f=>q2 a j b x (hF.1 f)⟩
theorem KI.gone (h:KI cf E c) (t:Int) (hl:c.r.live t=true):KI cf E { c with th:=c.th.set t.toNat [],r:=c.r.detach t }:=by
 obtain⟨h0,h1,_⟩:=qds.1 hl
 obtain⟨t,rfl⟩:=y1b h0
 have h':=h.th_set (t:=t) hl (l:=[]) fun v hv=>by cases hv
 have hd:c.r.detach (t:Int)={ c.r with l:=c.r.l.set t (false,0) }:=by unfold Rg.detach;rw[if_pos hl,y2t]
 have hlive:∀u:Nat,(c.r.detach (t:Int)).live u=if (u:Int)=t then false else c.r.live u:=fun u=>by
  rw[hd];exact qim h0 h1 u
 have hof:∀u:Nat,(u:Int)≠t→(c.r.detach (t:Int)).ofT u=c.r.ofT u:=fun u hu=>by
  rw[hd];have:=qni (m:=(false,0)) h0 h1 (u:Int);rw[if_neg hu] at this;exact this
 have hep:(c.r.detach (t:Int)).ep=c.r.ep:=by rw[hd]
 have htl:=h.th_in hl
 simp only[y2t]
 refine { h' with ni:=⟨h'.ni.m1,h'.ni.bf,h'.ni.rt,h'.ni.gl,h'.ni.cl⟩,rl:=by rw[hd];simp only[y3r];exact h.rl,lv:=fun u hu=>?_,ep:=fun u hu=>?_,e0:=by simp only;rw[hep];exact h.e0,p24:=fun p2 p4=>⟨(h.p24 p2 p4).1,fun Q hQ=>?_⟩ }
 ·simp only at hu ⊢
  rw[qgx]
  by_cases e:t=u
  ·rw[if_pos ⟨e,htl.1⟩]
  ·rw[if_neg (fun x=>e x.1)]
   rw[hlive,if_neg (by omega)] at hu
   exact h.lv u hu
 ·simp only at hu ⊢
  rw[hlive] at hu
  by_cases e:(u:Int)=t
  ·rw[if_pos e] at hu;cases hu
  ·rw[if_neg e] at hu
   rw[hof u e,hep];exact h.ep u hu
 ·obtain⟨q1,q2⟩:=(h'.p24 p2 p4).2 Q ⟨hQ.m1,hQ.bf,hQ.pd,hQ.cl⟩
  refine⟨fun u hu hc b hb=>?_,q2⟩
  simp only at hu hc hb
  rw[hlive] at hu
  by_cases e:(u:Int)=t
  ·rw[if_pos e] at hu;cases hu
  ·rw[if_neg e] at hu
   rw[hof u e,hep] at hc
   exact q1 u hu hc b hb
theorem qht (c:Co):c.marking=true↔2≤c.phase∧c.phase≤4:=by
 unfold Co.marking
 simp
theorem KI.detach (h:KI cf E c) (hE:E+4≤1000000000) (t:Int):KI cf (E+4) (c.detach cf t):=by
 unfold Co.detach
 split
 rotate_left
 ·exact h.up (by omega)
 rename_i hl
 simp only
 have key:∀g',(KI cf E { c with g:=g' })→(2≤c.phase→c.phase≤4→∀n:Nat,(n:Int)∈fOf c.b t→g'.mks n=true)→KI cf (E+4) (({ c with b:=qb3 c.b t,g:=g',th:=c.th.set t.toNat [],s:=c.s.quit t,r:=c.r.detach t }:Co).adv cf):=fun g' hg hm=>by
  have k1:=hg.buf_take t hm
  obtain⟨s1,s2,_⟩:=St.quit_ok h.si t
  have k2:=k1.kept (s':=c.s.quit t) s1 s2
  have k3:=k2.gone t hl
  exact KI.adv 4 _ E k3 hE
 by_cases hmk:c.marking=true
 ·rw[if_pos hmk]
  obtain⟨m2,m4⟩:=(qht c).1 hmk
  obtain⟨k1,k2⟩:=h.buf_gr m2 m4 t
  exact key _ k1 fun _ _=>k2
 ·rw[if_neg hmk]
  exact key _ h fun m2 m4=>absurd ((qht c).2 ⟨m2,m4⟩) hmk
theorem KI.confirm (h:KI cf E c) (t:Int) (hl:c.r.live t=true) (hm:c.phase=2→∀b:Nat,(2,(b:Int))∈c.th.getD t.toNat []→c.g.mks b=true):KI cf E { c with r:=(c.r.confirm t).1 }:=by
 unfold Rg.confirm
 split
 rotate_left
 ·exact h
 obtain⟨h0,h1,_⟩:=qds.1 hl
 have hlive:∀u:Nat,({ c.r with l:=c.r.l.set t.toNat (true,c.r.ep) }:Rg).live u=if (u:Int)=t then true else c.r.live u:=fun u=>qim h0 h1 u
 have hof:∀u:Nat,({ c.r with l:=c.r.l.set t.toNat (true,c.r.ep) }:Rg).ofT u=if (u:Int)=t then c.r.ep else c.r.ofT u:=fun u=>by rw[qni h0 h1 u];rfl
 refine { h with ni:=⟨h.ni.m1,h.ni.bf,h.ni.rt,h.ni.gl,h.ni.cl⟩,rl:=by simp only[y3r];exact h.rl,lv:=fun u hu=>?_,ep:=fun u hu=>?_,p24:=fun p2 p4=>⟨(h.p24 p2 p4).1,fun Q hQ=>?_⟩ }
 ·simp only at hu
  rw[hlive] at hu
  by_cases e:(u:Int)=t
  ·rw[if_pos e] at hu;cases hu
  ·rw[if_neg e] at hu;exact h.lv u hu
 ·simp only at hu ⊢
  rw[hlive] at hu
  rw[hof]
  by_cases e:(u:Int)=t
  ·rw[if_pos e];exact y4s _
  ·rw[if_neg e] at hu ⊢;exact h.ep u hu
 ·obtain⟨q1,q2⟩:=(h.p24 p2 p4).2 Q ⟨hQ.m1,hQ.bf,hQ.pd,hQ.cl⟩
  refine⟨fun u hu hc b hb=>?_,q2⟩
  simp only at hu hc hb
  rw[hlive] at hu
  rw[hof] at hc
  by_cases e:(u:Int)=t
  ·by_cases e2:c.phase=2
   ·have:u=t.toNat:=by omega
    rw[this] at hb
    exact hQ.m1 b (hm e2 b hb)
   ·exact q1 u (by rw[e];exact hl) (fun x=>absurd x e2) b hb
  ·rw[if_neg e] at hu hc;exact q1 u hu hc b hb
theorem qjx {l:List V2} {x:Int}:x∈qb4 l↔(2,x)∈l:=by
 have key:∀(l:List V2) (out:List Int),x∈l.foldl (fun out v=>if v.1=2∧v.2∉out then out ++ [v.2] else out) out↔x∈out∨(2,x)∈l:=by
  intro l
  induction l with
  | nil=>intro out;simp
  | cons v l ih=>
   intro out
   rw[List.foldl_cons,ih]
   by_cases hc:v.1=2∧v.2∉out
   ·rw[if_pos hc]
    obtain⟨k,n⟩:=v
    obtain⟨rfl,h2⟩:=hc
    simp only[y4b,y4e,true_and]
    constructor
    ·rintro (g | g)
     ·rcases y3q.1 g with g | g
      ·exact .inl g
      ·exact .inr (.inl (y2d.1 g))
     ·exact .inr (.inr g)
    ·rintro (g | g | g)
     ·exact .inl (y3q.2 (.inl g))
     ·exact .inl (y3q.2 (.inr (y2d.2 g)))
     ·exact .inr g
   ·rw[if_neg hc]
    simp only[y4b]
    constructor
    ·rintro (g | g)
     ·exact .inl g
     ·exact .inr (.inr g)
    ·rintro (g | g | g)
     ·exact .inl g
     ·left
      apply y0q
      intro hx
      exact hc (by rw[←g];exact⟨rfl,hx⟩)
     ·exact .inr g
 unfold qb4
 rw[key l []]
 simp
theorem KI.poll (h:KI cf E c) (hE:E+4≤1000000000) (t:Int):KI cf (E+4) (c.poll cf t):=by
 unfold Co.poll
 split
 rotate_left
 ·exact h.up (by omega)
 rename_i hcf
 have hl:c.r.live t=true:=by
  unfold Rg.confirm at hcf
  split at hcf
  ·rename_i hc;exact hc.1
  ·cases hcf
 obtain⟨t0,_,_⟩:=qds.1 hl
 simp only
 by_cases c2:c.phase=2
 ·rw[if_pos c2]
  have hin:=(h.th_in (t:=t.toNat) (by rw[y1z t0];exact hl)).2
  have k1:KI cf E { c with g:=c.g.shadeAll cf.stack (qb4 (c.th.getD t.toNat [])) }:=
   h.gr (by omega) (by omega) (qc6 _ (fun n=>(n:Int)∈qb4 (c.th.getD t.toNat [])) _ _ fun n x=>x) fun a x=>(h.ni.rt _ hin a (qjx.1 x)).1
  have k2:=k1.confirm t hl fun _ b hb=>qhw _ _ _ b (qjx.2 hb) (by
   obtain⟨n,e,hn⟩:=qfp (h.vok _ hin _ hb) rfl
   have:(b:Int)=n:=by simpa using e
   omega)
  exact KI.adv 4 _ E k2 hE
 rw[if_neg c2]
 by_cases c4:c.phase=4
 ·rw[if_pos c4]
  obtain⟨k1,k2⟩:=h.buf_gr (by omega) (by omega) t
  have k3:=(k1.buf_take t fun _ _=>k2).confirm t hl fun e=>absurd e c2
  exact KI.adv 4 _ E k3 hE
 ·rw[if_neg c4]
  exact KI.adv 4 _ E (h.confirm t hl fun e=>absurd e c2) hE
end
section
variable {cf:Cf} {E:Int} {c:Co}
theorem Fl.set {s:St} (h:SI s) {a i:Nat} {ser:Int} {fs:List V2} (o:qa3 s.c a ser fs) {v:V2} (hv:vOk v=true) (hi:i<fs.length) {x j b:Nat}:Fl (s.set (a:Int) (i:Int) v).1 x j b↔(x=a∧j=i∧v=(2,(b:Int)))∨(¬(x=a∧j=i)∧Fl s x j b):=by
 obtain⟨_,o',k,_,si,_⟩:=St.set_ok h o (i:=(i:Int)) hv (by omega)
 rw[y2t] at o'
 constructor
 ·rintro⟨se,f,o2,e⟩
  by_cases hx:x=a
  ·subst hx
   obtain⟨rfl,rfl⟩:=o2.same o'
   rw[y2u] at e
   by_cases hj:i=j
   ·subst hj
    rw[if_pos rfl,if_pos hi] at e
    exact .inl ⟨rfl,rfl,y3k e⟩
   ·rw[if_neg hj] at e
    exact .inr ⟨fun h=>hj h.2.symm,_,_,o,e⟩
  ·exact .inr ⟨fun h=>hx h.1,se,f,(k x hx).obj.1 o2,e⟩
 ·rintro (⟨rfl,rfl,rfl⟩ | ⟨hn,se,f,o2,e⟩)
  ·exact⟨_,_,o',by rw[y2u,if_pos rfl,if_pos hi]⟩
  ·by_cases hx:x=a
   ·subst hx
    obtain⟨rfl,rfl⟩:=o2.same o
    exact⟨_,_,o',by rw[y2u,if_neg (fun h=>hn ⟨rfl,h.symm⟩)];exact e⟩
   ·exact⟨se,f,(k x hx).obj.2 o2,e⟩
theorem qyz (b:List (List Int)) (t a:Int):(qe7 b t a).length=b.length:=by unfold qe7;split <;> simp
theorem qpz {b:List (List Int)} {t a:Int} {l:List Int} (h:l∈qe7 b t a):∀x∈l,x=a∨∃l'∈b,x∈l':=by
 intro x hx
 unfold qe7 at h
 split at h
 ·rename_i hc
  rcases qg4 h with rfl | g
  ·rcases y3q.1 hx with y | y
   ·right
    unfold fOf at y
    rw[if_pos hc.1,qcb (by omega)] at y
    exact⟨_,y3g _,y⟩
   ·exact .inl (y2d.1 y)
  ·exact .inr ⟨l,g,hx⟩
 ·exact .inr ⟨l,h,hx⟩
theorem qy0 {b:List (List Int)} {t a:Int} {l:List Int} (h:l∈b) {x:Int} (hx:x∈l):∃l'∈qe7 b t a,x∈l':=by
 unfold qe7
 split
 ·rename_i hc
  obtain⟨i,hi,rfl⟩:=y1y h
  by_cases e:t.toNat=i
  ·refine⟨_,y1w.2 ⟨i,by simpa using hi,rfl⟩,?_⟩
   rw[y3d,if_pos e]
   unfold fOf
   rw[if_pos hc.1,e,qcb hi]
   exact y3q.2 (.inl hx)
  ·exact⟨_,y1w.2 ⟨i,by simpa using hi,rfl⟩,by rw[List.getElem_set_ne e];exact hx⟩
 ·exact⟨l,h,hx⟩
theorem zca {b:List (List Int)} {t a:Int} (h0:0≤t∧t<b.length) (ha:0≤qap a):∃l∈qe7 b t a,a∈l:=by
 unfold qe7
 by_cases hm:a∈fOf b t
 ·rw[if_neg (fun h=>h.2.2.2 hm)]
  unfold fOf at hm
  rw[if_pos h0.1,qcb (by omega)] at hm
  exact⟨_,y3g _,hm⟩
 ·rw[if_pos ⟨h0.1,h0.2,ha,hm⟩]
  exact⟨_,y1w.2 ⟨t.toNat,by simp;omega,rfl⟩,by rw[y3d,if_pos rfl];simp⟩
theorem KI.write (h:KI cf E c) {t a:Nat} {i:Int} {v:V2} (ha:VG c t (2,(a:Int))) (hv:VG c t v):KI cf E (c.write (t:Int) (a:Int) i v).1:=by
 unfold Co.write
 split
 rotate_left
 ·exact h
 rename_i hc
 obtain⟨hl,hmay,hget⟩:=hc
 obtain⟨ser,fs,o,_⟩:=h.si.hi.obj a (ha.kp a rfl).1
 have e:=St.get_obj h.si.hi.ci o i
 have hi:0≤i:=by
  apply y0q
  intro hc
  rw[if_neg hc] at e;rw[e] at hget;cases hget
 obtain⟨i,rfl⟩:=y1b hi
 rw[if_pos hi,y2t] at e
 have hlen:i<fs.length:=by
  apply y0q
  intro hc
  rw[y1l (by omega)] at e;rw[e] at hget;cases hget
 rw[y0v hlen] at e
 simp only at e
 rw[e]
 simp only
 have hof:∀b:Nat,fs[i]=(2,(b:Int))→Fl c.s a i b:=fun b eb=>⟨ser,fs,o,by rw[y0v hlen,eb]⟩
 obtain⟨s1,s2,s3,s4,s5,s6⟩:=St.set_ok h.si o (i:=(i:Int)) hv.ok (by omega)
 have hF:∀ {x j b:Nat},Fl (c.s.set (a:Int) (i:Int) v).1 x j b↔(x=a∧j=i∧v=(2,(b:Int)))∨(¬(x=a∧j=i)∧Fl c.s x j b):=Fl.set h.si o hv.ok hlen
 generalize (c.s.set (a:Int) (i:Int) v).1=s' at *
 generalize hb':(if fs[i].1=2∧¬(c.g.is fs[i].2=true)∧c.barrier (t:Int)=true then qe7 c.b (t:Int) fs[i].2 else c.b)=b'
 have hold:∀n:Nat,fs[i]=(2,(n:Int))→n<2048:=fun n en=>by
  have:=(o.fld i hlen).1
  rw[en] at this
  obtain⟨m,em,hm⟩:=qfp this rfl
  have:(n:Int)=m:=by simpa using em
  omega
 have ht8:(t:Int)<c.b.length:=by
  have:=(qds.1 hl).2.1;have:=h.rl;have:=h.bl;omega
 have hsub:∀l∈b',∀x∈l,(fs[i]=(2,x))∨∃l'∈c.b,x∈l':=fun l hl' x hx=>by
  rw[←hb'] at hl'
  split at hl'
  ·rename_i hc
   rcases qpz hl' x hx with y | y
   ·left;rw[y, ←hc.1]
   ·exact .inr y
  ·exact .inr ⟨l,hl',hx⟩
 have hsup:∀l∈c.b,∀x∈l,∃l'∈b',x∈l':=fun l hl' x hx=>by
  rw[←hb']
  split
  ·exact qy0 hl' hx
  ·exact⟨l,hl',hx⟩
 have hblen:b'.length=c.b.length:=by
  rw[←hb']
  split
  ·exact qyz _ _ _
  ·rfl
 have hlog:2≤c.phase→c.phase≤4→∀n:Nat,fs[i]=(2,(n:Int))→c.g.mks n=true∨∃l∈b',(n:Int)∈l:=fun p2 p4 n en=>by
  have hn:=hold n en
  by_cases hm:c.g.mks n=true
  ·exact .inl hm
  ·right
   rw[←hb',if_pos]
   ·rw[en]
    exact zca ⟨by omega,ht8⟩ (by unfold qap;rw[if_pos (by simp only;omega)];simp only;omega)
   ·rw[en]
    refine⟨rfl,?_,?_⟩
    ·simp only;rw[qf6 _ hn];exact hm
    ·unfold Co.barrier;rw[(qht c).2 ⟨p2,p4⟩];rfl
 have hK:∀x,qa5 { c with b:=b',s:=s' } x↔qa5 c x:=fun x=>by
  unfold qa5
  simp only
  rw[s4]
 refine { h with si:=s5,ni:=⟨fun x y=>(hK x).2 (h.ni.m1 x y),fun l hl' b hb=>(hK b).2 ?_,fun l hl' b hb=>(hK b).2 (h.ni.rt l hl' b hb),fun n en=>(hK n).2 (h.ni.gl n en),fun x j b y f=>(hK b).2 ?_⟩,bl:=by simp only;rw[hblen];exact h.bl,bok:=fun l hl' x hx=>?_,p5:=fun e5=>⟨fun l hl'=>?_,(h.p5 e5).2⟩,p24:=fun p2 p4=>⟨(h.p24 p2 p4).1,fun Q hQ=>?_⟩ }
 ·rcases hsub l hl' b hb with y | ⟨l',y,z⟩
  ·exact h.ni.cl a i b (ha.kp a rfl) (hof b y)
  ·exact h.ni.bf l' y b z
 ·rcases hF.1 f with⟨_,_,ev⟩ | ⟨_,g⟩
  ·exact hv.kp b ev
  ·exact h.ni.cl x j b ((hK x).1 y) g
 ·rcases hsub l hl' x hx with y | ⟨l',y,z⟩
  ·have:=(o.fld i hlen).1
   rw[y] at this
   obtain⟨m,em,hm⟩:=qfp this rfl
   have:x=m:=by simpa using em
   omega
  ·exact h.bok l' y x z
 ·simp only at hl' e5
  have hnb:c.barrier (t:Int)=false:=by
   unfold Co.barrier Co.marking
   rw[e5];rfl
  rw[←hb',if_neg (by rw[hnb];intro x;exact absurd x.2.2 (by decide))] at hl'
  exact (h.p5 e5).1 l hl'
 ·simp only at p2 p4
  have hQo:∀n:Nat,fs[i]=(2,(n:Int))→Q n:=fun n en=>by
   rcases hlog p2 p4 n en with y | ⟨l,y,z⟩
   ·exact hQ.m1 n y
   ·exact hQ.bf l y n z
  have hfl:∀x j b,Fl c.s x j b→(x=a∧j=i∧fs[i]=(2,(b:Int)))∨Fl s' x j b:=fun x j b f=>by
   by_cases hx:x=a∧j=i
   ·left
    obtain⟨rfl,rfl⟩:=hx
    refine⟨rfl,rfl,?_⟩
    obtain⟨se,f',o2,e2⟩:=f
    obtain⟨rfl,rfl⟩:=o2.same o
    rw[y0v hlen] at e2
    exact y3k e2
   ·exact .inr (hF.2 (.inr ⟨hx,f⟩))
  have hQ':PC c Q:=by
   refine⟨hQ.m1,fun l hl' b hb=>?_,fun x j b y f p=>?_,fun x j b y z f=>?_⟩
   ·obtain⟨l',y,z⟩:=hsup l hl' _ hb
    exact hQ.bf l' y b z
   ·rcases hfl x j b f with⟨_,_,eb⟩ | g
    ·exact hQo b eb
    ·exact hQ.pd x j b y g p
   ·rcases hfl x j b f with⟨_,_,eb⟩ | g
    ·exact hQo b eb
    ·exact hQ.cl x j b y z g
  obtain⟨q1,q2⟩:=(h.p24 p2 p4).2 Q hQ'
  refine⟨q1,fun x j b y f=>?_⟩
  rcases hF.1 f with⟨rfl,rfl,ev⟩ | ⟨_,g⟩
  ·by_cases e2:c.phase=2
   ·refine hQ.pd x j b y f ?_
    rcases (h.p2 e2).2 x y with z | z
    ·exact .inl z
    ·exact .inr (.inl ⟨0,z,by omega⟩)
   ·exact hv.pc p2 p4 (fun e3=>absurd e3 e2) Q hQ' b ev
  ·exact q2 x j b y g
theorem Fl.new {s s':St} {a n:Nat} (h:qe6 s s' a n) {x j b:Nat}:Fl s' x j b↔Fl s x j b:=by
 constructor
 ·rintro⟨ser,fs,o,e⟩
  by_cases hx:x=a
  ·subst hx
   obtain⟨_,rfl⟩:=o.same h.obj
   rw[y1a] at e
   split at e
   ·simp at e
   ·cases e
  ·exact⟨ser,fs,(h.kept x hx).obj.1 o,e⟩
 ·rintro⟨ser,fs,o,e⟩
  by_cases hx:x=a
  ·subst hx
   have:=o.tk
   rw[h.off] at this;cases this
  ·exact⟨ser,fs,(h.kept x hx).obj.2 o,e⟩
theorem qe6.tk {s s':St} {a n:Nat} (h:qe6 s s' a n) {x:Nat} (hx:s.c.tk x=true):s'.c.tk x=true:=by
 by_cases e:x=a
 ·subst e;rw[h.off] at hx;cases hx
 ·rw[(h.kept x e).1];exact hx
theorem KI.newO (h:KI cf E c) {s':St} {a n:Nat} (hn:qe6 c.s s' a n) (hs:SI s'):KI cf E { c with s:=s' }:=by
 have hK:∀x,qa5 c x→qa5 { c with s:=s' } x:=fun x y=>⟨hn.tk y.1,y.2⟩
 have hK':∀x,x≠a→qa5 { c with s:=s' } x→qa5 c x:=fun x e y=>⟨by have:=y.1;simp only at this;rw[(hn.kept x e).1] at this;exact this,y.2⟩
 refine { h with si:=hs,ni:=⟨fun x y=>hK x (h.ni.m1 x y),fun l hl b hb=>hK b (h.ni.bf l hl b hb),fun l hl b hb=>hK b (h.ni.rt l hl b hb),fun m e=>hK m (h.ni.gl m e),fun x j b y f=>?_⟩,p24:=fun p2 p4=>⟨(h.p24 p2 p4).1,fun Q hQ=>?_⟩ }
 ·have f':=(Fl.new hn).1 f
  by_cases e:x=a
  ·subst e
   obtain⟨_,_,o,_⟩:=f'
   have:=o.tk
   rw[hn.off] at this;cases this
  ·exact hK b (h.ni.cl x j b (hK' x e y) f')
 ·obtain⟨q1,q2⟩:=(h.p24 p2 p4).2 Q ⟨hQ.m1,hQ.bf,fun x j b y f p=>hQ.pd x j b y ((Fl.new hn).2 f) p,fun x j b y z f=>hQ.cl x j b y z ((Fl.new hn).2 f)⟩
  exact⟨q1,fun x j b y f=>q2 x j b y ((Fl.new hn).1 f)⟩
theorem qvv (g:Gy) {a:Nat} (h:a<2048):g.black (a:Int)={ g with mks:=qay g.mks a true }:=by
 unfold Gy.black
 rw[if_pos ⟨by omega,by omega⟩,y2t]
theorem qce {m:Bs} {a b:Nat}:(qay m a true) b=true↔b=a∨m b=true:=by
 unfold qay
 by_cases e:b=a
 ·rw[if_pos e];simp[e]
 ·rw[if_neg e];simp[e]
theorem KI.color (h:KI cf E c) {a:Nat} (ha:c.s.c.tk a=true) (hnil:∀j b,¬Fl c.s a j b) (t:Nat):KI cf E (c.color cf (a:Int))∧VG (c.color cf (a:Int)) t (2,(a:Int))∧(c.color cf (a:Int)).s=c.s:=by
 have hlt:a<2048:=by have:=h.si.hi.ci.tk_lt ha;have:=h.si.hi.ci.small_n;omega
 have hpg:qap (a:Int)=((a / 32:Nat):Int):=by unfold qap;rw[if_pos (by omega)];omega
 have hok:vOk (2,(a:Int))=true:=by simp[vOk,chk];omega
 have hph:=h.ph
 unfold Co.color
 by_cases c2:c.phase=2
 ·rw[if_pos c2]
  have hm:=qiy cf.stack c.g hlt
  have k:=h.gr (by omega) (by omega) (qex cf.stack (fun x=>x=a) c.g (a:=(a:Int)) fun n e=>by omega) fun x e=>by rw[e];exact ha
  generalize c.g.shade cf.stack (a:Int)=g' at hm k ⊢
  refine⟨k,⟨hok,fun b e=>?_,fun p2 p4 _ Q hQ b e=>?_⟩,rfl⟩
  ·have:a=b:=y4f (by simpa using e)
   subst this
   exact⟨ha,fun e5=>by simp only at e5;omega⟩
  ·have:a=b:=y4f (by simpa using e)
   subst this
   exact hQ.m1 a hm
 rw[if_neg c2]
 by_cases c3:c.phase=3∨c.phase=4∨(c.phase=5∧c.at_≤qap (a:Int))
 ·rw[if_pos c3,qvv _ hlt]
  have hK:∀x,qa5 c x→qa5 { c with g:={ c.g with mks:=qay c.g.mks a true } } x:=fun x y=>⟨y.1,fun e5=>(y.2 e5).imp id fun z=>qce.2 (.inr z)⟩
  have hKa:qa5 { c with g:={ c.g with mks:=qay c.g.mks a true } } a:=⟨ha,fun _ => .inr (qce.2 (.inl rfl))⟩
  have hK':∀x,x≠a→qa5 { c with g:={ c.g with mks:=qay c.g.mks a true } } x→qa5 c x:=fun x e y=>⟨y.1,fun e5=>(y.2 e5).imp id fun z=>(qce.1 z).resolve_left e⟩
  refine⟨{ h with ni:=⟨fun x y=>?_,fun l hl b hb=>hK b (h.ni.bf l hl b hb),fun l hl b hb=>hK b (h.ni.rt l hl b hb),fun m e=>hK m (h.ni.gl m e),fun x j b y f=>?_⟩,ent:=fun e he=>?_,p01:=fun e=>?_,p5:=fun e5=>⟨(h.p5 e5).1,(h.p5 e5).2.1,fun x y=>?_⟩,p24:=fun p2 p4=>⟨qce.2 (.inr (h.p24 p2 p4).1),fun Q hQ=>?_⟩,p2:=fun e=>absurd e c2 },⟨hok,fun b e=>?_,fun p2 p4 _ Q hQ b e=>?_⟩,rfl⟩
  ·rcases qce.1 y with rfl | z
   ·exact hKa
   ·exact hK x (h.ni.m1 x z)
  ·by_cases e:x=a
   ·subst e;exact absurd f (hnil j b)
   ·exact hK b (h.ni.cl x j b (hK' x e y) f)
  ·obtain⟨m,e1,e2,e3⟩:=h.ent e he
   exact⟨m,e1,qce.2 (.inr e2),e3⟩
  ·simp only at e;omega
  ·rcases qce.1 y with rfl | z
   ·have:c.phase=5:=e5
    show c.at_≤_
    rcases c3 with c3 | c3 | c3
    ·omega
    ·omega
    ·rw[hpg] at c3;exact c3.2
   ·exact (h.p5 e5).2.2 x z
  ·have hQ':PC c Q:=by
    refine⟨fun x y=>hQ.m1 x (qce.2 (.inr y)),hQ.bf,fun x j b y f p=>hQ.pd x j b (qce.2 (.inr y)) f p,fun x j b y z f=>?_⟩
    by_cases e:x=a
    ·subst e;exact absurd f (hnil j b)
    ·refine hQ.cl x j b y ?_ f
     show (qay c.g.mks a true) x=false
     unfold qay
     rw[if_neg e];exact z
   obtain⟨q1,q2⟩:=(h.p24 p2 p4).2 Q hQ'
   refine⟨q1,fun x j b y f=>?_⟩
   rcases qce.1 y with rfl | z
   ·exact absurd f (hnil j b)
   ·exact q2 x j b z f
  ·have:a=b:=y4f (by simpa using e)
   subst this
   exact hKa
  ·have:a=b:=y4f (by simpa using e)
   subst this
   exact hQ.m1 a (qce.2 (.inl rfl))
 ·rw[if_neg c3]
  refine⟨h,⟨hok,fun b e=>?_,fun p2 p4 _ Q hQ b e=>?_⟩,rfl⟩
  ·have:a=b:=y4f (by simpa using e)
   subst this
   refine⟨ha,fun e5 => .inl ?_⟩
   rw[hpg] at c3
   omega
  ·omega
theorem qqh {s s':St} {a n:Nat} (h:qe6 s s' a n):∀j b,¬Fl s' a j b:=fun j b f=>by
 obtain⟨_,_,o,_⟩:=(Fl.new h).1 f
 have:=o.tk
 rw[h.off] at this;cases this
theorem KI.fast (h:KI cf E c) (hM:c.s.made<1099511627775) (t:Nat) (n:Int):c.fast cf (t:Int) n=(c,none)∨∃(a:Nat) (s':St) (c':Co),c.fast cf (t:Int) n=(c',some (a:Int))∧qe6 c.s s' a n.toNat∧c'=({ c with s:=s' }:Co).color cf (a:Int)∧KI cf E c'∧VG c' t (2,(a:Int))∧c'.s=s':=by
 unfold Co.fast
 split
 ·rcases St.fast_ok h.si hM t n with⟨e,_⟩ | ⟨a,s',e,e1,e2,e3⟩
  ·rw[e];exact .inl rfl
  ·rw[e]
   right
   obtain⟨k1,k2,k3⟩:=(h.newO e1 e2).color (a:=a) e1.obj.tk (qqh e1) t
   exact⟨a,s',_,rfl,e1,rfl,k1,k2,k3⟩
 ·exact .inl rfl
theorem KI.slow (h:KI cf E c) (hM:c.s.made<1099511627775) (t:Nat) (n:Int):(∃e,e≠0∧c.slow cf (t:Int) n=(c,0,e))∨∃(a:Nat) (s':St) (c':Co),c.slow cf (t:Int) n=(c',(a:Int),0)∧qe6 c.s s' a n.toNat∧c'=({ c with s:=s' }:Co).color cf (a:Int)∧KI cf E c'∧VG c' t (2,(a:Int))∧c'.s=s':=by
 unfold Co.slow
 split
 ·rcases St.slow_ok h.si hM cf.pages.toNat (nt:=cf.threads+1) (by have:=h.t8;omega) t n with⟨e,e0,e1⟩ | ⟨a,s',e,e1,e2⟩
  ·rw[e1]
   simp only
   rw[if_neg e0]
   exact .inl ⟨e,e0,rfl⟩
  ·rw[e]
   right
   obtain⟨k1,k2,k3⟩:=(h.newO e1 e2).color (a:=a) e1.obj.tk (qqh e1) t
   refine⟨a,s',_,?_,e1,rfl,k1,k2,k3⟩
   simp only
   rw[if_pos trivial]
 ·exact .inl ⟨4,by decide,rfl⟩
end
section
variable {cf:Cf} {E:Int} {c:Co}
theorem KI.traced (h:KI cf E c) (h3:c.phase=3) {g':Gy} {tp':Int} (up:∀a,c.g.mks a=true→g'.mks a=true) (new:∀a,g'.mks a=true→c.g.mks a=true∨(c.s.c.tk a=true∧(g'.over=true∨((a:Int),0)∈g'.l)))
  (ent:∀e∈g'.l,∃n:Nat,e.1=n∧g'.mks n=true∧0≤e.2) (tpr:tp' = -1∨(0≤tp'∧tp'<cf.pages))
  (pdk:∀a j b,c.g.mks a=true→Fl c.s a j b→Pd c a j→g'.mks b=true∨Pd { c with g:=g',tp:=tp' } a j):KI cf E { c with g:=g',tp:=tp' }:=by
 have hK:∀a,qa5 { c with g:=g',tp:=tp' } a↔qa5 c a:=fun a=>⟨fun x=>⟨x.1,fun e=>absurd e (by omega)⟩,fun x=>⟨x.1,fun e=>absurd e (by simp only;omega)⟩⟩
 obtain⟨g1,g2⟩:=h.p24 (by omega) (by omega)
 refine { h with ni:=⟨fun a x=>(hK a).2 ?_,fun l hl b hb=>(hK b).2 (h.ni.bf l hl b hb),fun l hl b hb=>(hK b).2 (h.ni.rt l hl b hb),fun n e=>(hK n).2 (h.ni.gl n e),fun a j b x f=>(hK b).2 (h.ni.cl a j b ((hK a).1 x) f)⟩,ent:=ent,calm:=fun e=>?_,p01:=fun e=>?_,p5:=fun e=>?_,p24:=fun _ _=>⟨up _ g1,fun Q hQ=>?_⟩,p2:=fun e=>?_,tpr:=tpr }
 ·rcases new a x with y | ⟨y,_⟩
  ·exact h.ni.m1 a y
  ·exact⟨y,fun e=>by omega⟩
 ·simp only at e;omega
 ·simp only at e;omega
 ·simp only at e;omega
 ·have hQ':PC c Q:=by
   refine⟨fun a x=>hQ.m1 a (up a x),hQ.bf,fun a j b x f p=>?_,fun a j b q x f=>?_⟩
   ·rcases pdk a j b x f p with y | y
    ·exact hQ.m1 b y
    ·exact hQ.pd a j b (up a x) f y
   ·by_cases e:g'.mks a=true
    ·rcases new a e with y | ⟨_,y⟩
     ·rw[x] at y;cases y
     ·refine hQ.pd a j b e f ?_
      rcases y with y | y
      ·exact .inl y
      ·exact .inr (.inl ⟨0,y,by omega⟩)
    ·exact hQ.cl a j b q (by simpa using e) f
  obtain⟨q1,q2⟩:=g2 Q hQ'
  refine⟨fun t ht _=>q1 t ht fun e=>by omega,fun a j b x f=>?_⟩
  rcases new a x with y | ⟨_,y⟩
  ·exact q2 a j b y f
  ·refine hQ.pd a j b x f ?_
   rcases y with y | y
   ·exact .inl y
   ·exact .inr (.inl ⟨0,y,by omega⟩)
 ·simp only at e;omega
theorem qqs (room:Int) (g:Gy) (e:Int × Int):(g.push room e).mks=g.mks:=by unfold Gy.push;split <;> rfl
theorem qw3 (room:Int) (g:Gy) (e:Int × Int):(g.push room e).over=true∨e∈(g.push room e).l:=by
 unfold Gy.push
 split
 ·exact .inl rfl
 ·exact .inr (by simp)
theorem zcr (room:Int) (g:Gy) (e:Int × Int):(∀x∈g.l,x∈(g.push room e).l)∧(g.over=true→(g.push room e).over=true)∧∀x∈(g.push room e).l,x∈g.l∨x=e:=by
 unfold Gy.push
 split
 ·exact⟨fun x hx=>hx,fun _=>rfl,fun x hx => .inl hx⟩
 ·refine⟨fun x hx=>by simp[hx],fun h=>h,fun x hx=>?_⟩
  rcases y3q.1 hx with y | y
  ·exact .inl y
  ·exact .inr (y2d.1 y)
theorem KI.entry (h:KI cf E c) (h3:c.phase=3) (hch:0≤cf.chunk∧cf.chunk≤1000) {e:Int × Int} (he:c.g.l.getLast?=some e):KI cf E (({ c with g:={ c.g with l:=c.g.l.dropLast } }:Co).entry cf e):=by
 have hlast:∀x∈c.g.l,x∈c.g.l.dropLast∨x=e:=fun x hx=>by
  have hne:c.g.l≠[]:=List.ne_nil_of_mem hx
  have e1:=List.dropLast_concat_getLast hne
  rw[List.getLast?_eq_some_getLast hne] at he
  rw[←e1] at hx
  rcases y3q.1 hx with y | y
  ·exact .inl y
  ·right;rw[y2d.1 y];exact y3k he
 have hsub:∀x∈c.g.l.dropLast,x∈c.g.l:=fun x hx=>y1v _ hx
 have hem:e∈c.g.l:=List.mem_of_getLast? he
 obtain⟨a,ea,em,e0⟩:=h.ent e hem
 have hta:=(h.ni.m1 a em).1
 have hpd0:∀ {x j:Nat},Pd c x j→(x=a∧e.2≤j)∨Pd { c with g:={ c.g with l:=c.g.l.dropLast } } x j:=fun {x j} p=>by
  rcases p with p | ⟨i,p,q⟩ | p
  ·exact .inr (.inl p)
  ·rcases hlast _ p with y | y
   ·exact .inr (.inr (.inl ⟨i,y,q⟩))
   ·left
    rw[←y] at ea ⊢
    simp only at ea ⊢
    exact⟨by omega,q⟩
  ·exact .inr (.inr (.inr p))
 unfold Co.entry
 simp only
 by_cases hc:e.2<0∨c.s.fields e.1≤e.2
 ·rw[if_pos hc]
  refine h.traced h3 (g':={ c.g with l:=c.g.l.dropLast }) (tp':=c.tp) (fun _ x=>x) (fun _ x => .inl x) (fun x hx=>h.ent x (hsub x hx)) h.tpr fun x j b m f p=>?_
  rcases hpd0 p with⟨rfl,q⟩ | y
  ·exfalso
   have:=(qjh h.si f).2.1
   rw[ea] at hc
   omega
  ·exact .inr y
 rw[if_neg hc]
 have hn:c.s.fields e.1≤127:=by
  obtain⟨ser,fs,o,_⟩:=h.si.hi.obj a hta
  rw[ea,(St.read_obj h.si.hi.ci o).1]
  have:=o.len;omega
 have hw:w64 (e.2+cf.chunk)=e.2+cf.chunk:=qeg (by omega)
 rw[hw]
 generalize hto:min (e.2+cf.chunk) (c.s.fields e.1)=to
 have htb:e.2≤to∧to≤c.s.fields e.1:=by omega
 generalize hg1:(if to<c.s.fields e.1 then ({ c.g with l:=c.g.l.dropLast }:Gy).push cf.stack (e.1,to) else { c.g with l:=c.g.l.dropLast })=g1
 have g1m:g1.mks=c.g.mks:=by
  rw[←hg1]
  split
  ·rw[qqs]
  ·rfl
 have g1l:(∀x∈c.g.l.dropLast,x∈g1.l)∧(c.g.over=true→g1.over=true)∧(∀x∈g1.l,x∈c.g.l.dropLast∨x=(e.1,to))∧(to<c.s.fields e.1→g1.over=true∨(e.1,to)∈g1.l):=by
  rw[←hg1]
  split
  ·obtain⟨p1,p2,p3⟩:=zcr cf.stack ({ c.g with l:=c.g.l.dropLast }:Gy) (e.1,to)
   exact⟨p1,p2,p3,fun _=>qw3 _ _ _⟩
  ·rename_i hnt
   exact⟨fun x hx=>hx,fun x=>x,fun x hx => .inl hx,fun y=>absurd y hnt⟩
 obtain⟨l1,l2,l3,l4⟩:=g1l
 have hgr:Gro (fun n=>c.s.c.tk n=true) g1 (qc8 cf c.s e.1 (to-e.2).toNat e.2 g1):=qes cf _ _ _ _ fun j n j1 j2 hj=>by
  obtain⟨x,ex,_,hf,_⟩:=qme h.si hj (by omega)
  have:x=a:=by omega
  subst this
  exact (h.ni.cl x _ n (h.ni.m1 x em) hf).1
 have hmk:∀(j n:Nat),e.2≤j→(j:Int)<to→Fl c.s a j n→(qc8 cf c.s e.1 (to-e.2).toNat e.2 g1).mks n=true:=fun j n j1 j2 f=>by
  obtain⟨f1,_,_,f4⟩:=qjh h.si f
  exact qnm cf _ _ _ (j:Int) n (by omega) (by omega) (by rw[ea];exact f1) f4
 generalize qc8 cf c.s e.1 (to-e.2).toNat e.2 g1=g2 at hgr hmk
 refine h.traced h3 (g':=g2) (tp':=c.tp) (fun x y=>hgr.up x (by rw[g1m];exact y)) (fun x y=>?_) (fun x hx=>?_) h.tpr fun x j b m f p=>?_
 ·rcases hgr.new x y with z | ⟨z1,_,z3⟩
  ·rw[g1m] at z;exact .inl z
  ·exact .inr ⟨z1,z3⟩
 ·rcases hgr.ln x hx with y | ⟨n,rfl,y⟩
  ·rcases l3 x y with z | rfl
   ·obtain⟨n,e1,e2,e3⟩:=h.ent x (hsub x z)
    exact⟨n,e1,hgr.up n (by rw[g1m];exact e2),e3⟩
   ·exact⟨a,ea,hgr.up a (by rw[g1m];exact em),by simp only;omega⟩
  ·exact⟨n,rfl,y,y4s 0⟩
 ·rcases hpd0 p with⟨rfl,q⟩ | y
  ·by_cases hj:(j:Int)<to
   ·exact .inl (hmk j b q hj f)
   ·right
    have hjn:=(qjh h.si f).2.1
    rw[←ea] at hjn
    rcases l4 (by omega) with z | z
    ·exact .inl (hgr.ov z)
    ·exact .inr (.inl ⟨to,by rw[←ea];exact hgr.li _ z,by omega⟩)
  ·right
   rcases y with y | ⟨i,y,z⟩ | y
   ·exact .inl (hgr.ov (l2 y))
   ·exact .inr (.inl ⟨i,hgr.li _ (l1 _ y),z⟩)
   ·exact .inr (.inr y)
theorem qe1 {s:St} (h:SI s) {p x:Int}:x∈s.inP p↔∃a:Nat,x=a∧s.c.tk a=true∧((a / 32:Nat):Int)=p:=by
 unfold St.inP St.objects qgt
 have hn:=h.hi.ci.small_n
 simp only[List.mem_filter,y4l,y3x,decide_eq_true_eq]
 constructor
 ·rintro⟨⟨a,⟨a1,a2⟩,rfl⟩,e⟩
  refine⟨a,rfl,a2,?_⟩
  have:=h.hi.ci.tk_lt a2
  rw[←e]
  show _=qap (a:Int)
  unfold qap;rw[if_pos (by omega)];omega
 ·rintro⟨a,rfl,ha,rfl⟩
  have:=h.hi.ci.tk_lt ha
  refine⟨⟨a,⟨by unfold Ce.n;omega,ha⟩,rfl⟩,?_⟩
  show qap (a:Int)=_
  unfold qap;rw[if_pos (by omega)];omega
theorem qjk (s:St) (p:Int):(s.inP p).Nodup:=by
 unfold St.inP St.objects qgt
 refine List.Pairwise.filter _ ?_
 refine List.Pairwise.map _ ?_ (List.Pairwise.filter _ List.nodup_range)
 intro a b hab e
 exact hab (y4f e)
theorem KI.look (h:KI cf E c) (h3:c.phase=3) (hp:1≤cf.pages∧cf.pages≤64) (hks:(c.s.c.ks.length:Int)=cf.pages) (hl:c.g.l=[]) {p:Int} (h0:0≤p∧p<cf.pages) {ov:Bool} (hov:(c.tp = -1∧p=0)∨(c.tp=p∧ov=c.g.over)):
  KI cf E (({ c with g:={ c.g with over:=ov },tp:=p }:Co).look cf):=by
 unfold Co.look
 simp only
 have hw:w64 (p+1)=p+1:=qeg (by omega)
 rw[hw]
 have hgr:Gro (fun n=>c.s.c.tk n=true) { c.g with over:=ov } (qbr cf c.s (c.s.inP p) { c.g with over:=ov }):=qgi cf _ _ _ fun x hx j n j0 hj hi=>by
  obtain⟨a,ea,ta,hf,_⟩:=qme h.si hj j0
  have hka:qa5 c a:=⟨ta,fun e=>by omega⟩
  exact (h.ni.cl a _ n hka hf).1
 have hmk:∀(a j n:Nat),c.g.mks a=true→((a / 32:Nat):Int)=p→Fl c.s a j n→(qbr cf c.s (c.s.inP p) { c.g with over:=ov }).mks n=true:=fun a j n m e f=>by
  obtain⟨f1,f2,f3,f4⟩:=qjh h.si f
  have hlt:a<2048:=by have:=h.si.hi.ci.tk_lt f3;have:=h.si.hi.ci.small_n;omega
  exact qmk cf _ _ (a:Int) ((qe1 h.si).2 ⟨a,rfl,f3,e⟩) (by rw[qf6 _ hlt];exact m) (j:Int) n (by omega) f2 f1 f4
 generalize qbr cf c.s (c.s.inP p) { c.g with over:=ov }=g2 at hgr hmk
 refine h.traced h3 (g':=g2) (fun x y=>hgr.up x y) (fun x y=>?_) (fun x hx=>?_) ?_ fun x j b m f q=>?_
 ·rcases hgr.new x y with z | ⟨z1,_,z3⟩
  ·exact .inl z
  ·exact .inr ⟨z1,z3⟩
 ·rcases hgr.ln x hx with y | ⟨n,rfl,y⟩
  ·simp only at y;rw[hl] at y;cases y
  ·exact⟨n,rfl,y,y4s 0⟩
 ·by_cases e:p+1=cf.pages
  ·rw[if_pos e];exact .inl rfl
  ·rw[if_neg e];right;omega
 ·have hxp:((x / 32:Nat):Int)<cf.pages:=by
   have:=(h.si.hi.ci.tk x (qjh h.si f).2.2.1).1
   omega
  have hlate:p<((x / 32:Nat):Int)→Pd { c with g:=g2,tp:=if p+1=cf.pages then -1 else p+1 } x j:=fun hlt=>by
   right;right
   simp only
   rw[if_neg (by omega)]
   omega
  by_cases e:((x / 32:Nat):Int)=p
  ·exact .inl (hmk x j b m e f)
  ·right
   rcases hov with⟨t1,t2⟩ | ⟨t1,t2⟩
   ·exact hlate (by omega)
   ·rcases q with q | ⟨i,q,_⟩ | q
    ·exact .inl (hgr.ov (by simp only;rw[t2];exact q))
    ·rw[hl] at q;cases q
    ·exact hlate (by omega)
theorem KI.tUnit (h:KI cf E c) (h3:c.phase=3) (hch:0≤cf.chunk∧cf.chunk≤1000) (hp:1≤cf.pages∧cf.pages≤64) (hks:(c.s.c.ks.length:Int)=cf.pages):KI cf E (c.tUnit cf).1∧(c.tUnit cf).1.phase=3:=by
 have hph:∀(d:Co) (e:Int × Int),(d.entry cf e).phase=d.phase:=fun d e=>by
  unfold Co.entry;simp only;split <;> rfl
 unfold Co.tUnit
 split
 ·exact⟨h,h3⟩
 rename_i hni
 cases he:c.g.l.getLast? with
 | some e=>exact⟨h.entry h3 hch he,by simp only;rw[hph];exact h3⟩
 | none=>
  have hl:c.g.l=[]:=List.getLast?_eq_none_iff.1 he
  simp only
  by_cases ht:c.tp = -1
  ·rw[if_pos ht]
   exact⟨h.look h3 hp hks hl (p:=0) (ov:=false) (by omega) (.inl ⟨ht,rfl⟩),h3⟩
  ·rw[if_neg ht]
   refine⟨?_,h3⟩
   have:=h.look h3 hp hks hl (p:=c.tp) (ov:=c.g.over) (by have:=h.tpr;omega) (.inr ⟨rfl,rfl⟩)
   exact this
end
theorem qn4 (m:List Int) (p k:Int):∀n,(qcy m p k n).length=m.length
 | 0=>rfl
 | n+1=>(qc0 _ _ _).trans (qn4 m p k n)
theorem qwh (m:List Int) (p k:Int):(qb8 m p k).1.length=m.length:=by
 unfold qb8
 split
 ·exact (qn4 _ _ _ _).trans (qbs _ _ _ _)
 ·rfl
theorem qv1 (c:Ce) (k:Int):(c.carve k).1.m.length=c.m.length:=by
 unfold Ce.carve
 split
 ·rfl
 ·exact qwh _ _ _
theorem qz6 (c:Ce) (p:Int):(c.take p).1.m.length=c.m.length:=by
 unfold Ce.take
 split
 ·rfl
 ·exact qbs _ _ _ _
theorem qwn (c:Ce) (n:Int):(c.large n).1.m.length=c.m.length:=by
 unfold Ce.large
 split
 ·rfl
 ·exact qbs _ _ _ _
theorem qwi (m:List Int) (p k:Int) (l:Int × Int) (i:Int):(qdr m p k l i).1.length=m.length:=by
 unfold qdr
 split
 ·exact qc0 _ _ _
 ·rfl
theorem qy3 (c:Ce) (a:Int):(c.give a).1.m.length=c.m.length:=by
 unfold Ce.give
 split
 ·simp only
  split
  ·rfl
  ·exact qwi _ _ _ _ _
 ·rfl
theorem qpw (c:Ce) (p:Int):(c.drop p).1.m.length=c.m.length:=by
 unfold Ce.drop
 split <;> rfl
theorem qoj (c:Ce) (a w:Int):(c.store a w).1.m.length=c.m.length:=by
 unfold Ce.store
 split
 ·exact qc0 _ _ _
 ·rfl
theorem qny (s:St) (a n:Int):(s.begin a n).c.m.length=s.c.m.length:=qoj _ _ _
theorem qld (s:St) (t n:Int):(s.fast t n).1.c.m.length=s.c.m.length:=by
 unfold St.fast
 split
 ·rfl
 ·have h:=qz6 s.c (qdw s.own (t,cOf n))
  generalize s.c.take (qdw s.own (t,cOf n))=z at h
  obtain⟨c,o⟩:=z
  cases o
  ·rfl
  ·exact (qny _ _ _).trans h
theorem qwy (s:St) (np:Nat) (k:Int):(s.openP np k).1.c.m.length=s.c.m.length:=by
 unfold St.openP
 split
 ·rfl
 ·exact qv1 _ _
theorem qq0 (s:St) (np:Nat) (nt t n:Int):(s.slow np nt t n).1.c.m.length=s.c.m.length:=by
 unfold St.slow
 simp only
 split
 ·rfl
 split
 ·have h:=qwn s.c (qcu n)
  generalize s.c.large (qcu n)=z at h
  obtain⟨c,o⟩:=z
  cases o
  ·rfl
  ·exact (qny _ _ _).trans h
 ·have h:=qld s t n
  generalize s.fast t n=z at h
  obtain⟨c,o⟩:=z
  cases o
  ·simp only
   have h2:=qwy s np (cOf n)
   generalize s.openP np (cOf n)=z2 at h2
   obtain⟨c2,o2⟩:=z2
   cases o2
   ·rfl
   ·simp only
    rw[qld]
    split
    ·exact h2
    ·exact h2
  ·exact h
theorem qkw:∀(l:List Int) (s:St),(s.dropAll l).c.m.length=s.c.m.length
 | [],_=>rfl
 | p :: l,s=>(qkw l _).trans (qpw _ _)
theorem qzw (s:St) (t:Int):(s.quit t).c.m.length=s.c.m.length:=qkw _ _
theorem qz9 (s:St) (p:Int):(s.trim p).c.m.length=s.c.m.length:=by
 unfold St.trim
 split
 ·exact qpw _ _
 ·rfl
theorem zct (s:St) (a i:Int) (v:V2):(s.set a i v).1.c.m.length=s.c.m.length:=by
 unfold St.set
 split
 ·exact qoj _ _ _
 ·rfl
section
variable (cf:Cf)
theorem qq3 (c:Co) (a:Int):(c.sweepOne a).s.c.m.length=c.s.c.m.length:=by
 unfold Co.sweepOne
 split
 ·rfl
 ·exact qy3 _ _
theorem qj5:∀(l:List Int) (c:Co),(c.sweepAll l).s.c.m.length=c.s.c.m.length
 | [],_=>rfl
 | a :: l,c=>(qj5 l _).trans (qq3 c a)
theorem qj9 (c:Co):(c.wUnit cf).1.s.c.m.length=c.s.c.m.length:=by
 unfold Co.wUnit
 split
 ·rfl
 ·exact (qz9 _ _).trans (qj5 _ _)
theorem zc3 (c:Co):(c.unit cf).1.s.c.m.length=c.s.c.m.length:=by
 have h1:∀(r:Co × Bool),r.1.s.c.m.length=c.s.c.m.length→(if r.2 then ({ r.1 with units:=w64 (r.1.units+1) }:Co) else r.1).s.c.m.length=c.s.c.m.length:=fun r h=>by split <;> exact h
 unfold Co.unit
 refine h1 _ ?_
 split
 ·have ht:=qko cf c
  generalize c.tUnit cf=z at ht
  obtain⟨d,b⟩:=z
  simp only at ht
  cases b with
  | true=>simp only;rw[ht]
  | false=>simp only;unfold Co.adv;rw[qfq];show d.s.c.m.length=_;rw[ht]
 ·split
  ·have hw:=qj9 cf c
   generalize c.wUnit cf=z at hw
   obtain⟨d,b⟩:=z
   simp only at hw ⊢
   split <;> exact hw
  ·rfl
theorem qv8 (c:Co) (t:Int):(c.detach cf t).s.c.m.length=c.s.c.m.length:=by
 unfold Co.detach Co.adv
 split
 ·simp only;rw[qfq];exact qzw _ _
 ·rfl
theorem qv2 (c:Co) (t n:Int):(c.fast cf t n).1.s.c.m.length=c.s.c.m.length:=by
 unfold Co.fast
 split
 ·have h:=qld c.s t n
  generalize c.s.fast t n=z at h
  obtain⟨s',o⟩:=z
  cases o with
  | none=>rfl
  | some a=>simp only;rw[qgo];exact h
 ·rfl
theorem qv6 (c:Co) (t n:Int):(c.slow cf t n).1.s.c.m.length=c.s.c.m.length:=by
 unfold Co.slow
 split
 ·have h:=qq0 c.s cf.pages.toNat (cf.threads+1) t n
  generalize c.s.slow cf.pages.toNat (cf.threads+1) t n=z at h
  obtain⟨s',a,e⟩:=z
  simp only at h ⊢
  split
  ·rw[qgo];exact h
  ·exact h
 ·rfl
theorem qxn (c:Co) (t a i:Int) (v:V2):(c.write t a i v).1.s.c.m.length=c.s.c.m.length:=by
 unfold Co.write
 split
 ·exact zct _ _ _ _
 ·rfl
end
structure qov (c d:Co) (l:List Int):Prop where
 si:SI c.s→SI d.s
 out:∀b:Nat,(b:Int)∉l→qav c.s.c d.s.c b∧d.g.mks b=c.g.mks b
 inn:∀b:Nat,(b:Int)∈l→c.g.mks b=true→qav c.s.c d.s.c b
 gone:∀b:Nat,(b:Int)∈l→c.g.mks b=false→d.s.c.tk b=false
 clear:∀b:Nat,(b:Int)∈l→d.g.mks b=false
 gl:d.g.l=c.g.l∧d.g.over=c.g.over
 r:d.r=c.r
 b:d.b=c.b
 tp:d.tp=c.tp
 at_:d.at_=c.at_
 th:d.th=c.th
 global:d.global=c.global
 phase:d.phase=c.phase
 cycles:d.cycles=c.cycles
 made:d.s.made=c.s.made
theorem qeu:∀(l:List Int) (c:Co),SI c.s→l.Nodup→(∀x∈l,∃a:Nat,x=a∧c.s.c.tk a=true)→qov c (c.sweepAll l) l
 | [],c,h,_,_=>⟨fun x=>x,fun b _=>⟨qav.refl _ _,rfl⟩,fun b hb=>(by cases hb),fun b hb=>(by cases hb),fun b hb=>(by cases hb),⟨rfl,rfl⟩,rfl,rfl,rfl,rfl,rfl,rfl,rfl,rfl,rfl⟩
 | x :: l,c,h,hn,hm=>by
  obtain⟨a,rfl,ha⟩:=hm x (by simp)
  have hna:(a:Int)∉l:=(y3s.1 hn).1
  have hlt:a<2048:=by have:=h.hi.ci.tk_lt ha;have:=h.hi.ci.small_n;omega
  have hne:∀b:Nat,(b:Int)≠(a:Int)→b≠a:=fun b e e'=>e (by rw[e'])
  rw[Co.sweepAll]
  by_cases hmk:c.g.mks a=true
  ·have hc:c.g.clear (a:Int)={ c.g with mks:=qay c.g.mks a false }:=by
    unfold Gy.clear
    rw[qf6 _ hlt,if_pos hmk,y2t]
   have h1:c.sweepOne (a:Int)={ c with g:={ c.g with mks:=qay c.g.mks a false } }:=by
    unfold Co.sweepOne
    rw[qf6 _ hlt,if_pos hmk,hc]
   rw[h1]
   have ih:=qeu l { c with g:={ c.g with mks:=qay c.g.mks a false } } h (y3s.1 hn).2 fun y hy=>hm y (by simp[hy])
   generalize Co.sweepAll { c with g:={ c.g with mks:=qay c.g.mks a false } } l=d at ih
   have hb0:∀b,b≠a→(qay c.g.mks a false) b=c.g.mks b:=fun b e=>by unfold qay;rw[if_neg e]
   refine⟨ih.si,fun b hb=>?_,fun b hb m=>?_,fun b hb m=>?_,fun b hb=>?_,ih.gl,ih.r,ih.b,ih.tp,ih.at_,ih.th,ih.global,ih.phase,ih.cycles,ih.made⟩
   ·simp only[y4b,not_or] at hb
    obtain⟨k1,k2⟩:=ih.out b hb.2
    exact⟨k1,k2.trans (hb0 b (hne b hb.1))⟩
   ·rcases y4b.1 hb with e | g
    ·have:b=a:=by omega
     subst this
     exact (ih.out b hna).1
    ·by_cases e:b=a
     ·subst e;exact absurd g hna
     ·exact ih.inn b g (by simp only;rw[hb0 b e];exact m)
   ·rcases y4b.1 hb with e | g
    ·have:b=a:=by omega
     subst this
     rw[m] at hmk;cases hmk
    ·by_cases e:b=a
     ·subst e;exact absurd g hna
     ·exact ih.gone b g (by simp only;rw[hb0 b e];exact m)
   ·rcases y4b.1 hb with e | g
    ·have:b=a:=by omega
     subst this
     rw[(ih.out b hna).2]
     simp[qay]
    ·exact ih.clear b g
  ·have hmf:c.g.mks a=false:=by simpa using hmk
   obtain⟨g1,g2,g3,g4⟩:=St.give_ok h ha
   have h1:c.sweepOne (a:Int)={ c with s:={ c.s with c:=(c.s.c.give (a:Int)).1 },freed:=if (c.s.c.give (a:Int)).2 then w64 (c.freed+1) else c.freed }:=by
    unfold Co.sweepOne
    rw[qf6 _ hlt,if_neg hmk]
   rw[h1]
   have ih:=qeu l { c with s:={ c.s with c:=(c.s.c.give (a:Int)).1 },freed:=if (c.s.c.give (a:Int)).2 then w64 (c.freed+1) else c.freed } g2 (y3s.1 hn).2 fun y hy=>by
    obtain⟨b,rfl,hb⟩:=hm y (by simp[hy])
    have:b≠a:=fun e=>hna (by rw[←e];exact hy)
    exact⟨b,rfl,by simp only;rw[(g4 b this).1];exact hb⟩
   generalize Co.sweepAll { c with s:={ c.s with c:=(c.s.c.give (a:Int)).1 },freed:=if (c.s.c.give (a:Int)).2 then w64 (c.freed+1) else c.freed } l=d at ih
   refine⟨fun _=>ih.si g2,fun b hb=>?_,fun b hb m=>?_,fun b hb m=>?_,fun b hb=>?_,ih.gl,ih.r,ih.b,ih.tp,ih.at_,ih.th,ih.global,ih.phase,ih.cycles,ih.made⟩
   ·simp only[y4b,not_or] at hb
    obtain⟨k1,k2⟩:=ih.out b hb.2
    exact⟨(g4 b (hne b hb.1)).trans k1,k2⟩
   ·rcases y4b.1 hb with e | g
    ·have:b=a:=by omega
     subst this
     rw[hmf] at m;cases m
    ·by_cases e:b=a
     ·subst e;exact absurd g hna
     ·exact (g4 b e).trans (ih.inn b g m)
   ·rcases y4b.1 hb with e | g
    ·have:b=a:=by omega
     subst this
     rw[(ih.out b hna).1.1]
     exact g3
    ·exact ih.gone b g m
   ·rcases y4b.1 hb with e | g
    ·have:b=a:=by omega
     subst this
     rw[(ih.out b hna).2];exact hmf
    ·exact ih.clear b g
theorem qov.fl {c d:Co} {l:List Int} (h:qov c d l) {x j b:Nat} (f:Fl d.s x j b):Fl c.s x j b:=by
 obtain⟨ser,fs,o,e⟩:=f
 by_cases hx:(x:Int)∈l
 ·by_cases hm:c.g.mks x=true
  ·exact⟨ser,fs,(h.inn x hx hm).obj.1 o,e⟩
  ·have:=h.gone x hx (by simpa using hm)
   rw[o.tk] at this;cases this
 ·exact⟨ser,fs,(h.out x hx).1.obj.1 o,e⟩
section
variable {cf:Cf} {E:Int} {c:Co}
theorem KI.swept (h:KI cf E c) (h5:c.phase=5) {d:Co} (hs:qov c d (c.s.inP c.at_)) (hat:c.at_≤1000) {s':St} (hs':SI s') (hk:∀b,qav d.s.c s'.c b) (hm:s'.made=d.s.made):KI cf E { d with s:=s',at_:=w64 (d.at_+1) }:=by
 obtain⟨b5,a5,m5⟩:=h.p5 h5
 have hw:w64 (d.at_+1)=c.at_+1:=by rw[hs.at_];exact qeg (by omega)
 rw[hw]
 have hin:∀b:Nat,c.s.c.tk b=true→((b / 32:Nat):Int)=c.at_→(b:Int)∈c.s.inP c.at_:=fun b tb e=>(qe1 h.si).2 ⟨b,rfl,tb,e⟩
 have hout:∀b:Nat,(b:Int)∈c.s.inP c.at_→((b / 32:Nat):Int)=c.at_:=fun b hb=>by
  obtain⟨a,e,_,e2⟩:=(qe1 h.si).1 hb
  have:b=a:=by omega
  rw[this];exact e2
 have hmks:∀b,d.g.mks b=true→(b:Int)∉c.s.inP c.at_∧c.g.mks b=true:=fun b m=>by
  by_cases hb:(b:Int)∈c.s.inP c.at_
  ·rw[hs.clear b hb] at m;cases m
  ·exact⟨hb,by rw[←(hs.out b hb).2];exact m⟩
 have hK:∀a,qa5 { d with s:=s',at_:=c.at_+1 } a↔qa5 c a:=fun a=>by
  constructor
  ·rintro⟨x1,x2⟩
   have x2:=x2 (by simp only;rw[hs.phase];exact h5)
   simp only at x1 x2
   rw[(hk a).1] at x1
   by_cases ha:(a:Int)∈c.s.inP c.at_
   ·by_cases hm:c.g.mks a=true
    ·exact⟨(h.ni.m1 a hm).1,fun _ => .inr hm⟩
    ·rw[hs.gone a ha (by simpa using hm)] at x1;cases x1
   ·obtain⟨k1,k2⟩:=hs.out a ha
    rw[k1.1] at x1
    refine⟨x1,fun _=>?_⟩
    rcases x2 with x2 | x2
    ·left
     have:((a / 32:Nat):Int)≠c.at_:=fun e=>ha (hin a x1 e)
     omega
    ·exact .inr (by rw[←k2];exact x2)
  ·rintro⟨x1,x2⟩
   have x2:=x2 h5
   by_cases ha:(a:Int)∈c.s.inP c.at_
   ·have hp:=hout a ha
    have hm:c.g.mks a=true:=x2.resolve_left (by omega)
    refine⟨?_,fun _ => .inl ?_⟩
    ·simp only;rw[(hk a).1,(hs.inn a ha hm).1];exact x1
    ·simp only;omega
   ·obtain⟨k1,k2⟩:=hs.out a ha
    refine⟨by simp only;rw[(hk a).1,k1.1];exact x1,fun _=>?_⟩
    rcases x2 with x2 | x2
    ·left;simp only;omega
    ·right;simp only;rw[k2];exact x2
 have hcalm:=h.calm (.inr h5)
 have hlive:∀u:Int,d.r.live u=c.r.live u:=fun u=>by rw[hs.r]
 refine⟨hs',⟨fun a x=>(hK a).2 (h.ni.m1 a (hmks a x).2),fun l hl b hb=>(hK b).2 (h.ni.bf l (by simp only at hl;rw[hs.b] at hl;exact hl) b hb),fun l hl b hb=>(hK b).2 (h.ni.rt l (by simp only at hl;rw[hs.th] at hl;exact hl) b hb),fun n e=>(hK n).2 (h.ni.gl n (by simp only at e;rw[hs.global] at e;exact e)),fun a j b x f=>(hK b).2 (h.ni.cl a j b ((hK a).1 x) (hs.fl ((Fl.same hk).1 f)))⟩,h.t8,by simp only;rw[hs.th];exact h.thl,by simp only;rw[hs.r];exact h.rl,by simp only;rw[hs.b];exact h.bl,by simp only;rw[hs.th];exact h.vok,by simp only;rw[hs.b];exact h.bok,fun e he=>?_,by simp only;rw[hs.global];exact h.gn,by simp only;rw[hs.r,hs.th];exact h.lv,by simp only;rw[hs.r];exact h.ep,by simp only;rw[hs.r];exact h.e0,by simp only;rw[hs.phase];exact h.ph,fun _=>?_,fun e=>?_,fun _=>⟨by simp only;rw[hs.b];exact b5,by simp only;omega,fun a x=>?_⟩,fun p2 p4=>?_,fun e=>?_,by simp only;rw[hs.tp];exact h.tpr⟩
 ·simp only at he;rw[hs.gl.1,hcalm.1] at he;cases he
 ·simp only;rw[hs.gl.1,hs.gl.2,hs.tp];exact hcalm
 ·simp only at e;rw[hs.phase] at e;omega
 ·obtain⟨x1,x2⟩:=hmks a x
  have:=m5 a x2
  have:((a / 32:Nat):Int)≠c.at_:=fun e=>x1 (hin a (h.ni.m1 a x2).1 e)
  simp only;omega
 ·simp only at p4;rw[hs.phase] at p4;omega
 ·simp only at e;rw[hs.phase] at e;omega
theorem KI.wUnit (h:KI cf E c) (h5:c.phase=5) (hp:cf.pages≤64):KI cf E (c.wUnit cf).1∧(c.wUnit cf).1.phase=5∧((c.wUnit cf).2=false→cf.pages≤c.at_∧(c.wUnit cf).1=c):=by
 unfold Co.wUnit
 split
 ·rename_i hc
  exact⟨h,h5,fun _=>⟨hc,rfl⟩⟩
 ·rename_i hc
  simp only
  have hs:=qeu (c.s.inP c.at_) c h.si (qjk _ _) fun x hx=>by
   obtain⟨a,e,ta,_⟩:=(qe1 h.si).1 hx
   exact⟨a,e,ta⟩
  generalize c.sweepAll (c.s.inP c.at_)=d at hs
  obtain⟨t1,t2,t3,t4⟩:=St.trim_ok (hs.si h.si) d.at_
  exact⟨h.swept h5 hs (by omega) t1 t2 t3,by rw[hs.phase];exact h5,fun e=>by cases e⟩
theorem KI.five_none (h:KI cf E c) (h5:c.phase=5) (hks:(c.s.c.ks.length:Int)=cf.pages) (hat:cf.pages≤c.at_) (n:Int):KI cf E { c with phase:=0,cycles:=n }:=by
 obtain⟨b5,a5,m5⟩:=h.p5 h5
 have hcalm:=h.calm (.inr h5)
 have hpg:∀a,c.s.c.tk a=true→((a / 32:Nat):Int)<cf.pages:=fun a ta=>by have:=(h.si.hi.ci.tk a ta).1;omega
 have hno:∀a,c.g.mks a=false:=fun a=>by
  cases hm:c.g.mks a with
  | false=>rfl
  | true=>have:=m5 a hm;have:=hpg a (h.ni.m1 a hm).1;omega
 have hK:∀a,qa5 { c with phase:=0,cycles:=n } a↔qa5 c a:=fun a=>⟨fun x=>⟨x.1,fun _ => .inl (by have:=hpg a x.1;omega)⟩,fun x=>⟨x.1,fun e=>absurd (show (0:Int)=5 from e) (by decide)⟩⟩
 refine { h with ni:=⟨fun a x=>(hK a).2 (h.ni.m1 a x),fun l hl b hb=>(hK b).2 (h.ni.bf l hl b hb),fun l hl b hb=>(hK b).2 (h.ni.rt l hl b hb),fun n e=>(hK n).2 (h.ni.gl n e),fun a j b x f=>(hK b).2 (h.ni.cl a j b ((hK a).1 x) f)⟩,ph:=by simp only;decide,calm:=fun _=>hcalm,p01:=fun _=>hno,p5:=fun e=>absurd (show (0:Int)=5 from e) (by decide),p24:=fun e=>absurd (show (2:Int)≤0 from e) (by decide),p2:=fun e=>absurd (show (0:Int)=2 from e) (by decide) }
theorem KI.units (h:KI cf E c) (n:Int):KI cf E { c with units:=n }:=
 { h with ni:=⟨h.ni.m1,h.ni.bf,h.ni.rt,h.ni.gl,h.ni.cl⟩,p24:=fun p2 p4=>⟨(h.p24 p2 p4).1,fun Q hQ=>(h.p24 p2 p4).2 Q ⟨hQ.m1,hQ.bf,hQ.pd,hQ.cl⟩⟩ }
theorem KI.unit (h:KI cf E c) (hE:E+5≤1000000000) (hch:0≤cf.chunk∧cf.chunk≤1000) (hp:1≤cf.pages∧cf.pages≤64) (hks:(c.s.c.ks.length:Int)=cf.pages):KI cf (E+5) (c.unit cf).1:=by
 have hu:∀(r:Co × Bool),KI cf (E+5) r.1→KI cf (E+5) (if r.2 then ({ r.1 with units:=w64 (r.1.units+1) }:Co) else r.1):=fun r h=>by
  split
  ·exact h.units _
  ·exact h
 unfold Co.unit
 refine hu _ ?_
 by_cases c3:c.phase=3
 ·rw[if_pos c3]
  obtain⟨k1,k2⟩:=h.tUnit c3 hch hp hks
  generalize c.tUnit cf=z at k1 k2
  obtain⟨d,b⟩:=z
  cases b with
  | true=>exact k1.up (by omega)
  | false=>
   have k3:=(k1.raised (by omega) (.inl k2)).three (p:=4) (.inl k2) (.inr rfl)
   exact (KI.adv 4 _ _ k3 (by omega)).up (by omega)
 rw[if_neg c3]
 by_cases c5:c.phase=5
 ·rw[if_pos c5]
  obtain⟨k1,k2,k3⟩:=h.wUnit c5 hp.2
  have hl:((c.wUnit cf).1.s.c.ks.length:Int)=cf.pages∨True := .inr trivial
  have hks':∀d:Co,KI cf E d→d.s.c.m.length=c.s.c.m.length→(d.s.c.ks.length:Int)=cf.pages:=fun d kd e=>by
   have:=kd.si.hi.ci.ml;have:=h.si.hi.ci.ml;omega
  generalize hz:c.wUnit cf=z at k1 k2 k3
  obtain⟨d,b⟩:=z
  simp only at k1 k2 k3 ⊢
  by_cases hd:cf.pages≤d.at_
  ·rw[if_pos hd]
   refine (k1.five_none k2 ?_ hd _).up (by omega)
   refine hks' d k1 ?_
   have:d=(c.wUnit cf).1:=by rw[hz]
   rw[this]
   exact qj9 cf c
  ·rw[if_neg hd];exact k1.up (by omega)
 ·rw[if_neg c5];exact h.up (by omega)
theorem KI.beginC (h:KI cf E c) (hE:E+5≤1000000000):KI cf (E+5) (c.beginC cf).1:=by
 unfold Co.beginC
 by_cases c0:c.phase=0
 ·rw[if_pos c0]
  have hE':=qq9 h (by omega)
  have hcalm:=h.calm (.inl (by omega))
  have hno:=h.p01 (by omega)
  have k:KI cf (E+1) (({ c with units:=0 }:Co).raise 1):=by
   unfold Co.raise Rg.raise
   refine { h with ni:=⟨fun a x=>⟨(h.ni.m1 a x).1,fun e=>absurd (show (1:Int)=5 from e) (by decide)⟩,fun l hl b hb=>⟨(h.ni.bf l hl b hb).1,fun e=>absurd (show (1:Int)=5 from e) (by decide)⟩,fun l hl b hb=>⟨(h.ni.rt l hl b hb).1,fun e=>absurd (show (1:Int)=5 from e) (by decide)⟩,fun n e=>⟨(h.ni.gl n e).1,fun e=>absurd (show (1:Int)=5 from e) (by decide)⟩,fun a j b x f=>⟨(h.ni.cl a j b ⟨x.1,fun e=>by omega⟩ f).1,fun e=>absurd (show (1:Int)=5 from e) (by decide)⟩⟩,ep:=fun t ht=>?_,e0:=?_,ph:=by simp only;decide,calm:=fun _=>hcalm,p01:=fun _=>hno,p5:=fun e=>absurd (show (1:Int)=5 from e) (by decide),p24:=fun e=>absurd (show (2:Int)≤1 from e) (by decide),p2:=fun e=>absurd (show (1:Int)=2 from e) (by decide) }
   ·have:=h.ep t ht
    show c.r.ofT t≤w64 (c.r.ep+1)
    rw[hE'];omega
   ·show 0≤w64 (c.r.ep+1)∧w64 (c.r.ep+1)≤E+1
    rw[hE'];have:=h.e0;omega
  exact (KI.adv 4 _ _ k (by omega)).up (by omega)
 ·rw[if_neg c0];exact h.up (by omega)
end
structure MI (cf:Cf) (E:Int) (c:Co):Prop where
 k:KI cf E c
 ln:c.s.c.m.length=cf.pages.toNat*32
 md:c.s.made≤E
structure qb2 (cf:Cf):Prop where
 ch:0≤cf.chunk∧cf.chunk≤1000
 pg:1≤cf.pages∧cf.pages≤64
 tx:0≤cf.tax∧cf.tax≤64
section
variable {cf:Cf} {E:Int} {c:Co}
theorem MI.ks (h:MI cf E c) (L:qb2 cf):(c.s.c.ks.length:Int)=cf.pages:=by
 have:=h.k.si.hi.ci.ml
 have:=h.ln
 have:=L.pg
 omega
theorem MI.up (h:MI cf E c) {E':Int} (he:E≤E'):MI cf E' c:=⟨h.k.up he,h.ln,by have:=h.md;omega⟩
theorem MI.unit (h:MI cf E c) (L:qb2 cf) (hE:E+5≤1000000000):MI cf (E+5) (c.unit cf).1:=by
 obtain⟨s1,s2,s3⟩:=qs6 cf c h.k.si (by have:=h.md;omega)
 exact⟨h.k.unit hE L.ch L.pg (h.ks L),by rw[zc3];exact h.ln,by have:=h.md;omega⟩
theorem MI.workN (L:qb2 cf):∀(n:Nat) (c:Co) (E:Int),MI cf E c→E+5*n≤1000000000→MI cf (E+5*n) (c.workN cf n).1
 | 0,c,E,h,_=>h.up (by omega)
 | n+1,c,E,h,hE=>by
  have h1:=h.unit L (by omega)
  unfold Co.workN
  generalize c.unit cf=z at h1
  obtain⟨d,b⟩:=z
  cases b with
  | true=>exact (MI.workN L n d _ h1 (by omega)).up (by omega)
  | false=>exact h1.up (by omega)
theorem MI.same {d:Co} (h:MI cf E c) (k:KI cf E d) (e:d.s=c.s):MI cf E d:=⟨k,by rw[e];exact h.ln,by rw[e];exact h.md⟩
theorem MI.beginC (h:MI cf E c) (hE:E+5≤1000000000):MI cf (E+5) (c.beginC cf).1:=
 (h.up (show E≤E+5 by omega)).same (h.k.beginC hE) (qfh cf c)
theorem MI.attach (h:MI cf E c) (t:Int):MI cf E (c.attach t):=h.same (h.k.attach t) rfl
theorem MI.detach (h:MI cf E c) (hE:E+5≤1000000000) (t:Int):MI cf (E+5) (c.detach cf t):=by
 obtain⟨s1,s2,s3⟩:=qn0 cf c t h.k.si (by have:=h.md;omega)
 exact⟨(h.k.detach (by omega) t).up (by omega),by rw[qv8];exact h.ln,by have:=h.md;omega⟩
theorem MI.poll (h:MI cf E c) (hE:E+5≤1000000000) (t:Int):MI cf (E+5) (c.poll cf t):=
 (h.up (show E≤E+5 by omega)).same ((h.k.poll (by omega) t).up (by omega)) (qqq cf c t)
theorem MI.push (h:MI cf E c) {t:Nat} {v:V2} (hv:VG c t v):MI cf E (c.push (t:Int) v).1:=h.same (h.k.push hv) (qh4 c t v)
theorem MI.pop (h:MI cf E c) (t:Nat):MI cf E (c.pop (t:Int)).1:=h.same (h.k.pop t) (qoy c t)
theorem MI.write (h:MI cf E c) (hE:E≤1000000000) {t a:Nat} {i:Int} {v:V2} (ha:VG c t (2,(a:Int))) (hv:VG c t v):MI cf E (c.write (t:Int) (a:Int) i v).1:=by
 obtain⟨s1,s2,s3⟩:=qrd c (t:Int) (a:Int) i v h.k.si (by have:=h.md;omega)
 exact⟨h.k.write ha hv,by rw[qxn];exact h.ln,by have:=h.md;omega⟩
end
structure MJ (cf:Cf) (E:Int) (m:Ma):Prop where
 c:MI cf E m.co
 bk:0≤m.bi-m.bo∧m.bi-m.bo≤cf.cap
section
variable {cf:Cf} {E:Int} {m:Ma}
theorem MJ.up (h:MJ cf E m) {E':Int} (he:E≤E'):MJ cf E' m:=⟨h.c.up he,h.bk⟩
theorem MJ.co (h:MJ cf E m) {E':Int} {c:Co} (hc:MI cf E' c):MJ cf E' { m with co:=c }:=⟨hc,h.bk⟩
theorem MJ.charge (h:MJ cf E m) (t n:Int):MJ cf E (m.charge cf t n):=by
 unfold Ma.charge
 split
 ·exact⟨h.c,h.bk⟩
 ·exact h
theorem MJ.ownT (h:MJ cf E m) (t n:Int):MJ cf E (m.ownT cf t n):=⟨h.c,h.bk⟩
theorem MJ.put (h:MJ cf E m) {n:Int} (hn:0≤n):MJ cf E (m.put cf n):=by
 have:=h.bk
 refine⟨h.c,?_⟩
 unfold Ma.put
 simp only
 omega
theorem MJ.ahead (L:qb2 cf) (h:MJ cf E m) {n:Int} (hn:n≤64) (hE:E+320≤1000000000):MJ cf (E+320) (m.ahead cf n).1:=by
 have h1:=MI.workN L n.toNat m.co E h.c (by omega)
 unfold Ma.ahead
 exact (h.co (h1.up (by omega))).put (by omega)
theorem MJ.tax (L:qb2 cf) (h:MJ cf E m) (x:Stp) (hE:E+320≤1000000000):MJ cf (E+320) (m.tax cf x).1:=by
 unfold Ma.tax
 split
 ·exact h.up (by omega)
 simp only
 split
 ·exact h.up (by omega)
 simp only
 have hb:=h.bk
 have ht:=L.tx
 have h1:=MI.workN L (cf.tax-min (m.bi-m.bo) cf.tax).toNat m.co E h.c (by omega)
 refine MJ.charge (m:={ m with co:=_,bo:=_ }) ⟨h1.up (by omega),?_⟩ _ _
 simp only
 omega
theorem MJ.root (h:MJ cf E m) {t:Nat} {i:Int} {v:V2} (hl:m.co.r.live (t:Int)=true) (hv:m.root (t:Int) i=some v):VG m.co t v:=by
 unfold Ma.root Co.roots at hv
 rw[if_pos hl,y2t] at hv
 exact h.c.k.root hl (y1r hv)
theorem MJ.object (h:MJ cf E m) {x:Stp} {t:Nat} (ht:x.t=t) (hl:m.co.r.live (t:Int)=true) (ho:(m.object x).2=0):∃a:Nat,(m.object x).1=a∧VG m.co t (2,(a:Int)):=by
 unfold Ma.object at *
 rw[ht] at *
 cases hr:m.root (t:Int) x.i with
 | none=>rw[hr] at ho;cases ho
 | some v=>
  rw[hr] at ho
  simp only at ho ⊢
  by_cases h2:v.1≠2
  ·rw[if_pos h2] at ho;cases ho
  ·rw[if_neg h2]
   have hg:=h.root hl hr
   obtain⟨b,rfl,_⟩:=qfp hg.ok (by omega)
   exact⟨b,rfl,hg⟩
theorem MJ.value (h:MJ cf E m) {x:Stp} {t:Nat} (ht:x.t=t) (hl:m.co.r.live (t:Int)=true) (ho:(m.value x).2=0):VG m.co t (m.value x).1:=by
 have hnil:VG m.co t (0,0):=VG.plain qs8 (by decide)
 unfold Ma.value at *
 by_cases c4:x.kd=4
 ·rw[if_pos c4] at ho ⊢
  by_cases hc:chk 1 x.n=0
  ·rw[if_pos hc];exact VG.plain (by simpa[vOk] using hc) (show (1:Int)≠2 by decide)
  ·rw[if_neg hc];exact hnil
 rw[if_neg c4] at ho ⊢
 by_cases c6:x.kd=6
 ·rw[if_pos c6];exact h.c.k.glob t
 rw[if_neg c6] at ho ⊢
 by_cases c7:x.kd=7
 ·rw[if_pos c7] at ho ⊢
  cases hr:m.root x.t x.i with
  | none=>exact hnil
  | some v=>rw[ht] at hr;exact h.root hl hr
 rw[if_neg c7] at ho ⊢
 by_cases c9:x.kd=9
 ·rw[if_pos c9] at ho ⊢
  by_cases h1:(m.object x).2≠0
  ·rw[if_pos h1];exact hnil
  ·rw[if_neg h1]
   obtain⟨a,e,hg⟩:=h.object ht hl (by omega)
   rw[e]
   split
   ·rename_i hgt;exact h.c.k.field hg hgt
   ·exact hnil
 ·rw[if_neg c9];exact hnil
theorem MJ.got (h:MJ cf E m) {x:Stp} {t a:Nat} (ht:x.t=t) (hg:VG m.co t (2,(a:Int))) (y:Ans):MJ cf E (m.got x (a:Int) y).1:=by
 have e:qdx (a:Int)=(2,(a:Int)):=by
  obtain⟨b,eb,hb⟩:=qfp hg.ok rfl
  have:(a:Int)=b:=by simpa using eb
  unfold qdx;rw[if_pos (by omega)]
 unfold Ma.got
 simp only
 rw[ht,e]
 exact h.co (h.c.push hg)
theorem MI.fast (h:MI cf E m.co) (hE:E≤1000000000) (t:Nat) (n:Int):m.co.fast cf (t:Int) n=(m.co,none)∨∃(a:Nat) (c':Co),m.co.fast cf (t:Int) n=(c',some (a:Int))∧MI cf (E+1) c'∧VG c' t (2,(a:Int)):=by
 have h2:=qv2 cf m.co (t:Int) n
 rcases h.k.fast (by have:=h.md;omega) t n with e | ⟨a,s',c',e,e1,e2,e3,e4,e5⟩
 ·exact .inl e
 ·right
  rw[e] at h2
  exact⟨a,c',e,⟨e3.up (by omega),by rw[←h.ln];exact h2,by rw[e5,e1.made];have:=h.md;omega⟩,e4⟩
theorem MI.slow (h:MI cf E m.co) (hE:E≤1000000000) (t:Nat) (n:Int):(∃e,e≠0∧m.co.slow cf (t:Int) n=(m.co,0,e))∨∃(a:Nat) (c':Co),m.co.slow cf (t:Int) n=(c',(a:Int),0)∧MI cf (E+1) c'∧VG c' t (2,(a:Int)):=by
 have h2:=qv6 cf m.co (t:Int) n
 rcases h.k.slow (by have:=h.md;omega) t n with⟨e0,e1,e⟩ | ⟨a,s',c',e,e1,e2,e3,e4,e5⟩
 ·exact .inl ⟨e0,e1,e⟩
 ·right
  rw[e] at h2
  exact⟨a,c',e,⟨e3.up (by omega),by rw[←h.ln];exact h2,by rw[e5,e1.made];have:=h.md;omega⟩,e4⟩
theorem MJ.slowM (L:qb2 cf) (h:MJ cf E m) {x:Stp} {t:Nat} (ht:x.t=t) (hE:E+330≤1000000000):MJ cf (E+330) (m.slow cf x).1∧((m.slow cf x).2.2.code=0→∃a:Nat,(m.slow cf x).2.1=a∧VG (m.slow cf x).1.co t (2,(a:Int))):=by
 unfold Ma.slow
 simp only
 have h1:MJ cf (E+5) (if m.co.phase=0∧qa1 m.co.s.c.ks<cf.trigger then ({ m with co:=(m.co.beginC cf).1 }:Ma) else m):=by
  split
  ·exact h.co (h.c.beginC (by omega))
  ·exact h.up (by omega)
 generalize (if m.co.phase=0∧qa1 m.co.s.c.ks<cf.trigger then ({ m with co:=(m.co.beginC cf).1 }:Ma) else m)=m1 at h1
 have h2:=h1.tax L x (by omega)
 generalize m1.tax cf x=z at h2
 obtain⟨m2,y⟩:=z
 simp only at h2 ⊢
 by_cases hc:y.code≠0
 ·rw[if_pos hc]
  exact⟨h2.up (by omega),fun e=>absurd e hc⟩
 rw[if_neg hc,ht]
 rcases h2.c.slow (by omega) t x.n with⟨e0,e1,e⟩ | ⟨a,c',e,e1,e2⟩
 ·rw[e]
  exact⟨h2.up (by omega),fun e=>absurd e e1⟩
 ·rw[e]
  exact⟨(h2.co e1).up (by omega),fun _=>⟨a,rfl,e2⟩⟩
theorem MJ.alloc (L:qb2 cf) (h:MJ cf E m) {x:Stp} {t:Nat} (ht:x.t=t) (hE:E+330≤1000000000):MJ cf (E+330) (m.alloc cf x).1:=by
 unfold Ma.alloc
 split
 ·exact h.up (by omega)
 split
 ·exact h.up (by omega)
 rw[ht]
 rcases h.c.fast (by omega) t x.n with e | ⟨a,c',e,e1,e2⟩
 ·rw[e]
  simp only
  obtain⟨k1,k2⟩:=h.slowM L ht hE
  by_cases hc:(m.slow cf x).2.2.code≠0
  ·rw[if_pos hc];exact k1
  ·rw[if_neg hc]
   obtain⟨a,e,hg⟩:=k2 (by omega)
   rw[e]
   exact k1.got ht hg _
 ·rw[e]
  exact ((h.co e1).got ht e2 _).up (by omega)
theorem MJ.pushS (h:MJ cf E m) {x:Stp} {t:Nat} (ht:x.t=t) (hl:m.co.r.live (t:Int)=true):MJ cf E (m.pushS x).1:=by
 unfold Ma.pushS
 split
 ·exact h
 rename_i hv
 have hg:=h.value ht hl (by omega)
 have hp:=h.c.push hg
 rw[ht]
 generalize m.co.push (t:Int) (m.value x).1=z at hp
 obtain⟨c,o⟩:=z
 cases o
 ·exact h
 ·exact h.co hp
theorem MJ.doS (L:qb2 cf) (h:MJ cf E m) {x:Stp} (hx:x.kd<16→∃t:Nat,x.t=t∧(x.kd≠1→m.co.r.live (t:Int)=true)) (hE:E+330≤1000000000):MJ cf (E+330) (m.doS cf x).1:=by
 unfold Ma.doS
 split
 ·exact (h.co (h.c.attach x.t)).up (by omega)
 split
 ·exact (h.co (h.c.detach (by omega) x.t)).up (by omega)
 split
 ·rename_i hk
  obtain⟨t,ht,_⟩:=hx (by omega)
  exact h.alloc L ht hE
 split
 ·rename_i hk
  obtain⟨t,ht,hl⟩:=hx (by omega)
  exact (h.pushS ht (hl (by omega))).up (by omega)
 split
 ·rename_i hk
  obtain⟨t,ht,_⟩:=hx (by omega)
  have hp:=h.c.pop t
  rw[ht]
  generalize m.co.pop (t:Int)=z at hp
  obtain⟨c,o⟩:=z
  cases o
  ·exact h.up (by omega)
  ·exact (h.co hp).up (by omega)
 split
 ·rename_i hk
  obtain⟨t,ht,hl⟩:=hx (by omega)
  have hl:=hl (by omega)
  unfold Ma.writeS
  split
  ·exact h.up (by omega)
  rename_i ho
  obtain⟨a,e,hg⟩:=h.object ht hl (by omega)
  rw[ht,e]
  cases hr:m.root (t:Int) x.j with
  | none=>exact h.up (by omega)
  | some v=>exact (h.co (h.c.write (by omega) hg (h.root hl hr))).up (by omega)
 split
 ·exact h.up (by omega)
 split
 ·exact (h.co (h.c.poll (by omega) x.t)).up (by omega)
 unfold Ma.spend
 split
 ·split
  ·exact (h.co (h.c.beginC (by omega))).up (by omega)
  ·exact h.up (by omega)
 split
 ·exact h.up (by omega)
 rename_i hn
 split
 ·exact (h.ownT _ _).up (by omega)
 split
 ·exact (h.ahead L (by omega) (by omega)).up (by omega)
 split
 ·exact h.up (by omega)
 split
 ·exact h.up (by omega)
 simp only
 exact ((h.ahead L (by omega) (by omega)).charge _ _).up (by omega)
theorem qke {x:Stp} (h:x.check=0):0≤x.t∧x.t≤255:=by
 unfold Stp.check at h
 by_cases c1:x.kd<1∨17<x.kd
 ·rw[if_pos c1] at h;cases h
 rw[if_neg c1] at h
 by_cases c2:(x.small.any fun n=>decide (n<0) || decide (255<n))=true
 ·rw[if_pos c2] at h;cases h
 ·unfold Stp.small at c2
  simp only[List.any_cons,Bool.or_eq_true,decide_eq_true_eq] at c2
  omega
theorem qo0 {x:Stp} (h:m.who cf x=0) (hk:x.kd<16):x.t<cf.threads∧(x.kd≠1→m.co.r.live x.t=true):=by
 unfold Ma.who at h
 rw[if_neg (by omega)] at h
 by_cases c1:cf.threads≤x.t
 ·rw[if_pos c1] at h;cases h
 rw[if_neg c1] at h
 refine⟨by omega,fun hne=>?_⟩
 rw[if_neg (fun e=>hne e.1)] at h
 cases hl:m.co.r.live x.t with
 | true=>rfl
 | false=>rw[hl,if_pos ⟨hne,by decide⟩] at h;cases h
theorem MJ.step (L:qb2 cf) (h:MJ cf E m) (x:Stp) (hE:E+330≤1000000000):MJ cf (E+330) (m.step cf x).1:=by
 unfold Ma.step
 split
 ·exact h.up (by omega)
 rename_i hc
 split
 ·exact h.up (by omega)
 rename_i hw
 have hc:=qke (by omega:x.check=0)
 have h1:=h.doS L (x:=x) (fun hk=>by
  obtain⟨w1,w2⟩:=qo0 (by omega:m.who cf x=0) hk
  refine⟨x.t.toNat,by omega,fun hne=>?_⟩
  rw[y1z hc.1];exact w2 hne) hE
 simp only
 split
 ·exact h1.ownT _ _
 ·exact h1
theorem qqi (cf:Cf) (hp:1≤cf.pages∧cf.pages≤64) (ht:0≤cf.threads∧cf.threads≤8):∃(a:Nat) (s':St),(⟨Ce.new cf.pages,fun _=>none,0⟩:St).slow cf.pages.toNat (cf.threads+1) cf.threads 4=(s',(a:Int),0)∧qe6 (⟨Ce.new cf.pages,fun _=>none,0⟩:St) s' a 4∧SI s':=by
 have h0:=St.new_ok hp.2
 rcases St.slow_ok h0 (by simp only;decide) cf.pages.toNat (nt:=cf.threads+1) (by omega) cf.threads 4 with⟨e,e0,e1⟩ | h
 rotate_left
 ·exact h
 exfalso
 have hk:cOf 4=3:=by decide
 have hf:(⟨Ce.new cf.pages,fun _=>none,0⟩:St).fast cf.threads 4=(⟨Ce.new cf.pages,fun _=>none,0⟩,none):=by
  rcases St.fast_ok h0 (by simp only;decide) cf.threads 4 with⟨e,_⟩ | ⟨a,s',e2,_,_,_⟩
  ·exact e
  ·exfalso
   unfold St.fast at e2
   rw[hk,if_neg (by decide)] at e2
   have hl:(Ce.new cf.pages).left (-1)=0:=by
    unfold Ce.left Ce.small
    rw[qck (by omega),if_neg (by decide)]
   have ht:(Ce.new cf.pages).take (-1)=(Ce.new cf.pages,none):=by unfold Ce.take;rw[if_pos hl]
   have:qdw (fun _=>none) (cf.threads,(3:Int)) = -1:=rfl
   simp only[this,ht] at e2
   cases e2
 unfold St.slow at e1
 simp only[hk] at e1
 rw[if_neg (by omega),if_neg (by decide),hf] at e1
 simp only at e1
 have ho:∃p s',(⟨Ce.new cf.pages,fun _=>none,0⟩:St).openP cf.pages.toNat 3=(s',some p):=by
  unfold St.openP
  split
  ·exact⟨_,_,rfl⟩
  ·have:∃p,qeq (Ce.new cf.pages).ks 3=some p:=by
    unfold qeq Ce.new
    rw[if_neg (by decide)]
    obtain⟨n,hn⟩:∃n,cf.pages.toNat=n+1:=⟨cf.pages.toNat-1,by omega⟩
    simp only[hn,y2a]
    exact⟨0,by simp[List.findIdx?_cons]⟩
   obtain⟨p,hp⟩:=this
   have hc:((Ce.new cf.pages).carve 3).2=some p:=by unfold Ce.carve;rw[hp]
   exact⟨(p:Int),⟨((Ce.new cf.pages).carve 3).1,fun _=>none,0⟩,by simp only[hc];rfl⟩
 obtain⟨p,s',hp'⟩:=ho
 rw[hp'] at e1
 simp only at e1
 have:=congrArg (fun z=>z.2.2) e1
 simp only at this
 exact e0 this.symm
theorem MJ.new (cf:Cf) (hp:1≤cf.pages∧cf.pages≤64) (ht:0≤cf.threads∧cf.threads≤8) (hc:0≤cf.cap):MJ cf 1 (Ma.new cf):=by
 obtain⟨a,s',e,e1,e2⟩:=qqi cf hp ht
 have hln:=qq0 (⟨Ce.new cf.pages,fun _=>none,0⟩:St) cf.pages.toNat (cf.threads+1) cf.threads 4
 rw[e] at hln
 have hlen:s'.c.m.length=cf.pages.toNat*32:=by rw[hln];simp[Ce.new]
 have ha:s'.c.tk a=true:=e1.obj.tk
 have hlt:a<2048:=by have:=e2.hi.ci.tk_lt ha;have:=e2.hi.ci.small_n;omega
 have hco:Co.new cf=⟨s',⟨[],false,fun _=>false⟩,⟨0,List.replicate cf.threads.toNat (false,0)⟩,List.replicate cf.threads.toNat [], -1,cf.pages,0,List.replicate 8 [],(a:Int),0,0,0⟩:=by
  unfold Co.new
  simp only[e]
 have hdead:∀t:Nat,(⟨0,List.replicate cf.threads.toNat (false,0)⟩:Rg).live (t:Int)=true→False:=fun t hl=>by
  obtain⟨_,_,h3⟩:=qds.1 hl
  simp only[y2t,y0h,y1a] at h3
  split at h3 <;> simp at h3
 have hnil:∀ {α : Type} {l:List α} {n:Nat},l∈List.replicate n ([]:List α)→l=[]:=fun h=>(List.mem_replicate.1 h).2
 have hfl:∀x j b,¬Fl s' x j b:=fun x j b f=>by
  obtain⟨_,_,o,_⟩:=(Fl.new e1).1 f
  have:=o.tk
  simp[Ce.new] at this
 refine⟨⟨?_,by show (Co.new cf).s.c.m.length=_;rw[hco];exact hlen,by show (Co.new cf).s.made≤1;rw[hco];simp only;rw[e1.made];simp⟩,by unfold Ma.new;simp;exact hc⟩
 show KI cf 1 (Co.new cf)
 rw[hco]
 refine⟨e2,⟨fun x y=>(by cases y),fun l hl b hb=>(by rw[hnil hl] at hb;cases hb),fun l hl b hb=>(by rw[hnil hl] at hb;cases hb),fun n en=>?_,fun x j b _ f=>absurd f (hfl x j b)⟩,ht,by simp,by simp,by simp,fun l hl v hv=>(by rw[hnil hl] at hv;cases hv),fun l hl v hv=>(by rw[hnil hl] at hv;cases hv),fun e he=>(by cases he),by simp only;omega,fun t _=>?_,fun t hl=>(hdead t hl).elim,by simp,by simp,fun _=>⟨rfl,rfl,rfl⟩,fun _ _=>rfl,fun e5=>absurd (show (0:Int)=5 from e5) (by decide),fun e2=>absurd (show (2:Int)≤0 from e2) (by decide),fun e2=>absurd (show (0:Int)=2 from e2) (by decide),.inl rfl⟩
 ·have:a=n:=by have:(a:Int)=n:=en;omega
  subst this
  exact⟨ha,fun e5=>absurd (show (0:Int)=5 from e5) (by decide)⟩
 ·simp only[y0h,y1a]
  split <;> rfl
end
def Dd (DS:Int→Prop) (s:St) (a:Nat):Prop:=∃ser fs,qa3 s.c a ser fs∧DS ser
structure AF (DS:Int→Prop) (c:Co):Prop where
 ph:2≤c.phase
 ni:NI c (fun a=>¬Dd DS c.s a)
 at5:c.phase=5→∀a,Dd DS c.s a→c.at_≤((a / 32:Nat):Int)
def QF (DS:Int→Prop) (c:Co):Prop:=(∀a,¬Dd DS c.s a)∨AF DS c
section
variable {DS:Int→Prop} {cf:Cf} {E:Int} {c:Co}
theorem Dd.same {s s':St} (h:∀b,qav s.c s'.c b) {a:Nat}:Dd DS s' a↔Dd DS s a:=by
 constructor
 ·rintro⟨ser,fs,o,d⟩;exact⟨ser,fs,(h a).obj.1 o,d⟩
 ·rintro⟨ser,fs,o,d⟩;exact⟨ser,fs,(h a).obj.2 o,d⟩
theorem Dd.new {s s':St} {a n:Nat} (h:qe6 s s' a n) (hm:∀ser,DS ser→ser<s.made) {x:Nat}:Dd DS s' x↔Dd DS s x:=by
 constructor
 ·rintro⟨ser,fs,o,d⟩
  by_cases e:x=a
  ·subst e
   obtain⟨rfl,_⟩:=o.same h.obj
   have:=hm _ d;omega
  ·exact⟨ser,fs,(h.kept x e).obj.1 o,d⟩
 ·rintro⟨ser,fs,o,d⟩
  by_cases e:x=a
  ·subst e
   have:=o.tk
   rw[h.off] at this;cases this
  ·exact⟨ser,fs,(h.kept x e).obj.2 o,d⟩
theorem QF.of {c':Co} (h:QF DS c) (hs:c'.s=c.s) (ha:AF DS c→AF DS c'):QF DS c':=by
 rcases h with h | h
 ·left;intro a;rw[hs];exact h a
 ·exact .inr (ha h)
theorem AF.gr {S:Nat→Prop} {g':Gy} (h:AF DS c) (hg:Gro S c.g g') (hS:∀a,S a→¬Dd DS c.s a):AF DS { c with g:=g' }:=⟨h.ph,h.ni.gr hg hS,h.at5⟩
theorem AF.adv:∀(d:Nat) (c:Co),AF DS c→AF DS (c.advance cf d)
 | 0,c,h=>h
 | d+1,c,h=>by
  have hp:=h.ph
  rw[Co.advance]
  by_cases ha:c.r.agreed=true
  rotate_left
  ·rw[if_neg ha];exact h
  rw[if_pos ha,if_neg (by omega)]
  by_cases c2:c.phase=2
  ·rw[if_pos c2]
   exact AF.adv d _ ⟨show (2:Int)≤3 by decide,⟨h.ni.m1,h.ni.bf,h.ni.rt,h.ni.gl,h.ni.cl⟩,fun e=>absurd (show (3:Int)=5 from e) (by decide)⟩
  rw[if_neg c2]
  by_cases c4:c.phase=4∧qea c.b=true∧c.tIdle=true
  ·rw[if_pos c4]
   exact AF.adv d _ ⟨show (2:Int)≤5 by decide,⟨h.ni.m1,h.ni.bf,h.ni.rt,h.ni.gl,h.ni.cl⟩,fun _ a _=>by simp only;omega⟩
  rw[if_neg c4]
  by_cases c5:c.phase=4
  ·rw[if_pos c5]
   exact AF.adv d _ ⟨show (2:Int)≤3 by decide,⟨h.ni.m1,h.ni.bf,h.ni.rt,h.ni.gl,h.ni.cl⟩,fun e=>absurd (show (3:Int)=5 from e) (by decide)⟩
  ·rw[if_neg c5];exact h
theorem QF.adv (h:QF DS c):QF DS (c.adv cf):=h.of (by unfold Co.adv;rw[qfq]) (AF.adv 4 c)
theorem QF.beginC (h:QF DS c):QF DS (c.beginC cf).1:=h.of (qfh cf c) fun a=>by
 unfold Co.beginC
 have:=a.ph
 rw[if_neg (by omega)];exact a
theorem QF.attach (h:QF DS c) (t:Int):QF DS (c.attach t):=h.of rfl fun a=>⟨a.ph,⟨a.ni.m1,a.ni.bf,a.ni.rt,a.ni.gl,a.ni.cl⟩,a.at5⟩
theorem AF.th_set (h:AF DS c) {i:Nat} {l:List V2} (hl:∀b:Nat,(2,(b:Int))∈l→¬Dd DS c.s b):AF DS { c with th:=c.th.set i l }:=
 ⟨h.ph,⟨h.ni.m1,h.ni.bf,fun l' hl' b hb=>by
  rcases qg4 hl' with rfl | g
  ·exact hl b hb
  ·exact h.ni.rt l' g b hb,h.ni.gl,h.ni.cl⟩,h.at5⟩
theorem qp5 {α : Type} {l:List (List α)} {i:Nat} {x : α} (h:x∈l.getD i []):∃k∈l,x∈k:=by
 rw[y0h] at h
 cases hg:l[i]? with
 | none=>rw[hg] at h;cases h
 | some k=>rw[hg] at h;exact⟨k,y1r hg,h⟩
theorem AF.row (h:AF DS c) (i:Nat):∀b:Nat,(2,(b:Int))∈c.th.getD i []→¬Dd DS c.s b:=fun b hb=>by
 obtain⟨k,hk,hx⟩:=qp5 hb
 exact h.ni.rt k hk b hx
theorem QF.push (h:QF DS c) (t:Int) {v:V2} (hv:AF DS c→∀b:Nat,v=(2,(b:Int))→¬Dd DS c.s b):QF DS (c.push t v).1:=h.of (qh4 c t v) fun a=>by
 unfold Co.push
 split
 ·refine a.th_set fun b hb=>?_
  rcases y3q.1 hb with g | g
  ·exact a.row _ b g
  ·exact hv a b (y2d.1 g).symm
 ·exact a
theorem QF.pop (h:QF DS c) (t:Int):QF DS (c.pop t).1:=h.of (qoy c t) fun a=>by
 unfold Co.pop
 split
 ·split
  ·exact a.th_set fun b hb=>a.row _ b (y1v _ hb)
  ·exact a
 ·exact a
theorem AF.buf (h:AF DS c) (t:Int):∀b:Nat,(b:Int)∈fOf c.b t→¬Dd DS c.s b:=fun b hb=>by
 unfold fOf at hb
 split at hb
 ·obtain⟨k,hk,hx⟩:=qp5 hb
  exact h.ni.bf k hk b hx
 ·cases hb
theorem AF.take (h:AF DS c) (t:Int):AF DS { c with b:=qb3 c.b t }:=
 ⟨h.ph,⟨h.ni.m1,fun l hl b hb=>by
  rcases qhi hl with rfl | g
  ·cases hb
  ·exact h.ni.bf l g b hb,h.ni.rt,h.ni.gl,h.ni.cl⟩,h.at5⟩
theorem AF.kept (h:AF DS c) {s':St} (hk:∀b,qav c.s.c s'.c b):AF DS { c with s:=s' }:=
 ⟨h.ph,⟨fun a x d=>h.ni.m1 a x ((Dd.same hk).1 d),fun l hl b hb d=>h.ni.bf l hl b hb ((Dd.same hk).1 d),fun l hl b hb d=>h.ni.rt l hl b hb ((Dd.same hk).1 d),fun n e d=>h.ni.gl n e ((Dd.same hk).1 d),fun a j b x f d=>h.ni.cl a j b (fun y=>x ((Dd.same hk).2 y)) ((Fl.same hk).1 f) ((Dd.same hk).1 d)⟩,fun e a d=>h.at5 e a ((Dd.same hk).1 d)⟩
theorem AF.setR (h:AF DS c) (r:Rg):AF DS { c with r:=r }:=⟨h.ph,⟨h.ni.m1,h.ni.bf,h.ni.rt,h.ni.gl,h.ni.cl⟩,h.at5⟩
theorem QF.detach (hk:KI cf E c) (h:QF DS c) (t:Int):QF DS (c.detach cf t):=by
 unfold Co.detach
 split
 rotate_left
 ·exact h
 simp only
 refine QF.adv ?_
 obtain⟨s1,s2,_⟩:=St.quit_ok hk.si t
 rcases h with h | h
 ·left
  intro a d
  exact h a ((Dd.same s2).1 d)
 ·right
  have key:∀g',AF DS { c with g:=g' }→AF DS ({ c with b:=qb3 c.b t,g:=g',th:=c.th.set t.toNat [],s:=c.s.quit t,r:=c.r.detach t }:Co):=fun g' hg=>
   (((hg.take t).kept (s':=c.s.quit t) s2).th_set (i:=t.toNat) (l:=[]) fun b hb=>by cases hb).setR (c.r.detach t)
  by_cases hm:c.marking=true
  ·rw[if_pos hm]
   exact key _ (h.gr (qc6 _ (fun n=>(n:Int)∈fOf c.b t) _ _ fun n x=>x) fun a x=>h.buf t a x)
  ·rw[if_neg hm]
   exact key _ h
theorem QF.poll (h:QF DS c) (t:Int):QF DS (c.poll cf t):=by
 unfold Co.poll
 split
 rotate_left
 ·exact h
 simp only
 refine QF.adv ?_
 refine h.of ?_ fun a=>?_
 ·split
  ·rfl
  ·split <;> rfl
 ·by_cases c2:c.phase=2
  ·rw[if_pos c2]
   exact (a.gr (qc6 cf.stack (fun n=>(n:Int)∈qb4 (c.th.getD t.toNat [])) _ _ fun n x=>x) fun b x=>a.row _ b (qjx.1 x)).setR _
  rw[if_neg c2]
  by_cases c4:c.phase=4
  ·rw[if_pos c4]
   exact ((a.gr (qc6 cf.stack (fun n=>(n:Int)∈fOf c.b t) _ _ fun n x=>x) fun b x=>a.buf t b x).take t).setR _
  ·rw[if_neg c4];exact a.setR _
theorem QF.write (hk:KI cf E c) (h:QF DS c) {t a:Nat} {i:Int} {v:V2} (ha:VG c t (2,(a:Int))) (hv:VG c t v) (hda:AF DS c→¬Dd DS c.s a) (hdv:AF DS c→∀b:Nat,v=(2,(b:Int))→¬Dd DS c.s b):QF DS (c.write (t:Int) (a:Int) i v).1:=by
 unfold Co.write
 split
 rotate_left
 ·exact h
 rename_i hc
 obtain⟨hl,hmay,hget⟩:=hc
 obtain⟨ser,fs,o,_⟩:=hk.si.hi.obj a (ha.kp a rfl).1
 have e:=St.get_obj hk.si.hi.ci o i
 have hi:0≤i:=by
  apply y0q
  intro hc
  rw[if_neg hc] at e;rw[e] at hget;cases hget
 obtain⟨i,rfl⟩:=y1b hi
 rw[if_pos hi,y2t] at e
 have hlen:i<fs.length:=by
  apply y0q
  intro hc
  rw[y1l (by omega)] at e;rw[e] at hget;cases hget
 rw[y0v hlen] at e
 simp only at e
 rw[e]
 simp only
 obtain⟨s1,s2,s3,s4,s5,s6⟩:=St.set_ok hk.si o (i:=(i:Int)) hv.ok (by omega)
 have hF:∀ {x j b:Nat},Fl (c.s.set (a:Int) (i:Int) v).1 x j b↔(x=a∧j=i∧v=(2,(b:Int)))∨(¬(x=a∧j=i)∧Fl c.s x j b):=Fl.set hk.si o hv.ok hlen
 have hD:∀ {x:Nat},Dd DS (c.s.set (a:Int) (i:Int) v).1 x↔Dd DS c.s x:=fun {x}=>by
  constructor
  ·rintro⟨se,f,o2,d⟩
   by_cases ex:x=a
   ·subst ex
    obtain⟨rfl,_⟩:=o2.same s2
    exact⟨_,_,o,d⟩
   ·exact⟨se,f,(s3 x ex).obj.1 o2,d⟩
  ·rintro⟨se,f,o2,d⟩
   by_cases ex:x=a
   ·subst ex
    obtain⟨rfl,_⟩:=o2.same o
    exact⟨_,_,s2,d⟩
   ·exact⟨se,f,(s3 x ex).obj.2 o2,d⟩
 generalize (c.s.set (a:Int) (i:Int) v).1=s' at *
 rcases h with h | h
 ·left;intro x d;exact h x (hD.1 d)
 right
 have hoN:∀b:Nat,fs[i]=(2,(b:Int))→¬Dd DS c.s b:=fun b eb=>h.ni.cl a i b (hda h) ⟨ser,fs,o,by rw[y0v hlen,eb]⟩
 refine⟨h.ph,⟨fun x y d=>h.ni.m1 x y (hD.1 d),fun l hl' b hb d=>?_,fun l hl' b hb d=>h.ni.rt l hl' b hb (hD.1 d),fun n en d=>h.ni.gl n en (hD.1 d),fun x j b y f d=>?_⟩,fun e5 x d=>h.at5 e5 x (hD.1 d)⟩
 ·simp only at hl'
  split at hl'
  ·rename_i hcc
   rcases qpz hl' _ hb with y | ⟨l',y,z⟩
   ·exact hoN b (Prod.ext hcc.1 y.symm) (hD.1 d)
   ·exact h.ni.bf l' y b z (hD.1 d)
  ·exact h.ni.bf l hl' b hb (hD.1 d)
 ·rcases hF.1 f with⟨_,_,ev⟩ | ⟨_,g⟩
  ·exact hdv h b ev (hD.1 d)
  ·exact h.ni.cl x j b (fun z=>y (hD.2 z)) g (hD.1 d)
theorem QF.newO (h:QF DS c) {s':St} {a n:Nat} (hn:qe6 c.s s' a n) (hm:∀ser,DS ser→ser<c.s.made):QF DS (({ c with s:=s' }:Co).color cf (a:Int))∧¬Dd DS s' a:=by
 have hD:∀ {x:Nat},Dd DS s' x↔Dd DS c.s x:=Dd.new hn hm
 have hna:¬Dd DS s' a:=fun d=>by
  obtain⟨_,_,o,_⟩:=hD.1 d
  have:=o.tk
  rw[hn.off] at this;cases this
 refine⟨?_,hna⟩
 rcases h with h | h
 ·left;intro x d
  rw[qgo] at d
  exact h x (hD.1 d)
 right
 have h1:AF DS ({ c with s:=s' }:Co):=⟨h.ph,⟨fun x y d=>h.ni.m1 x y (hD.1 d),fun l hl b hb d=>h.ni.bf l hl b hb (hD.1 d),fun l hl b hb d=>h.ni.rt l hl b hb (hD.1 d),fun m em d=>h.ni.gl m em (hD.1 d),fun x j b y f d=>h.ni.cl x j b (fun z=>y (hD.2 z)) ((Fl.new hn).1 f) (hD.1 d)⟩,fun e5 x d=>h.at5 e5 x (hD.1 d)⟩
 unfold Co.color
 split
 ·exact h1.gr (qex cf.stack (fun x=>x=a) _ (a:=(a:Int)) fun n e=>by omega) fun x e=>by rw[e];exact hna
 split
 ·refine⟨h1.ph,⟨fun x y=>?_,h1.ni.bf,h1.ni.rt,h1.ni.gl,h1.ni.cl⟩,h1.at5⟩
  simp only at y
  unfold Gy.black at y
  split at y
  ·rw[y2t] at y
   rcases qce.1 y with rfl | z
   ·exact hna
   ·exact h1.ni.m1 x z
  ·exact h1.ni.m1 x y
 ·exact h1
theorem AF.field (h:AF DS c) (hk:SI c.s) {a:Nat} (ha:¬Dd DS c.s a) {i:Int} {b:Nat} (hi:0≤i) (hg:(c.s.get (a:Int) i).1=(2,(b:Int))):¬Dd DS c.s b:=by
 obtain⟨x,ex,_,hf,_⟩:=qme hk hg hi
 have:x=a:=by omega
 subst this
 exact h.ni.cl x _ b ha hf
theorem AF.scan (h:AF DS c) (hk:KI cf E c) {e:Int} (he:∀n:Nat,e=n→¬Dd DS c.s n) (d:Nat) {i:Int} (hi:0≤i) {g1:Gy} (h1:AF DS { c with g:=g1 }):AF DS { c with g:=qc8 cf c.s e d i g1 }:=by
 have hgr:Gro (fun n=>¬Dd DS c.s n) g1 (qc8 cf c.s e d i g1):=qes cf _ _ _ _ fun j n j1 j2 hj=>by
  obtain⟨x,ex,_,hf,_⟩:=qme hk.si hj (by omega)
  exact h.ni.cl x _ n (he x ex) hf
 exact h1.gr (c:={ c with g:=g1 }) hgr fun a x=>x
theorem qmj {s:St} {S:Nat→Prop} (hS:∀(a:Nat) (j:Int) (n:Nat),0≤j→S a→(s.get (a:Int) j).1=(2,(n:Int))→S n):∀(l:List Int) (g:Gy),(∀a,g.mks a=true→S a)→Gro S g (qbr cf s l g)
 | [],g,_=>Gro.refl S g
 | a :: l,g,h=>by
  rw[qbr]
  have h1:Gro S g (if g.is a then qc8 cf s a (s.fields a).toNat 0 g else g):=by
   by_cases e:g.is a=true
   ·rw[if_pos e]
    obtain⟨m,rfl,hm,hk⟩:=qt7 g e
    exact qes cf S _ 0 g fun j n a1 a2 hg=>hS m j n a1 (h m hk) hg
   ·rw[if_neg e];exact Gro.refl S g
  exact h1.trans (qmj hS l _ fun b hb=>(h1.new b hb).elim (h b) fun z=>z.1)
theorem QF.tUnit (hk:KI cf E c) (h:QF DS c) (h3:c.phase=3):QF DS (c.tUnit cf).1:=h.of (qko cf c) fun a=>by
 unfold Co.tUnit
 split
 ·exact a
 cases he:c.g.l.getLast? with
 | some e=>
  have hem:e∈c.g.l:=List.mem_of_getLast? he
  obtain⟨n,en,em,e0⟩:=hk.ent e hem
  have h0:AF DS ({ c with g:={ c.g with l:=c.g.l.dropLast } }:Co):=⟨a.ph,⟨a.ni.m1,a.ni.bf,a.ni.rt,a.ni.gl,a.ni.cl⟩,a.at5⟩
  simp only
  unfold Co.entry
  simp only
  split
  ·exact h0
  ·refine a.scan hk (fun m em'=>?_) _ e0 ?_
   ·have:m=n:=by omega
    rw[this];exact a.ni.m1 n em
   ·split
    ·refine⟨a.ph,⟨fun x y=>?_,a.ni.bf,a.ni.rt,a.ni.gl,a.ni.cl⟩,a.at5⟩
     simp only at y
     rw[qqs] at y
     exact a.ni.m1 x y
    ·exact h0
 | none=>
  have key:∀(ov:Bool) (p:Int),AF DS (({ c with g:={ c.g with over:=ov },tp:=p }:Co).look cf):=fun ov p=>by
   unfold Co.look
   simp only
   have h0:AF DS ({ c with g:={ c.g with over:=ov } }:Co):=⟨a.ph,⟨a.ni.m1,a.ni.bf,a.ni.rt,a.ni.gl,a.ni.cl⟩,a.at5⟩
   have hgr:Gro (fun n=>¬Dd DS c.s n) { c.g with over:=ov } (qbr cf c.s (c.s.inP p) { c.g with over:=ov }):=qmj (fun x j n j0 hx hj=>a.field hk.si hx j0 hj) _ _ fun x y=>a.ni.m1 x y
   have h1:=h0.gr (c:={ c with g:={ c.g with over:=ov } }) hgr fun _ x=>x
   exact⟨h1.ph,⟨h1.ni.m1,h1.ni.bf,h1.ni.rt,h1.ni.gl,h1.ni.cl⟩,h1.at5⟩
  simp only
  split
  ·exact key false 0
  ·exact key c.g.over c.tp
theorem QF.wUnit (hk:KI cf E c) (h:QF DS c) (h5:c.phase=5) (hp:cf.pages≤64):QF DS (c.wUnit cf).1:=by
 unfold Co.wUnit
 split
 ·exact h
 rename_i hc
 simp only
 have hs:=qeu (c.s.inP c.at_) c hk.si (qjk _ _) fun x hx=>by
  obtain⟨a,e,ta,_⟩:=(qe1 hk.si).1 hx
  exact⟨a,e,ta⟩
 generalize c.sweepAll (c.s.inP c.at_)=d at hs
 obtain⟨t1,t2,t3,t4⟩:=St.trim_ok (hs.si hk.si) d.at_
 have hD:∀ {x:Nat},Dd DS (d.s.trim d.at_) x→Dd DS c.s x:=fun {x} hd=>by
  obtain⟨se,f,o,q⟩:=(Dd.same t2).1 hd
  by_cases hx:(x:Int)∈c.s.inP c.at_
  ·by_cases hm:c.g.mks x=true
   ·exact⟨se,f,(hs.inn x hx hm).obj.1 o,q⟩
   ·have:=hs.gone x hx (by simpa using hm)
    rw[o.tk] at this;cases this
  ·exact⟨se,f,(hs.out x hx).1.obj.1 o,q⟩
 rcases h with h | h
 ·left;intro x hd;exact h x (hD hd)
 right
 have hmk:∀b,d.g.mks b=true→c.g.mks b=true:=fun b m=>by
  by_cases hb:(b:Int)∈c.s.inP c.at_
  ·rw[hs.clear b hb] at m;cases m
  ·rw[←(hs.out b hb).2];exact m
 refine⟨by simp only;rw[hs.phase];exact h.ph,⟨fun x y q=>h.ni.m1 x (hmk x y) (hD q),fun l hl b hb q=>h.ni.bf l (by simp only at hl;rw[hs.b] at hl;exact hl) b hb (hD q),fun l hl b hb q=>h.ni.rt l (by simp only at hl;rw[hs.th] at hl;exact hl) b hb (hD q),fun n e q=>h.ni.gl n (by simp only at e;rw[hs.global] at e;exact e) (hD q),fun x j b y f q=>?_⟩,fun _ x q=>?_⟩
 ·have f':Fl c.s x j b:=hs.fl ((Fl.same t2).1 f)
  refine h.ni.cl x j b (fun z=>y ?_) f' (hD q)
  obtain⟨se,fl,o,w⟩:=z
  obtain⟨se',fl',o',_⟩:=(Fl.same t2).1 f
  refine (Dd.same t2).2 ⟨se',fl',o',?_⟩
  have:qa3 c.s.c x se' fl':=by
   by_cases hx:(x:Int)∈c.s.inP c.at_
   ·by_cases hm:c.g.mks x=true
    ·exact (hs.inn x hx hm).obj.1 o'
    ·have:=hs.gone x hx (by simpa using hm)
     rw[o'.tk] at this;cases this
   ·exact (hs.out x hx).1.obj.1 o'
  rw[←(o.same this).1];exact w
 ·have h1:=h.at5 h5 x (hD q)
  have hw:w64 (d.at_+1)=c.at_+1:=by rw[hs.at_];exact qeg (by have:=(hk.p5 h5).2.1;omega)
  simp only
  rw[hw]
  have hne:((x / 32:Nat):Int)≠c.at_:=fun e=>by
   obtain⟨se,f,o,w⟩:=(Dd.same t2).1 q
   obtain⟨se0,f0,o0,w0⟩:=hD q
   have hx:(x:Int)∈c.s.inP c.at_:=(qe1 hk.si).2 ⟨x,rfl,o0.tk,e⟩
   by_cases hm:c.g.mks x=true
   ·exact h.ni.m1 x hm ⟨se0,f0,o0,w0⟩
   ·have:=hs.gone x hx (by simpa using hm)
    rw[o.tk] at this;cases this
  omega
theorem QF.unit (hk:KI cf E c) (h:QF DS c) (hch:0≤cf.chunk∧cf.chunk≤1000) (hp:1≤cf.pages∧cf.pages≤64) (hks:(c.s.c.ks.length:Int)=cf.pages):QF DS (c.unit cf).1:=by
 have hu:∀(r:Co × Bool),QF DS r.1→QF DS (if r.2 then ({ r.1 with units:=w64 (r.1.units+1) }:Co) else r.1):=fun r h=>by
  split
  ·exact h.of rfl fun a=>⟨a.ph,⟨a.ni.m1,a.ni.bf,a.ni.rt,a.ni.gl,a.ni.cl⟩,a.at5⟩
  ·exact h
 unfold Co.unit
 refine hu _ ?_
 by_cases c3:c.phase=3
 ·rw[if_pos c3]
  have k1:=h.tUnit hk c3
  have k2:=(hk.tUnit c3 hch hp hks).2
  generalize c.tUnit cf=z at k1 k2
  obtain⟨d,b⟩:=z
  cases b with
  | true=>exact k1
  | false=>
   refine QF.adv ?_
   exact k1.of rfl fun a=>⟨show (2:Int)≤4 by decide,⟨a.ni.m1,a.ni.bf,a.ni.rt,a.ni.gl,a.ni.cl⟩,fun e=>absurd (show (4:Int)=5 from e) (by decide)⟩
 rw[if_neg c3]
 by_cases c5:c.phase=5
 ·rw[if_pos c5]
  have k0:=h.wUnit hk c5 hp.2
  obtain⟨k1,k2,k3⟩:=hk.wUnit c5 hp.2
  have hln:=qj9 cf c
  generalize c.wUnit cf=z at k0 k1 k2 k3 hln
  obtain⟨d,b⟩:=z
  simp only at k0 k1 k2 k3 hln ⊢
  by_cases hd:cf.pages≤d.at_
  ·rw[if_pos hd]
   left
   intro x q
   rcases k0 with k0 | k0
   ·exact k0 x q
   ·have h1:=k0.at5 k2 x q
    obtain⟨se,f,o,_⟩:=q
    have h2:=(k1.si.hi.ci.tk x o.tk).1
    have h3:=k1.si.hi.ci.ml
    have h4:=hk.si.hi.ci.ml
    omega
  ·rw[if_neg hd];exact k0
 ·rw[if_neg c5];exact h
end
end Go.Proofs.YtcakfaakbpdklaaGreatDoorV
