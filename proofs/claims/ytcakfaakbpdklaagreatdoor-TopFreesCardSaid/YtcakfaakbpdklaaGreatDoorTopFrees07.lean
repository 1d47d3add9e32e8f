/- Part 7 of what the law needs: own lemmas, in the order in which they build. -/
import Derived.Test.YtcakfaakbpdklaaGreatDoorProg
import Derived.Test.YtcakfaakbpdklaaGreatDoorTopFrees06
set_option linter.unusedSimpArgs false
set_option linter.unusedVariables false
set_option maxRecDepth 100000
namespace Go.Proofs.YtcakfaakbpdklaaGreatDoorV
open Go Go.Proofs Go.RowKit
open Go.Proofs.Tryz renaming prog→y5c
open Go.IntKind renaming i64→j6
open Go.Value renaming int→y4w,pointer→y4x,tuple→y4z,bool→y5a
section
variable {K:VK} {w:World} {b:Nat} {n:Int} {s:Bs}
theorem qu6 {i:Nat} (h:qbd w b n s) (hT:TzB w) (h1:∀j:Nat,i≤j→s j=true→(∀t,i≤t→t<j→s t=false)→K (y4w j6 (j:Int)) w) (h2:(∀t,i≤t→s t=false)→K (y4w j6 (-1)) w):
  ∀(d k x:Nat),k+d=31→i≤64*(k+1)→x<2 ^ 64→(∀j,j<64→x.testBit j=(s (64*k+j) && decide (i≤64*k+j)))→(∀t,i≤t→t<64*k→s t=false)→
   F258.l7 K (y4x (some ⟨b,0,none⟩)) (y4w .u64 (x:Int)) (y4w j6 (k:Int)) w:=by
 obtain⟨cs,c1,c2,c3,c4,c5⟩:=h.blk
 have hn:=h.rng
 have out:∀(k x:Nat),k≤31→x<2 ^ 64→(∀j,j<64→x.testBit j=(s (64*k+j) && decide (i≤64*k+j)))→(∀t,i≤t→t<64*k→s t=false)→
   (x=0→(∀t,i≤t→t<64*(k+1)→s t=false)→F258.k9 K (y4x (some ⟨b,0,none⟩)) (y4w j6 (k:Int)) w)→F258.l7 K (y4x (some ⟨b,0,none⟩)) (y4w .u64 (x:Int)) (y4w j6 (k:Int)) w:=by
  intro k x hk hx hb hlo hnext
  refine F258.l7.to ?_
  by_cases e:x=0
  ·subst e
   simp only[zv,show (((0:Nat):Int)≠0)=False by simp]
   refine hnext rfl fun t t1 t2=>?_
   by_cases ht:t<64*k
   ·exact hlo t t1 ht
   ·have:=hb (t-64*k) (by omega)
    rw[show 64*k+(t-64*k)=t by omega,Nat.zero_testBit,decide_eq_true t1,Bool.and_true] at this
    exact this.symm
  ·obtain⟨z1,z2,z3⟩:=qyw e hx
   simp only[zv,show ((x:Int)≠0)=True by simp;exact e]
   rw[qab (n:=(k:Int)*64) (by omega)]
   refine zgo hT hx ?_
   simp only[C.a6]
   generalize Lib.ctz 64 x=c at *
   rw[qab (n:=(k:Int)*64+c) (by omega),show (k:Int)*64+c=((64*k+c:Nat):Int) by omega]
   have hc:=hb c z1
   rw[z2] at hc
   have hc':=hc.symm
   rw[y2y,decide_eq_true_eq] at hc'
   refine h1 _ hc'.2 hc'.1 fun t t1 t2=>?_
   by_cases ht:t<64*k
   ·exact hlo t t1 ht
   ·have:=hb (t-64*k) (by omega)
    rw[show 64*k+(t-64*k)=t by omega,z3 _ (by omega),decide_eq_true t1,Bool.and_true] at this
    exact this.symm
 intro d
 induction d with
 | zero=>
  intro k x hk hik hx hb hlo
  refine out k x (by omega) hx hb hlo fun _ hall=>?_
  refine F258.k9.to ?_
  simp only[zv]
  rw[qab (n:=(k:Int)+1) (by omega)]
  simp only[zv,eq_self,show ((k:Int)+1=32) by omega]
  refine h2 fun t ht=>?_
  by_cases c:t<64*(k+1)
  ·exact hall t ht c
  ·apply y0q
   intro hc
   have:=h.sup t (by simpa using hc)
   omega
 | succ d ih=>
  intro k x hk hik hx hb hlo
  refine out k x (by omega) hx hb hlo fun _ hall=>?_
  refine F258.k9.to ?_
  simp only[zv]
  rw[qab (n:=(k:Int)+1) (by omega)]
  simp only[zv,show ¬((k:Int)+1=32) by omega]
  refine F258.k11.to ?_
  simp only[zv]
  rw[qab (n:=(k:Int)+1) (by omega)]
  obtain⟨y,y1,y2,y3⟩:=c5 (k+1) (by omega)
  refine C.bq (by omega) (by omega) (C.ad (v:=y4w .u64 (y:Int)) c1 (by rw[y4t,show ((k:Int)+1).toNat=k+1 by omega];exact y1) ?_)
  refine F258.k6.to ?_
  simp only[C.a6]
  rw[qab (n:=(k:Int)+1) (by omega),show (k:Int)+1=((k+1:Nat):Int) by omega]
  refine ih (k+1) y (by omega) (by omega) y2 (fun j hj=>?_) hall
  rw[y3 j hj]
  rw[decide_eq_true (by omega),Bool.and_true]
theorem qum (x j t:Nat) (hj:j<64) (ht:t<64) (hx:x<2 ^ 64):(x / 2 ^ j*2 ^ j % 18446744073709551616).testBit t=(x.testBit t && decide (j≤t)):=by
 have e:x / 2 ^ j*2 ^ j<18446744073709551616:=Nat.lt_of_le_of_lt (Nat.div_mul_le_self _ _) hx
 rw[Nat.mod_eq_of_lt e,Nat.testBit_mul_two_pow,Nat.testBit_div_two_pow]
 by_cases c:j≤t
 ·rw[show t-j+j=t by omega];simp[c]
 ·simp[c]
theorem qu5 {i:Nat} (h:qbd w b n s) (hT:TzB w) (h1:∀j:Nat,i≤j→s j=true→(∀t,i≤t→t<j→s t=false)→K (y4w j6 (j:Int)) w) (h2:(∀t,i≤t→s t=false)→K (y4w j6 (-1)) w):
  C.i y5c 258 #[y4x (some ⟨b,0,none⟩),y4w j6 (i:Int)] w K:=by
 obtain⟨cs,c1,c2,c3,c4,c5⟩:=h.blk
 have hn:=h.rng
 refine F258.sh ⟨_,qan _ _ _ Tryz.underlying177,?_⟩
 simp only[zv]
 refine C.ad (v:=y5a true) c1 c3 ?_
 simp only[zv]
 refine C.ad (v:=y4w j6 n) c1 c4 ?_
 by_cases c:(i:Int)≥n
 ·simp only[zv,c]
  refine h2 fun t ht=>?_
  apply y0q
  intro hc
  have:=h.sup t (by simpa using hc)
  omega
 simp only[zv,c]
 refine F258.k3.to (C.a4 (qlj _ _ j6 (i:Int) 0) ?_)
 rw[show max (i:Int) 0=(i:Int) by omega]
 refine⟨_,qcl _ _ (i:Int) 64 (by decide),?_⟩
 rw[y0i (by omega),qab (by omega),show (i:Int) / 64=((i / 64:Nat):Int) by omega]
 simp only[zv]
 obtain⟨x,x1,x2,x3⟩:=c5 (i / 64) (by omega)
 refine C.bq (by omega) (by omega) (C.ad (v:=y4w .u64 (x:Int)) c1 (by rw[y4t,y2t];exact x1) ⟨_,qe3 _ _ (i:Int) 64 (by decide),?_⟩)
 rw[y0k (by omega),show (i:Int) % 64=((i % 64:Nat):Int) by omega]
 refine⟨_,qqy _ _ x (i % 64) (by omega),⟨_,qe3 _ _ (i:Int) 64 (by decide),?_⟩⟩
 rw[y0k (by omega),show (i:Int) % 64=((i % 64:Nat):Int) by omega]
 refine⟨_,qlt _ _ (x / 2 ^ (i % 64)) (i % 64) (by omega),⟨_,qcl _ _ (i:Int) 64 (by decide),?_⟩⟩
 rw[y0i (by omega),qab (by omega),show (i:Int) / 64=((i / 64:Nat):Int) by omega]
 refine qu6 h hT h1 h2 (31-i / 64) (i / 64) _ (by omega) (by omega) (by have:=Nat.mod_lt (x / 2 ^ (i % 64)*2 ^ (i % 64)) (show 18446744073709551616>0 by decide);omega) (fun j hj=>?_) fun t t1 t2=>by omega
 rw[qum x (i % 64) j (by omega) hj x2,x3 j hj]
 congr 1
 exact decide_eq_decide.2 (by omega)
theorem qks {s:Bs} {c j:Nat} (hcj:c≤j) (hs:s j=true) (hno:∀t,c≤t→t<j→s t=false):(List.range (j+1)).filter s=(List.range c).filter s ++ [j]:=by
 have key:∀d,c+d≤j→(List.range (c+d)).filter s=(List.range c).filter s:=fun d=>by
  induction d with
  | zero=>intro _;rfl
  | succ d ih=>
   intro hd
   rw[show c+(d+1)=c+d+1 by omega,y3u,y2j,ih (by omega)]
   simp[hno (c+d) (by omega) (by omega)]
 have:=key (j-c) (by omega)
 rw[show c+(j-c)=j by omega] at this
 rw[y3u,y2j,this]
 simp[hs]
theorem qgw {s:Bs} {c m:Nat} (hcm:c≤m) (hno:∀t,c≤t→s t=false):(List.range m).filter s=(List.range c).filter s:=by
 have key:∀d,(List.range (c+d)).filter s=(List.range c).filter s:=fun d=>by
  induction d with
  | zero=>rfl
  | succ d ih=>
   rw[show c+(d+1)=c+d+1 by omega,y3u,y2j,ih]
   simp[hno (c+d) (by omega)]
 have:=key (m-c)
 rwa [show c+(m-c)=m by omega] at this
theorem zb1 {n:Int} {s:Bs} {c:Nat} (h0:0≤n) (hsup:∀i:Nat,s i=true→(i:Int)<n) (hno:∀t,c≤t→s t=false):qgt n s=((List.range c).filter s).map Int.ofNat:=by
 unfold qgt
 congr 1
 by_cases h:c≤n.toNat
 ·exact qgw h hno
 ·exact (qgw (by omega) fun t ht=>by
   apply y0q
   intro hc
   have:=hsup t (by simpa using hc)
   omega).symm
theorem qyf {n:Int} {s:Bs} (c:Nat):(((List.range c).filter s).map Int.ofNat).length≤c:=by
 rw[y3t]
 have:=y1o s (List.range c)
 rwa [y2v] at this
theorem qxq {W:World} (h:qbd W b n s) (hT:TzB W) (hk:∀v w',Fr [] W w'→qaj W v→qad w' v 3 1 (qag (qgt n s))→K v w'):
  ∀(d c:Nat) (w:World) (v:Value),2049≤c+d→Fr [] W w→qaj W v→qad w v 3 1 (qag (((List.range c).filter s).map Int.ofNat))→
   (∀j:Nat,c≤j→s j=true→(∀t,c≤t→t<j→s t=false)→F202.l3 K (y4x (some ⟨b,0,none⟩)) v (y4w j6 (j:Int)) w)∧
   ((∀t,c≤t→s t=false)→F202.l3 K (y4x (some ⟨b,0,none⟩)) v (y4w j6 (-1)) w):=by
 have hn:=h.rng
 have fin:∀(c:Nat) (w:World) (v:Value),Fr [] W w→qaj W v→qad w v 3 1 (qag (((List.range c).filter s).map Int.ofNat))→(∀t,c≤t→s t=false)→F202.l3 K (y4x (some ⟨b,0,none⟩)) v (y4w j6 (-1)) w:=by
  intro c w v hf hnv ho hno
  refine F202.l3.to ?_
  simp only[zv,show ¬((-1:Int)≥0) by omega]
  refine F202.k6.to (hk v w hf hnv ?_)
  rw[zb1 hn.1 h.sup hno]
  exact ho
 intro d
 induction d with
 | zero=>
  intro c w v hd hf hnv ho
  exact⟨fun j hj hs _=>by have:=h.sup j hs;omega,fin c w v hf hnv ho⟩
 | succ d ih=>
  intro c w v hd hf hnv ho
  refine⟨fun j hj hs hno=>?_,fin c w v hf hnv ho⟩
  have hjn:=h.sup j hs
  have hl:=qyf (n:=n) (s:=s) c
  refine F202.l3.to ?_
  simp only[zv,show ((j:Int)≥0) by omega]
  refine F202.k5.to (C.cx ho (by omega) fun v' w1 ho1 hf1 hg1=>?_)
  have f1:Fr [] W w1:=hf.then hf1 fun z hz => .inr (hnv.blk z hz)
  have n1:=qng hnv hf.size hg1
  have e:((List.range c).filter s).map Int.ofNat ++ [(j:Int)]=((List.range (j+1)).filter s).map Int.ofNat:=by
   rw[qks hj hs hno,y3v]
   rfl
  rw[e] at ho1
  refine F202.k4.to ?_
  simp only[C.a6]
  rw[qab (n:=(j:Int)+1) (by omega),show (j:Int)+1=((j+1:Nat):Int) by omega]
  obtain⟨a1,a2⟩:=ih (j+1) w1 v' (by omega) f1 n1 ho1
  exact qu5 (h.keep f1 (by simp)) (hT.keep f1 (by simp)) a1 a2
theorem zdd (h:qbd w b n s) (hT:TzB w) (hk:∀v w',Fr [] w w'→qaj w v→qad w' v 3 1 (qag (qgt n s))→K v w'):C.i y5c 202 #[y4x (some ⟨b,0,none⟩)] w K:=by
 obtain⟨a1,a2⟩:=qxq h hT hk 2049 0 w _ (by omega) (Fr.refl _ _) (qaj.nil _) (by simpa[qag] using qad.nil _ _ _)
 exact F202.sh (qu5 h hT a1 a2)
def qno (n:Int):Array Value := #[y5a true,y4w j6 n,y4w .u64 0,y4w .u64 0,y4w .u64 0,y4w .u64 0,y4w .u64 0,y4w .u64 0,y4w .u64 0,y4w .u64 0,y4w .u64 0,y4w .u64 0,y4w .u64 0,y4w .u64 0,y4w .u64 0,y4w .u64 0,y4w .u64 0,y4w .u64 0,y4w .u64 0,y4w .u64 0,y4w .u64 0,y4w .u64 0,y4w .u64 0,y4w .u64 0,y4w .u64 0,y4w .u64 0,y4w .u64 0,y4w .u64 0,y4w .u64 0,y4w .u64 0,y4w .u64 0,y4w .u64 0,y4w .u64 0,y4w .u64 0]
theorem zf7 (n:Int):(Instr.build 255 #[(0,y5a true),(1,y4w j6 n)]).run y5c w = .ok (.agg (qno n)) w:=by kernel_rfl
theorem qrt (n:Int):∀k,k<32→(qno n)[2+k]?=some (y4w .u64 0)
 | 0,_ | 1,_ | 2,_ | 3,_ | 4,_ | 5,_ | 6,_ | 7,_ | 8,_ | 9,_ | 10,_ | 11,_ | 12,_ | 13,_ | 14,_ | 15,_ | 16,_ | 17,_ | 18,_ | 19,_ | 20,_ | 21,_ | 22,_ | 23,_ | 24,_ | 25,_ | 26,_ | 27,_ | 28,_ | 29,_ | 30,_ | 31,_=>rfl
 | k+32,h=>by omega
theorem quq {n:Int} (h0:0≤n) (h1:n≤2048) (hk:∀b w',Fr [] w w'→b=w.heap.size→w'.heap.size=w.heap.size+1→qbd w' b n (fun _=>false)→K (y4x (some ⟨b,0,none⟩)) w'):C.i y5c 116 #[y4w j6 n] w K:=by
 refine F116.sh (qdb ?_)
 rw[if_neg (by omega),if_neg (by omega)]
 refine C.a4 (zf7 n) (C.av fun b w1 hn=>hk b w1 hn.fr hn.is hn.sz ⟨⟨qno n,hn.at_,rfl,rfl,rfl,fun k hk=>⟨0,qrt n k hk,by decide,fun j _=>by simp⟩⟩,⟨h0,h1⟩,fun i hi=>by cases hi⟩)
end
end Go.Proofs.YtcakfaakbpdklaaGreatDoorV
namespace Go.Proofs.YtcakfaakbpdklaaGreatDoorV
open Go Go.Proofs
open Go.Proofs.Tryz renaming prog→y5c
open Go.IntKind renaming i64→j6
open Go.Value renaming int→y4w,pointer→y4x,tuple→y4z,bool→y5a
noncomputable section
variable {K:VK} {w:World} {x0 x1 y0 y1 y2 y3 y4 y5 y6 y10 y11 y13 y14 y4294967291:Value}

theorem F170.sh (h:(C.i y5c 66 #[x0,(y4w j6 0),(y4w j6 64)] w fun a b=>
 C.ay y5c (Instr.makeSlice 54 a a) b fun c d=>
 C.ay y5c (Instr.build 292 #[(0,(y5a true)),(1,c)]) d fun f g=>
 C.a3 (.cells (Value.cells f) 292) g fun i j=>
 K i j)):C.i y5c 170 #[x0] w K:=q9 (A:=A0) (args:=[x0]) (qq h)
namespace F171
def ann:Ann:=⟨[(3,[0])],[],[],[],none⟩
variable (K:VK) (y0:Value) (w:World)
def k3:Prop:=nk ann 10 [(0,y0)] w [1,1] Tryz.f171 K
attribute [irreducible] k3
end F171
theorem F171.k3.to (h:(C.ae y0 w fun a b=>
 C.ab 1 a b fun c d=>
 C.ai c d fun f g=>
 C.i y5c 240 #[f] g fun i j=>
 K i j)):F171.k3 K y0 w:=qq h
theorem F171.sh (h:(C.bi y5c .eql 234 (.tmp 3) (.const (y4x none)) x0 (y4x none) w fun a b=>
 C.am a (K (.slice none 0 0) b) (F171.k3 K x0 b))):C.i y5c 171 #[x0] w K:=q9 (A:=F171.ann) (args:=[x0]) (qq h)
namespace F176
def ann:Ann:=⟨[(3,[2,3,4,5]),(14,[4,5,4294967291])],[],[],[],none⟩
def code:=cd Tryz.f176
def top:=tp Tryz.f176
variable (K:VK) (y2 y3 y4 y5 y4294967291:Value) (w:World)
def as4:Code:=zeg (qd9 [1,1,0,1,0] code)
def bd4:Code:=zek (qd9 [1,1,0,1,0] code)
def k3:Prop:=nk ann 38 [(2,y2),(3,y3),(4,y4),(5,y5)] w [1,1] Tryz.f176 K
def k14:Prop:=nk ann 38 [(4,y4),(5,y5),(4294967291,y4294967291)] w [1,1,1] Tryz.f176 K
attribute [irreducible] k3 k14
end F176
theorem F176.k3.to (h:(C.ai y2 w fun a b=>
 C.cg y5c 38 (.func (.func 242) #[a] #[]) #[13,14] F176.as4 F176.bd4 [(12,(.func (.func 242) #[a] #[])),(11,a),(2,y2),(3,y3),(4,y4),(5,y5)] b fun D2 j c=>
 C.c1 j (F176.k14 K y4 y5 (y4w j6 (D2:Int)) c) (C.cd (y4w j6 (D2:Int)) c fun d=>
 C.ai y4 d fun r4 _=>
 C.ai y5 d fun r5 _=>
 K (y4z #[r4,r5]) d) (fun id=>cond (Nat.beq id 0) (F176.k14 K y4 y5 (y4w j6 (D2:Int)) c) (False)))):F176.k3 K y2 y3 y4 y5 w:=qq h
theorem F176.k14.to (h:(C.ak 1 y4 (y4w j6 0) w fun a=>
 C.ak 1 y5 (y5a false) a fun b=>
 C.cd y4294967291 b fun c=>
 C.ai y4 c fun r4 _=>
 C.ai y5 c fun r5 _=>
 K (y4z #[r4,r5]) c)):F176.k14 K y4 y5 y4294967291 w:=qq h
theorem F176.sh (h:(C.a3 (.cells (Value.cells x0) 234) w fun a b=>
 C.a3 (.cells (Value.cells x1) 3) b fun c d=>
 C.a3 (.cells #[y4w j6 0] 3) d fun f g=>
 C.a3 (.cells #[y5a false] 4) g fun i j=>
 C.ai c j fun k m=>
 C.aj .lss k (y4w j6 1) m fun o p=>
 C.am o (C.ak 1 f (y4w j6 0) p fun q=>
 C.ak 1 i (y5a false) q fun r=>
 C.ai f r fun r9 _=>
 C.ai i r fun r10 _=>
 K (y4z #[r9,r10]) r) (F176.k3 K a c f i p))):C.i y5c 176 #[x0,x1] w K:=q9 (A:=F176.ann) (args:=[x0,x1]) (qq h)
namespace R176_4
def ann (l:Nat):Ann:=⟨[(7,[2,3,4,5,6]),(9,[2,4,5,6,18,19]),(11,[2,4,5,6,18,19]),(12,[2,4,5,6])],[(8,[2,4,5,6,18,19])],[],[],some l⟩
noncomputable def top (l:Nat) (K:VK):QE:=qqw l K
noncomputable def k7 (l:Nat) (K:VK) (y2 y3 y4 y5 y6:Value) (w:World):Prop:=nav (ann l) y5c 38 (fun c Q=>qbj (ann l) y5c 38 c Q [(2,y2),(3,y3),(4,y4),(5,y5),(6,y6)] w) [0,1] F176.bd4 (top l K)
attribute [irreducible] k7
noncomputable def k12 (l:Nat) (K:VK) (y2 y4 y5 y6:Value) (w:World):Prop:=nav (ann l) y5c 38 (fun c Q=>qbj (ann l) y5c 38 c Q [(2,y2),(4,y4),(5,y5),(6,y6)] w) [0,1,1] F176.bd4 (top l K)
attribute [irreducible] k12
noncomputable def l8 (l:Nat) (K:VK) (y2 y4 y5 y6 y18 y19:Value) (w:World):Prop:=nav (ann l) y5c 38 (qqa (ann l) y5c 38 [(2,y2),(4,y4),(5,y5),(6,y6),(18,y18),(19,y19)] w) [0,1,0,1,0] F176.bd4 (top l K)
attribute [irreducible] l8
noncomputable def k9 (l:Nat) (K:VK) (y2 y4 y5 y6 y18 y19:Value) (w:World):Prop:=nav (ann l) y5c 38 (fun c Q=>qbj (ann l) y5c 38 c Q [(2,y2),(4,y4),(5,y5),(6,y6),(18,y18),(19,y19)] w) [0,1,0,1,0,0,1,1] F176.bd4 (top l K)
attribute [irreducible] k9
noncomputable def k11 (l:Nat) (K:VK) (y2 y4 y5 y6 y18 y19:Value) (w:World):Prop:=nav (ann l) y5c 38 (fun c Q=>qbj (ann l) y5c 38 c Q [(2,y2),(4,y4),(5,y5),(6,y6),(18,y18),(19,y19)] w) [0,1,0,1,0,0,1,1,1] F176.bd4 (top l K)
attribute [irreducible] k11
end R176_4
theorem R176_4.k7.to {l:Nat} {K:VK} {y2 y3 y4 y5 y6:Value} {w:World} (h:(C.ai y3 w fun x18_1 w1=>
 R176_4.l8 l K y2 y4 y5 y6 x18_1 (y4w j6 0) w1)):R176_4.k7 l K y2 y3 y4 y5 y6 w:=Eq.mpr (by kernel_rfl) h
theorem R176_4.k12.to {l:Nat} {K:VK} {y2 y4 y5 y6:Value} {w:World} (h:(C.ai y2 w fun x31_1 w1=>
 C.ae x31_1 w1 fun x32_2 w2=>
 C.ab 1 x32_2 w2 fun x33_3 w3=>
 C.ai x33_3 w3 fun x34_4 w4=>
 C.bk 1 x34_4 y6 w4 fun x36_5 w5=>
 C.ak 1 x36_5 (y4w j6 5) w5 fun w6=>
 C.ak 1 y4 y6 w6 fun w7=>
 C.ak 1 y5 (y5a true) w7 fun w8=>
 C.cv l (some .ret) false (.done) w8 K)):R176_4.k12 l K y2 y4 y5 y6 w:=Eq.mpr (by kernel_rfl) h
theorem R176_4.l8.to {l:Nat} {K:VK} {y2 y4 y5 y6 y18 y19:Value} {w:World} (h:(C.aj .lss y19 y18 w fun x20_1 w1=>
 C.am x20_1 (R176_4.k9 l K y2 y4 y5 y6 y18 y19 w1) (R176_4.k12 l K y2 y4 y5 y6 w1))):R176_4.l8 l K y2 y4 y5 y6 y18 y19 w:=by unfold R176_4.l8;exact qah (Eq.mpr (by kernel_rfl) h)
theorem R176_4.k9.to {l:Nat} {K:VK} {y2 y4 y5 y6 y18 y19:Value} {w:World} (h:(C.ai y2 w fun x22_1 w1=>
 C.ae x22_1 w1 fun x23_2 w2=>
 C.ab 1 x23_2 w2 fun x24_3 w3=>
 C.ai x24_3 w3 fun x25_4 w4=>
 C.aj .add y6 y19 w4 fun x28_5 w5=>
 C.bk 1 x25_4 x28_5 w5 fun x29_6 w6=>
 C.ak 1 x29_6 (y4w j6 6) w6 fun w7=>
 R176_4.k11 l K y2 y4 y5 y6 y18 y19 w7)):R176_4.k9 l K y2 y4 y5 y6 y18 y19 w:=Eq.mpr (by kernel_rfl) h
theorem R176_4.k11.to {l:Nat} {K:VK} {y2 y4 y5 y6 y18 y19:Value} {w:World} (h:(C.aj .add y19 (y4w j6 1) w fun x30_1 w1=>
 R176_4.l8 l K y2 y4 y5 y6 y18 x30_1 w1)):R176_4.k11 l K y2 y4 y5 y6 y18 y19 w:=Eq.mpr (by kernel_rfl) h
theorem R176_4.yield {l:Nat} {r:Loop} {K:VK} {y2 y3 y4 y5 a13 a14:Value} {w:World} (hr:w.heap[l]?=some (.loop r)) (hn:r.tmps.size=38) (hp:r.params = #[13,14]) (ha:r.assign=F176.as4) (hb:r.body=F176.bd4)
  (he:∀t v,lkT [(2,y2),(3,y3),(4,y4),(5,y5)] t=some v→r.tmps[t]?=some v) (h:(C.cy l w fun w1=>
 C.ai y3 w1 fun x16_2 w2=>
 C.aj .lss a14 x16_2 w2 fun x17_3 w3=>
 C.am x17_3 (C.cv l none true (.ready) w3 K) (R176_4.k7 l K y2 y3 y4 y5 a13 w3))):C.ch y5c l #[a13,a14] w K:=
 qre (A:=R176_4.ann l) (env:=[(2,y2),(3,y3),(4,y4),(5,y5)]) rfl hr hn (by rw[hp];rfl) he rfl (by rw[hp];decide) (by rw[ha,hb,hp];exact Eq.mpr (by kernel_rfl) h)
namespace F241
def ann:Ann:=⟨[(5,[3,4294967291])],[],[],[],none⟩
def code:=cd Tryz.f241
def top:=tp Tryz.f241
variable (K:VK) (y3 y4294967291:Value) (w:World)
def as3:Code:=zeg (qd9 [1,1,0,1,0] code)
def bd3:Code:=zek (qd9 [1,1,0,1,0] code)
def k5:Prop:=nk ann 14 [(3,y3),(4294967291,y4294967291)] w [1,1,1] Tryz.f241 K
attribute [irreducible] k5
end F241
theorem F241.k5.to (h:(C.ai y3 w fun a b=>
 C.cd y4294967291 b fun c=>
 K a c)):F241.k5 K y3 y4294967291 w:=qq h
theorem F241.sh (h:(C.a3 (.cells #[y4w j6 0] 3) w fun a b=>
 C.ak 1 a (y4w j6 0) b fun c=>
 C.cg y5c 14 (.func (.func 242) #[x0] #[]) #[8,9] F241.as3 F241.bd3 [(7,(.func (.func 242) #[x0] #[])),(6,x0),(3,a),(2,(y4w j6 0)),(0,x0)] c fun D3 j d=>
 C.c1 j (F241.k5 K a (y4w j6 (D3:Int)) d) (C.cd (y4w j6 (D3:Int)) d fun f=>
 K (y4w j6 0) f) (fun id=>cond (Nat.beq id 0) (F241.k5 K a (y4w j6 (D3:Int)) d) (False)))):C.i y5c 241 #[x0] w K:=q9 (A:=F241.ann) (args:=[x0]) (qq h)
namespace R241_3
def ann (l:Nat):Ann:=⟨[],[],[],[],some l⟩
noncomputable def top (l:Nat) (K:VK):QE:=qqw l K
end R241_3
theorem R241_3.yield {l:Nat} {r:Loop} {K:VK} {y3 a8 a9:Value} {w:World} (hr:w.heap[l]?=some (.loop r)) (hn:r.tmps.size=14) (hp:r.params = #[8,9]) (ha:r.assign=F241.as3) (hb:r.body=F241.bd3)
  (he:∀t v,lkT [(3,y3)] t=some v→r.tmps[t]?=some v) (h:(C.cy l w fun w1=>
 C.ai y3 w1 fun x10_2 w2=>
 C.aj .add x10_2 a9 w2 fun x12_3 w3=>
 C.ak 1 y3 x12_3 w3 fun w4=>
 C.cv l none true (.ready) w4 K)):C.ch y5c l #[a8,a9] w K:=
 qre (A:=R241_3.ann l) (env:=[(3,y3)]) rfl hr hn (by rw[hp];rfl) he rfl (by rw[hp];decide) (by rw[ha,hb,hp];exact Eq.mpr (by kernel_rfl) h)
namespace F242
def ann:Ann:=⟨[(1,[0,1]),(4,[0,1,4,13,14]),(7,[0,1,4,5,13,14]),(8,[0,1,13,14]),(9,[0,1,4,13,14])],[(3,[0,1,4,13,14])],[],[],none⟩
variable (K:VK) (y0 y1 y4 y5 y13 y14:Value) (w:World)
def k1:Prop:=nk ann 35 [(0,y0),(1,y1)] w [1] Tryz.f242 K
def l3:Prop:=nl ann 35 [(0,y0),(1,y1),(4,y4),(13,y13),(14,y14)] w [1,1,1,0] Tryz.f242 K
def k4:Prop:=nk ann 35 [(0,y0),(1,y1),(4,y4),(13,y13),(14,y14)] w [1,1,1,0,0,1,1] Tryz.f242 K
def k9:Prop:=nk ann 35 [(0,y0),(1,y1),(4,y4),(13,y13),(14,y14)] w [1,1,1,0,0,1,1,1] Tryz.f242 K
def k7:Prop:=nk ann 35 [(0,y0),(1,y1),(4,y4),(5,y5),(13,y13),(14,y14)] w [1,1,1,0,0,1,1,0,0,1,1] Tryz.f242 K
def k8:Prop:=nk ann 35 [(0,y0),(1,y1),(13,y13),(14,y14)] w [1,1,1,0,0,1,1,0,0,1,1,1] Tryz.f242 K
attribute [irreducible] k1 l3 k4 k9 k7 k8
end F242
theorem F242.k1.to (h:(C.ae y0 w fun a b=>
 C.ab 1 a b fun c d=>
 C.ai c d fun f g=>
 C.bl f g fun i j=>
 C.aj .add i (y4w j6 1) j fun k m=>
 F242.l3 K y0 y1 (y4w j6 0) k (y4w j6 0) m)):F242.k1 K y0 y1 w:=qq h
theorem F242.l3.to (h:(C.aj .lss y14 y13 w fun a b=>
 C.am a (F242.k4 K y0 y1 y4 y13 y14 b) (K (y4z #[]) b))):F242.l3 K y0 y1 y4 y13 y14 w:=by unfold F242.l3 nl;exact qah (qq h)
theorem F242.k4.to (h:(C.i y5c 283 #[y0,y14] w fun a b=>
 C.aj .eql a (y4w j6 0) b fun c d=>
 C.am c (C.aj .add y4 (y4w j6 1) d fun f g=>
 F242.k9 K y0 y1 f y13 y14 g) (F242.k7 K y0 y1 y4 y14 y13 y14 d))):F242.k4 K y0 y1 y4 y13 y14 w:=qq h
theorem F242.k9.to (h:(C.aj .add y14 (y4w j6 1) w fun a b=>
 F242.l3 K y0 y1 y4 y13 a b)):F242.k9 K y0 y1 y4 y13 y14 w:=qq h
theorem F242.k7.to (h:(C.aj .gtr y4 (y4w j6 0) w fun a b=>
 C.q true a (fun K=>K y1 b) b fun c d=>
 C.q true a (fun K=>K y5 d) d fun f g=>
 C.q true a (fun K=>K y4 g) g fun i j=>
 C.q true a (fun K=>C.aj .sub f i j K) j fun k m=>
 C.q true a (fun K=>K y4 m) m fun o p=>
 C.q true a (fun K=>qbo y5c c [k,o] p K) p fun q r=>
 C.q true a (fun K=>C.bf q r K) r fun s t=>
 C.a2 (some a) (some s) (some (y5a false)) t fun u v=>
 C.am u (K (y4z #[]) v) (F242.k8 K y0 y1 y13 y14 v))):F242.k7 K y0 y1 y4 y5 y13 y14 w:=qq h
theorem F242.k8.to (h:(F242.k9 K y0 y1 (y4w j6 0) y13 y14 w)):F242.k8 K y0 y1 y13 y14 w:=qq h
theorem F242.sh (h:(C.bi y5c .eql 234 (.tmp 6) (.const (y4x none)) x0 (y4x none) w fun a b=>
 C.am a (K (y4z #[]) b) (F242.k1 K x0 x1 b))):C.i y5c 242 #[x0,x1] w K:=q9 (A:=F242.ann) (args:=[x0,x1]) (qq h)
namespace F252
def ann:Ann:=⟨[(3,[0,1]),(6,[0,1,6])],[],[],[],none⟩
variable (K:VK) (y0 y1 y6:Value) (w:World)
def k3:Prop:=nk ann 29 [(0,y0),(1,y1)] w [1,1] Tryz.f252 K
def k6:Prop:=nk ann 29 [(0,y0),(1,y1),(6,y6)] w [1,1,1,1] Tryz.f252 K
attribute [irreducible] k3 k6
end F252
theorem F252.k3.to (h:(C.ae y0 w fun a b=>
 C.ab 1 a b fun c d=>
 C.ai c d fun f g=>
 C.i y5c 125 #[f,(y4w j6 0)] g fun i j=>
 C.aj .lss i (y4w j6 0) j fun k m=>
 C.am k (K (y4z #[(y4w j6 0),(y5a false)]) m) (F252.k6 K y0 y1 i m))):F252.k3 K y0 y1 w:=qq h
theorem F252.k6.to (h:(C.ae y0 w fun a b=>
 C.ab 1 a b fun c d=>
 C.ai c d fun f g=>
 C.bk 1 f y6 g fun i j=>
 C.ak 1 i y1 j fun k=>
 K (y4z #[y6,(y5a true)]) k)):F252.k6 K y0 y1 y6 w:=qq h
theorem F252.sh (h:(C.bi y5c .eql 234 (.tmp 7) (.const (y4x none)) x0 (y4x none) w fun a b=>
 C.q false a (fun K=>K x1 b) b fun c d=>
 C.q false a (fun K=>C.i y5c 175 #[c] d K) d fun f g=>
 C.q false a (fun K=>C.aj .eql f (y4w j6 0) g K) g fun i j=>
 C.a2 (some a) (some (y5a true)) (some i) j fun k m=>
 C.am k (K (y4z #[(y4w j6 0),(y5a false)]) m) (F252.k3 K x0 x1 m))):C.i y5c 252 #[x0,x1] w K:=q9 (A:=F252.ann) (args:=[x0,x1]) (qq h)
namespace F264
def ann:Ann:=⟨[(4,[0,1,5,10,11]),(6,[0,1,5,10,11]),(7,[5])],[(3,[0,1,5,10,11])],[],[],none⟩
variable (K:VK) (y0 y1 y5 y10 y11:Value) (w:World)
def k7:Prop:=nk ann 24 [(5,y5)] w [1,1,1] Tryz.f264 K
def l3:Prop:=nl ann 24 [(0,y0),(1,y1),(5,y5),(10,y10),(11,y11)] w [1,1,0,1,0] Tryz.f264 K
def k4:Prop:=nk ann 24 [(0,y0),(1,y1),(5,y5),(10,y10),(11,y11)] w [1,1,0,1,0,0,1,1] Tryz.f264 K
def k6:Prop:=nk ann 24 [(0,y0),(1,y1),(5,y5),(10,y10),(11,y11)] w [1,1,0,1,0,0,1,1,1] Tryz.f264 K
attribute [irreducible] k7 l3 k4 k6
end F264
theorem F264.k7.to (h:(K y5 w)):F264.k7 K y5 w:=qq h
theorem F264.l3.to (h:(C.aj .lss y11 y10 w fun a b=>
 C.am a (F264.k4 K y0 y1 y5 y10 y11 b) (F264.k7 K y5 b))):F264.l3 K y0 y1 y5 y10 y11 w:=by unfold F264.l3 nl;exact qah (qq h)
theorem F264.k4.to (h:(C.ae y0 w fun a b=>
 C.ab 1 a b fun c d=>
 C.ai c d fun f g=>
 C.aj .add y1 y11 g fun i j=>
 C.bk 1 f i j fun k m=>
 C.ak 1 k (y4w j6 0) m fun o=>
 F264.k6 K y0 y1 y5 y10 y11 o)):F264.k4 K y0 y1 y5 y10 y11 w:=qq h
theorem F264.k6.to (h:(C.aj .add y11 (y4w j6 1) w fun a b=>
 F264.l3 K y0 y1 y5 y10 a b)):F264.k6 K y0 y1 y5 y10 y11 w:=qq h
theorem F264.sh (h:(C.i y5c 295 #[x0,x1] w fun a b=>
 F264.l3 K x0 x1 a a (y4w j6 0) b)):C.i y5c 264 #[x0,x1] w K:=q9 (A:=F264.ann) (args:=[x0,x1]) (qq h)
namespace F283
def ann:Ann:=⟨[(3,[0,1])],[],[],[],none⟩
variable (K:VK) (y0 y1:Value) (w:World)
def k3:Prop:=nk ann 27 [(0,y0),(1,y1)] w [1,1] Tryz.f283 K
attribute [irreducible] k3
end F283
theorem F283.k3.to (h:(C.ae y0 w fun a b=>
 C.ab 1 a b fun c d=>
 C.ai c d fun f g=>
 C.bk 1 f y1 g fun i j=>
 C.ai i j fun k m=>
 K k m)):F283.k3 K y0 y1 w:=qq h
theorem F283.sh (h:(C.bi y5c .eql 234 (.tmp 5) (.const (y4x none)) x0 (y4x none) w fun a b=>
 C.q false a (fun K=>K x1 b) b fun c d=>
 C.q false a (fun K=>C.aj .lss c (y4w j6 0) d K) d fun f g=>
 C.a2 (some a) (some (y5a true)) (some f) g fun i j=>
 C.q false i (fun K=>K x1 j) j fun k m=>
 C.q false i (fun K=>K x0 m) m fun o p=>
 C.q false i (fun K=>C.ae o p K) p fun q r=>
 C.q false i (fun K=>C.ab 1 q r K) r fun s t=>
 C.q false i (fun K=>C.ai s t K) t fun u v=>
 C.q false i (fun K=>C.bl u v K) v fun x y=>
 C.q false i (fun K=>C.aj .geq k x y K) y fun z aa=>
 C.a2 (some i) (some (y5a true)) (some z) aa fun ab ac=>
 C.am ab (K (y4w j6 (-1)) ac) (F283.k3 K x0 x1 ac))):C.i y5c 283 #[x0,x1] w K:=q9 (A:=F283.ann) (args:=[x0,x1]) (qq h)
namespace F285
def ann:Ann:=⟨[(2,[0,1]),(3,[0,1]),(5,[1])],[(1,[0,1])],[],[],none⟩
variable (K:VK) (y0 y1:Value) (w:World)
def k3:Prop:=nk ann 16 [(0,y0),(1,y1)] w [1,1] Tryz.f285 K
def l1:Prop:=nl ann 16 [(0,y0),(1,y1)] w [1,0,0] Tryz.f285 K
def k2:Prop:=nk ann 16 [(0,y0),(1,y1)] w [1,0,0,0,1] Tryz.f285 K
def k5:Prop:=nk ann 16 [(1,y1)] w [1,1,1] Tryz.f285 K
attribute [irreducible] k3 l1 k2 k5
end F285
theorem F285.k3.to (h:(C.i y5c 295 #[y0,y1] w fun a b=>
 C.aj .eql a (y4w j6 0) b fun c d=>
 C.am c (K (y4w j6 (-1)) d) (F285.k5 K y1 d))):F285.k3 K y0 y1 w:=qq h
theorem F285.l1.to (h:(C.i y5c 283 #[y0,y1] w fun a b=>
 C.aj .eql a (y4w j6 6) b fun c d=>
 C.am c (F285.k2 K y0 y1 d) (F285.k3 K y0 y1 d))):F285.l1 K y0 y1 w:=by unfold F285.l1 nl;exact qah (qq h)
theorem F285.k2.to (h:(C.aj .sub y1 (y4w j6 1) w fun a b=>
 F285.l1 K y0 a b)):F285.k2 K y0 y1 w:=qq h
theorem F285.k5.to (h:(K y1 w)):F285.k5 K y1 w:=qq h
theorem F285.sh (h:(F285.l1 K x0 x1 w)):C.i y5c 285 #[x0,x1] w K:=q9 (A:=F285.ann) (args:=[x0,x1]) (qq h)
namespace F295
def ann:Ann:=⟨[(4,[0,1,5]),(6,[0,1]),(8,[0,1,6]),(9,[6])],[(7,[0,1,6])],[],[],none⟩
variable (K:VK) (y0 y1 y5 y6:Value) (w:World)
def k4:Prop:=nk ann 24 [(0,y0),(1,y1),(5,y5)] w [1,1,1] Tryz.f295 K
def k6:Prop:=nk ann 24 [(0,y0),(1,y1)] w [1,1,1,1] Tryz.f295 K
def k9:Prop:=nk ann 24 [(6,y6)] w [1,1,1,1,1,1] Tryz.f295 K
def l7:Prop:=nl ann 24 [(0,y0),(1,y1),(6,y6)] w [1,1,1,1,1,0,0] Tryz.f295 K
def k8:Prop:=nk ann 24 [(0,y0),(1,y1),(6,y6)] w [1,1,1,1,1,0,0,0,1] Tryz.f295 K
attribute [irreducible] k4 k6 k9 l7 k8
end F295
theorem F295.k4.to (h:(C.aj .neq y5 (y4w j6 5) w fun a b=>
 C.am a (K (y4w j6 0) b) (F295.k6 K y0 y1 b))):F295.k4 K y0 y1 y5 w:=qq h
theorem F295.k6.to (h:(F295.l7 K y0 y1 (y4w j6 1) w)):F295.k6 K y0 y1 w:=qq h
theorem F295.k9.to (h:(K y6 w)):F295.k9 K y6 w:=qq h
theorem F295.l7.to (h:(C.aj .add y1 y6 w fun a b=>
 C.i y5c 283 #[y0,a] b fun c d=>
 C.aj .eql c (y4w j6 6) d fun f g=>
 C.am f (F295.k8 K y0 y1 y6 g) (F295.k9 K y6 g))):F295.l7 K y0 y1 y6 w:=by unfold F295.l7 nl;exact qah (qq h)
theorem F295.k8.to (h:(C.aj .add y6 (y4w j6 1) w fun a b=>
 F295.l7 K y0 y1 a b)):F295.k8 K y0 y1 y6 w:=qq h
theorem F295.sh (h:(C.i y5c 283 #[x0,x1] w fun a b=>
 C.i y5c 175 #[a] b fun c d=>
 C.aj .gtr c (y4w j6 0) d fun f g=>
 C.am f (K (y4w j6 1) g) (F295.k4 K x0 x1 a g))):C.i y5c 295 #[x0,x1] w K:=q9 (A:=F295.ann) (args:=[x0,x1]) (qq h)
end
noncomputable section
variable {K:VK} {w:World} {x0 x1 y0 y1 y7 y8:Value}
namespace F125
def ann:Ann:=⟨[(3,[0,1,7,8]),(6,[0,1,7,8]),(7,[])],[(2,[0,1,7,8])],[],[],none⟩
variable (K:VK) (y0 y1 y7 y8:Value) (w:World)
def k7:Prop:=nk ann 19 [] w [1,1] Tryz.f125 K
def l2:Prop:=nl ann 19 [(0,y0),(1,y1),(7,y7),(8,y8)] w [1,0,1,0] Tryz.f125 K
def k3:Prop:=nk ann 19 [(0,y0),(1,y1),(7,y7),(8,y8)] w [1,0,1,0,0,1,1] Tryz.f125 K
def k6:Prop:=nk ann 19 [(0,y0),(1,y1),(7,y7),(8,y8)] w [1,0,1,0,0,1,1,1] Tryz.f125 K
attribute [irreducible] k7 l2 k3 k6
end F125
theorem F125.k7.to (h:(K (y4w j6 (-1)) w)):F125.k7 K w:=qq h
theorem F125.l2.to (h:(C.aj .lss y8 y7 w fun a b=>
 C.am a (F125.k3 K y0 y1 y7 y8 b) (F125.k7 K b))):F125.l2 K y0 y1 y7 y8 w:=by unfold F125.l2 nl;exact qah (qq h)
theorem F125.k3.to (h:(C.bk 1 y0 y8 w fun a b=>
 C.ai a b fun c d=>
 C.aj .eql y1 c d fun f g=>
 C.am f (K y8 g) (F125.k6 K y0 y1 y7 y8 g))):F125.k3 K y0 y1 y7 y8 w:=qq h
theorem F125.k6.to (h:(C.aj .add y8 (y4w j6 1) w fun a b=>
 F125.l2 K y0 y1 y7 a b)):F125.k6 K y0 y1 y7 y8 w:=qq h
theorem F125.sh (h:(C.bl x0 w fun a b=>
 F125.l2 K x0 x1 a (y4w j6 0) b)):C.i y5c 125 #[x0,x1] w K:=q9 (A:=F125.ann) (args:=[x0,x1]) (qq h)

theorem F85.sh (h:(C.i y5c 125 #[x0,x1] w fun a b=>
 C.aj .geq a (y4w j6 0) b fun c d=>
 K c d)):C.i y5c 85 #[x0,x1] w K:=q9 (A:=A0) (args:=[x0,x1]) (qq h)
end
end Go.Proofs.YtcakfaakbpdklaaGreatDoorV
namespace Go.Proofs.YtcakfaakbpdklaaGreatDoorV
open Go Go.Proofs Go.RowKit
open Go.Proofs.Tryz renaming prog→y5c
open Go.IntKind renaming i64→j6
open Go.Value renaming int→y4w,pointer→y4x,tuple→y4z,bool→y5a
structure qbh (w:World) (b:Nat) (kv:Value) (ks:List Int):Prop where
 blk:w.heap[b]?=some (.cells #[y5a true,kv] 292 (0,0))
 own:qad w kv 3 1 (qag ks)
 le:ks.length≤64
theorem qbh.keep {S:List Nat} {w w':World} {b:Nat} {kv:Value} {ks:List Int} (h:qbh w b kv ks) (hf:Fr S w w') (hb:b∉S) (hS:∀g∈qaa kv,g∉S):qbh w' b kv ks:=⟨hf.at_ h.blk hb,h.own.keep' hf hS,h.le⟩
theorem qbh.keep0 {w w':World} {b:Nat} {kv:Value} {ks:List Int} (h:qbh w b kv ks) (hf:Fr [] w w'):qbh w' b kv ks:=h.keep hf (by simp) (by simp)
section
variable {K:VK} {w:World} {b:Nat} {kv:Value} {ks:List Int}
theorem qbh.nb (h:qbh w b kv ks):b∉qaa kv:=h.own.nb h.blk (by decide)
theorem qe5 {p:Int} (h:qbh w b kv ks) (hk:K (y4w j6 (kAt ks p)) w):C.i y5c 283 #[y4x (some ⟨b,0,none⟩),y4w j6 p] w K:=by
 refine F283.sh ⟨_,qan _ _ _ Tryz.underlying234,?_⟩
 simp only[zv]
 unfold kAt at hk
 by_cases c1:p<0
 ·simp only[zv,c1]
  rwa [if_neg (by omega)] at hk
 simp only[zv,c1]
 refine C.ad (v:=kv) h.blk rfl (C.bg h.own.rd ?_)
 rw[qak]
 by_cases c2:p≥(ks.length:Int)
 ·simp only[zv,c2]
  rwa [if_neg (by omega)] at hk
 simp only[zv,c2]
 rw[if_pos (by omega)] at hk
 obtain⟨p,rfl⟩:=y1b (show 0≤p by omega)
 have hp:p<ks.length:=by omega
 rw[y2t,qcb hp] at hk
 refine F283.k3.to ?_
 simp only[zv]
 exact C.ad (v:=kv) h.blk rfl (C.bx h.own.rd hp fun g o cs e fz hg hc=>C.ad hg hc hk)
theorem qgp (h:ks.length≤64) {p:Int} (hp:kAt ks p ≠ -1):0≤p∧p<ks.length:=by
 apply y0q
 intro hc
 exact hp (qck hc)
theorem qxe {p:Nat} (h:qbh w b kv ks) (hp:p<ks.length) (hk:K (y4w j6 ((qb6 (ks.drop (p+1))+1:Nat):Int)) w):
  ∀(d n:Nat),ks.length=p+n+d→qb6 (ks.drop (p+n))+n=qb6 (ks.drop (p+1))+1→F295.l7 K (y4x (some ⟨b,0,none⟩)) (y4w j6 (p:Int)) (y4w j6 (n:Int)) w:=by
 have hle:=h.le
 intro d
 induction d with
 | zero=>
  intro n hn he
  refine F295.l7.to ?_
  simp only[C.a6]
  rw[qab (n:=(p:Int)+n) (by omega)]
  refine qe5 h ?_
  rw[qck (by omega)]
  simp only[zv,show ¬((-1:Int)=6) by decide]
  rw[y1e (by omega)] at he
  simp only[qb6] at he
  refine F295.k9.to ?_
  rw[←he,y4k] at hk
  exact hk
 | succ d ih=>
  intro n hn he
  refine F295.l7.to ?_
  simp only[C.a6]
  rw[qab (n:=(p:Int)+n) (by omega),show (p:Int)+n=((p+n:Nat):Int) by omega]
  refine qe5 h ?_
  have hpn:p+n<ks.length:=by omega
  rw[qet hpn]
  rw[y0o hpn] at he
  have e:qb6 (ks[p+n] :: ks.drop (p+n+1))=if ks[p+n]=6 then qb6 (ks.drop (p+n+1))+1 else 0:=rfl
  rw[e] at he
  by_cases c:ks[p+n]=6
  ·simp only[zv,eq_self,c]
   rw[if_pos c] at he
   refine F295.k8.to ?_
   simp only[C.a6]
   rw[qab (n:=(n:Int)+1) (by omega),show (n:Int)+1=((n+1:Nat):Int) by omega]
   exact ih (n+1) (by omega) (by rw[show p+(n+1)=p+n+1 by omega];omega)
  ·simp only[zv,c]
   rw[if_neg c,y4k] at he
   refine F295.k9.to ?_
   rw[←he] at hk
   exact hk
theorem qm2 {p:Int} (h:qbh w b kv ks) (hk:K (y4w j6 (qaq ks p:Nat)) w):C.i y5c 295 #[y4x (some ⟨b,0,none⟩),y4w j6 p] w K:=by
 refine F295.sh (qe5 h (qcn ?_))
 unfold qaq at hk
 by_cases c:csz (kAt ks p)>0
 ·simp only[zv,c]
  rwa [if_pos c] at hk
 simp only[zv,c]
 rw[if_neg c] at hk
 refine F295.k4.to ?_
 by_cases d:kAt ks p=5
 ·simp only[zv,eq_self,ne_eq,d,not_true_eq_false]
  rw[if_pos d] at hk
  have hp:=qgp h.le (p:=p) (by rw[d];decide)
  obtain⟨p,rfl⟩:=y1b hp.1
  rw[y2t] at hk
  refine F295.k6.to (qxe (p:=p) h (by omega) hk (ks.length-p-1) 1 (by omega) rfl)
 ·simp only[zv,ne_eq,d,not_false_eq_true]
  rwa [if_neg d] at hk
theorem qt1 (h:qbh w b kv ks):∀(p:Nat),(∀q,q=qcz ks p→K (y4w j6 (if qaq ks q=0 then -1 else q)) w)→F285.l1 K (y4x (some ⟨b,0,none⟩)) (y4w j6 (p:Int)) w:=by
 have hle:=h.le
 have tail:∀q:Int,K (y4w j6 (if qaq ks q=0 then -1 else q)) w→F285.k3 K (y4x (some ⟨b,0,none⟩)) (y4w j6 q) w:=fun q hq=>by
  refine F285.k3.to (qm2 h ?_)
  by_cases c:qaq ks q=0
  ·rw[if_pos c] at hq
   simp only[zv,show (((qaq ks q:Nat):Int)=0)=True by simp[c]]
   exact hq
  ·rw[if_neg c] at hq
   simp only[zv,show (((qaq ks q:Nat):Int)=0)=False by simp;exact c]
   exact F285.k5.to hq
 intro p
 induction p with
 | zero=>
  intro hk
  have e:qcz ks 0=if kAt ks 0=6 then -1 else 0:=rfl
  refine F285.l1.to (qe5 h ?_)
  by_cases c:kAt ks 0=6
  ·simp only[zv,eq_self,show kAt ks ((0:Nat):Int)=6 from c]
   rw[if_pos c] at e
   refine F285.k2.to ?_
   simp only[C.bo]
   rw[qab (n:=((0:Nat):Int)-1) (by omega),show ((0:Nat):Int)-1 = -1 from rfl]
   refine F285.l1.to (qe5 h ?_)
   rw[qck (by omega)]
   simp only[zv,show ¬((-1:Int)=6) by decide]
   exact tail _ (hk _ e.symm)
  ·simp only[zv,show ¬kAt ks ((0:Nat):Int)=6 from c]
   rw[if_neg c] at e
   exact tail _ (hk _ e.symm)
 | succ p ih=>
  intro hk
  have e:qcz ks (p+1)=if kAt ks ((p+1:Nat):Int)=6 then qcz ks p else ((p+1:Nat):Int):=rfl
  refine F285.l1.to (qe5 h ?_)
  by_cases c:kAt ks ((p+1:Nat):Int)=6
  ·simp only[zv,eq_self,c]
   rw[if_pos c] at e
   have hp:=qgp h.le (p:=((p+1:Nat):Int)) (by rw[c];decide)
   refine F285.k2.to ?_
   simp only[C.bo]
   rw[qab (n:=((p+1:Nat):Int)-1) (by omega),show ((p+1:Nat):Int)-1=(p:Int) by omega]
   rw[e] at hk
   exact ih hk
  ·simp only[zv,c]
   rw[if_neg c] at e
   exact tail _ (hk _ e.symm)
theorem za3 {p:Int} (h:qbh w b kv ks) (hk:K (y4w j6 (qeb ks p)) w):C.i y5c 285 #[y4x (some ⟨b,0,none⟩),y4w j6 p] w K:=by
 refine F285.sh ?_
 unfold qeb at hk
 by_cases c:0≤p
 ·obtain⟨p,rfl⟩:=y1b c
  simp only[c,if_true,y2t] at hk
  exact qt1 h p fun q hq=>by subst hq;exact hk
 ·simp only[c,if_false] at hk
  have:qaq ks p=0:=by
   unfold qaq
   rw[qck (by omega),if_neg (by decide),if_neg (by decide)]
  rw[if_pos this] at hk
  refine F285.l1.to (qe5 h ?_)
  rw[qck (by omega)]
  simp only[zv,show ¬((-1:Int)=6) by decide]
  refine F285.k3.to (qm2 h ?_)
  simp only[zv,this,show (((0:Nat):Int)=0)=True by simp]
  exact hk
theorem qjm (hle:ks.length≤64) (p:Int):qaq ks p=0∨(0≤p∧p.toNat+qaq ks p≤ks.length):=by
 by_cases c:csz (kAt ks p)>0
 ·have hp:=qgp hle (p:=p) (by intro e;rw[e] at c;exact absurd c (by decide))
  right
  unfold qaq
  rw[if_pos c]
  omega
 ·by_cases d:kAt ks p=5
  ·have hp:=qgp hle (p:=p) (by rw[d];decide)
   right
   unfold qaq
   rw[if_neg c,if_pos d]
   have:=(qgh (ks.drop (p.toNat+1))).1
   rw[y3c] at this
   omega
  ·left
   unfold qaq
   rw[if_neg c,if_neg d]
theorem qn6 {p n:Nat} {k:Int} (h:p+n+1≤ks.length):(qbi ks p n k).set (p+n) k=qbi ks p (n+1) k:=by
 unfold qbi
 apply y2r
 intro i
 rw[y2u,qkl (by omega),qkl (by omega)]
 by_cases c:p+n=i
 ·subst c
  rw[if_pos rfl,if_pos (by simp;omega),if_pos (by omega)]
 ·rw[if_neg c]
  by_cases d:p≤i∧i<p+n
  ·rw[if_pos d,if_pos (by omega)]
  ·rw[if_neg d,if_neg (by omega)]
theorem qn7 {p:Nat} {k:Int}:qbi ks p 0 k=ks:=by
 unfold qbi
 simp
theorem qhk (l:List Int) (j:Nat) (n:Int):(qag l).set j [y4w j6 n]=qag (l.set j n):=by simp[qag,List.map_set]
theorem qwf {W:World} {p n:Nat} {y:Value} (hW:qbh W b kv ks) (hp:p+n≤ks.length) (hk:∀w',Fr (qaa kv) W w'→qbh w' b kv (qbi ks p n 0)→K y w'):
  ∀(d j:Nat) (w:World),n=j+d→Fr (qaa kv) W w→qbh w b kv (qbi ks p j 0)→F264.l3 K (y4x (some ⟨b,0,none⟩)) (y4w j6 (p:Int)) y (y4w j6 (n:Int)) (y4w j6 (j:Int)) w:=by
 have hle:=hW.le
 intro d
 induction d with
 | zero=>
  intro j w hd hf hP
  refine F264.l3.to ?_
  simp only[zv,show ¬((j:Int)<(n:Int)) by omega]
  rw[show j=n by omega] at hP
  exact F264.k7.to (hk w hf hP)
 | succ d ih=>
  intro j w hd hf hP
  refine F264.l3.to ?_
  simp only[zv,show ((j:Int)<(n:Int)) by omega]
  refine F264.k4.to ?_
  simp only[zv]
  refine C.ad (v:=kv) hP.blk rfl ?_
  rw[qab (n:=(p:Int)+j) (by omega),show (p:Int)+j=((p+j:Nat):Int) by omega]
  have hl:=qbx (ks:=ks) (p:=p) (n:=j) (k:=0) (by omega)
  refine C.bz (x:=y4w j6 0) hP.own (by omega) (by rw[qak,hl];omega) rfl (by intro u hu;simp[Value.cells] at hu;subst hu;rfl) fun w1 ho1 hf1 _=>?_
  rw[y2t] at ho1
  have ho1:qad w1 kv 3 1 (qag (qbi ks p (j+1) 0)):=by
   rw[←qn6 (by omega), ←qhk]
   exact ho1
  refine F264.k6.to ?_
  simp only[C.a6]
  rw[qab (n:=(j:Int)+1) (by omega),show (j:Int)+1=((j+1:Nat):Int) by omega]
  exact ih (j+1) w1 (by omega) (hf.trans (hf1.mono fun x hx=>hx)) ⟨hf1.at_ hP.blk hP.nb,ho1,by rw[qbx (by omega)];exact hle⟩
theorem qr9 {p:Int} (h:qbh w b kv ks) (hk:∀w',Fr (qaa kv) w w'→qbh w' b kv (qhl ks p)→K (y4w j6 (qaq ks p:Nat)) w'):C.i y5c 264 #[y4x (some ⟨b,0,none⟩),y4w j6 p] w K:=by
 refine F264.sh (qm2 h ?_)
 unfold qhl at hk
 rcases qjm h.le p with e | ⟨hp,hl⟩
 ·rw[if_pos e] at hk
  rw[e] at hk ⊢
  refine F264.l3.to ?_
  simp only[zv,show ¬((0:Int)<((0:Nat):Int)) by omega]
  exact F264.k7.to (hk w (Fr.refl _ _) h)
 ·by_cases e:qaq ks p=0
  ·rw[if_pos e] at hk
   rw[e] at hk ⊢
   refine F264.l3.to ?_
   simp only[zv,show ¬((0:Int)<((0:Nat):Int)) by omega]
   exact F264.k7.to (hk w (Fr.refl _ _) h)
  ·rw[if_neg e] at hk
   obtain⟨p,rfl⟩:=y1b hp
   rw[y2t] at hl hk
   exact qwf h hl hk _ 0 w (by rw[y4k]) (Fr.refl _ _) (by rw[qn7];exact h)
theorem qr5 {a:Value} {x:List Int} {n:Int} (ha:RdS w a 1 (qag x)) (h1:∀j:Nat,x[j]?=some n→(∀i,i<j→x[i]?≠some n)→K (y4w j6 (j:Int)) w) (h2:n∉x→K (y4w j6 (-1)) w):C.i y5c 125 #[a,y4w j6 n] w K:=by
 have hle:=ha.le
 rw[qak] at hle
 refine F125.sh (C.bg ha ?_)
 rw[qak]
 have key:∀(d j:Nat),x.length=j+d→(∀i,i<j→x[i]?≠some n)→F125.l2 K a (y4w j6 n) (y4w j6 (x.length:Int)) (y4w j6 (j:Int)) w:=by
  intro d
  induction d with
  | zero=>
   intro j hd hno
   refine F125.l2.to ?_
   simp only[zv,show ¬((j:Int)<(x.length:Int)) by omega]
   refine F125.k7.to (h2 fun hm=>?_)
   obtain⟨i,hi,e⟩:=y1y hm
   exact hno i (by omega) (by rw[y0v hi,e])
  | succ d ih=>
   intro j hd hno
   have jx:j<x.length:=by omega
   refine F125.l2.to ?_
   simp only[zv,show ((j:Int)<(x.length:Int)) by omega]
   refine F125.k3.to (C.bx ha jx fun g o cs e fz hg hc=>C.ad hg hc ?_)
   simp only[C.az]
   by_cases hn:n=x[j]
   ·rw[decide_eq_true hn]
    simp only[C.ah]
    exact h1 j (by rw[y0v jx,hn]) hno
   ·simp only[zv,hn]
    refine F125.k6.to ?_
    simp only[C.a6]
    rw[qab (n:=(j:Int)+1) (by omega),show (j:Int)+1=((j+1:Nat):Int) by omega]
    refine ih (j+1) (by omega) fun i hi=>?_
    by_cases e:i=j
    ·subst e
     rw[y0v jx]
     intro hc
     exact hn (y3k hc).symm
    ·exact hno i (by omega)
 exact key x.length 0 (by omega) fun i hi=>by omega
theorem qh8 {a:Value} {x:List Int} {n:Int} (ha:RdS w a 1 (qag x)) (h:K (y5a (decide (n∈x))) w):C.i y5c 85 #[a,y4w j6 n] w K:=by
 refine F85.sh (qr5 ha (fun j hj _=>?_) fun hn=>?_)
 ·simp only[zv,show ((j:Int)≥0) by omega]
  rwa [decide_eq_true (y1r hj)] at h
 ·simp only[zv,show ¬((-1:Int)≥0) by omega]
  rwa [decide_eq_false hn] at h
theorem qy9 {k:Int} (hk:csz k≠0) {j:Nat} (hj:ks[j]?=some 0) (hno:∀i,i<j→ks[i]?≠some 0):qeq ks k=some j:=by
 unfold qeq
 rw[if_neg hk,y0a]
 obtain⟨h1,h2⟩:=y0m.1 hj
 refine⟨h1,by simpa using h2,fun i hi=>?_⟩
 have:=hno i hi
 rw[y0v (by omega)] at this
 simpa using this
theorem qqb {k:Int} (h:csz k=0∨0∉ks):qeq ks k=none:=by
 unfold qeq
 by_cases c:csz k=0
 ·rw[if_pos c]
 ·rw[if_neg c,y0s]
  rcases h with h | h
  ·exact absurd h c
  ·intro x hx
   simp only[decide_eq_false_iff_not]
   exact fun e=>h (e ▸ hx)
theorem zbg {k:Int} (h:qbh w b kv ks) (h0:qeq ks k=none→K (y4z #[y4w j6 0,y5a false]) w) (h1:∀p w',qeq ks k=some p→p<ks.length→Fr (qaa kv) w w'→qbh w' b kv (ks.set p k)→K (y4z #[y4w j6 (p:Int),y5a true]) w'):
  C.i y5c 252 #[y4x (some ⟨b,0,none⟩),y4w j6 k] w K:=by
 refine F252.sh ⟨_,qan _ _ _ Tryz.underlying234,?_⟩
 simp only[zv]
 refine qcn ?_
 by_cases c:csz k=0
 ·simp only[zv,eq_self,c]
  exact h0 (qqb (.inl c))
 simp only[zv,c]
 refine F252.k3.to ?_
 simp only[zv]
 refine C.ad (v:=kv) h.blk rfl (qr5 h.own.rd (fun j hj hno=>?_) fun hn=>?_)
 ·have hjl:=(y0m.1 hj).1
  simp only[zv,show ¬((j:Int)<0) by omega]
  refine F252.k6.to ?_
  simp only[zv]
  refine C.ad (v:=kv) h.blk rfl ?_
  refine C.bz (x:=y4w j6 k) h.own (by omega) (by rw[qak];omega) rfl (by intro u hu;simp[Value.cells] at hu;subst hu;rfl) fun w1 ho1 hf1 _=>?_
  rw[y2t] at ho1
  exact h1 j w1 (qy9 c hj hno) hjl hf1 ⟨hf1.at_ h.blk h.nb,by rw[←qhk];exact ho1,by simpa using h.le⟩
 ·simp only[zv,show ((-1:Int)<0) by omega]
  exact h0 (qqb (.inr hn))
end
structure qcg (w:World) (lr:Nat) (st:LoopState) (pe:Option Code) (n:Nat) (ps:Array Tmp) (aa bd:Code) (env:Env):Prop where
 at_:∃r,w.heap[lr]?=some (.loop r)∧r.state=st∧r.pending=pe∧r.tmps.size=n∧r.params=ps∧r.assign=aa∧r.body=bd∧∀t v,lkT env t=some v→r.tmps[t]?=some v
section
variable {w:World} {lr:Nat} {st:LoopState} {pe:Option Code} {n:Nat} {ps:Array Tmp} {aa bd:Code} {env:Env}
theorem qcg.keep {S:List Nat} {w':World} (h:qcg w lr st pe n ps aa bd env) (hf:Fr S w w') (hS:lr∉S):qcg w' lr st pe n ps aa bd env:=by
 obtain⟨r,h1,h2⟩:=h.at_
 exact⟨r,hf.at_ h1 hS,h2⟩
theorem qbc {a b:Nat} {o o':Obj} (h:w.heap[a]?=some o) (h':w.heap[b]?=some o') (hne:o≠o'):a≠b:=fun e=>by
 subst e
 rw[h] at h'
 exact hne (y3k h')
theorem qcg.off {b:Nat} {o:Obj} (h:qcg w lr st pe n ps aa bd env) (hb:w.heap[b]?=some o) (hne:∀r,o ≠ .loop r):b≠lr:=by
 obtain⟨r,h1,_⟩:=h.at_
 exact qbc hb h1 (hne r)
theorem qcg.offS {v:Value} {e:TypeId} {sz:Nat} {xs:List (List Value)} (h:qcg w lr st pe n ps aa bd env) (ho:qad w v e sz xs):lr∉qaa v:=by
 obtain⟨r,h1,_⟩:=h.at_
 exact ho.no h1 (by simp)
theorem qcg.begin_ {F:World→Prop} (h:qcg w lr .ready pe n ps aa bd env) (hk:∀w',Fr [lr] w w'→qcg w' lr .busy pe n ps aa bd env→F w'):C.cy lr w F:=by
 obtain⟨r,h1,h2,h3,h4⟩:=h.at_
 have hu:=qkp (o := .loop { r with state := .busy }) h1
 exact⟨r,h1,h2,hk _ hu.fr ⟨_,hu.at_,rfl,h3,h4⟩⟩
theorem qcg.end_ {K:VK} {pe':Option Code} {b:Bool} {st':LoopState} (h:qcg w lr st pe n ps aa bd env) (hk:∀w',Fr [lr] w w'→qcg w' lr st' pe' n ps aa bd env→K (y5a b) w'):C.cv lr pe' b st' w K:=by
 obtain⟨r,h1,h2,h3,h4⟩:=h.at_
 have hu:=qkp (o := .loop { r with state:=st',pending:=pe' }) h1
 exact⟨r,h1,hk _ hu.fr ⟨_,hu.at_,rfl,rfl,h4⟩⟩
theorem qk1 {P:Program} {f:Nat} {first captured:Array Value} {K:Nat→Option Code→World→Prop} (hb:qb7 P f=true)
  (h:∀lr D w1,Fr [] w w1→w.heap.size≤lr→w.heap.size≤D→qcg w1 lr .ready none n ps aa bd env→w1.heap[D]?=some (.deferred (some []))→
   C.i P f (first.toList ++ ([Value.func (.yield lr) #[] #[]] ++ captured.toList)).toArray w1 fun _ w2=>∃rec,w2.heap[lr]?=some (.loop rec)∧rec.state ≠ .busy∧K D rec.pending (w2.putObj lr (.loop { rec with state := .exhausted }))):
  C.cg P n (.func (.func f) first captured) ps aa bd env w K:=by
 simp only[C.cg,hb,cond_true]
 intro fn tmps hsz henv
 have hw3:=New.mk' w (.deferred (some []))
 have hw4:=New.mk' (w.alloc (.deferred (some []))) (.loop { state := .ready,pending:=none,fn:=fn,tmps:=tmps,params:=ps,assign:=aa,body:=bd,defers:=w.heap.size })
 have z3:=hw3.sz
 have hD4:=hw4.fr.at_ hw3.at_ (by simp)
 have hl4:=hw4.at_
 rw[z3] at hl4
 exact h (w.heap.size+1) w.heap.size _ (hw3.fr.trans hw4.fr) (by omega) (y4q _) ⟨_,hl4,rfl,rfl,hsz,rfl,rfl,rfl,henv⟩ hD4
theorem qcg.exit_ (h:qcg w lr st pe n ps aa bd env) (hst:st ≠ .busy):∃rec,w.heap[lr]?=some (.loop rec)∧rec.state ≠ .busy∧rec.pending=pe∧Fr [lr] w (w.putObj lr (.loop { rec with state := .exhausted })):=by
 obtain⟨r,h1,h2,h3,h4⟩:=h.at_
 have hu:=qkp (o := .loop { r with state := .exhausted }) h1
 exact⟨r,h1,by rw[h2];exact hst,h3,hu.fr⟩
theorem qli {D:Nat} {F:World→Prop} (h:w.heap[D]?=some (.deferred (some []))) (hk:∀w',Fr [D] w w'→F w'):C.cd (y4w j6 (D:Int)) w F:=by
 have hu:=qkp (o := .deferred none) h
 refine⟨by rw[y2t];exact h,?_⟩
 rw[y2t]
 exact hk _ hu.fr
end
section
variable {K:VK} {w:World} {b:Nat} {kv:Value} {ks:List Int}
theorem qxa {lr:Nat} {J:Nat→Nat→World→Prop} {X:World→Prop} (hle:ks.length≤64) (hP:∀p n w,J p n w→qbh w b kv ks)
  (h0:∀p n w,p<ks.length→J p n w→kAt ks (p:Int)=0→J (p+1) (n+1) w) (h1:∀p w,p≤ks.length→J p 0 w→kAt ks (p:Int)≠0→J (p+1) 0 w)
  (h2:∀p n w (K':VK),p≤ks.length→0<n→J p n w→kAt ks (p:Int)≠0→(∀w',J (p+1) 0 w'→K' (y5a true) w')→(∀w',X w'→K' (y5a false) w')→C.ch y5c lr #[y4w j6 ((p:Int)-n),y4w j6 (n:Int)] w K')
  (hE:∀w',J (ks.length+1) 0 w'→K (y4z #[]) w') (hX:∀w',X w'→K (y4z #[]) w'):
  ∀(d p n:Nat) (w:World),ks.length+1=p+d→n≤p→J p n w→(p=ks.length+1→n=0)→F242.l3 K (y4x (some ⟨b,0,none⟩)) (.func (.yield lr) #[] #[]) (y4w j6 (n:Int)) (y4w j6 ((ks.length+1:Nat):Int)) (y4w j6 (p:Int)) w:=by
 intro d
 induction d with
 | zero=>
  intro p n w hd hnp hJ hz
  refine F242.l3.to ?_
  simp only[zv,show ¬((p:Int)<((ks.length+1:Nat):Int)) by omega]
  have e:p=ks.length+1:=by omega
  have en:=hz e
  subst e
  subst en
  exact hE w hJ
 | succ d ih=>
  intro p n w hd hnp hJ hz
  have next:∀(n':Nat) w',n'≤p+1→J (p+1) n' w'→(p=ks.length→n'=0)→F242.k9 K (y4x (some ⟨b,0,none⟩)) (.func (.yield lr) #[] #[]) (y4w j6 (n':Int)) (y4w j6 ((ks.length+1:Nat):Int)) (y4w j6 (p:Int)) w':=fun n' w' hn' hJ' hz'=>by
   refine F242.k9.to ?_
   simp only[C.a6]
   rw[qab (n:=(p:Int)+1) (by omega),show (p:Int)+1=((p+1:Nat):Int) by omega]
   exact ih (p+1) n' w' (by omega) hn' hJ' fun e=>hz' (by omega)
  refine F242.l3.to ?_
  simp only[zv,show ((p:Int)<((ks.length+1:Nat):Int)) by omega]
  refine F242.k4.to (qe5 (hP p n w hJ) ?_)
  by_cases c:kAt ks (p:Int)=0
  ·have hp:=qgp hle (p:=(p:Int)) (by rw[c];decide)
   simp only[zv,eq_self,c]
   rw[qab (n:=(n:Int)+1) (by omega),show (n:Int)+1=((n+1:Nat):Int) by omega]
   exact next (n+1) w (by omega) (h0 p n w (by omega) hJ c) fun e=>by omega
  ·simp only[zv,c]
   refine F242.k7.to ?_
   by_cases c0:n=0
   ·subst c0
    simp only[zv,show ¬(((0:Nat):Int)>0) by omega]
    exact F242.k8.to (next 0 w (by omega) (h1 p w (by omega) hJ c) fun _=>rfl)
   ·simp only[zv,show ((n:Int)>0) by omega]
    rw[qab (n:=(p:Int)-n) (by omega)]
    refine h2 p n w _ (by omega) (by omega) hJ c (fun w' hJ'=>?_) fun w' hX'=>?_
    ·simp only[zv]
     exact F242.k8.to (next 0 w' (by omega) hJ' fun _=>rfl)
    ·simp only[zv]
     exact hX w' hX'
theorem qw9 {lr:Nat} {J:Nat→Nat→World→Prop} {X:World→Prop} (hle:ks.length≤64) (hP:∀p n w,J p n w→qbh w b kv ks)
  (h0:∀p n w,p<ks.length→J p n w→kAt ks (p:Int)=0→J (p+1) (n+1) w) (h1:∀p w,p≤ks.length→J p 0 w→kAt ks (p:Int)≠0→J (p+1) 0 w)
  (h2:∀p n w (K':VK),p≤ks.length→0<n→J p n w→kAt ks (p:Int)≠0→(∀w',J (p+1) 0 w'→K' (y5a true) w')→(∀w',X w'→K' (y5a false) w')→C.ch y5c lr #[y4w j6 ((p:Int)-n),y4w j6 (n:Int)] w K')
  (hE:∀w',J (ks.length+1) 0 w'→K (y4z #[]) w') (hX:∀w',X w'→K (y4z #[]) w') (hJ:J 0 0 w):
  C.i y5c 242 #[y4x (some ⟨b,0,none⟩),.func (.yield lr) #[] #[]] w K:=by
 have hp:=hP 0 0 w hJ
 refine F242.sh ⟨_,qan _ _ _ Tryz.underlying234,?_⟩
 simp only[C.ac]
 refine F242.k1.to ?_
 simp only[zv]
 refine C.ad (v:=kv) hp.blk rfl (C.bg hp.own.rd ?_)
 rw[qak]
 simp only[C.a6]
 rw[qab (n:=(ks.length:Int)+1) (by omega),show (ks.length:Int)+1=((ks.length+1:Nat):Int) by omega]
 exact qxa hle hP h0 h1 h2 hE hX (ks.length+1) 0 0 w (by omega) (y4q _) hJ fun e=>by omega
theorem qku:qb7 y5c 242=true:=by kernel_rfl
structure CQ (W w:World) (b:Nat) (kv:Value) (ks:List Int) (lr D x3:Nat) (p n:Nat):Prop where
 fr:Fr [] W w
 pg:qbh w b kv ks
 rec_:qcg w lr .ready none 14 #[8,9] F241.as3 F241.bd3 [(7,(.func (.func 242) #[y4x (some ⟨b,0,none⟩)] #[])),(6,y4x (some ⟨b,0,none⟩)),(3,y4x (some ⟨x3,0,none⟩)),(2,(y4w j6 0)),(0,y4x (some ⟨b,0,none⟩))]
 df:w.heap[D]?=some (.deferred (some []))
 box:∃acc:Nat,w.heap[x3]?=some (.cells #[y4w j6 (acc:Int)] 3 (0,0))∧acc+n=(ks.take p).countP fun k=>decide (k=0)
 lo:W.heap.size≤lr∧W.heap.size≤D∧W.heap.size≤x3
theorem qv5 {p:Nat}:(ks.take p).countP (fun k=>decide (k=0))≤ks.length:=by
 have h1:=List.countP_le_length (p:=fun k:Int=>decide (k=0)) (l:=ks.take p)
 rw[y3b] at h1
 omega
theorem zaz (h:qbh w b kv ks) (hk:∀w',Fr [] w w'→K (y4w j6 (qa1 ks)) w'):C.i y5c 241 #[y4x (some ⟨b,0,none⟩)] w K:=by
 have hle:=h.le
 refine F241.sh (C.av fun x3 w1 hn1=>C.bb hn1.at_ rfl rfl (by simp) fun w2 hu2=>?_)
 have i1:=hn1.is
 have z1:=hn1.sz
 have z2:=hu2.sz
 have f2:Fr [] w w2:=hn1.fr.then hu2.fr fun z hz => .inr (by simp only[y2d] at hz;omega)
 refine qk1 qku fun lr D w3 hf3 hlr hD hR hdf=>?_
 refine qw9 (J:=fun p n w'=>CQ w w' b kv ks lr D x3 p n) (X:=fun _=>False) hle (fun p n w' hJ=>hJ.pg) (fun p n w' hp hJ hz=>?_) (fun p w' hp hJ hz=>?_) (fun p n w' K' hp hn hJ hz a _=>?_) (fun w' hJ=>?_) (fun _ e=>e.elim) ?_
 ·obtain⟨acc,a1,a2⟩:=hJ.box
  rw[qet hp] at hz
  refine⟨hJ.fr,hJ.pg,hJ.rec_,hJ.df,⟨acc,a1,?_⟩,hJ.lo⟩
  rw[y0b hp,List.countP_append]
  simp[hz]
  omega
 ·obtain⟨acc,a1,a2⟩:=hJ.box
  refine⟨hJ.fr,hJ.pg,hJ.rec_,hJ.df,⟨acc,a1,?_⟩,hJ.lo⟩
  by_cases e:p<ks.length
  ·rw[qet e] at hz
   rw[y0b e,List.countP_append, ←a2]
   simp[hz]
  ·rw[y1f (by omega)] at a2 ⊢
   exact a2
 ·obtain⟨acc,a1,a2⟩:=hJ.box
  obtain⟨r,r1,r2,r3,r4,r5,r6,r7,r8⟩:=hJ.rec_.at_
  have hcl:=qv5 (ks:=ks) (p:=p)
  refine R241_3.yield (y3:=y4x (some ⟨x3,0,none⟩)) r1 r4 r5 r6 r7 (fun t v hv=>?_) (hJ.rec_.begin_ fun w4 hf4 hR4=>?_)
  ·refine qwb (env:=[(3,y4x (some ⟨x3,0,none⟩))]) (fun x hx=>?_) t v hv
   simp only[y4b,y3i,or_false] at hx
   subst hx
   exact r8 3 _ rfl
  ·have nx:=hJ.rec_.off a1 (by simp)
   have nb:=hJ.rec_.off hJ.pg.blk (by simp)
   have nk:=hJ.rec_.offS hJ.pg.own
   have nd:=hJ.rec_.off hJ.df (by simp)
   have a14:=hf4.at_ a1 (by simpa using nx)
   have p4:=hJ.pg.keep hf4 (by simpa using nb) fun g hg e=>by simp only[y2d] at e;subst e;exact nk hg
   have d4:=hJ.df |> fun q=>hf4.at_ q (by simpa using nd)
   refine C.ad (v:=y4w j6 (acc:Int)) a14 rfl ?_
   simp only[C.a6]
   rw[qab (n:=(acc:Int)+n) (by omega),show (acc:Int)+n=((acc+n:Nat):Int) by omega]
   refine C.bb a14 rfl rfl (by simp) fun w5 hu5=>?_
   have s5:=hJ.fr.size
   have f5:Fr [] w w5:=(hJ.fr.then hf4 fun z hz => .inr (by simp only[y2d] at hz;have:=hJ.lo;omega)).then hu5.fr fun z hz => .inr (by simp only[y2d] at hz;have:=hJ.lo;omega)
   have p5:qbh w5 b kv ks:=h.keep0 f5
   have R5:=hR4.keep hu5.fr (by simp;exact fun e=>nx e.symm)
   have d5:=hu5.fr.at_ d4 (by simp;exact fun e=>qbc d4 a14 (by simp) e)
   refine R5.end_ fun w6 hf6 hR6=>a w6 ?_
   have f6:Fr [] w w6:=f5.then hf6 fun z hz => .inr (by simp only[y2d] at hz;have:=hJ.lo;omega)
   refine⟨f6,h.keep0 f6,hR6,hf6.at_ d5 (by simpa using nd),⟨acc+n,hf6.at_ hu5.at_ (by simpa using nx),?_⟩,hJ.lo⟩
   rw[y4j]
   by_cases e:p<ks.length
   ·rw[qet e] at hz
    rw[y0b e,List.countP_append, ←a2]
    simp[hz]
   ·rw[y1f (by omega)] at a2 ⊢
    exact a2
 ·obtain⟨acc,a1,a2⟩:=hJ.box
  obtain⟨rec,e1,e2,e3,hf4⟩:=hJ.rec_.exit_ (by simp)
  refine⟨rec,e1,e2,?_⟩
  generalize w'.putObj lr (.loop { rec with state := .exhausted })=w4 at *
  rw[e3]
  have nx:=hJ.rec_.off a1 (by simp)
  have nd:=hJ.rec_.off hJ.df (by simp)
  show F241.k5 K (y4x (some ⟨x3,0,none⟩)) (y4w j6 (D:Int)) w4
  refine F241.k5.to (C.ad (v:=y4w j6 (acc:Int)) (hf4.at_ a1 (by simpa using nx)) rfl ?_)
  refine qli (hf4.at_ hJ.df (by simpa using nd)) fun w5 hf5=>?_
  rw[y1f (by omega),y4j] at a2
  rw[a2]
  exact hk w5 ((hJ.fr.then hf4 fun z hz => .inr (by simp only[y2d] at hz;have:=hJ.lo;omega)).then hf5 fun z hz => .inr (by simp only[y2d] at hz;have:=hJ.lo;omega))
 ·have f3:=f2.trans hf3
  have s2:=f2.size
  exact⟨f3,h.keep0 f3,hR,hdf,⟨0,hf3.at_ hu2.at_ (by simp),by simp⟩,by omega⟩
structure SQ (W w:World) (b:Nat) (kv:Value) (ks:List Int) (N:Int) (lr D x2 x3 x4 x5:Nat) (st:LoopState) (pe:Option Code) (y4 y5:Value):Prop where
 fr:Fr (qaa kv) W w
 pg:qbh w b kv ks
 rec_:qcg w lr st pe 38 #[13,14] F176.as4 F176.bd4 [(12,(.func (.func 242) #[y4x (some ⟨b,0,none⟩)] #[])),(11,y4x (some ⟨b,0,none⟩)),(2,y4x (some ⟨x2,0,none⟩)),(3,y4x (some ⟨x3,0,none⟩)),(4,y4x (some ⟨x4,0,none⟩)),(5,y4x (some ⟨x5,0,none⟩))]
 df:w.heap[D]?=some (.deferred (some []))
 c2:w.heap[x2]?=some (.cells #[y4x (some ⟨b,0,none⟩)] 234 (0,0))
 c3:w.heap[x3]?=some (.cells #[y4w j6 N] 3 (0,0))
 c4:w.heap[x4]?=some (.cells #[y4] 3 (0,0))
 c5:w.heap[x5]?=some (.cells #[y5] 4 (0,0))
 lo:W.heap.size≤lr∧W.heap.size≤D∧W.heap.size≤x2∧W.heap.size≤x3∧W.heap.size≤x4∧W.heap.size≤x5∧x3≠x4∧(∀g∈qaa kv,g<W.heap.size)∧b<W.heap.size
section
variable {W:World} {N:Int} {lr D x2 x3 x4 x5:Nat} {st:LoopState} {pe:Option Code} {y4 y5:Value}
theorem SQ.list {w':World} {ks':List Int} (h:SQ W w b kv ks N lr D x2 x3 x4 x5 st pe y4 y5) (hf:Fr (qaa kv) w w') (hp:qbh w' b kv ks'):SQ W w' b kv ks' N lr D x2 x3 x4 x5 st pe y4 y5:=by
 have no:∀ {z:Nat},W.heap.size≤z→z∉qaa kv:=fun hz hg=>by have:=h.lo.2.2.2.2.2.2.2.1 _ hg;omega
 have l:=h.lo
 exact⟨h.fr.trans hf,hp,h.rec_.keep hf (no l.1),hf.at_ h.df (no l.2.1),hf.at_ h.c2 (no l.2.2.1),hf.at_ h.c3 (no l.2.2.2.1),hf.at_ h.c4 (no l.2.2.2.2.1),hf.at_ h.c5 (no l.2.2.2.2.2.1),h.lo⟩
theorem SQ.recd {w':World} {st':LoopState} {pe':Option Code} (h:SQ W w b kv ks N lr D x2 x3 x4 x5 st pe y4 y5) (hf:Fr [lr] w w') (hr:qcg w' lr st' pe' 38 #[13,14] F176.as4 F176.bd4 [(12,(.func (.func 242) #[y4x (some ⟨b,0,none⟩)] #[])),(11,y4x (some ⟨b,0,none⟩)),(2,y4x (some ⟨x2,0,none⟩)),(3,y4x (some ⟨x3,0,none⟩)),(4,y4x (some ⟨x4,0,none⟩)),(5,y4x (some ⟨x5,0,none⟩))]):
  SQ W w' b kv ks N lr D x2 x3 x4 x5 st' pe' y4 y5:=by
 have l:=h.lo
 have k:∀ {z:Nat} {o:Obj},w.heap[z]?=some o→(∀r,o ≠ .loop r)→w'.heap[z]?=some o:=fun hz hne=>hf.at_ hz (by simp;exact h.rec_.off hz hne)
 refine⟨h.fr.then hf fun z hz => .inr (by simp only[y2d] at hz;omega),h.pg.keep hf (by simp;exact h.rec_.off h.pg.blk (by simp)) (fun g hg e=>by simp only[y2d] at e;subst e;exact h.rec_.offS h.pg.own hg),hr,k h.df (by simp),k h.c2 (by simp),k h.c3 (by simp),k h.c4 (by simp),k h.c5 (by simp),l⟩
end
theorem qep {n:Nat} {p run:Nat}:qde n (ks.drop p) p run=if p<ks.length then (if kAt ks (p:Int)=0 then qde n (ks.drop (p+1)) (p+1) (run+1) else if 0<run∧n≤run then some (p-run) else qde n (ks.drop (p+1)) (p+1) 0) else if n≤run then some (p-run) else none:=by
 by_cases c:p<ks.length
 ·rw[if_pos c,qet c,y0o c]
  rfl
 ·rw[if_neg c,y1e (by omega)]
  rfl
theorem qz1 {W:World} {N:Int} {lr D x2 x3 x4 x5 p n:Nat} {y4 y5:Value} {K':VK} {ks0:List Int} (hl:p+n≤ks0.length) (hn1:1≤n)
  (h:∀w',SQ W w' b kv ((qbi ks0 p n 6).set p 5) N lr D x2 x3 x4 x5 .done (some .ret) (y4w j6 (p:Int)) (y5a true)→K' (y5a false) w'):
  ∀(d j:Nat) (w:World),n=j+d→SQ W w b kv (qbi ks0 p j 6) N lr D x2 x3 x4 x5 .busy none y4 y5→
   R176_4.l8 lr K' (y4x (some ⟨x2,0,none⟩)) (y4x (some ⟨x4,0,none⟩)) (y4x (some ⟨x5,0,none⟩)) (y4w j6 (p:Int)) (y4w j6 (n:Int)) (y4w j6 (j:Int)) w:=by
 intro d
 induction d with
 | zero=>
  intro j w hd hQ
  have e:j=n:=by omega
  subst e
  have hle:=hQ.pg.le
  have hpl:=qbx (ks:=ks0) (p:=p) (n:=j) (k:=6) hl
  refine R176_4.l8.to ?_
  simp only[zv,show ¬((j:Int)<(j:Int)) by omega]
  refine R176_4.k12.to (C.ad (v:=y4x (some ⟨b,0,none⟩)) hQ.c2 rfl ?_)
  simp only[zv]
  refine C.ad (v:=kv) hQ.pg.blk rfl ?_
  refine C.bz (x:=y4w j6 5) hQ.pg.own (by omega) (by rw[qak,hpl];omega) rfl (by intro u hu;simp[Value.cells] at hu;subst hu;rfl) fun w1 ho1 hf1 _=>?_
  rw[y2t] at ho1
  have Q1:=hQ.list (ks':=(qbi ks0 p j 6).set p 5) (hf1.mono fun x hx=>hx) ⟨hf1.at_ hQ.pg.blk hQ.pg.nb,by rw[←qhk];exact ho1,by simpa using hle⟩
  have l:=Q1.lo
  refine C.bb Q1.c4 rfl rfl (by simp) fun w2 hu2=>?_
  have k2:∀ {z:Nat} {o:Obj},z≠x4→w1.heap[z]?=some o→w2.heap[z]?=some o:=fun hz ho=>hu2.fr.at_ ho (by simpa using hz)
  have Q2:SQ W w2 b kv ((qbi ks0 p j 6).set p 5) N lr D x2 x3 x4 x5 .busy none (y4w j6 (p:Int)) y5:=
   ⟨Q1.fr.then hu2.fr fun z hz => .inr (by simp only[y2d] at hz;omega),Q1.pg.keep hu2.fr (by simp;omega) (fun g hg e=>by simp only[y2d] at e;have:=l.2.2.2.2.2.2.2.1 g hg;omega),Q1.rec_.keep hu2.fr (by simp;exact fun e=>Q1.rec_.off Q1.c4 (by simp) e.symm),k2 (qbc Q1.df Q1.c4 (by simp)) Q1.df,k2 (qbc Q1.c2 Q1.c4 (by simp)) Q1.c2,k2 l.2.2.2.2.2.2.1 Q1.c3,hu2.at_,k2 (qbc Q1.c5 Q1.c4 (by simp)) Q1.c5,l⟩
  refine C.bb Q2.c5 rfl rfl (by simp) fun w3 hu3=>?_
  have k3:∀ {z:Nat} {o:Obj},z≠x5→w2.heap[z]?=some o→w3.heap[z]?=some o:=fun hz ho=>hu3.fr.at_ ho (by simpa using hz)
  have Q3:SQ W w3 b kv ((qbi ks0 p j 6).set p 5) N lr D x2 x3 x4 x5 .busy none (y4w j6 (p:Int)) (y5a true):=
   ⟨Q2.fr.then hu3.fr fun z hz => .inr (by simp only[y2d] at hz;omega),Q2.pg.keep hu3.fr (by simp;omega) (fun g hg e=>by simp only[y2d] at e;have:=l.2.2.2.2.2.2.2.1 g hg;omega),Q2.rec_.keep hu3.fr (by simp;exact fun e=>Q2.rec_.off Q2.c5 (by simp) e.symm),k3 (qbc Q2.df Q2.c5 (by simp)) Q2.df,k3 (qbc Q2.c2 Q2.c5 (by simp)) Q2.c2,k3 (qbc Q2.c3 Q2.c5 (by simp)) Q2.c3,k3 (qbc Q2.c4 Q2.c5 (by simp)) Q2.c4,hu3.at_,l⟩
  exact Q3.rec_.end_ fun w4 hf4 hR4=>h w4 (Q3.recd hf4 hR4)
 | succ d ih=>
  intro j w hd hQ
  have hle:=hQ.pg.le
  have hpl:=qbx (ks:=ks0) (p:=p) (n:=j) (k:=6) (by omega)
  refine R176_4.l8.to ?_
  simp only[zv,show ((j:Int)<(n:Int)) by omega]
  refine R176_4.k9.to (C.ad (v:=y4x (some ⟨b,0,none⟩)) hQ.c2 rfl ?_)
  simp only[zv]
  refine C.ad (v:=kv) hQ.pg.blk rfl ?_
  rw[qab (n:=(p:Int)+j) (by omega),show (p:Int)+j=((p+j:Nat):Int) by omega]
  refine C.bz (x:=y4w j6 6) hQ.pg.own (by omega) (by rw[qak,hpl];omega) rfl (by intro u hu;simp[Value.cells] at hu;subst hu;rfl) fun w1 ho1 hf1 _=>?_
  rw[y2t] at ho1
  have ho1:qad w1 kv 3 1 (qag (qbi ks0 p (j+1) 6)):=by
   rw[←qn6 (by omega), ←qhk]
   exact ho1
  have Q1:=hQ.list (ks':=qbi ks0 p (j+1) 6) (hf1.mono fun x hx=>hx) ⟨hf1.at_ hQ.pg.blk hQ.pg.nb,ho1,by rw[qbx (by omega)];omega⟩
  refine R176_4.k11.to ?_
  simp only[C.a6]
  rw[qab (n:=(j:Int)+1) (by omega),show (j:Int)+1=((j+1:Nat):Int) by omega]
  exact ih (j+1) w1 (by omega) Q1
theorem zd9 {N:Int} (h:qbh w b kv ks) (hN:N≤64) (h0:qd4 ks N=none→∀w',Fr [] w w'→K (y4z #[y4w j6 0,y5a false]) w')
  (h1:∀p w',qd4 ks N=some p→1≤N→p+N.toNat≤ks.length→Fr (qaa kv) w w'→qbh w' b kv ((qbi ks p N.toNat 6).set p 5)→K (y4z #[y4w j6 (p:Int),y5a true]) w'):
  C.i y5c 176 #[y4x (some ⟨b,0,none⟩),y4w j6 N] w K:=by
 have hle:=h.le
 refine F176.sh (C.av fun x2 w1 hn1=>C.av fun x3 w2 hn2=>C.av fun x4 w3 hn3=>C.av fun x5 w4 hn4=>?_)
 have i1:=hn1.is;have i2:=hn2.is;have i3:=hn3.is;have i4:=hn4.is
 have z1:=hn1.sz;have z2:=hn2.sz;have z3:=hn3.sz;have z4:=hn4.sz
 have f4:Fr [] w w4:=hn1.fr.trans (hn2.fr.trans (hn3.fr.trans hn4.fr))
 have d2:w4.heap[x2]?=some (.cells #[y4x (some ⟨b,0,none⟩)] 234 (0,0)):=(hn2.fr.trans (hn3.fr.trans hn4.fr)).at_ hn1.at_ (by simp)
 have d3:w4.heap[x3]?=some (.cells #[y4w j6 N] 3 (0,0)):=(hn3.fr.trans hn4.fr).at_ hn2.at_ (by simp)
 have d4:=hn4.fr.at_ hn3.at_ (by simp)
 have d5:=hn4.at_
 refine C.ad (v:=y4w j6 N) d3 rfl ?_
 by_cases c:N<1
 ·simp only[zv,c]
  refine C.bb d4 rfl rfl (by simp) fun w5 hu5=>C.bb (hu5.fr.at_ d5 (by simp;omega)) rfl rfl (by simp) fun w6 hu6=>?_
  refine C.ad (v:=y4w j6 0) (hu6.fr.at_ hu5.at_ (by simp;omega)) rfl (C.ad (v:=y5a false) hu6.at_ rfl ?_)
  exact h0 (by unfold qd4;rw[if_pos c]) w6 ((f4.then hu5.fr fun z hz => .inr (by simp only[y2d] at hz;omega)).then hu6.fr fun z hz => .inr (by simp only[y2d] at hz;omega))
 simp only[zv,c]
 obtain⟨n,rfl⟩:=y1b (show 0≤N by omega)
 rw[y2t] at h1
 refine F176.k3.to (C.ad (v:=y4x (some ⟨b,0,none⟩)) d2 rfl ?_)
 have hkv:=h.own.mem_lt
 have hbl:=qac h.blk
 have sp:qd4 ks (n:Int)=qde n (ks.drop 0) 0 0:=by unfold qd4;rw[if_neg c,y2t,List.drop_zero]
 refine qk1 qku fun lr D w5 hf5 hlr hD hR hdf=>?_
 have f5:=f4.trans hf5
 have s4:=f4.size
 have told:∀w' y4 y5 ks',SQ w w' b kv ks' (n:Int) lr D x2 x3 x4 x5 .done (some .ret) y4 y5→(∀w'',Fr (qaa kv) w w''→qbh w'' b kv ks'→K (y4z #[y4,y5]) w'')→∃rec,w'.heap[lr]?=some (.loop rec)∧rec.state ≠ .busy∧C.c1 rec.pending (F176.k14 K (y4x (some ⟨x4,0,none⟩)) (y4x (some ⟨x5,0,none⟩)) (y4w j6 (D:Int)) (w'.putObj lr (.loop { rec with state := .exhausted }))) (C.cd (y4w j6 (D:Int)) (w'.putObj lr (.loop { rec with state := .exhausted })) fun w3=>
   C.ai (y4x (some ⟨x4,0,none⟩)) w3 fun r4 _=>C.ai (y4x (some ⟨x5,0,none⟩)) w3 fun r5 _=>K (y4z #[r4,r5]) w3) (fun id=>cond (Nat.beq id 0) (F176.k14 K (y4x (some ⟨x4,0,none⟩)) (y4x (some ⟨x5,0,none⟩)) (y4w j6 (D:Int)) (w'.putObj lr (.loop { rec with state := .exhausted }))) (False)):=by
  intro w' y4 y5 ks' Q hk
  obtain⟨rec,e1,e2,e3,hf6⟩:=Q.rec_.exit_ (by simp)
  refine⟨rec,e1,e2,?_⟩
  have l:=Q.lo
  have kp:∀ {z:Nat} {o:Obj},w'.heap[z]?=some o→(∀r,o ≠ .loop r)→(w'.putObj lr (.loop { rec with state := .exhausted })).heap[z]?=some o:=fun hz hne=>hf6.at_ hz (by simp;exact Q.rec_.off hz hne)
  have pg6:qbh (w'.putObj lr (.loop { rec with state := .exhausted })) b kv ks':=Q.pg.keep hf6 (by simp;exact Q.rec_.off Q.pg.blk (by simp)) (fun g hg e=>by simp only[y2d] at e;subst e;exact Q.rec_.offS Q.pg.own hg)
  have q2:=kp Q.df (by simp)
  have q4:=kp Q.c4 (by simp)
  have q5:=kp Q.c5 (by simp)
  generalize w'.putObj lr (.loop { rec with state := .exhausted })=w6 at *
  rw[e3]
  show C.cd (y4w j6 (D:Int)) w6 (fun w3=>C.ai (y4x (some ⟨x4,0,none⟩)) w3 fun r4 _=>C.ai (y4x (some ⟨x5,0,none⟩)) w3 fun r5 _=>K (y4z #[r4,r5]) w3)
  refine qli q2 fun w7 hf7=>C.ad (v:=y4) (hf7.at_ q4 (by simp;exact (qbc q2 q4 (by simp)).symm)) rfl (C.ad (v:=y5) (hf7.at_ q5 (by simp;exact (qbc q2 q5 (by simp)).symm)) rfl ?_)
  refine hk w7 ((Q.fr.then hf6 fun z hz => .inr (by simp only[y2d] at hz;omega)).then hf7 fun z hz => .inr (by simp only[y2d] at hz;omega)) (pg6.keep hf7 (by simp;omega) fun g hg e=>by simp only[y2d] at e;have:=l.2.2.2.2.2.2.2.1 g hg;omega)
 refine qw9 (ks:=ks) (J:=fun p r w'=>SQ w w' b kv ks (n:Int) lr D x2 x3 x4 x5 .ready none (y4w j6 0) (y5a false)∧Fr [] w w'∧r≤p∧(p≤ks.length→qd4 ks (n:Int)=qde n (ks.drop p) p r)∧(p=ks.length+1→qd4 ks (n:Int)=none))
  (X:=fun w'=>∃p,qd4 ks (n:Int)=some p∧p+n≤ks.length∧SQ w w' b kv ((qbi ks p n 6).set p 5) (n:Int) lr D x2 x3 x4 x5 .done (some .ret) (y4w j6 (p:Int)) (y5a true)) hle (fun p r w' hJ=>hJ.1.pg) (fun p r w' hp hJ hz=>?_) (fun p w' hp hJ hz=>?_) (fun p r w' K' hp hr hJ hz a x=>?_) (fun w' hJ=>?_) (fun w' hX=>?_) ?_
 ·obtain⟨j1,jf,j0,j2,j3⟩:=hJ
  refine⟨j1,jf,by omega,fun _=>?_,fun e=>by omega⟩
  rw[j2 (by omega),qep,if_pos hp,if_pos hz]
 ·obtain⟨j1,jf,j0,j2,j3⟩:=hJ
  by_cases e:p<ks.length
  ·refine⟨j1,jf,by omega,fun _=>?_,fun e=>by omega⟩
   rw[j2 (by omega),qep,if_pos e,if_neg hz,if_neg (by omega)]
  ·refine⟨j1,jf,by omega,fun e'=>by omega,fun _=>?_⟩
   rw[j2 (by omega),qep,if_neg e,if_neg (by omega)]
 ·obtain⟨j1,jf,j0,j2,j3⟩:=hJ
  obtain⟨rr,r1,r2,r3,r4,r5,r6,r7,r8⟩:=j1.rec_.at_
  refine R176_4.yield (y2:=y4x (some ⟨x2,0,none⟩)) (y3:=y4x (some ⟨x3,0,none⟩)) (y4:=y4x (some ⟨x4,0,none⟩)) (y5:=y4x (some ⟨x5,0,none⟩)) r1 r4 r5 r6 r7 (fun t v hv=>?_) (j1.rec_.begin_ fun w6 hf6 hR6=>?_)
  ·refine qwb (env:=[(2,y4x (some ⟨x2,0,none⟩)),(3,y4x (some ⟨x3,0,none⟩)),(4,y4x (some ⟨x4,0,none⟩)),(5,y4x (some ⟨x5,0,none⟩))]) (fun x hx=>?_) t v hv
   simp only[y4b,y3i,or_false] at hx
   rcases hx with rfl | rfl | rfl | rfl
   ·exact r8 2 _ rfl
   ·exact r8 3 _ rfl
   ·exact r8 4 _ rfl
   ·exact r8 5 _ rfl
  ·have Q6:=j1.recd hf6 hR6
   refine C.ad (v:=y4w j6 (n:Int)) Q6.c3 rfl ?_
   by_cases e:(r:Int)<(n:Int)
   ·simp only[zv,e]
    refine Q6.rec_.end_ fun w7 hf7 hR7=>a w7 ⟨Q6.recd hf7 hR7,(jf.then hf6 fun z hz => .inr (by simp only[y2d] at hz;omega)).then hf7 fun z hz => .inr (by simp only[y2d] at hz;omega),by omega,fun hp'=>?_,fun e'=>?_⟩
    ·rw[j2 (by omega),qep,if_pos (by omega),if_neg hz,if_neg (by omega)]
    ·rw[j2 (by omega),qep,if_neg (by omega),if_neg (by omega)]
   ·simp only[zv,e]
    have sp':qd4 ks (n:Int)=some (p-r):=by
     rw[j2 (by omega),qep]
     by_cases e':p<ks.length
     ·rw[if_pos e',if_neg hz,if_pos (by omega)]
     ·rw[if_neg e',if_pos (by omega)]
    rw[show (p:Int)-r=((p-r:Nat):Int) by omega]
    refine R176_4.k7.to (C.ad (v:=y4w j6 (n:Int)) Q6.c3 rfl ?_)
    refine qz1 (ks0:=ks) (p:=p-r) (n:=n) (y4:=y4w j6 0) (y5:=y5a false) (by omega) (by omega) (fun w7 Q7=>x w7 ⟨p-r,sp',by omega,Q7⟩) n 0 w6 (by omega) ?_
    rw[qn7]
    exact Q6
 ·obtain⟨j1,jf,j0,j2,j3⟩:=hJ
  obtain⟨rec,e1,e2,e3,hf6⟩:=j1.rec_.exit_ (by simp)
  refine⟨rec,e1,e2,?_⟩
  have l:=j1.lo
  have kp:∀ {z:Nat} {o:Obj},w'.heap[z]?=some o→(∀r,o ≠ .loop r)→(w'.putObj lr (.loop { rec with state := .exhausted })).heap[z]?=some o:=fun hz hne=>hf6.at_ hz (by simp;exact j1.rec_.off hz hne)
  have q2:=kp j1.df (by simp)
  have q4:=kp j1.c4 (by simp)
  have q5:=kp j1.c5 (by simp)
  generalize w'.putObj lr (.loop { rec with state := .exhausted })=w6 at *
  rw[e3]
  show F176.k14 K (y4x (some ⟨x4,0,none⟩)) (y4x (some ⟨x5,0,none⟩)) (y4w j6 (D:Int)) w6
  have n45:=qbc q4 q5 (by simp)
  have nD4:=qbc q2 q4 (by simp)
  have nD5:=qbc q2 q5 (by simp)
  refine F176.k14.to (C.bb q4 rfl rfl (by simp) fun w7 hu7=>C.bb (hu7.fr.at_ q5 (by simp;omega)) rfl rfl (by simp) fun w8 hu8=>?_)
  refine qli (hu8.fr.at_ (hu7.fr.at_ q2 (by simpa using nD4)) (by simpa using nD5)) fun w9 hf9=>?_
  refine C.ad (v:=y4w j6 0) (hf9.at_ (hu8.fr.at_ hu7.at_ (by simpa using n45)) (by simp;omega)) rfl (C.ad (v:=y5a false) (hf9.at_ hu8.at_ (by simp;omega)) rfl ?_)
  refine h0 (j3 rfl) w9 ((((jf.then hf6 fun z hz=>?_).then hu7.fr fun z hz=>?_).then hu8.fr fun z hz=>?_).then hf9 fun z hz=>?_)
  all_goals (simp only[y2d] at hz;exact .inr (by omega))
 ·obtain⟨p,x1,x2',Q⟩:=hX
  exact told w' _ _ _ Q fun w'' hf'' hp''=>h1 p w'' x1 (by omega) x2' hf'' hp''
 ·exact⟨⟨f5.w,h.keep0 f5,hR,hdf,hf5.at_ d2 (by simp),hf5.at_ d3 (by simp),hf5.at_ d4 (by simp),hf5.at_ d5 (by simp),by omega,by omega,by omega,by omega,by omega,by omega,by omega,hkv,hbl⟩,f5,y4q _,fun _=>sp,fun e=>by omega⟩
end
structure Cad where
 cel:Nat
 tab:Nat
 mem:Nat
 tk:Nat
 kv:Value
 mv:Value
def Cad.S (A:Cad):List Nat:=A.cel :: A.tk :: (qaa A.kv ++ qaa A.mv)
structure qar (A:Cad) (w:World) (c:Ce):Prop where
 blk:∃cs:Array Value,w.heap[A.cel]?=some (.cells cs 244 (0,0))∧cs.size=131∧cs[0]?=some (y4x (some ⟨A.tab,0,none⟩))∧cs[1]?=some (y4x (some ⟨A.mem,0,none⟩))∧cs[130]?=some (y4x (some ⟨A.tk,0,none⟩))∧∀p,p<64→cs[2+p*2]?=some (y4w j6 (c.ch.getD p (0,0)).1)∧cs[2+p*2+1]?=some (y4w j6 (c.ch.getD p (0,0)).2)
 pg:qbh w A.tab A.kv c.ks
 mm:qax w A.mem A.mv c.m
 tk:qbd w A.tk c.n c.tk
 ml:c.m.length=c.ks.length*32
 cl:c.ch.length=64
 cr:∀p,0≤(c.ch.getD p (0,0)).2∧(c.ch.getD p (0,0)).2≤16
section
variable {K:VK} {w:World} {A:Cad} {c:Ce}
theorem qar.keep {S:List Nat} {w':World} (h:qar A w c) (hf:Fr S w w') (h1:A.cel∉S) (h2:A.tab∉S) (h3:A.mem∉S) (h4:A.tk∉S) (h5:∀g∈qaa A.kv,g∉S) (h6:∀g∈qaa A.mv,g∉S):qar A w' c:=by
 obtain⟨cs,c1,c2⟩:=h.blk
 exact⟨⟨cs,hf.at_ c1 h1,c2⟩,h.pg.keep hf h2 h5,h.mm.keep hf h3 h6,h.tk.keep hf h4,h.ml,h.cl,h.cr⟩
theorem qar.keep0 {w':World} (h:qar A w c) (hf:Fr [] w w'):qar A w' c:=h.keep hf (by simp) (by simp) (by simp) (by simp) (by simp) (by simp)
theorem qar.setMem {w':World} {m':List Int} (h:qar A w c) (hf:Fr (qaa A.mv) w w') (hm:qax w' A.mem A.mv m') (hl:m'.length=c.m.length):qar A w' { c with m:=m' }:=by
 obtain⟨cs,c1,c2⟩:=h.blk
 obtain⟨ts,t1,t2⟩:=h.tk.blk
 have hn:(({ c with m:=m' }:Ce)).n=c.n:=by simp[Ce.n,hl]
 refine⟨⟨cs,hf.at_ c1 (h.mm.own.nb c1 (by decide)),c2⟩,h.pg.keep hf (h.mm.own.nb h.pg.blk (by decide)) (h.pg.own.ne h.mm.own (by decide)),hm,?_,by simp only;rw[hl];exact h.ml,h.cl,h.cr⟩
 rw[hn]
 exact h.tk.keep hf (h.mm.own.nb t1 (by decide))
theorem qar.setTk {w':World} {s':Bs} (h:qar A w c) (hf:Fr [A.tk] w w') (hb:qbd w' A.tk c.n s'):qar A w' { c with tk:=s' }:=by
 obtain⟨cs,c1,c2⟩:=h.blk
 obtain⟨ts,t1,t2⟩:=h.tk.blk
 have no:∀ {v:Value} {e:TypeId} {sz:Nat} {xs:List (List Value)},qad w v e sz xs→255≠e→∀g∈qaa v,g∉[A.tk]:=fun ho hne g hg e=>by
  simp only[y2d] at e
  subst e
  exact ho.nb t1 (Ne.symm hne) hg
 exact⟨⟨cs,hf.at_ c1 (by simp;exact qbc c1 t1 (by simp)),c2⟩,h.pg.keep hf (by simp;exact qbc h.pg.blk t1 (by simp)) (no h.pg.own (by decide)),h.mm.keep hf (by simp;exact qbc h.mm.blk t1 (by simp)) (no h.mm.own (by decide)),hb,h.ml,h.cl,h.cr⟩
theorem qar.setKs {w':World} {ks':List Int} (h:qar A w c) (hf:Fr (qaa A.kv) w w') (hp:qbh w' A.tab A.kv ks') (hl:ks'.length=c.ks.length):qar A w' { c with ks:=ks' }:=by
 obtain⟨cs,c1,c2⟩:=h.blk
 obtain⟨ts,t1,t2⟩:=h.tk.blk
 exact⟨⟨cs,hf.at_ c1 (h.pg.own.nb c1 (by decide)),c2⟩,hp,h.mm.keep hf (h.pg.own.nb h.mm.blk (by decide)) (h.mm.own.ne h.pg.own (by decide)),h.tk.keep hf (h.pg.own.nb t1 (by decide)),by simp only;rw[hl];exact h.ml,h.cl,h.cr⟩
theorem qar.setCh {p:Nat} {l:Int × Int} {F:World→Prop} (h:qar A w c) (hp:p<64) (hl:0≤l.2∧l.2≤16) (hk:∀w',Fr [A.cel] w w'→qar A w' { c with ch:=c.ch.set p l }→F w'):
  C.ak 2 (y4x (some ⟨A.cel,2+p*2,none⟩)) (chV l) w F:=by
 obtain⟨cs,c1,c2,c3,c4,c5,c6⟩:=h.blk
 obtain⟨ts,t1,t2⟩:=h.tk.blk
 have cl:=h.cl
 refine C.cc c1 rfl qcv (by omega) fun w' hu=>hk w' hu.fr ?_
 have no:∀ {v:Value} {e:TypeId} {sz:Nat} {xs:List (List Value)},qad w v e sz xs→244≠e→∀g∈qaa v,g∉[A.cel]:=fun ho hne g hg e=>by
  simp only[y2d] at e
  subst e
  exact ho.nb c1 (Ne.symm hne) hg
 have gt:∀i:Nat,(qa2 cs.toList (2+p*2) [y4w j6 l.1,y4w j6 l.2]).toArray[i]?=if i=2+p*2 then some (y4w j6 l.1) else if i=2+p*2+1 then some (y4w j6 l.2) else cs[i]?:=fun i=>by
  unfold qa2
  have e1:(cs.toList.take (2+p*2)).length=2+p*2:=by rw[y3b];simp;omega
  rw[y1n,y1u]
  by_cases b1:i<2+p*2+2
  ·rw[if_pos (by rw[y2g,e1];exact b1),y1u,e1]
   by_cases b2:i<2+p*2
   ·rw[if_pos b2,y2f,if_pos b2,if_neg (by omega),if_neg (by omega),y1p]
   ·rw[if_neg b2]
    by_cases b3:i=2+p*2
    ·subst b3;simp
    ·have:i=2+p*2+1:=by omega
     subst this
     rw[show 2+p*2+1-(2+p*2)=1 by omega]
     simp
  ·rw[if_neg (by rw[y2g,e1];exact b1),y2h,if_neg (by omega),if_neg (by omega),y2g,e1]
   simp only[y3a,y3n]
   rw[show 2+p*2+(0+1+1)+(i-(2+p*2+(0+1+1)))=i by omega,y1p]
 have hsz:(qa2 cs.toList (2+p*2) (chV l).cells.toList).toArray.size=131:=by
  simp[qa2,chV,Value.cells]
  omega
 refine⟨⟨_,hu.at_,hsz,?_,?_,?_,fun q hq=>?_⟩,h.pg.keep hu.fr (by simp;exact qbc h.pg.blk c1 (by simp)) (no h.pg.own (by decide)),h.mm.keep hu.fr (by simp;exact qbc h.mm.blk c1 (by simp)) (no h.mm.own (by decide)),h.tk.keep hu.fr (by simp;exact qbc t1 c1 (by simp)),h.ml,by simpa using cl,fun q=>?_⟩
 ·exact (gt 0).trans (by rw[if_neg (by omega),if_neg (by omega)];exact c3)
 ·exact (gt 1).trans (by rw[if_neg (by omega),if_neg (by omega)];exact c4)
 ·exact (gt 130).trans (by rw[if_neg (by omega),if_neg (by omega)];exact c5)
 ·have e:(c.ch.set p l).getD q (0,0)=if q=p then l else c.ch.getD q (0,0):=by
   rw[y0h,y0h,y2u]
   by_cases e:p=q
   ·subst e;rw[if_pos rfl,if_pos (by omega),if_pos rfl];rfl
   ·rw[if_neg e,if_neg (Ne.symm e)]
  simp only
  rw[e]
  by_cases e2:q=p
  ·subst e2
   rw[if_pos rfl]
   exact⟨(gt _).trans (by rw[if_pos rfl]),(gt _).trans (by rw[if_neg (by omega),if_pos rfl])⟩
  ·rw[if_neg e2]
   exact⟨(gt _).trans (by rw[if_neg (by omega),if_neg (by omega)];exact (c6 q hq).1),(gt _).trans (by rw[if_neg (by omega),if_neg (by omega)];exact (c6 q hq).2)⟩
 ·have e:(c.ch.set p l).getD q (0,0)=if q=p then l else c.ch.getD q (0,0):=by
   rw[y0h,y0h,y2u]
   by_cases e:p=q
   ·subst e;rw[if_pos rfl,if_pos (by omega),if_pos rfl];rfl
   ·rw[if_neg e,if_neg (Ne.symm e)]
  simp only
  rw[e]
  split
  ·exact hl
  ·exact h.cr q
theorem qha (h:qar A w c) (hk:K (y5a true) w):C.i y5c 173 #[y4x (some ⟨A.cel,0,none⟩)] w K:=by
 obtain⟨cs,c1,c2,c3,c4,c5,c6⟩:=h.blk
 refine F173.sh ⟨_,qa0 _ _ _ Tryz.underlying166,?_⟩
 simp only[zv]
 refine C.ad (v:=y4x (some ⟨A.mem,0,none⟩)) c1 c4 ⟨_,qa0 _ _ _ Tryz.underlying238,?_⟩
 simp only[]
 exact hk
theorem qgn {p:Int} (h:qar A w c) (hk:∀w',Fr [] w w'→K (y4w j6 (kAt c.ks p)) w'):C.i y5c 186 #[y4x (some ⟨A.cel,0,none⟩),y4w j6 p] w K:=by
 obtain⟨cs,c1,c2,c3,c4,c5,c6⟩:=h.blk
 refine F186.sh (qha h ?_)
 simp only[zv]
 refine F186.k3.to ?_
 simp only[zv]
 refine C.br (n:=1) (vs:=[y4x (some ⟨A.tab,0,none⟩)]) c1 (by omega) ?_ ?_
 ·rw[List.drop_zero]
  have:0<cs.toList.length:=by simp;omega
  rw[List.take_one]
  simp only[List.head?_eq_getElem?,y1p,c3,y2e]
 ·refine F250.sh (C.av fun x2 w1 hn1=>?_)
  simp only[zv]
  exact C.ad (v:=y4x (some ⟨A.tab,0,none⟩)) hn1.at_ rfl (qe5 (h.keep0 hn1.fr).pg (hk w1 hn1.fr))
theorem qry (h:qar A w c) (hk:∀w',Fr [] w w'→K (y4w j6 (qa1 c.ks)) w'):C.i y5c 114 #[y4x (some ⟨A.cel,0,none⟩)] w K:=by
 obtain⟨cs,c1,c2,c3,c4,c5,c6⟩:=h.blk
 refine F114.sh (qha h ?_)
 simp only[zv]
 refine F114.k3.to ?_
 simp only[zv]
 refine C.br (n:=1) (vs:=[y4x (some ⟨A.tab,0,none⟩)]) c1 (by omega) ?_ ?_
 ·rw[List.drop_zero,List.take_one]
  simp only[List.head?_eq_getElem?,y1p,c3,y2e]
 ·refine F174.sh (C.av fun x2 w1 hn1=>?_)
  simp only[zv]
  exact C.ad (v:=y4x (some ⟨A.tab,0,none⟩)) hn1.at_ rfl (zaz (h.keep0 hn1.fr).pg fun w2 hf2=>hk w2 (hn1.fr.trans hf2))
theorem qs5 {p:Int} (h:qar A w c) (hk:∀w',Fr [] w w'→K (y5a (c.small p)) w'):C.i y5c 251 #[y4x (some ⟨A.cel,0,none⟩),y4w j6 p] w K:=by
 refine F251.sh (qgn h fun w1 hf1=>qcn ?_)
 simp only[C.bj]
 exact hk w1 hf1
theorem qoh (h:qar A w c) {p:Int} (hs:c.small p=true):0≤p∧p<c.ks.length∧p<64:=by
 have hle:=h.pg.le
 have:=qgp hle (p:=p) (by intro e;simp[Ce.small,e] at hs;revert hs;decide)
 omega
theorem qo8 {p:Int} (h:qar A w c) (hk:∀w',Fr [] w w'→K (y4w j6 (c.left p)) w'):C.i y5c 187 #[y4x (some ⟨A.cel,0,none⟩),y4w j6 p] w K:=by
 refine F187.sh (qs5 h fun w1 hf1=>?_)
 have hk:=hk w1 hf1
 unfold Ce.left at hk
 cases hs:c.small p with
 | false=>
  rw[hs] at hk
  simp only[zv] at hk ⊢
  exact hk
 | true=>
  rw[hs] at hk
  obtain⟨p0,p1,p2⟩:=qoh h hs
  obtain⟨cs,c1,c2,c3,c4,c5,c6⟩:=(h.keep0 hf1).blk
  obtain⟨p,rfl⟩:=y1b p0
  simp only[zv]
  refine F187.k3.to ?_
  simp only[zv]
  refine C.bq (by omega) (by omega) ?_
  simp only[C.af,y2t]
  refine C.ad (v:=y4w j6 (c.ch.getD p (0,0)).2) c1 ?_ ?_
  ·exact (c6 p (by omega)).2
  ·simpa[Ce.chain] using hk
theorem qx0 {a:Int} (h:qar A w c) (hk:K (y5a (c.isIt a)) w):C.i y5c 197 #[y4x (some ⟨A.cel,0,none⟩),y4w j6 a] w K:=by
 obtain⟨cs,c1,c2,c3,c4,c5,c6⟩:=h.blk
 refine F197.sh (qha h ?_)
 simp only[zv]
 refine C.ad (v:=y4x (some ⟨A.tk,0,none⟩)) c1 c5 (qou h.tk ?_)
 exact hk
theorem qr0 {a:Int} (h:qar A w c) (hk:∀ok,K (y4z #[y4w j6 (qao c.m a),y5a ok]) w):C.i y5c 198 #[y4x (some ⟨A.cel,0,none⟩),y4w j6 a] w K:=by
 obtain⟨cs,c1,c2,c3,c4,c5,c6⟩:=h.blk
 refine F198.sh (qha h ?_)
 simp only[zv]
 refine F198.k3.to ?_
 simp only[zv]
 refine C.ad (v:=y4x (some ⟨A.mem,0,none⟩)) c1 c4 (qu2 h.mm fun ok=>?_)
 simp only[zv]
 exact hk ok
theorem zdg (h:qar A w c) (hT:TzB w) (hk:∀v w',Fr [] w w'→qaj w v→qad w' v 3 1 (qag (qgt c.n c.tk))→K v w'):C.i y5c 130 #[y4x (some ⟨A.cel,0,none⟩)] w K:=by
 obtain⟨cs,c1,c2,c3,c4,c5,c6⟩:=h.blk
 refine F130.sh (qha h ?_)
 simp only[zv]
 refine F130.k3.to ?_
 simp only[zv]
 exact C.ad (v:=y4x (some ⟨A.tk,0,none⟩)) c1 c5 (zdd h.tk hT hk)
theorem qt8 (hle:c.ks.length≤64) (p:Int) (h:0≤qeb c.ks p):qeb c.ks p<64:=by
 unfold qeb at h ⊢
 have key:∀q:Int,0≤(if qaq c.ks q=0 then -1 else q)→(if qaq c.ks q=0 then -1 else q)<64:=fun q hq=>by
  rcases qjm hle q with e | ⟨e1,e2⟩
  ·rw[if_pos e] at hq;omega
  ·by_cases e:qaq c.ks q=0
   ·rw[if_pos e] at hq;omega
   ·rw[if_neg e];omega
 by_cases hp:0≤p
 ·simp only[hp,if_true] at h ⊢
  exact key _ h
 ·simp only[hp,if_false] at h ⊢
  exact key _ h
theorem zdf {a:Int} (h:qar A w c) (hk:∀w',Fr [] w w'→K (y4w j6 (c.base a)) w'):C.i y5c 246 #[y4x (some ⟨A.cel,0,none⟩),y4w j6 a] w K:=by
 refine F246.sh (qha h ?_)
 simp only[zv]
 refine F246.k3.to (qfe (qgn h fun w1 hf1=>qr3 ?_))
 have h1:=h.keep0 hf1
 obtain⟨cs,c1,c2,c3,c4,c5,c6⟩:=h1.blk
 simp only[zv]
 refine C.ad (v:=y4x (some ⟨A.tab,0,none⟩)) c1 c3 (za3 h1.pg ?_)
 have hk:=hk w1 hf1
 unfold Ce.base at hk
 simp only at hk
 have fin:∀d:Int,d=(if qcx (kAt c.ks (qap a)) a<0∧0≤qeb c.ks (qap a) then (qfs (qeb c.ks (qap a)) 1).1 else qcx (kAt c.ks (qap a)) a)→F246.k8 K (y4x (some ⟨A.cel,0,none⟩)) (y4w j6 d) w1:=fun d e=>by
  rw[←e] at hk
  refine F246.k8.to (qx0 h1 ?_)
  cases hi:c.isIt d with
  | true=>
   rw[hi,if_pos rfl] at hk
   simp only[zv]
   exact F246.k10.to hk
  | false=>
   rw[hi] at hk
   simp only[zv,y2b,if_false] at hk ⊢
   exact hk
 by_cases d1:qcx (kAt c.ks (qap a)) a<0
 ·simp only[zv,d1]
  by_cases d2:qeb c.ks (qap a)≥0
  ·simp only[zv,d2]
   have hr:=qt8 h.pg.le (qap a) d2
   refine qka ⟨d2,hr⟩ (by omega) ?_
   simp only[zv]
   refine fin _ ?_
   rw[if_pos ⟨d1,d2⟩]
   unfold qfs
   rw[if_pos (by omega)]
  ·simp only[zv,d2]
   refine fin _ ?_
   rw[if_neg (by omega)]
 ·simp only[zv,d1]
  refine fin _ ?_
  rw[if_neg (by omega)]
theorem qo3 {a v:Int} (h:qar A w c) (hv : -9223372036854775808≤v∧v≤9223372036854775807) (hk:∀w',Fr (qaa A.mv) w w'→qar A w' (c.store a v).1→K (y5a (c.store a v).2) w'):C.i y5c 181 #[y4x (some ⟨A.cel,0,none⟩),y4w j6 a,y4w j6 v] w K:=by
 refine F181.sh (zdf h fun w1 hf1=>?_)
 have h1:=h.keep0 hf1
 unfold Ce.store at hk
 by_cases d:c.base a≥0
 ·obtain⟨cs,c1,c2,c3,c4,c5,c6⟩:=h1.blk
  simp only[zv,d]
  refine C.ad (v:=y4x (some ⟨A.mem,0,none⟩)) c1 c4 (qsh h1.mm hv fun w2 hf2 h2=>?_)
  by_cases e:mIn c.m a 1
  ·rw[if_pos ⟨d,e⟩] at hk
   rw[decide_eq_true e]
   exact hk w2 (hf1.w.trans hf2) (h1.setMem hf2 h2 (qc0 _ _ _))
  ·rw[if_neg (fun x=>e x.2)] at hk
   rw[decide_eq_false e]
   have:qb9 c.m a v=c.m:=by unfold qb9 qba;rw[if_neg e]
   rw[this] at h2
   exact hk w2 (hf1.w.trans hf2) (h1.setMem hf2 h2 rfl)
 ·simp only[zv,d]
  rw[if_neg (fun x=>d x.1)] at hk
  exact hk w1 hf1.w h1
end
end Go.Proofs.YtcakfaakbpdklaaGreatDoorV
