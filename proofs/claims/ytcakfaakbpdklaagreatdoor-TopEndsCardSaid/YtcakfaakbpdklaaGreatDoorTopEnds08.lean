/- Part 8 of what the law needs: own lemmas, in the order in which they build. -/
import Derived.Test.YtcakfaakbpdklaaGreatDoorProg
import Derived.Test.YtcakfaakbpdklaaGreatDoorTopEnds07
set_option linter.defProp false
set_option linter.unusedSimpArgs false
set_option linter.unusedVariables false
set_option maxRecDepth 100000
namespace Go.Proofs.QV
open Go Go.Proofs Go.Proofs.Tryz
open Go.Proofs.Tryz renaming prog->Z
open Go.IntKind renaming i64->wg
open Go.Value renaming int->v6,pointer->v7,tuple->wc,bool->wd
open Option renaming some->wh
open Option renaming none->wj
open Bool renaming true->wk
open Bool renaming false->wl
open Go renaming Value->wm
open Go renaming World->wn
open Or renaming inl->wr
open Or renaming inr->ws
open Go.Obj renaming cells->wt
noncomputable section
variable{K:VK}{w:wn}{x0 x1 x2 y0 y1 y2 y3 y4 y5 y6 y7 y8 y9 y11 y12 y13 y14 y15 y16 y18 y19 y20 y21 y32 y33 y34 y35 y36:wm}
namespace F16
def ann:Cg:=⟨[(4,[1,4])],[],[],[(4,(tk [0,2,7,12,1,3,4,8,11] (.go 5 (.go 6 (.go 9 (tk [10,13] (.go 14 (tk [15,16] .fin) .fin)) .fin) .fin) .fin)))],wj⟩
def code:=cd f16
def BM:=tp f16
variable(K:VK)(y1 y4:wm)(w:wn)
@[irreducible]def k4:=nk ann 29 [(1,y1),(4,y4)] w [1,1,1] code (BM K)
end F16
def F16.k4.to(h:(A2 w λS a=>Ab 1 y1 a λb c=>Ab 2 y1 c λd f=>Ab 5 y1 f λg i=>An S b i λj k=>An S d k λm o=>AM S 10 y1 o λp q=>An S g q λr s=>AM S 10 y1 s λt u=>(I Z 43 #[p] u λv x=>(S x/\
 (I Z 42 #[j,m,v] x λy z=>(S z/\
 (I Z 44 #[r] z λaa ab=>(S ab/\
 ∃ac,(∀w',S w'->(Instr.build 94 #[(0,y),(1,aa)]).run Z w'=.ok ac w')/\(∃ad,(∀w',S w'->(Instr.build 96 #[(0,ac),(1,t),(2,y4)]).run Z w'=.ok ad w')/\((Aq (wt (wm.cells ad) 96) ab λae af=>(S af/\
 K (wc #[ae,(v6 wg 0)]) af))/\True))))/\True))/\True))/\True)):F16.k4 K y1 y4 w:=qq h
def F16.sh(h:(Aq (wt (wm.cells x0) 23) w λa b=>Ak 10 a b λc d=>I Z 41 #[c] d λf g=>Ao 0 f g λi j=>Ao 1 f j λk m=>U .neq k (v6 wg 0) m λo p=>Af o (K (wc #[(v7 wj),k]) p) (F16.k4 K a i p))):I Z 16 #[x0] w K:=BK (A:=F16.ann) (args:=[x0]) (qq h)
namespace F17
def ann:Cg:=⟨[(3,[0,2]),(6,[0,2,3,15,16]),(8,[0,2,3,15,16]),(9,[0,2,3]),(11,[0,2,3,34,35,36]),(13,[0,2,3,34,35,36]),(14,[2,3])],[(5,[0,2,3,15,16]),(10,[0,2,3,34,35,36])],[],[(7,(tk [0,2,3,4,5,7,6] (.go 1 (.go 8 (.go 9 (.go 10 (.go 11 (.take 12 (.go 13 .fin .fin)) .fin) .fin) .fin) .fin) (.go 8 (.go 1 (.go 9 (.go 10 (.go 11 (.take 12 (.go 13 .fin .fin)) .fin) .fin) .fin) (.go 9 (.go 1 (.go 10 (.go 11 (.take 12 (.go 13 .fin .fin)) .fin) .fin) (.go 10 (.go 1 (.go 11 (.take 12 (.go 13 .fin .fin)) .fin) .fin) .fin)) .fin)) .fin)))),(12,(tk [0,2,3,4,6,8,9,10,5] (.go 1 (.go 7 (.go 11 (.go 12 (.take 13 (.go 14 (.go 15 (.take 16 (.go 17 .fin .fin)) .fin) .fin)) .fin) .fin) .fin) (.go 7 (.go 1 (.go 11 (.go 12 (.take 13 (.go 14 (.go 15 (.take 16 (.go 17 .fin .fin)) .fin) .fin)) .fin) .fin) (.go 11 (.go 1 (.go 12 (.take 13 (.go 14 (.go 15 (.take 16 (.go 17 .fin .fin)) .fin) .fin)) .fin) (.go 12 (.take 13 (.go 1 (.go 14 (.go 15 (.take 16 (.go 17 .fin .fin)) .fin) .fin) (.go 14 (.go 1 (.go 15 (.take 16 (.go 17 .fin .fin)) .fin) .fin) .fin))) .fin)) .fin)) .fin))))],wj⟩
def code:=cd f17
def BM:=tp f17
variable(K:VK)(y0 y2 y3 y15 y16 y34 y35 y36:wm)(w:wn)
def k3:=nk ann 59 [(0,y0),(2,y2)] w [1,1] code (BM K)
def k9:=nk ann 59 [(0,y0),(2,y2),(3,y3)] w [1,1,1,1] code (BM K)
def l5:=nl ann 59 [(0,y0),(2,y2),(3,y3),(15,y15),(16,y16)] w [1,1,1,0,1,0] code (BM K)
def k6:=nk ann 59 [(0,y0),(2,y2),(3,y3),(15,y15),(16,y16)] w [1,1,1,0,1,0,0,1,1] code (BM K)
def k8:=nk ann 59 [(0,y0),(2,y2),(3,y3),(15,y15),(16,y16)] w [1,1,1,0,1,0,0,1,1,1] code (BM K)
def k14:=nk ann 59 [(2,y2),(3,y3)] w [1,1,1,1,1] code (BM K)
def l10:=nl ann 59 [(0,y0),(2,y2),(3,y3),(34,y34),(35,y35),(36,y36)] w [1,1,1,1,0,1,0] code (BM K)
def k11:=nk ann 59 [(0,y0),(2,y2),(3,y3),(34,y34),(35,y35),(36,y36)] w [1,1,1,1,0,1,0,0,1,1] code (BM K)
def k13:=nk ann 59 [(0,y0),(2,y2),(3,y3),(34,y34),(35,y35),(36,y36)] w [1,1,1,1,0,1,0,0,1,1,1] code (BM K)
attribute [irreducible] k3 k9 l5 k6 k8 k14 l10 k11 k13
end F17
def F17.k3.to(h:(Aq (wt #[.slice wj 0 0,.slice wj 0 0] 46) w λa b=>Ae y0 b λc d=>Ab 2 c d λf g=>Ab 1 f g λi j=>Ac i j λk m=>F17.l5 K y0 y2 a k (v6 wg 0) m)):F17.k3 K y0 y2 w:=qq h
def F17.k9.to(h:(I Z 48 #[y0] w λa b=>AD a b λc d=>F17.l10 K y0 y2 y3 a c (v6 wg 0) d)):F17.k9 K y0 y2 y3 w:=qq h
def F17.l5.to(h:(U .lss y16 y15 w λa b=>Af a (F17.k6 K y0 y2 y3 y15 y16 b) (F17.k9 K y0 y2 y3 b))):F17.l5 K y0 y2 y3 y15 y16 w:=by unfold F17.l5 nl;exact BW (qq h)
def F17.k6.to(h:(A2 w λS a=>Ab 0 y3 a λb c=>Ae y0 c λd f=>Ab 12 d f λg i=>An S g i λj k=>(Ac b k λm o=>(S o/\
 (I Z 47 #[j,y16] o λp q=>(S q/\
 (I Z 46 #[y0,p] q λr s=>(S s/\
 (Am Z (Instr.buildSlice 43 1 #[(0,r)]) s λt u=>(S u/\
 (Am Z (Builtin.append_ #[43,43] 43 #[m,t]) u λv x=>(S x/\
 Ab 0 y3 x λy z=>(Aj 1 y v z λaa=>(S aa/\
 F17.k8 K y0 y2 y3 y15 y16 aa))/\True))/\True))/\True))/\True))/\True))/\((I Z 47 #[j,y16] k λab ac=>(S ac/\
 (Ac b ac λad ae=>(S ae/\
 (I Z 46 #[y0,ab] ae λaf ag=>(S ag/\
 (Am Z (Instr.buildSlice 43 1 #[(0,af)]) ag λah ai=>(S ai/\
 (Am Z (Builtin.append_ #[43,43] 43 #[ad,ah]) ai λaj ak=>(S ak/\
 Ab 0 y3 ak λal am=>(Aj 1 al aj am λan=>(S an/\
 F17.k8 K y0 y2 y3 y15 y16 an))/\True))/\True))/\True))/\True))/\((I Z 46 #[y0,ab] ac λao ap=>(S ap/\
 (Ac b ap λaq ar=>(S ar/\
 (Am Z (Instr.buildSlice 43 1 #[(0,ao)]) ar λau av=>(S av/\
 (Am Z (Builtin.append_ #[43,43] 43 #[aq,au]) av λaw ax=>(S ax/\
 Ab 0 y3 ax λay az=>(Aj 1 ay aw az λba=>(S ba/\
 F17.k8 K y0 y2 y3 y15 y16 ba))/\True))/\True))/\True))/\((Am Z (Instr.buildSlice 43 1 #[(0,ao)]) ap λbb bc=>(S bc/\
 (Ac b bc λbd be=>(S be/\
 (Am Z (Builtin.append_ #[43,43] 43 #[bd,bb]) be λbf bg=>(S bg/\
 Ab 0 y3 bg λbh bi=>(Aj 1 bh bf bi λbj=>(S bj/\
 F17.k8 K y0 y2 y3 y15 y16 bj))/\True))/\True))/\True))/\True)))/\True)))/\True))):F17.k6 K y0 y2 y3 y15 y16 w:=qq h
def F17.k8.to(h:(U .add y16 (v6 wg 1) w λa b=>F17.l5 K y0 y2 y3 y15 a b)):F17.k8 K y0 y2 y3 y15 y16 w:=qq h
def F17.k14.to(h:(Ak 2 y3 w λa b=>Aj 2 y2 a b λc=>Ak 2 y2 c λr3 _=>K r3 c)):F17.k14 K y2 y3 w:=qq h
def F17.l10.to(h:(U .lss y36 y35 w λa b=>Af a (F17.k11 K y0 y2 y3 y34 y35 y36 b) (F17.k14 K y2 y3 b))):F17.l10 K y0 y2 y3 y34 y35 y36 w:=by unfold F17.l10 nl;exact BW (qq h)
def F17.k11.to(h:(AC 1 y34 y36 w λa b=>Ac a b λc d=>A2 d λS f=>Ab 1 y3 f λg i=>Ae y0 i λj k=>Ab 12 j k λm o=>An S m o λp q=>(Ac g q λr s=>(S s/\
 (I Z 49 #[p,c] s λt u=>(S u/\
 (I Z 50 #[y0,c] u λv x=>(S x/\
 (I Z 46 #[y0,v] x λy z=>(S z/\
 ∃aa,(∀w',S w'->(Instr.build 58 #[(0,t),(1,y)]).run Z w'=.ok aa w')/\((Am Z (Instr.buildSlice 44 1 #[(0,aa)]) z λab ac=>(S ac/\
 (Am Z (Builtin.append_ #[44,44] 44 #[r,ab]) ac λad ae=>(S ae/\
 Ab 1 y3 ae λaf ag=>(Aj 1 af ad ag λah=>(S ah/\
 F17.k13 K y0 y2 y3 y34 y35 y36 ah))/\True))/\True))/\True)))/\True))/\True))/\True))/\((I Z 49 #[p,c] q λai aj=>(S aj/\
 (Ac g aj λak al=>(S al/\
 (I Z 50 #[y0,c] al λam an=>(S an/\
 (I Z 46 #[y0,am] an λao ap=>(S ap/\
 ∃aq,(∀w',S w'->(Instr.build 58 #[(0,ai),(1,ao)]).run Z w'=.ok aq w')/\((Am Z (Instr.buildSlice 44 1 #[(0,aq)]) ap λar au=>(S au/\
 (Am Z (Builtin.append_ #[44,44] 44 #[ak,ar]) au λav aw=>(S aw/\
 Ab 1 y3 aw λax ay=>(Aj 1 ax av ay λaz=>(S az/\
 F17.k13 K y0 y2 y3 y34 y35 y36 az))/\True))/\True))/\True)))/\True))/\True))/\((I Z 50 #[y0,c] aj λba bb=>(S bb/\
 (Ac g bb λbc bd=>(S bd/\
 (I Z 46 #[y0,ba] bd λbe bf=>(S bf/\
 ∃bg,(∀w',S w'->(Instr.build 58 #[(0,ai),(1,be)]).run Z w'=.ok bg w')/\((Am Z (Instr.buildSlice 44 1 #[(0,bg)]) bf λbh bi=>(S bi/\
 (Am Z (Builtin.append_ #[44,44] 44 #[bc,bh]) bi λbj bk=>(S bk/\
 Ab 1 y3 bk λbl bm=>(Aj 1 bl bj bm λbn=>(S bn/\
 F17.k13 K y0 y2 y3 y34 y35 y36 bn))/\True))/\True))/\True)))/\True))/\((I Z 46 #[y0,ba] bb λbo bp=>(S bp/\
 ∃bq,(∀w',S w'->(Instr.build 58 #[(0,ai),(1,bo)]).run Z w'=.ok bq w')/\((Ac g bp λbr bs=>(S bs/\
 (Am Z (Instr.buildSlice 44 1 #[(0,bq)]) bs λbt bu=>(S bu/\
 (Am Z (Builtin.append_ #[44,44] 44 #[br,bt]) bu λbv bw=>(S bw/\
 Ab 1 y3 bw λbx bz=>(Aj 1 bx bv bz λca=>(S ca/\
 F17.k13 K y0 y2 y3 y34 y35 y36 ca))/\True))/\True))/\True))/\((Am Z (Instr.buildSlice 44 1 #[(0,bq)]) bp λcb cc=>(S cc/\
 (Ac g cc λce cf=>(S cf/\
 (Am Z (Builtin.append_ #[44,44] 44 #[ce,cb]) cf λcg ch=>(S ch/\
 Ab 1 y3 ch λci cj=>(Aj 1 ci cg cj λck=>(S ck/\
 F17.k13 K y0 y2 y3 y34 y35 y36 ck))/\True))/\True))/\True))/\True))))/\True)))/\True)))/\True))):F17.k11 K y0 y2 y3 y34 y35 y36 w:=qq h
def F17.k13.to(h:(U .add y36 (v6 wg 1) w λa b=>F17.l10 K y0 y2 y3 y34 y35 a b)):F17.k13 K y0 y2 y3 y34 y35 y36 w:=qq h
def F17.sh(h:(Aq (wt #[.slice wj 0 0,.slice wj 0 0] 46) w λa b=>I Z 45 #[x0] b λc d=>A8 c d λf g=>Af f (Am Z (Instr.build 46 #[]) g λi j=>Aj 2 a i j λk=>Ak 2 a k λr6 _=>K r6 k) (F17.k3 K x0 a g))):I Z 17 #[x0] w K:=BK (A:=F17.ann) (args:=[x0]) (qq h)
namespace F18
def ann:Cg:=⟨[(3,[0]),(6,[0,3,13,14,15]),(8,[0,3,13,14,15]),(9,[3])],[(5,[0,3,13,14,15])],[],[],wj⟩
def code:=cd f18
def BM:=tp f18
variable(K:VK)(y0 y3 y13 y14 y15:wm)(w:wn)
def k3:=nk ann 32 [(0,y0)] w [1,1] code (BM K)
def k9:=nk ann 32 [(3,y3)] w [1,1,1,1] code (BM K)
def l5:=nl ann 32 [(0,y0),(3,y3),(13,y13),(14,y14),(15,y15)] w [1,1,1,0,1,0] code (BM K)
def k6:=nk ann 32 [(0,y0),(3,y3),(13,y13),(14,y14),(15,y15)] w [1,1,1,0,1,0,0,1,1] code (BM K)
def k8:=nk ann 32 [(0,y0),(3,y3),(13,y13),(14,y14),(15,y15)] w [1,1,1,0,1,0,0,1,1,1] code (BM K)
attribute [irreducible] k3 k9 l5 k6 k8
end F18
def F18.k3.to(h:(Ae y0 w λa b=>Ab 12 a b λc d=>Ac c d λf g=>I Z 51 #[f] g λi j=>AD i j λk m=>F18.l5 K y0 (.slice wj 0 0) i k (v6 wg 0) m)):F18.k3 K y0 w:=qq h
def F18.k9.to(h:(I Z 52 #[y3] w λa b=>K y3 b)):F18.k9 K y3 w:=qq h
def F18.l5.to(h:(U .lss y15 y14 w λa b=>Af a (F18.k6 K y0 y3 y13 y14 y15 b) (F18.k9 K y3 b))):F18.l5 K y0 y3 y13 y14 y15 w:=by unfold F18.l5 nl;exact BW (qq h)
def F18.k6.to(h:(AC 1 y13 y15 w λa b=>Ac a b λc d=>Ae y0 d λf g=>Ab 12 f g λi j=>Ac i j λk m=>I Z 49 #[k,c] m λo p=>Am Z (Instr.buildSlice 52 1 #[(0,o)]) p λq r=>Am Z (Builtin.append_ #[52,52] 52 #[y3,q]) r λs t=>F18.k8 K y0 s y13 y14 y15 t)):F18.k6 K y0 y3 y13 y14 y15 w:=qq h
def F18.k8.to(h:(U .add y15 (v6 wg 1) w λa b=>F18.l5 K y0 y3 y13 y14 a b)):F18.k8 K y0 y3 y13 y14 y15 w:=qq h
def F18.sh(h:(I Z 45 #[x0] w λa b=>A8 a b λc d=>Af c (K (.slice wj 0 0) d) (F18.k3 K x0 d))):I Z 18 #[x0] w K:=BK (A:=F18.ann) (args:=[x0]) (qq h)
namespace F19
def ann:Cg:=⟨[(3,[0]),(6,[0,3,12,13]),(9,[0,3,12,13]),(10,[3])],[(5,[0,3,12,13])],[],[],wj⟩
def code:=cd f19
def BM:=tp f19
variable(K:VK)(y0 y3 y12 y13:wm)(w:wn)
def k3:=nk ann 28 [(0,y0)] w [1,1] code (BM K)
def k10:=nk ann 28 [(3,y3)] w [1,1,1,1] code (BM K)
def l5:=nl ann 28 [(0,y0),(3,y3),(12,y12),(13,y13)] w [1,1,1,0,1,0] code (BM K)
def k6:=nk ann 28 [(0,y0),(3,y3),(12,y12),(13,y13)] w [1,1,1,0,1,0,0,1,1] code (BM K)
def k9:=nk ann 28 [(0,y0),(3,y3),(12,y12),(13,y13)] w [1,1,1,0,1,0,0,1,1,1] code (BM K)
attribute [irreducible] k3 k10 l5 k6 k9
end F19
def F19.k3.to(h:(Ae y0 w λa b=>Ab 2 a b λc d=>Ab 1 c d λf g=>Ac f g λi j=>F19.l5 K y0 (.slice wj 0 0) i (v6 wg 0) j)):F19.k3 K y0 w:=qq h
def F19.k10.to(h:(K y3 w)):F19.k10 K y3 w:=qq h
def F19.l5.to(h:(U .lss y13 y12 w λa b=>Af a (F19.k6 K y0 y3 y12 y13 b) (F19.k10 K y3 b))):F19.l5 K y0 y3 y12 y13 w:=by unfold F19.l5 nl;exact BW (qq h)
def F19.k6.to(h:(Ae y0 w λa b=>Ab 12 a b λc d=>Ac c d λf g=>I Z 53 #[f,y13] g λi j=>Af i (Am Z (Instr.buildSlice 54 1 #[(0,y13)]) j λk m=>Am Z (Builtin.append_ #[54,54] 54 #[y3,k]) m λo p=>F19.k9 K y0 o y12 y13 p) (F19.k9 K y0 y3 y12 y13 j))):F19.k6 K y0 y3 y12 y13 w:=qq h
def F19.k9.to(h:(U .add y13 (v6 wg 1) w λa b=>F19.l5 K y0 y3 y12 a b)):F19.k9 K y0 y3 y12 y13 w:=qq h
def F19.sh(h:(I Z 45 #[x0] w λa b=>A8 a b λc d=>Af c (K (.slice wj 0 0) d) (F19.k3 K x0 d))):I Z 19 #[x0] w K:=BK (A:=F19.ann) (args:=[x0]) (qq h)
namespace F20
def ann:Cg:=⟨[(3,[0,3,4]),(6,[0,3,4]),(9,[0,3,4]),(12,[4,7])],[],[],[(11,(tk [0,1,2,4,3,5] (.go 6 .fin .fin)))],wj⟩
def code:=cd f20
def BM:=tp f20
variable(K:VK)(y0 y3 y4 y7:wm)(w:wn)
def k3:=nk ann 49 [(0,y0),(3,y3),(4,y4)] w [1,1] code (BM K)
def k6:=nk ann 49 [(0,y0),(3,y3),(4,y4)] w [1,1,1] code (BM K)
def k9:=nk ann 49 [(0,y0),(3,y3),(4,y4)] w [1,1,1,1] code (BM K)
def k12:=nk ann 49 [(4,y4),(7,y7)] w [1,1,1,1,1,1] code (BM K)
attribute [irreducible] k3 k6 k9 k12
end F20
def F20.k3.to(h:(Ak 7 y3 w λa b=>I Z 55 #[a] b λc d=>U .neq c (v6 wg 0) d λf g=>Af f (I Z 54 #[c] g λi j=>Aj 5 y4 i j λk=>Ak 5 y4 k λr6 _=>K r6 k) (F20.k6 K y0 y3 y4 g))):F20.k3 K y0 y3 y4 w:=qq h
def F20.k6.to(h:(Ak 7 y3 w λa b=>I Z 56 #[y0,a] b λc d=>U .neq c (v6 wg 0) d λf g=>Af f (I Z 54 #[c] g λi j=>Aj 5 y4 i j λk=>Ak 5 y4 k λr6 _=>K r6 k) (F20.k9 K y0 y3 y4 g))):F20.k6 K y0 y3 y4 w:=qq h
def F20.k9.to(h:(Ak 7 y3 w λa b=>I Z 57 #[y0,a] b λc d=>Aq (wt #[v6 wg 0,v6 wg 0,v6 wg 0,v6 wg 0,v6 wg 0] 38) d λf g=>Aj 5 f c g λi=>Ab 0 y3 i λj k=>Ac j k λm o=>U .geq m (v6 wg 3) o λp q=>Aa wk p (Ab 0 y3 q) q λr s=>Aa wk p (Ac r s) s λt u=>Aa wk p (U .leq t (v6 wg 12) u) u λv x=>Aw (wh p) (wh v) (wh (wd wl)) x λy z=>Aa wk y (Ab 0 f z) z λaa ab=>Aa wk y (Ac aa ab) ab λac ad=>Aa wk y (U .eql ac (v6 wg 0) ad) ad λae af=>Aw (wh y) (wh ae) (wh (wd wl)) af λag ah=>Af ag (A2 ah λS ai=>Ae y0 ai λaj ak=>Ab 0 aj ak λal am=>Ab 1 y3 am λan ao=>AM S 2 al ao λap aq=>An S an aq λar au=>(I Z 58 #[ap,ar,(v6 wg 1)] au λav aw=>(S aw/\
 F20.k12 K y4 f aw))/\True) (F20.k12 K y4 f ah))):F20.k9 K y0 y3 y4 w:=qq h
def F20.k12.to(h:(Ak 5 y7 w λa b=>Aj 5 y4 a b λc=>Ak 5 y4 c λr3 _=>K r3 c)):F20.k12 K y4 y7 w:=qq h
def F20.sh(h:(Aq (wt (wm.cells x1) 40) w λa b=>Aq (wt #[v6 wg 0,v6 wg 0,v6 wg 0,v6 wg 0,v6 wg 0] 38) b λc d=>I Z 45 #[x0] d λf g=>A8 f g λi j=>Af i (I Z 54 #[(v6 wg 9)] j λk m=>Aj 5 c k m λo=>Ak 5 c o λr7 _=>K r7 o) (F20.k3 K x0 a c j))):I Z 20 #[x0,x1] w K:=BK (A:=F20.ann) (args:=[x0,x1]) (qq h)
namespace F23
def ann:=a1 [(3,[0])]
def code:=cd f23
def BM:=tp f23
variable(K:VK)(y0:wm)(w:wn)
@[irreducible]def k3:=nk ann 11 [(0,y0)] w [1,1] code (BM K)
end F23
def F23.k3.to(h:(Ae y0 w λa b=>Ab 12 a b λc d=>Ac c d λf g=>I Z 59 #[f] g λi j=>K i j)):F23.k3 K y0 w:=qq h
def F23.sh(h:(I Z 45 #[x0] w λa b=>A8 a b λc d=>Af c (K (v6 wg 0) d) (F23.k3 K x0 d))):I Z 23 #[x0] w K:=BK (A:=F23.ann) (args:=[x0]) (qq h)
def F45.sh(h:(AB Z .neq 49 (.tmp 3) (.const (v7 wj)) x0 (v7 wj) w λa b=>Aa wk a (λK=>K x0 b) b λc d=>Aa wk a (Ae c d) d λf g=>Aa wk a (Ab 12 f g) g λi j=>Aa wk a (Ac i j) j λk m=>Aa wk a (λK=>AB Z .neq 86 (.tmp 9) (.const (v7 wj)) k (v7 wj) m K) m λo p=>Aw (wh a) (wh o) (wh (wd wl)) p λq r=>K q r)):I Z 45 #[x0] w K:=BK (A:=A0) (args:=[x0]) (qq h)
namespace F46
def ann:Cg:=⟨[(4,[0,5,11,12,13]),(7,[0,5,11,12,13]),(8,[5])],[(3,[0,5,11,12,13])],[],[],wj⟩
def code:=cd f46
def BM:=tp f46
variable(K:VK)(y0 y5 y11 y12 y13:wm)(w:wn)
def k8:=nk ann 29 [(5,y5)] w [1,1,1] code (BM K)
def l3:=nl ann 29 [(0,y0),(5,y5),(11,y11),(12,y12),(13,y13)] w [1,1,0,1,0] code (BM K)
def k4:=nk ann 29 [(0,y0),(5,y5),(11,y11),(12,y12),(13,y13)] w [1,1,0,1,0,0,1,1] code (BM K)
def k7:=nk ann 29 [(0,y0),(5,y5),(11,y11),(12,y12),(13,y13)] w [1,1,0,1,0,0,1,1,1] code (BM K)
attribute [irreducible] k8 l3 k4 k7
end F46
def F46.k8.to(h:(K y5 w)):F46.k8 K y5 w:=qq h
def F46.l3.to(h:(U .lss y13 y12 w λa b=>Af a (F46.k4 K y0 y5 y11 y12 y13 b) (F46.k8 K y5 b))):F46.l3 K y0 y5 y11 y12 y13 w:=by unfold F46.l3 nl;exact BW (qq h)
def F46.k4.to(h:(AC 2 y11 y13 w λa b=>Ak 2 a b λc d=>Aq (wt #[v6 wg 0,v6 wg 0] 60) d λf g=>Aj 2 f c g λi=>Ak 2 f i λj k=>I Z 81 #[y0,j] k λm o=>Aq (wt #[v6 wg 0,v6 wg 0,v6 wg 0,v6 wg 0,v6 wg 0] 38) o λp q=>Aj 5 p m q λr=>Ab 2 p r λs t=>Ac s t λu v=>AC 2 y5 y13 v λx y=>Ab 1 x y λz aa=>Aj 1 z u aa λab=>F46.k7 K y0 y5 y11 y12 y13 ab)):F46.k4 K y0 y5 y11 y12 y13 w:=qq h
def F46.k7.to(h:(U .add y13 (v6 wg 1) w λa b=>F46.l3 K y0 y5 y11 y12 a b)):F46.k7 K y0 y5 y11 y12 y13 w:=qq h
def F46.sh(h:(I Z 80 #[x1] w λa b=>AD a b λc d=>F46.l3 K x0 a a c (v6 wg 0) d)):I Z 46 #[x0,x1] w K:=BK (A:=F46.ann) (args:=[x0,x1]) (qq h)
namespace F48
def ann:Cg:=⟨[(5,[1,3,4,18,19]),(7,[1,3,4,18,19]),(8,[1,3,4]),(10,[1,3,4,6]),(11,[1,3,4,6]),(12,[1,3])],[(4,[1,3,4,18,19]),(9,[1,3,4,6])],[],[(11,(tk [0,3,1] (.go 2 (.take 4 (.go 5 (.go 6 (.go 7 .fin .fin) .fin) .fin)) .fin)))],wj⟩
def code:=cd f48
def BM:=tp f48
variable(K:VK)(y1 y3 y4 y6 y18 y19:wm)(w:wn)
def k8:=nk ann 49 [(1,y1),(3,y3),(4,y4)] w [1,1,1,1] code (BM K)
def l4:=nl ann 49 [(1,y1),(3,y3),(4,y4),(18,y18),(19,y19)] w [1,1,1,0,1,0] code (BM K)
def k5:=nk ann 49 [(1,y1),(3,y3),(4,y4),(18,y18),(19,y19)] w [1,1,1,0,1,0,0,1,1] code (BM K)
def k7:=nk ann 49 [(1,y1),(3,y3),(4,y4),(18,y18),(19,y19)] w [1,1,1,0,1,0,0,1,1,1] code (BM K)
def k12:=nk ann 49 [(1,y1),(3,y3)] w [1,1,1,1,1] code (BM K)
def l9:=nl ann 49 [(1,y1),(3,y3),(4,y4),(6,y6)] w [1,1,1,1,0,1,0] code (BM K)
def k11:=nk ann 49 [(1,y1),(3,y3),(4,y4),(6,y6)] w [1,1,1,1,0,1,0,0,1] code (BM K)
def k10:=nk ann 49 [(1,y1),(3,y3),(4,y4),(6,y6)] w [1,1,1,1,0,1,0,0,1,1] code (BM K)
attribute [irreducible] k8 l4 k5 k7 k12 l9 k11 k10
end F48
def F48.k8.to(h:(F48.l9 K y1 y3 y4 (v6 wg 0) w)):F48.k8 K y1 y3 y4 w:=qq h
def F48.l4.to(h:(U .lss y19 y18 w λa b=>Af a (F48.k5 K y1 y3 y4 y18 y19 b) (F48.k8 K y1 y3 y4 b))):F48.l4 K y1 y3 y4 y18 y19 w:=by unfold F48.l4 nl;exact BW (qq h)
def F48.k5.to(h:(Ac y1 w λa b=>Ae a b λc d=>Ab 12 c d λf g=>Ac f g λi j=>I Z 47 #[i,y19] j λk m=>Du Z y4 [k] m λo p=>F48.k7 K y1 y3 y4 y18 y19 p)):F48.k5 K y1 y3 y4 y18 y19 w:=qq h
def F48.k7.to(h:(U .add y19 (v6 wg 1) w λa b=>F48.l4 K y1 y3 y4 y18 a b)):F48.k7 K y1 y3 y4 y18 y19 w:=qq h
def F48.k12.to(h:(Ac y3 w λa b=>I Z 86 #[a,(.func (.func 87) #[] #[y1])] b λc d=>Ac y3 d λf g=>K f g)):F48.k12 K y1 y3 w:=qq h
def F48.l9.to(h:(Ac y3 w λa b=>AD a b λc d=>U .lss y6 c d λf g=>Af f (F48.k11 K y1 y3 y4 y6 g) (F48.k12 K y1 y3 g))):F48.l9 K y1 y3 y4 y6 w:=by unfold F48.l9 nl;exact BW (qq h)
def F48.k11.to(h:(A2 w λS a=>An S y1 a λb c=>(Ac y3 c λd f=>(S f/\
 AC 1 d y6 f λg i=>(Ac g i λj k=>(S k/\
 (I Z 50 #[b,j] k λm o=>(S o/\
 (B6 y4 (Du Z y4 [m] o λp q=>(S q/\
 F48.k10 K y1 y3 y4 y6 q)))/\True))/\True))/\True))/\True)):F48.k11 K y1 y3 y4 y6 w:=qq h
def F48.k10.to(h:(U .add y6 (v6 wg 1) w λa b=>F48.l9 K y1 y3 y4 a b)):F48.k10 K y1 y3 y4 y6 w:=qq h
def F48.sh(h:(Aq (wt (wm.cells x0) 49) w λa b=>Ac a b λc d=>Ae c d λf g=>Ab 12 f g λi j=>Ac i j λk m=>I Z 83 #[k] m λo p=>Am Z (Instr.buildSlice 54 1 #[(0,o)]) p λq r=>Aq (wt #[.slice wj 0 0] 54) r λs t=>Aj 1 s q t λu=>Ac a u λv x=>Ae v x λy z=>Ab 2 y z λaa ab=>Ab 1 aa ab λac ad=>Ac ac ad λae af=>F48.l4 K a s (.func (.func 84) #[] #[s]) ae (v6 wg 0) af)):I Z 48 #[x0] w K:=BK (A:=F48.ann) (args:=[x0]) (qq h)
namespace F50
def ann:Cg:=⟨[(4,[0,1,5,14,15]),(7,[0,1,5,14,15]),(8,[5])],[(3,[0,1,5,14,15])],[],[],wj⟩
def code:=cd f50
def BM:=tp f50
variable(K:VK)(y0 y1 y5 y14 y15:wm)(w:wn)
def k8:=nk ann 34 [(5,y5)] w [1,1,1] code (BM K)
def l3:=nl ann 34 [(0,y0),(1,y1),(5,y5),(14,y14),(15,y15)] w [1,1,0,1,0] code (BM K)
def k4:=nk ann 34 [(0,y0),(1,y1),(5,y5),(14,y14),(15,y15)] w [1,1,0,1,0,0,1,1] code (BM K)
def k7:=nk ann 34 [(0,y0),(1,y1),(5,y5),(14,y14),(15,y15)] w [1,1,0,1,0,0,1,1,1] code (BM K)
attribute [irreducible] k8 l3 k4 k7
end F50
def F50.k8.to(h:(K y5 w)):F50.k8 K y5 w:=qq h
def F50.l3.to(h:(U .lss y15 y14 w λa b=>Af a (F50.k4 K y0 y1 y5 y14 y15 b) (F50.k8 K y5 b))):F50.l3 K y0 y1 y5 y14 y15 w:=by unfold F50.l3 nl;exact BW (qq h)
def F50.k4.to(h:(Ae y0 w λa b=>Ab 12 a b λc d=>Ac c d λf g=>I Z 91 #[f,y1,y15] g λi j=>Ao 0 i j λk m=>Ao 1 i m λo p=>Aq (wt #[v6 wg 0,v6 wg 0] 60) p λq r=>Aj 2 q k r λs=>Ak 2 q s λt u=>Am Z (Instr.buildSlice 56 1 #[(0,t)]) u λv x=>Am Z (Builtin.append_ #[56,56] 56 #[y5,v]) x λy z=>F50.k7 K y0 y1 y y14 y15 z)):F50.k4 K y0 y1 y5 y14 y15 w:=qq h
def F50.k7.to(h:(U .add y15 (v6 wg 1) w λa b=>F50.l3 K y0 y1 y5 y14 a b)):F50.k7 K y0 y1 y5 y14 y15 w:=qq h
def F50.sh(h:(Ae x0 w λa b=>Ab 12 a b λc d=>Ac c d λf g=>I Z 90 #[f,x1] g λi j=>F50.l3 K x0 x1 (.slice wj 0 0) i (v6 wg 0) j)):I Z 50 #[x0,x1] w K:=BK (A:=F50.ann) (args:=[x0,x1]) (qq h)
def F54.sh(h:(Aq (wt #[v6 wg 0,v6 wg 0,v6 wg 0,v6 wg 0,v6 wg 0] 38) w λa b=>Am Z (Instr.build 38 #[(0,x0)]) b λc d=>Aj 5 a c d λf=>Ak 5 a f λr4 _=>K r4 f)):I Z 54 #[x0] w K:=BK (A:=A0) (args:=[x0]) (qq h)
namespace F55
def ann:Cg:=⟨[(3,[1]),(6,[1,3,20,21]),(9,[1,3,20,21]),(10,[1,3]),(12,[1,3,32,33]),(15,[1,3,32,33]),(16,[1,3]),(18,[])],[(5,[1,3,20,21]),(11,[1,3,32,33])],[],[],wj⟩
def code:=cd f55
def BM:=tp f55
variable(K:VK)(y1 y3 y20 y21 y32 y33:wm)(w:wn)
def k3:=nk ann 55 [(1,y1)] w [1,1] code (BM K)
def k10:=nk ann 55 [(1,y1),(3,y3)] w [1,1,1,1] code (BM K)
def l5:=nl ann 55 [(1,y1),(3,y3),(20,y20),(21,y21)] w [1,1,1,0,1,0] code (BM K)
def k6:=nk ann 55 [(1,y1),(3,y3),(20,y20),(21,y21)] w [1,1,1,0,1,0,0,1,1] code (BM K)
def k9:=nk ann 55 [(1,y1),(3,y3),(20,y20),(21,y21)] w [1,1,1,0,1,0,0,1,1,1] code (BM K)
def k16:=nk ann 55 [(1,y1),(3,y3)] w [1,1,1,1,1] code (BM K)
def l11:=nl ann 55 [(1,y1),(3,y3),(32,y32),(33,y33)] w [1,1,1,1,0,1,0] code (BM K)
def k12:=nk ann 55 [(1,y1),(3,y3),(32,y32),(33,y33)] w [1,1,1,1,0,1,0,0,1,1] code (BM K)
def k15:=nk ann 55 [(1,y1),(3,y3),(32,y32),(33,y33)] w [1,1,1,1,0,1,0,0,1,1,1] code (BM K)
def k18:=nk ann 55 [] w [1,1,1,1,1,1] code (BM K)
attribute [irreducible] k3 k10 l5 k6 k9 k16 l11 k12 k15 k18
end F55
def F55.k3.to(h:(Ab 0 y1 w λa b=>Ac a b λc d=>I Z 96 #[c] d λf g=>Ak 7 y1 g λi j=>I Z 97 #[i] j λk m=>F55.l5 K y1 f k (v6 wg 0) m)):F55.k3 K y1 w:=qq h
def F55.k10.to(h:(Ak 7 y1 w λa b=>I Z 97 #[a] b λc d=>F55.l11 K y1 y3 c (v6 wg 0) d)):F55.k10 K y1 y3 w:=qq h
def F55.l5.to(h:(U .lss y21 (v6 wg 5) w λa b=>Af a (F55.k6 K y1 y3 y20 y21 b) (F55.k10 K y1 y3 b))):F55.l5 K y1 y3 y20 y21 w:=by unfold F55.l5 nl;exact BW (qq h)
def F55.k6.to(h:(Am Z (Instr.index 158 y20 y21) w λa b=>U .lss a (v6 wg 0) b λc d=>Aa wl c (λK=>K a d) d λf g=>Aa wl c (U .gtr f (v6 wg 255) g) g λi j=>Aw (wh c) (wh (wd wk)) (wh i) j λk m=>Af k (K (v6 wg 4) m) (F55.k9 K y1 y3 y20 y21 m))):F55.k6 K y1 y3 y20 y21 w:=qq h
def F55.k9.to(h:(U .add y21 (v6 wg 1) w λa b=>F55.l5 K y1 y3 y20 a b)):F55.k9 K y1 y3 y20 y21 w:=qq h
def F55.k16.to(h:(Ab 6 y1 w λa b=>Ac a b λc d=>U .neq c (v6 wg 0) d λf g=>Aa wk f (λK=>K y3 g) g λi j=>Aa wk f (λK=>AB Z .and 3 (.tmp 51) (.const (v6 wg 32)) i (v6 wg 32) j K) j λk m=>Aa wk f (U .eql k (v6 wg 0) m) m λo p=>Aw (wh f) (wh o) (wh (wd wl)) p λq r=>Af q (K (v6 wg 16) r) (F55.k18 K r))):F55.k16 K y1 y3 w:=qq h
def F55.l11.to(h:(U .lss y33 (v6 wg 5) w λa b=>Af a (F55.k12 K y1 y3 y32 y33 b) (F55.k16 K y1 y3 b))):F55.l11 K y1 y3 y32 y33 w:=by unfold F55.l11 nl;exact BW (qq h)
def F55.k12.to(h:(Am Z (Instr.index 158 y32 y33) w λa b=>U .neq a (v6 wg 0) b λc d=>Aa wk c (λK=>K y3 d) d λf g=>Aa wk c (λK=>K y33 g) g λi j=>Aa wk c (AB Z .shr 3 (.tmp 40) (.tmp 41) f i j) j λk m=>Aa wk c (λK=>AB Z .and 3 (.tmp 42) (.const (v6 wg 1)) k (v6 wg 1) m K) m λo p=>Aa wk c (U .eql o (v6 wg 0) p) p λq r=>Aw (wh c) (wh q) (wh (wd wl)) r λs t=>Af s (K (v6 wg 16) t) (F55.k15 K y1 y3 y32 y33 t))):F55.k12 K y1 y3 y32 y33 w:=qq h
def F55.k15.to(h:(U .add y33 (v6 wg 1) w λa b=>F55.l11 K y1 y3 y32 a b)):F55.k15 K y1 y3 y32 y33 w:=qq h
def F55.k18.to(h:(K (v6 wg 0) w)):F55.k18 K w:=qq h
def F55.sh(h:(Aq (wt (wm.cells x0) 40) w λa b=>Ab 0 a b λc d=>Ac c d λf g=>U .lss f (v6 wg 1) g λi j=>Aa wl i (Ab 0 a j) j λk m=>Aa wl i (Ac k m) m λo p=>Aa wl i (U .gtr o (v6 wg 17) p) p λq r=>Aw (wh i) (wh (wd wk)) (wh q) r λs t=>Af s (K (v6 wg 12) t) (F55.k3 K a t))):I Z 55 #[x0] w K:=BK (A:=F55.ann) (args:=[x0]) (qq h)
namespace F56
def ann:Cg:=⟨[(9,[])],[],[],[(3,(tk [0,2,3,4,5,1,6,7,8] .fin)),(5,(tk [0,1,2,3,4,5,6,8,7,9] (.go 10 (tk [11,12] .fin) .fin))),(7,(tk [0,1,2,3,4,5,6,8,7,9] (.go 10 (tk [11,12,13] .fin) .fin)))],wj⟩
def code:=cd f56
def BM:=tp f56
variable(K:VK)(w:wn)
@[irreducible]def k9:=nk ann 45 [] w [1,1] code (BM K)
end F56
def F56.k9.to(h:(K (v6 wg 0) w)):F56.k9 K w:=qq h
def F56.sh(h:(Aq (wt (wm.cells x1) 40) w λa b=>Ab 0 a b λc d=>Ac c d λf g=>U .geq f (v6 wg 16) g λi j=>Af i (K (v6 wg 0) j) (A2 j λS k=>Ab 1 a k λm o=>Ae x0 o λp q=>Ab 2 p q λr s=>Ab 1 r s λt u=>An S m u λv x=>An S t x λy z=>U .geq v y z λaa ab=>Af aa (K (v6 wg 4) ab) (A2 ab λS ac=>Ab 0 a ac λad ae=>An S ad ae λaf ag=>U .eql af (v6 wg 1) ag λah ai=>Aa wk ah (λK=>K x0 ai) ai λaj ak=>Aa wk ah (Ae aj ak) ak λal am=>Aa wk ah (Ab 12 al am) am λan ao=>Aa wk ah (Ab 1 a ao) ao λap aq=>Aa wk ah (An S an aq) aq λar au=>Aa wk ah (An S ap au) au λav aw=>(Aa wk ah (λK=>I Z 53 #[ar,av] aw K) aw λax ay=>(S ay/\
 Aw (wh ah) (wh ax) (wh (wd wl)) ay λaz ba=>Af az (K (v6 wg 9) ba) (A2 ba λS bb=>Ab 0 a bb λbc bd=>An S bc bd λbe bf=>U .neq be (v6 wg 1) bf λbg bh=>Aa wk bg (λK=>K x0 bh) bh λbi bj=>Aa wk bg (Ae bi bj) bj λbk bl=>Aa wk bg (Ab 12 bk bl) bl λbm bn=>Aa wk bg (Ab 1 a bn) bn λbo bp=>Aa wk bg (An S bm bp) bp λbq br=>Aa wk bg (An S bo br) br λbs bt=>(Aa wk bg (λK=>I Z 53 #[bq,bs] bt K) bt λbu bv=>(S bv/\
 Aa wk bg (A8 bu bv) bv λbw bx=>Aw (wh bg) (wh bw) (wh (wd wl)) bx λbz ca=>Af bz (K (v6 wg 14) ca) (F56.k9 K ca)))/\True)))/\True)))):I Z 56 #[x0,x1] w K:=BK (A:=F56.ann) (args:=[x0,x1]) (qq h)
namespace F57
def ann:Cg:=⟨[(17,[0,4,5,6]),(19,[0,4,5]),(27,[4])],[],[],[(4,(tk [0,1,2,4,3,5] (.go 6 .fin .fin))),(6,(tk [0,1,2,4,3,5] (.go 6 .fin .fin))),(16,(tk [0,1,2,4,3,5] (.go 6 (tk [7,8,9] (.go 10 (.go 11 (.take 12 .fin) .fin) .fin)) (.go 10 (.go 6 (tk [7,8,9] (.go 11 (.take 12 .fin) .fin)) .fin) .fin)))),(26,(tk [0,1,2,4,3,5] (.go 6 .fin .fin)))],wj⟩
def code:=cd f57
def BM:=tp f57
variable(K:VK)(y0 y4 y5 y6:wm)(w:wn)
def k27:=nk ann 83 [(4,y4)] w [1,1] code (BM K)
def k17:=nk ann 83 [(0,y0),(4,y4),(5,y5),(6,y6)] w [1,0,1,0,1,1,1,1,1,1,1,1,1,0,1] code (BM K)
def k19:=nk ann 83 [(0,y0),(4,y4),(5,y5)] w [1,0,1,0,1,1,1,1,1,1,1,1,1,0,1,1] code (BM K)
attribute [irreducible] k27 k17 k19
end F57
def F57.k27.to(h:(Am Z (Instr.build 38 #[]) w λa b=>Aj 5 y4 a b λc=>Ak 5 y4 c λr3 _=>K r3 c)):F57.k27 K y4 w:=qq h
def F57.k17.to(h:(A8 y6 w λa b=>Af a (I Z 54 #[(v6 wg 4)] b λc d=>Aj 5 y4 c d λf=>Ak 5 y4 f λr4 _=>K r4 f) (F57.k19 K y0 y4 y5 b))):F57.k17 K y0 y4 y5 y6 w:=qq h
def F57.k19.to(h:(Ak 2 y5 w λa b=>I Z 81 #[y0,a] b λc d=>Aj 5 y4 c d λf=>Ak 5 y4 f λr4 _=>K r4 f)):F57.k19 K y0 y4 y5 w:=qq h
def F57.sh(h:(Aq (wt (wm.cells x1) 40) w λa b=>Aq (wt #[v6 wg 0,v6 wg 0,v6 wg 0,v6 wg 0,v6 wg 0] 38) b λc d=>Ab 0 a d λf g=>Ac f g λi j=>U .eql i (v6 wg 1) j λk m=>Af k (A2 m λS o=>Ae x0 o λp q=>Ab 12 p q λr s=>Ab 1 a s λt u=>An S r u λv x=>An S t x λy z=>(I Z 98 #[v,y] z λaa ab=>(S ab/\
 F57.k27 K c ab))/\True) (U .eql i (v6 wg 2) m λac ad=>Af ac (A2 ad λS ae=>Ae x0 ae λaf ag=>Ab 12 af ag λah ai=>Ab 1 a ai λaj ak=>An S ah ak λal am=>An S aj am λan ao=>(I Z 99 #[al,an] ao λap aq=>(S aq/\
 F57.k27 K c aq))/\True) (U .eql i (v6 wg 3) ad λar au=>Af ar (Ak 7 a au λav aw=>I Z 100 #[x0,av] aw λax ay=>Aj 5 c ax ay λaz=>Ak 5 c az λr25 _=>K r25 az) (U .eql i (v6 wg 4) au λba bb=>Af ba (Af ba (Ak 7 a bb λbc bd=>I Z 101 #[x0,bc] bd λbe bf=>Aj 5 c be bf λbg=>Ak 5 c bg λr30 _=>K r30 bg) (U .eql i (v6 wg 8) bb λbh bi=>Af bh (A2 bi λS bj=>Ae x0 bj λbk bl=>Ab 12 bk bl λbm bn=>Ab 1 a bn λbo bp=>An S bm bp λbq br=>An S bo br λbs bt=>(I Z 102 #[bq,bs] bt λbu bv=>(S bv/\
 Ao 0 bu bv λbw bx=>Ao 1 bu bx λbz ca=>(Aq (wt #[v6 wg 0,v6 wg 0] 60) ca λcb cc=>(S cc/\
 (Aj 2 cb bw cc λce=>(S ce/\
 F57.k17 K x0 c cb bz ce))/\True))/\True))/\((Aq (wt #[v6 wg 0,v6 wg 0] 60) bt λcf cg=>(S cg/\
 (I Z 102 #[bq,bs] cg λch ci=>(S ci/\
 Ao 0 ch ci λcj ck=>Ao 1 ch ck λcl cm=>(Aj 2 cf cj cm λcn=>(S cn/\
 F57.k17 K x0 c cf cl cn))/\True))/\True))/\True)) (U .eql i (v6 wg 10) bi λco cp=>Af co (Ak 7 a cp λcq cr=>I Z 103 #[x0,cq] cr λcs ct=>Aj 5 c cs ct λcu=>Ak 5 c cu λr52 _=>K r52 cu) (U .eql i (v6 wg 11) cp λcv cw=>Af cv (Af cv (Ak 7 a cw λcx cy=>I Z 104 #[x0,cx] cy λcz da=>Aj 5 c cz da λdb=>Ak 5 c db λr57 _=>K r57 db) (U .eql i (v6 wg 14) cw λdc dd=>Af dc (A2 dd λS de=>Ae x0 de λdf dg=>Ab 12 df dg λdh di=>Ab 1 a di λdj dk=>An S dh dk λdl dm=>An S dj dm λdn dp=>(I Z 105 #[dl,dn] dp λdq dr=>(S dr/\
 F57.k27 K c dr))/\True) (Ak 7 a dd λds dt=>I Z 106 #[x0,ds] dt λdu dv=>Aj 5 c du dv λdw=>Ak 5 c dw λr69 _=>K r69 dw))) (U .eql i (v6 wg 12) cw λdx dy=>Af dx (Ak 7 a dy λdz ea=>I Z 104 #[x0,dz] ea λeb ec=>Aj 5 c eb ec λed=>Ak 5 c ed λr74 _=>K r74 ed) (U .eql i (v6 wg 14) dy λee ef=>Af ee (A2 ef λS eg=>Ae x0 eg λeh ei=>Ab 12 eh ei λej ek=>Ab 1 a ek λel em=>An S ej em λen eo=>An S el eo λep eq=>(I Z 105 #[en,ep] eq λer es=>(S es/\
 F57.k27 K c es))/\True) (Ak 7 a ef λet eu=>I Z 106 #[x0,et] eu λev ew=>Aj 5 c ev ew λex=>Ak 5 c ex λr86 _=>K r86 ex))))))) (U .eql i (v6 wg 5) bb λey ez=>Af ey (Af ey (Ak 7 a ez λfa fb=>I Z 101 #[x0,fa] fb λfc fd=>Aj 5 c fc fd λfe=>Ak 5 c fe λr91 _=>K r91 fe) (U .eql i (v6 wg 8) ez λff fg=>Af ff (A2 fg λS fh=>Ae x0 fh λfi fj=>Ab 12 fi fj λfk fl=>Ab 1 a fl λfm fn=>An S fk fn λfo fp=>An S fm fp λfq fr=>(I Z 102 #[fo,fq] fr λfs ft=>(S ft/\
 Ao 0 fs ft λfu fv=>Ao 1 fs fv λfw fx=>(Aq (wt #[v6 wg 0,v6 wg 0] 60) fx λfy fz=>(S fz/\
 (Aj 2 fy fu fz λga=>(S ga/\
 F57.k17 K x0 c fy fw ga))/\True))/\True))/\((Aq (wt #[v6 wg 0,v6 wg 0] 60) fr λgb gc=>(S gc/\
 (I Z 102 #[fo,fq] gc λgd ge=>(S ge/\
 Ao 0 gd ge λgf gg=>Ao 1 gd gg λgh gi=>(Aj 2 gb gf gi λgj=>(S gj/\
 F57.k17 K x0 c gb gh gj))/\True))/\True))/\True)) (U .eql i (v6 wg 10) fg λgk gl=>Af gk (Ak 7 a gl λgm gn=>I Z 103 #[x0,gm] gn λgo gp=>Aj 5 c go gp λgq=>Ak 5 c gq λr113 _=>K r113 gq) (U .eql i (v6 wg 11) gl λgr gs=>Af gr (Af gr (Ak 7 a gs λgt gu=>I Z 104 #[x0,gt] gu λgv gw=>Aj 5 c gv gw λgx=>Ak 5 c gx λr118 _=>K r118 gx) (U .eql i (v6 wg 14) gs λgy gz=>Af gy (A2 gz λS ha=>Ae x0 ha λhb hc=>Ab 12 hb hc λhd he=>Ab 1 a he λhf hg=>An S hd hg λhh hi=>An S hf hi λhj hk=>(I Z 105 #[hh,hj] hk λhl hm=>(S hm/\
 F57.k27 K c hm))/\True) (Ak 7 a gz λhn ho=>I Z 106 #[x0,hn] ho λhp hq=>Aj 5 c hp hq λhr=>Ak 5 c hr λr130 _=>K r130 hr))) (U .eql i (v6 wg 12) gs λhs ht=>Af hs (Ak 7 a ht λhu hv=>I Z 104 #[x0,hu] hv λhw hx=>Aj 5 c hw hx λhy=>Ak 5 c hy λr135 _=>K r135 hy) (U .eql i (v6 wg 14) ht λhz ia=>Af hz (A2 ia λS ib=>Ae x0 ib λic id=>Ab 12 ic id λie ig=>Ab 1 a ig λih ii=>An S ie ii λij ik=>An S ih ik λil im=>(I Z 105 #[ij,il] im λio ip=>(S ip/\
 F57.k27 K c ip))/\True) (Ak 7 a ia λiq ir=>I Z 106 #[x0,iq] ir λit iu=>Aj 5 c it iu λiv=>Ak 5 c iv λr147 _=>K r147 iv))))))) (U .eql i (v6 wg 6) ez λiw ix=>Af iw (Af iw (Ak 7 a ix λiy iz=>I Z 101 #[x0,iy] iz λja jb=>Aj 5 c ja jb λjc=>Ak 5 c jc λr152 _=>K r152 jc) (U .eql i (v6 wg 8) ix λjd je=>Af jd (A2 je λS jf=>Ae x0 jf λjg jh=>Ab 12 jg jh λji jj=>Ab 1 a jj λjk jl=>An S ji jl λjm jn=>An S jk jn λjo jp=>(I Z 102 #[jm,jo] jp λjq jr=>(S jr/\
 Ao 0 jq jr λjs jt=>Ao 1 jq jt λju jv=>(Aq (wt #[v6 wg 0,v6 wg 0] 60) jv λjw jx=>(S jx/\
 (Aj 2 jw js jx λjy=>(S jy/\
 F57.k17 K x0 c jw ju jy))/\True))/\True))/\((Aq (wt #[v6 wg 0,v6 wg 0] 60) jp λjz ka=>(S ka/\
 (I Z 102 #[jm,jo] ka λkb kc=>(S kc/\
 Ao 0 kb kc λkd ke=>Ao 1 kb ke λkf kg=>(Aj 2 jz kd kg λkh=>(S kh/\
 F57.k17 K x0 c jz kf kh))/\True))/\True))/\True)) (U .eql i (v6 wg 10) je λki kj=>Af ki (Ak 7 a kj λkk kl=>I Z 103 #[x0,kk] kl λkm kn=>Aj 5 c km kn λko=>Ak 5 c ko λr174 _=>K r174 ko) (U .eql i (v6 wg 11) kj λkp kq=>Af kp (Af kp (Ak 7 a kq λkr ks=>I Z 104 #[x0,kr] ks λkt ku=>Aj 5 c kt ku λkv=>Ak 5 c kv λr179 _=>K r179 kv) (U .eql i (v6 wg 14) kq λkw kx=>Af kw (A2 kx λS ky=>Ae x0 ky λkz la=>Ab 12 kz la λlb lc=>Ab 1 a lc λld le=>An S lb le λlf lg=>An S ld lg λlh li=>(I Z 105 #[lf,lh] li λlj lk=>(S lk/\
 F57.k27 K c lk))/\True) (Ak 7 a kx λll lm=>I Z 106 #[x0,ll] lm λln lo=>Aj 5 c ln lo λlp=>Ak 5 c lp λr191 _=>K r191 lp))) (U .eql i (v6 wg 12) kq λlq lr=>Af lq (Ak 7 a lr λls lt=>I Z 104 #[x0,ls] lt λlu lv=>Aj 5 c lu lv λlw=>Ak 5 c lw λr196 _=>K r196 lw) (U .eql i (v6 wg 14) lr λlx ly=>Af lx (A2 ly λS lz=>Ae x0 lz λma mb=>Ab 12 ma mb λmc md=>Ab 1 a md λme mf=>An S mc mf λmg mh=>An S me mh λmi mj=>(I Z 105 #[mg,mi] mj λmk ml=>(S ml/\
 F57.k27 K c ml))/\True) (Ak 7 a ly λmm mn=>I Z 106 #[x0,mm] mn λmo mp=>Aj 5 c mo mp λmq=>Ak 5 c mq λr208 _=>K r208 mq))))))) (U .eql i (v6 wg 7) ix λmr ms=>Af mr (Af mr (Ak 7 a ms λmt mu=>I Z 101 #[x0,mt] mu λmv mw=>Aj 5 c mv mw λmx=>Ak 5 c mx λr213 _=>K r213 mx) (U .eql i (v6 wg 8) ms λmy mz=>Af my (A2 mz λS na=>Ae x0 na λnb nc=>Ab 12 nb nc λnd ne=>Ab 1 a ne λnf ng=>An S nd ng λnh ni=>An S nf ni λnj nm=>(I Z 102 #[nh,nj] nm λnn no=>(S no/\
 Ao 0 nn no λnp nq=>Ao 1 nn nq λnr ns=>(Aq (wt #[v6 wg 0,v6 wg 0] 60) ns λnt nu=>(S nu/\
 (Aj 2 nt np nu λnv=>(S nv/\
 F57.k17 K x0 c nt nr nv))/\True))/\True))/\((Aq (wt #[v6 wg 0,v6 wg 0] 60) nm λnw nx=>(S nx/\
 (I Z 102 #[nh,nj] nx λny nz=>(S nz/\
 Ao 0 ny nz λoa ob=>Ao 1 ny ob λoc od=>(Aj 2 nw oa od λoe=>(S oe/\
 F57.k17 K x0 c nw oc oe))/\True))/\True))/\True)) (U .eql i (v6 wg 10) mz λog oh=>Af og (Ak 7 a oh λoi oj=>I Z 103 #[x0,oi] oj λok ol=>Aj 5 c ok ol λom=>Ak 5 c om λr235 _=>K r235 om) (U .eql i (v6 wg 11) oh λon oo=>Af on (Af on (Ak 7 a oo λop oq=>I Z 104 #[x0,op] oq λos ot=>Aj 5 c os ot λou=>Ak 5 c ou λr240 _=>K r240 ou) (U .eql i (v6 wg 14) oo λov ow=>Af ov (A2 ow λS ox=>Ae x0 ox λoy oz=>Ab 12 oy oz λpa pb=>Ab 1 a pb λpc pd=>An S pa pd λpe pf=>An S pc pf λpg ph=>(I Z 105 #[pe,pg] ph λpi pj=>(S pj/\
 F57.k27 K c pj))/\True) (Ak 7 a ow λpk pl=>I Z 106 #[x0,pk] pl λpm pn=>Aj 5 c pm pn λpo=>Ak 5 c po λr252 _=>K r252 po))) (U .eql i (v6 wg 12) oo λpp pq=>Af pp (Ak 7 a pq λpr ps=>I Z 104 #[x0,pr] ps λpt pu=>Aj 5 c pt pu λpv=>Ak 5 c pv λr257 _=>K r257 pv) (U .eql i (v6 wg 14) pq λpw px=>Af pw (A2 px λS py=>Ae x0 py λpz qa=>Ab 12 pz qa λqb qc=>Ab 1 a qc λqd qe=>An S qb qe λqf qg=>An S qd qg λqh qi=>(I Z 105 #[qf,qh] qi λqj qk=>(S qk/\
 F57.k27 K c qk))/\True) (Ak 7 a px λql qm=>I Z 106 #[x0,ql] qm λqn qo=>Aj 5 c qn qo λqp=>Ak 5 c qp λr269 _=>K r269 qp))))))) (U .eql i (v6 wg 9) ms λqr qs=>Af qr (Ak 7 a qs λqt qu=>I Z 101 #[x0,qt] qu λqv qw=>Aj 5 c qv qw λqx=>Ak 5 c qx λr274 _=>K r274 qx) (U .eql i (v6 wg 8) qs λqy qz=>Af qy (A2 qz λS ra=>Ae x0 ra λrb rc=>Ab 12 rb rc λrd re=>Ab 1 a re λrf rg=>An S rd rg λrh ri=>An S rf ri λrj rk=>(I Z 102 #[rh,rj] rk λrl rm=>(S rm/\
 Ao 0 rl rm λrn ro=>Ao 1 rl ro λrp rq=>(Aq (wt #[v6 wg 0,v6 wg 0] 60) rq λrr rs=>(S rs/\
 (Aj 2 rr rn rs λrt=>(S rt/\
 F57.k17 K x0 c rr rp rt))/\True))/\True))/\((Aq (wt #[v6 wg 0,v6 wg 0] 60) rk λru rv=>(S rv/\
 (I Z 102 #[rh,rj] rv λrw rx=>(S rx/\
 Ao 0 rw rx λry rz=>Ao 1 rw rz λsa sb=>(Aj 2 ru ry sb λsc=>(S sc/\
 F57.k17 K x0 c ru sa sc))/\True))/\True))/\True)) (U .eql i (v6 wg 10) qz λsd se=>Af sd (Ak 7 a se λsf sg=>I Z 103 #[x0,sf] sg λsh si=>Aj 5 c sh si λsj=>Ak 5 c sj λr296 _=>K r296 sj) (U .eql i (v6 wg 11) se λsk sl=>Af sk (Af sk (Ak 7 a sl λsm sn=>I Z 104 #[x0,sm] sn λso sp=>Aj 5 c so sp λsq=>Ak 5 c sq λr301 _=>K r301 sq) (U .eql i (v6 wg 14) sl λsr ss=>Af sr (A2 ss λS st=>Ae x0 st λsu sv=>Ab 12 su sv λsw sx=>Ab 1 a sx λsy sz=>An S sw sz λta tb=>An S sy tb λtc td=>(I Z 105 #[ta,tc] td λte tf=>(S tf/\
 F57.k27 K c tf))/\True) (Ak 7 a ss λtg th=>I Z 106 #[x0,tg] th λti tj=>Aj 5 c ti tj λtk=>Ak 5 c tk λr313 _=>K r313 tk))) (U .eql i (v6 wg 12) sl λtl tm=>Af tl (Ak 7 a tm λtn to=>I Z 104 #[x0,tn] to λtq tr=>Aj 5 c tq tr λts=>Ak 5 c ts λr318 _=>K r318 ts) (U .eql i (v6 wg 14) tm λtt tu=>Af tt (A2 tu λS tv=>Ae x0 tv λtw tx=>Ab 12 tw tx λty tz=>Ab 1 a tz λua ub=>An S ty ub λuc ud=>An S ua ud λue uf=>(I Z 105 #[uc,ue] uf λug uh=>(S uh/\
 F57.k27 K c uh))/\True) (Ak 7 a tu λui uj=>I Z 106 #[x0,ui] uj λuk ul=>Aj 5 c uk ul λum=>Ak 5 c um λr330 _=>K r330 um))))))))))))))):I Z 57 #[x0,x1] w K:=BK (A:=F57.ann) (args:=[x0,x1]) (qq h)
def F58.sh(h:(Aq (wt (wm.cells x0) 94) w λa b=>Ab 0 a b λc d=>Ac c d λf g=>I Z 107 #[f,x1,x2] g λi j=>K (wc #[]) j)):I Z 58 #[x0,x1,x2] w K:=BK (A:=A0) (args:=[x0,x1,x2]) (qq h)
namespace F81
def ann:Cg:=⟨[(3,[3,4])],[],[],[(2,(tk [0,1,2,4,3] (.go 5 (.go 6 (.take 7 (.go 8 .fin .fin)) .fin) .fin)))],wj⟩
def code:=cd f81
def BM:=tp f81
variable(K:VK)(y3 y4:wm)(w:wn)
@[irreducible]def k3:=nk ann 21 [(3,y3),(4,y4)] w [1,1] code (BM K)
end F81
def F81.k3.to(h:(Ab 0 y3 w λa b=>Ac a b λc d=>Ab 1 y3 d λf g=>Ac f g λi j=>Am Z (Instr.build 38 #[(1,c),(2,i)]) j λk m=>Aj 5 y4 k m λo=>Ak 5 y4 o λr7 _=>K r7 o)):F81.k3 K y3 y4 w:=qq h
def F81.sh(h:(Aq (wt (wm.cells x1) 60) w λa b=>Aq (wt #[v6 wg 0,v6 wg 0,v6 wg 0,v6 wg 0,v6 wg 0] 38) b λc d=>Ab 0 a d λf g=>Ac f g λi j=>U .eql i (v6 wg 2) j λk m=>Af k (A2 m λS o=>Ae x0 o λp q=>Ab 12 p q λr s=>Ab 1 a s λt u=>An S r u λv x=>(Ac t x λy z=>(S z/\
 (I Z 49 #[v,y] z λaa ab=>(S ab/\
 Ab 1 a ab λac ad=>(Aj 1 ac aa ad λae=>(S ae/\
 F81.k3 K a c ae))/\True))/\True))/\True) (F81.k3 K a c m))):I Z 81 #[x0,x1] w K:=BK (A:=F81.ann) (args:=[x0,x1]) (qq h)
namespace F84
def ann:Cg:=⟨[(2,[1,6,7,8]),(6,[1,6,7,8])],[(1,[1,6,7,8])],[],[],wj⟩
def code:=cd f84
def BM:=tp f84
variable(K:VK)(y1 y6 y7 y8:wm)(w:wn)
def l1:=nl ann 28 [(1,y1),(6,y6),(7,y7),(8,y8)] w [1,0] code (BM K)
def k2:=nk ann 28 [(1,y1),(6,y6),(7,y7),(8,y8)] w [1,0,0,1,1] code (BM K)
def k6:=nk ann 28 [(1,y1),(6,y6),(7,y7),(8,y8)] w [1,0,0,1,1,1] code (BM K)
attribute [irreducible] l1 k2 k6
end F84
def F84.l1.to(h:(U .lss y8 y7 w λa b=>Af a (F84.k2 K y1 y6 y7 y8 b) (K (wc #[]) b))):F84.l1 K y1 y6 y7 y8 w:=by unfold F84.l1 nl;exact BW (qq h)
def F84.k2.to(h:(AC 2 y6 y8 w λa b=>Ak 2 a b λc d=>Aq (wt #[v6 wg 0,v6 wg 0] 60) d λf g=>Aj 2 f c g λi=>Ab 1 f i λj k=>Ac j k λm o=>Ab 0 f o λp q=>Ac p q λr s=>U .eql r (v6 wg 2) s λt u=>Aa wk t (Ac y1 u) u λv x=>Aa wk t (λK=>K m x) x λy z=>Aa wk t (λK=>I Z 85 #[v,y] z K) z λaa ab=>Aa wk t (A8 aa ab) ab λac ad=>Aw (wh t) (wh ac) (wh (wd wl)) ad λae af=>Af ae (Ac y1 af λag ah=>Am Z (Instr.buildSlice 54 1 #[(0,m)]) ah λai aj=>Am Z (Builtin.append_ #[54,54] 54 #[ag,ai]) aj λak al=>Aj 1 y1 ak al λam=>F84.k6 K y1 y6 y7 y8 am) (F84.k6 K y1 y6 y7 y8 af))):F84.k2 K y1 y6 y7 y8 w:=qq h
def F84.k6.to(h:(U .add y8 (v6 wg 1) w λa b=>F84.l1 K y1 y6 y7 a b)):F84.k6 K y1 y6 y7 y8 w:=qq h
def F84.sh(h:(AD x0 w λa b=>F84.l1 K x1 x0 a (v6 wg 0) b)):I Z 84 #[x0,x1] w K:=BK (A:=F84.ann) (args:=[x0,x1]) (qq h)
namespace F87
def ann:Cg:=⟨[],[],[],[(1,(tk [4,10,0,1,2,3,6,7,8,9] (.go 5 (.go 11 (tk [12,13] .fin) .fin) .fin)))],wj⟩
end F87
def F87.sh(h:(A2 w λS a=>An S x2 a λb c=>Ae b c λd f=>Ab 12 d f λg i=>An S g i λj k=>An S x2 k λm o=>Ae m o λp q=>Ab 12 p q λr s=>An S r s λt u=>(I Z 49 #[j,x0] u λv x=>(S x/\
 (I Z 49 #[t,x1] x λy z=>(S z/\
 U .sub v y z λaa ab=>K aa ab))/\True))/\True)):I Z 87 #[x0,x1,x2] w K:=BK (A:=F87.ann) (args:=[x0,x1,x2]) (qq h)
def F96.sh(h:(Am Z (Instr.build 213 #[(0,(v6 wg 0)),(1,(v6 wg 1)),(2,(v6 wg 1)),(3,(v6 wg 49)),(4,(v6 wg 33)),(5,(v6 wg 1)),(6,(v6 wg 1)),(7,(v6 wg 3)),(8,(v6 wg 1)),(9,(v6 wg 7)),(10,(v6 wg 15)),(11,(v6 wg 11)),(12,(v6 wg 3)),(13,(v6 wg 33)),(14,(v6 wg 1)),(15,(v6 wg 49)),(16,(v6 wg 32)),(17,(v6 wg 0))]) w λa b=>Am Z (Instr.index 213 a x0) b λc d=>K c d)):I Z 96 #[x0] w K:=BK (A:=A0) (args:=[x0]) (qq h)
def F97.sh(h:(Aq (wt (wm.cells x0) 40) w λa b=>Aq (wt #[v6 wg 0,v6 wg 0,v6 wg 0,v6 wg 0,v6 wg 0] 158) b λc d=>Ab 1 a d λf g=>Ac f g λi j=>Ab 2 a j λk m=>Ac k m λo p=>Ab 3 a p λq r=>Ac q r λs t=>Ab 4 a t λu v=>Ac u v λx y=>Ab 5 a y λz aa=>Ac z aa λab ac=>Am Z (Instr.build 158 #[(0,i),(1,o),(2,s),(3,x),(4,ab)]) ac λad ae=>Aj 5 c ad ae λaf=>Ak 5 c af λr15 _=>K r15 af)):I Z 97 #[x0] w K:=BK (A:=A0) (args:=[x0]) (qq h)
namespace F100
def ann:Cg:=⟨[(6,[0,3,4]),(10,[0,3,4,5,7]),(12,[0,3,4,5,7])],[],[],[(2,(tk [0,2,3,4,5,1,6] (.go 7 (.take 8 .fin) .fin))),(4,(tk [0,1,2,4,3,5] (.go 6 (tk [7,8,9] .fin) .fin))),(6,(tk [0,1,2,4,6,3,5,7] (.go 8 (tk [9,10,11,12,13] .fin) .fin))),(13,(tk [0,1,2,4,3,5,6] (.go 7 .fin .fin))),(15,(tk [0,2,1,4,3] (.go 5 (.take 6 (.go 7 .fin .fin)) .fin)))],wj⟩
def code:=cd f100
def BM:=tp f100
variable(K:VK)(y0 y3 y4 y5 y7:wm)(w:wn)
def k6:=nk ann 78 [(0,y0),(3,y3),(4,y4)] w [1,1] code (BM K)
def k10:=nk ann 78 [(0,y0),(3,y3),(4,y4),(5,y5),(7,y7)] w [1,1,1,1,1] code (BM K)
def k12:=nk ann 78 [(0,y0),(3,y3),(4,y4),(5,y5),(7,y7)] w [1,1,1,1,1,1] code (BM K)
attribute [irreducible] k6 k10 k12
end F100
def F100.k6.to(h:(A2 w λS a=>Ae y0 a λb c=>Ab 12 b c λd f=>Ab 1 y3 f λg i=>Ab 6 y3 i λj k=>An S d k λm o=>An S g o λp q=>An S j q λr s=>(I Z 151 #[m,p,r] s λt u=>(S u/\
 Ao 0 t u λv x=>Ao 1 t x λy z=>Aq (wt #[v6 wg 0,v6 wg 0,v6 wg 0,v6 wg 0,v6 wg 0] 38) z λaa ab=>A8 y ab λac ad=>Af ac (Ak 7 y3 ad λae af=>I Z 152 #[y0,ae] af λag ah=>Ao 0 ag ah λai aj=>Ao 1 ag aj λak al=>Aj 5 aa ak al λam=>F100.k10 K y0 y3 y4 ai aa am) (F100.k10 K y0 y3 y4 v aa ad)))/\True)):F100.k6 K y0 y3 y4 w:=qq h
def F100.k10.to(h:(Ab 0 y7 w λa b=>Ac a b λc d=>U .neq c (v6 wg 0) d λf g=>Af f (Ak 5 y7 g λi j=>Aj 5 y4 i j λk=>Ak 5 y4 k λr6 _=>K r6 k) (F100.k12 K y0 y3 y4 y5 y7 g))):F100.k10 K y0 y3 y4 y5 y7 w:=qq h
def F100.k12.to(h:(I Z 153 #[y5] w λa b=>Aq (wt #[v6 wg 0,v6 wg 0] 60) b λc d=>Aj 2 c a d λf=>A2 f λS g=>Ae y0 g λi j=>Ab 12 i j λk m=>Ab 1 y3 m λo p=>An S k p λq r=>An S o r λs t=>AM S 2 c t λu v=>(I Z 154 #[q,s,u] v λx y=>(S y/\
 Ak 2 c y λz aa=>I Z 81 #[y0,z] aa λab ac=>Aq (wt #[v6 wg 0,v6 wg 0,v6 wg 0,v6 wg 0,v6 wg 0] 38) ac λad ae=>Aj 5 ad ab ae λaf=>A2 af λS ag=>Ab 1 ad ag λah ai=>Ab 2 ad ai λaj ak=>An S ah ak λal am=>Ab 1 y7 am λan ao=>An S aj ao λap aq=>(Aj 1 an al aq λar=>(S ar/\
 Ab 2 y7 ar λau av=>(Aj 1 au ap av λaw=>(S aw/\
 Ak 5 y7 aw λax ay=>Aj 5 y4 ax ay λaz=>Ak 5 y4 az λr27 _=>K r27 az))/\True))/\True))/\True)):F100.k12 K y0 y3 y4 y5 y7 w:=qq h
def F100.sh(h:(Aq (wt (wm.cells x1) 40) w λa b=>Aq (wt #[v6 wg 0,v6 wg 0,v6 wg 0,v6 wg 0,v6 wg 0] 38) b λc d=>Ab 6 a d λf g=>Ac f g λi j=>I Z 150 #[i,(v6 wg 0),(v6 wg 127)] j λk m=>Af k (Af k (I Z 54 #[(v6 wg 4)] m λo p=>Aj 5 c o p λq=>Ak 5 c q λr8 _=>K r8 q) (A2 m λS r=>Ae x0 r λs t=>Ab 12 s t λu v=>Ab 1 a v λx y=>An S u y λz aa=>An S x aa λab ac=>(I Z 47 #[z,ab] ac λad ae=>(S ae/\
 AD ad ae λaf ag=>U .eql af (v6 wg 16) ag λah ai=>Af ah (I Z 54 #[(v6 wg 3)] ai λaj ak=>Aj 5 c aj ak λal=>Ak 5 c al λr20 _=>K r20 al) (F100.k6 K x0 a c ai)))/\True)) (A2 m λS am=>Ab 5 a am λan ao=>Ae x0 ao λap aq=>Ab 2 ap aq λar au=>Ab 3 ar au λav aw=>An S an aw λax ay=>An S av ay λaz ba=>(I Z 150 #[ax,(v6 wg 1),az] ba λbb bc=>(S bc/\
 Af bb (I Z 54 #[(v6 wg 4)] bc λbd be=>Aj 5 c bd be λbf=>Ak 5 c bf λr31 _=>K r31 bf) (A2 bc λS bg=>Ae x0 bg λbh bi=>Ab 12 bh bi λbj bk=>Ab 1 a bk λbl bm=>An S bj bm λbn bo=>An S bl bo λbp bq=>(I Z 47 #[bn,bp] bq λbr bs=>(S bs/\
 AD br bs λbt bu=>U .eql bt (v6 wg 16) bu λbv bw=>Af bv (I Z 54 #[(v6 wg 3)] bw λbx bz=>Aj 5 c bx bz λca=>Ak 5 c ca λr43 _=>K r43 ca) (F100.k6 K x0 a c bw)))/\True)))/\True))):I Z 100 #[x0,x1] w K:=BK (A:=F100.ann) (args:=[x0,x1]) (qq h)
namespace F101
def ann:Cg:=⟨[(4,[0,3,4,5]),(6,[0,4,5])],[],[],[(4,(tk [0,1,2,4,3,5,6] (.go 7 (.take 8 .fin) .fin)))],wj⟩
def code:=cd f101
def BM:=tp f101
variable(K:VK)(y0 y3 y4 y5:wm)(w:wn)
def k4:=nk ann 30 [(0,y0),(3,y3),(4,y4),(5,y5)] w [1,1,1] code (BM K)
def k6:=nk ann 30 [(0,y0),(4,y4),(5,y5)] w [1,1,1,1] code (BM K)
attribute [irreducible] k4 k6
end F101
def F101.k4.to(h:(A2 w λS a=>Ae y0 a λb c=>Ab 12 b c λd f=>Ab 1 y3 f λg i=>An S d i λj k=>An S g k λm o=>AM S 2 y5 o λp q=>(I Z 154 #[j,m,p] q λr s=>(S s/\
 A8 r s λt u=>Af t (I Z 54 #[(v6 wg 3)] u λv x=>Aj 5 y4 v x λy=>Ak 5 y4 y λr12 _=>K r12 y) (F101.k6 K y0 y4 y5 u)))/\True)):F101.k4 K y0 y3 y4 y5 w:=qq h
def F101.k6.to(h:(Ak 2 y5 w λa b=>I Z 81 #[y0,a] b λc d=>Aj 5 y4 c d λf=>Ak 5 y4 f λr4 _=>K r4 f)):F101.k6 K y0 y4 y5 w:=qq h
def F101.sh(h:(Aq (wt (wm.cells x1) 40) w λa b=>Aq (wt #[v6 wg 0,v6 wg 0,v6 wg 0,v6 wg 0,v6 wg 0] 38) b λc d=>Ak 7 a d λf g=>I Z 155 #[x0,f] g λi j=>Ao 0 i j λk m=>Ao 1 i m λo p=>Aq (wt #[v6 wg 0,v6 wg 0] 60) p λq r=>Aj 2 q k r λs=>U .neq o (v6 wg 0) s λt u=>Af t (I Z 54 #[o] u λv x=>Aj 5 c v x λy=>Ak 5 c y λr12 _=>K r12 y) (F101.k4 K x0 a c q u))):I Z 101 #[x0,x1] w K:=BK (A:=F101.ann) (args:=[x0,x1]) (qq h)
namespace F103
def ann:Cg:=⟨[(4,[0,3,4,5]),(7,[4])],[],[],[(5,(tk [0,1,2,3,4,5,7,9,10,6,8,11,12] (.go 13 (tk [14,15] .fin) .fin)))],wj⟩
def code:=cd f103
def BM:=tp f103
variable(K:VK)(y0 y3 y4 y5:wm)(w:wn)
def k4:=nk ann 46 [(0,y0),(3,y3),(4,y4),(5,y5)] w [1,1,1] code (BM K)
def k7:=nk ann 46 [(4,y4)] w [1,1,1,1,1] code (BM K)
attribute [irreducible] k4 k7
end F103
def F103.k4.to(h:(Ab 1 y3 w λa b=>Ac a b λc d=>Ab 4 y3 d λf g=>Ac f g λi j=>I Z 158 #[y0,c,i] j λk m=>Ao 0 k m λo p=>Ao 1 k p λq r=>Aq (wt #[v6 wg 0,v6 wg 0] 60) r λs t=>Aj 2 s o t λu=>A2 u λS v=>A8 q v λx y=>Aa wl x (λK=>K y0 y) y λz aa=>Aa wl x (Ae z aa) aa λab ac=>Aa wl x (Ab 12 ab ac) ac λad ae=>Aa wl x (Ab 1 y3 ae) ae λaf ag=>Aa wl x (λK=>K y5 ag) ag λah ai=>Aa wl x (Ab 3 y3 ai) ai λaj ak=>Aa wl x (An S ad ak) ak λal am=>Aa wl x (An S af am) am λan ao=>Aa wl x (An S aj ao) ao λap aq=>Aa wl x (AM S 2 s aq) aq λar au=>(Aa wl x (λK=>I Z 159 #[al,an,ah,ap,ar] au K) au λav aw=>(S aw/\
 Aa wl x (A8 av aw) aw λax ay=>Aw (wh x) (wh (wd wk)) (wh ax) ay λaz ba=>Af az (I Z 54 #[(v6 wg 4)] ba λbb bc=>Aj 5 y4 bb bc λbd=>Ak 5 y4 bd λr27 _=>K r27 bd) (F103.k7 K y4 ba)))/\True)):F103.k4 K y0 y3 y4 y5 w:=qq h
def F103.k7.to(h:(Am Z (Instr.build 38 #[]) w λa b=>Aj 5 y4 a b λc=>Ak 5 y4 c λr3 _=>K r3 c)):F103.k7 K y4 w:=qq h
def F103.sh(h:(Aq (wt (wm.cells x1) 40) w λa b=>Aq (wt #[v6 wg 0,v6 wg 0,v6 wg 0,v6 wg 0,v6 wg 0] 38) b λc d=>Ak 7 a d λf g=>I Z 157 #[x0,f] g λi j=>Ao 0 i j λk m=>Ao 1 i m λo p=>U .neq o (v6 wg 0) p λq r=>Af q (I Z 54 #[o] r λs t=>Aj 5 c s t λu=>Ak 5 c u λr10 _=>K r10 u) (F103.k4 K x0 a c k r))):I Z 103 #[x0,x1] w K:=BK (A:=F103.ann) (args:=[x0,x1]) (qq h)
namespace F104
def ann:Cg:=⟨[(13,[4,9])],[],[],[(10,(tk [0,1,2,4,3,5] (.go 6 (.take 7 .fin) .fin)))],wj⟩
def code:=cd f104
def BM:=tp f104
variable(K:VK)(y4 y9:wm)(w:wn)
@[irreducible]def k13:=nk ann 66 [(4,y4),(9,y9)] w [1,1,1,1,1] code (BM K)
end F104
def F104.k13.to(h:(Am Z (Instr.build 38 #[(1,(v6 wg 1)),(2,y9)]) w λa b=>Aj 5 y4 a b λc=>Ak 5 y4 c λr3 _=>K r3 c)):F104.k13 K y4 y9 w:=qq h
def F104.sh(h:(Aq (wt (wm.cells x1) 40) w λa b=>Aq (wt #[v6 wg 0,v6 wg 0,v6 wg 0,v6 wg 0,v6 wg 0] 38) b λc d=>Ab 1 a d λf g=>Ac f g λi j=>Ab 2 a j λk m=>Ac k m λo p=>I Z 158 #[x0,i,o] p λq r=>Ao 0 q r λs t=>Ao 1 q t λu v=>Aq (wt #[v6 wg 0,v6 wg 0] 60) v λx y=>Aj 2 x s y λz=>Ab 1 a z λaa ab=>Ac aa ab λac ad=>Ab 4 a ad λae af=>Ac ae af λag ah=>I Z 158 #[x0,ac,ag] ah λai aj=>Ao 0 ai aj λak al=>Ao 1 ai al λam an=>Aq (wt #[v6 wg 0,v6 wg 0] 60) an λao ap=>Aj 2 ao ak ap λaq=>A8 u aq λar au=>Af ar (Af ar (I Z 54 #[(v6 wg 4)] au λav aw=>Aj 5 c av aw λax=>Ak 5 c ax λr24 _=>K r24 ax) (Ab 0 a au λay az=>Ac ay az λba bb=>U .eql ba (v6 wg 12) bb λbc bd=>Aa wk bc (Ab 0 x bd) bd λbe bf=>Aa wk bc (Ac be bf) bf λbg bh=>Aa wk bc (U .neq bg (v6 wg 2) bh) bh λbi bj=>Aw (wh bc) (wh bi) (wh (wd wl)) bj λbk bl=>Af bk (I Z 54 #[(v6 wg 12)] bl λbm bn=>Aj 5 c bm bn λbo=>Ak 5 c bo λr34 _=>
 K r34 bo) (Ab 0 a bl λbp bq=>Ac bp bq λbr bs=>U .eql br (v6 wg 12) bs λbt bu=>Af bt (A2 bu λS bv=>Ae x0 bv λbw bx=>Ab 12 bw bx λbz ca=>Ab 1 x ca λcb cc=>An S bz cc λce cf=>An S cb cf λcg ch=>(I Z 90 #[ce,cg] ch λci cj=>(S cj/\
 F104.k13 K c ci cj))/\True) (Ak 2 x bu λck cl=>Ak 2 ao cl λcm cn=>AB Z .eql 60 (.tmp 61) (.tmp 62) ck cm cn λco cp=>Af co (F104.k13 K c (v6 wg 1) cp) (F104.k13 K c (v6 wg 0) cp))))) (Ab 0 a au λcq cr=>Ac cq cr λcs ct=>U .eql cs (v6 wg 11) ct λcu cv=>Aa wk cu (λK=>K am cv) cv λcw cx=>Aa wk cu (A8 cw cx) cx λcy cz=>Aw (wh cu) (wh cy) (wh (wd wl)) cz λda db=>Af da (I Z 54 #[(v6 wg 4)] db λdc dd=>Aj 5 c dc dd λde=>Ak 5 c de λr56 _=>K r56 de) (Ab 0 a db λdf dg=>Ac df dg λdh di=>U .eql dh (v6 wg 12) di λdj dk=>Aa wk dj (Ab 0 x dk) dk λdl dm=>Aa wk dj (Ac dl dm) dm λdn dp=>Aa wk dj (U .neq dn (v6 wg 2) dp) dp λdq dr=>Aw (wh dj) (wh dq) (wh (wd wl)) dr λds dt=>Af ds (I Z 54 #[(v6 wg 12)] dt λdu dv=>Aj 5 c du dv λdw=>Ak 5 c dw λr66 _=>K r66 dw) (Ab 0 a dt λdx dy=>Ac dx dy λdz ea=>U .eql dz (v6 wg 12) ea λeb ec=>Af eb (A2 ec λS ed=>Ae x0 ed λee ef=>Ab 12 ee ef λeg eh=>Ab 1 x eh λei ej=>
 An S eg ej λek el=>An S ei el λem en=>(I Z 90 #[ek,em] en λeo ep=>(S ep/\
 F104.k13 K c eo ep))/\True) (Ak 2 x ec λeq er=>Ak 2 ao er λes et=>AB Z .eql 60 (.tmp 61) (.tmp 62) eq es et λeu ev=>Af eu (F104.k13 K c (v6 wg 1) ev) (F104.k13 K c (v6 wg 0) ev))))))):I Z 104 #[x0,x1] w K:=BK (A:=F104.ann) (args:=[x0,x1]) (qq h)
namespace F106
def ann:Cg:=⟨[(17,[4])],[],[],[(2,(tk [0,1,2,4,6,8,3,5,7,9,10] (.go 11 .fin .fin))),(10,(tk [0,1,2,4,6,3,5,7] (.go 8 .fin .fin))),(13,(tk [0,2,3,4,5,1,6] (.go 7 (.take 8 .fin) .fin))),(15,(tk [0,1,2,3,5,7,9,4,6,8,10,11] (.go 12 (tk [13,14] .fin) .fin)))],wj⟩
def code:=cd f106
def BM:=tp f106
variable(K:VK)(y4:wm)(w:wn)
@[irreducible]def k17:=nk ann 87 [(4,y4)] w [1,1] code (BM K)
end F106
def F106.k17.to(h:(Am Z (Instr.build 38 #[]) w λa b=>Aj 5 y4 a b λc=>Ak 5 y4 c λr3 _=>K r3 c)):F106.k17 K y4 w:=qq h
def F106.sh(h:(Aq (wt (wm.cells x1) 40) w λa b=>Aq (wt #[v6 wg 0,v6 wg 0,v6 wg 0,v6 wg 0,v6 wg 0] 38) b λc d=>Ab 0 a d λf g=>Ac f g λi j=>U .eql i (v6 wg 17) j λk m=>Af k (Ae x0 m λo p=>Ab 12 o p λq r=>Ac q r λs t=>I Z 162 #[s] t λu v=>A8 u v λx y=>Af x (I Z 54 #[(v6 wg 9)] y λz aa=>Aj 5 c z aa λab=>Ak 5 c ab λr13 _=>K r13 ab) (F106.k17 K c y)) (Ab 6 a m λac ad=>Ac ac ad λae af=>I Z 150 #[ae,(v6 wg 1),(v6 wg 64)] af λag ah=>Af ag (I Z 54 #[(v6 wg 4)] ah λai aj=>Aj 5 c ai aj λak=>Ak 5 c ak λr19 _=>K r19 ak) (Ab 0 a ah λal am=>Ac al am λan ao=>U .eql an (v6 wg 13) ao λap aq=>Af ap (A2 aq λS ar=>Ae x0 ar λau av=>Ab 0 au av λaw ax=>Ab 1 a ax λay az=>Ab 6 a az λba bb=>AM S 2 aw bb λbc bd=>An S ay bd λbe bf=>An S ba bf λbg bh=>(I Z 58 #[bc,be,bg] bh λbi bj=>(S bj/\
 F106.k17 K c bj))/\True) (Ab 0 a aq λbk bl=>Ac bk bl λbm bn=>U .eql bm (v6 wg 16) bn λbo bp=>Af bo (Ab 6 a bp λbq br=>Ac bq br λbs bt=>I Z 163 #[x0,bs] bt λbu bv=>Aj 5 c bu bv λbw=>Ak 5 c bw λr39 _=>K r39 bw) (A2 bp λS bx=>Ab 5 a bx λbz ca=>Ae x0 ca λcb cc=>Ab 2 cb cc λce cf=>Ab 3 ce cf λcg ch=>An S bz ch λci cj=>An S cg cj λck cl=>(I Z 150 #[ci,(v6 wg 1),ck] cl λcm cn=>(S cn/\
 Af cm (I Z 54 #[(v6 wg 4)] cn λco cp=>Aj 5 c co cp λcq=>Ak 5 c cq λr50 _=>K r50 cq) (A2 cn λS cr=>Ae x0 cr λcs ct=>Ab 0 cs ct λcu cv=>Ab 0 cu cv λcw cx=>Ab 1 a cx λcy cz=>Ab 6 a cz λda db=>Ab 5 a db λdc dd=>An S cw dd λde df=>An S cy df λdg dh=>An S da dh λdi dj=>An S dc dj λdk dl=>U .mul di dk dl λdm dn=>(I Z 164 #[de,dg,dm] dn λdp dq=>(S dq/\
 A8 dp dq λdr ds=>Af dr (I Z 54 #[(v6 wg 21)] ds λdt du=>Aj 5 c dt du λdv=>Ak 5 c dv λr67 _=>K r67 dv) (Ab 6 a ds λdw dx=>Ac dw dx λdy dz=>I Z 163 #[x0,dy] dz λea eb=>Aq (wt #[v6 wg 0,v6 wg 0,v6 wg 0,v6 wg 0,v6 wg 0] 38) eb λec ed=>Aj 5 ec ea ed λee=>A2 ee λS ef=>Ae x0 ef λeg eh=>Ab 0 eg eh λei ej=>Ab 1 a ej λek el=>Ab 3 ec el λem en=>Ab 5 a en λeo ep=>AM S 2 ei ep λeq er=>An S ek er λes et=>An S em et λeu ev=>An S eo ev λew ex=>U .mul eu ew ex λey ez=>(I Z 165 #[eq,es,ey] ez λfa fb=>(S fb/\
 Ak 5 ec fb λfc fd=>Aj 5 c fc fd λfe=>Ak 5 c fe λr87 _=>K r87 fe))/\True)))/\True)))/\True)))))):I Z 106 #[x0,x1] w K:=BK (A:=F106.ann) (args:=[x0,x1]) (qq h)
def F150.sh(h:(U .lss x0 x1 w λa b=>Aa wl a (λK=>K x0 b) b λc d=>Aa wl a (λK=>K x2 d) d λf g=>Aa wl a (U .gtr c f g) g λi j=>Aw (wh a) (wh (wd wk)) (wh i) j λk m=>K k m)):I Z 150 #[x0,x1,x2] w K:=BK (A:=A0) (args:=[x0,x1,x2]) (qq h)
namespace F152
def ann:Cg:=⟨[(3,[0,3,5]),(6,[0,3,5,6])],[],[],[(1,(tk [0,1,2,3] (.go 4 (tk [5,6,7,8,9,12,13,14,15,10,16] (.go 11 (tk [17,18] .fin) .fin)) .fin))),(5,(tk [1,0] (.go 2 .fin .fin))),(6,(tk [0,1,2,4,6,3,5,7] (.go 8 (tk [9,10,11,12,13] .fin) .fin))),(8,(tk [0,2,1] (.go 3 .fin .fin)))],wj⟩
def code:=cd f152
def BM:=tp f152
variable(K:VK)(y0 y3 y5 y6:wm)(w:wn)
def k3:=nk ann 56 [(0,y0),(3,y3),(5,y5)] w [1,1] code (BM K)
def k6:=nk ann 56 [(0,y0),(3,y3),(5,y5),(6,y6)] w [1,1,1,1] code (BM K)
attribute [irreducible] k3 k6
end F152
def F152.k3.to(h:(Ak 7 y3 w λa b=>I Z 222 #[y0,a] b λc d=>Aq (wt #[v6 wg 0,v6 wg 0,v6 wg 0,v6 wg 0,v6 wg 0] 38) d λf g=>Aj 5 f c g λi=>Ab 0 f i λj k=>Ac j k λm o=>U .neq m (v6 wg 0) o λp q=>Af p (A2 q λS r=>AM S 5 f r λs t=>(Aj 5 y5 s t λu=>(S u/\
 Ak 5 y5 u λr11 _=>K (wc #[(v6 wg 0),r11]) u))/\True) (F152.k6 K y0 y3 y5 f q))):F152.k3 K y0 y3 y5 w:=qq h
def F152.k6.to(h:(A2 w λS a=>Ae y0 a λb c=>Ab 12 b c λd f=>Ab 1 y3 f λg i=>Ab 6 y3 i λj k=>An S d k λm o=>An S g o λp q=>An S j q λr s=>(I Z 223 #[m,p,r] s λt u=>(S u/\
 Ao 0 t u λv x=>Ao 1 t x λy z=>Ab 0 y6 z λaa ab=>Aj 1 aa y ab λac=>A2 ac λS ad=>AM S 5 y6 ad λae af=>(Aj 5 y5 ae af λag=>(S ag/\
 Ak 5 y5 ag λr17 _=>K (wc #[v,r17]) ag))/\True))/\True)):F152.k6 K y0 y3 y5 y6 w:=qq h
def F152.sh(h:(Aq (wt (wm.cells x1) 40) w λa b=>Aq (wt #[v6 wg 0,v6 wg 0,v6 wg 0,v6 wg 0,v6 wg 0] 38) b λc d=>A2 d λS f=>Ae x0 f λg i=>Ab 12 g i λj k=>An S j k λm o=>(I Z 59 #[m] o λp q=>(S q/\
 U .eql p (v6 wg 0) q λr s=>Aa wk r (λK=>K x0 s) s λt u=>Aa wk r (Ae t u) u λv x=>Aa wk r (Ab 12 v x) x λy z=>Aa wk r (λK=>K x0 z) z λaa ab=>Aa wk r (Ae aa ab) ab λac ad=>Aa wk r (Ab 2 ac ad) ad λae af=>Aa wk r (Ab 9 ae af) af λag ah=>Aa wk r (An S y ah) ah λai aj=>Aa wk r (An S ag aj) aj λak al=>(Aa wk r (λK=>I Z 221 #[ai] al K) al λam an=>(S an/\
 Aa wk r (U .lss am ak an) an λao ap=>Aw (wh r) (wh ao) (wh (wd wl)) ap λaq ar=>Af aq (Ae x0 ar λau av=>Ab 12 au av λaw ax=>Ac aw ax λay az=>I Z 162 #[ay] az λba bb=>F152.k3 K x0 a c bb) (F152.k3 K x0 a c ar)))/\True))/\True)):I Z 152 #[x0,x1] w K:=BK (A:=F152.ann) (args:=[x0,x1]) (qq h)
namespace F155
def ann:Cg:=⟨[(14,[0,3,4,6,8]),(15,[4,6,7]),(17,[4,6])],[],[],[(14,(tk [0,1,2,4,5,3,6] (.go 7 (tk [8,9,10] (.go 11 (.take 12 .fin) .fin)) .fin)))],wj⟩
def code:=cd f155
def BM:=tp f155
variable(K:VK)(y0 y3 y4 y6 y7 y8:wm)(w:wn)
def k15:=nk ann 67 [(4,y4),(6,y6),(7,y7)] w [1,1,1] code (BM K)
def k14:=nk ann 67 [(0,y0),(3,y3),(4,y4),(6,y6),(8,y8)] w [1,1,0,1,0,1,1,1,1,1,1,1,0,1,1] code (BM K)
def k17:=nk ann 67 [(4,y4),(6,y6)] w [1,1,1,1] code (BM K)
attribute [irreducible] k15 k14 k17
end F155
def F155.k15.to(h:(A8 y7 w λa b=>Af a (Am Z (Instr.build 60 #[]) b λc d=>Aj 2 y4 c d λf=>Ak 2 y4 f λr4 _=>K (wc #[r4,(v6 wg 4)]) f) (F155.k17 K y4 y6 b))):F155.k15 K y4 y6 y7 w:=qq h
def F155.k14.to(h:(A2 w λS a=>Ae y0 a λb c=>Ab 12 b c λd f=>Ab 3 y3 f λg i=>An S d i λj k=>An S g k λm o=>(I Z 91 #[j,y8,m] o λp q=>(S q/\
 Ao 0 p q λr s=>Ao 1 p s λt u=>(Aj 2 y6 r u λv=>(S v/\
 F155.k15 K y4 y6 t v))/\True))/\True)):F155.k14 K y0 y3 y4 y6 y8 w:=qq h
def F155.k17.to(h:(Ak 2 y6 w λa b=>Aj 2 y4 a b λc=>Ak 2 y4 c λr3 _=>K (wc #[r3,(v6 wg 0)]) c)):F155.k17 K y4 y6 w:=qq h
def F155.sh(h:(Aq (wt (wm.cells x1) 40) w λa b=>Aq (wt #[v6 wg 0,v6 wg 0] 60) b λc d=>Am Z (Instr.build 60 #[]) d λf g=>Aq (wt #[v6 wg 0,v6 wg 0] 60) g λi j=>Aj 2 i f j λk=>Ab 0 a k λm o=>Ac m o λp q=>U .eql p (v6 wg 4) q λr s=>Af r (Ab 6 a s λt u=>Ac t u λv x=>Am Z (Instr.build 60 #[(0,(v6 wg 1)),(1,v)]) x λy z=>Aj 2 i y z λaa=>Ak 2 i aa λab ac=>I Z 227 #[ab] ac λad ae=>U .eql ad (v6 wg 0) ae λaf ag=>F155.k15 K c i af ag) (U .eql p (v6 wg 6) s λah ai=>Af ah (Ae x0 ai λaj ak=>Ab 12 aj ak λal am=>Ac al am λan ao=>I Z 83 #[an] ao λap aq=>I Z 153 #[ap] aq λar au=>Aj 2 i ar au λav=>F155.k15 K c i (wd wk) av) (U .eql p (v6 wg 7) ai λaw ax=>Af aw (Ab 1 a ax λay az=>Ac ay az λba bb=>Ab 2 a bb λbc bd=>Ac bc bd λbe bf=>I Z 158 #[x0,ba,be] bf λbg bh=>Ao 0 bg bh λbi bj=>Ao 1 bg bj λbk bl=>Aj 2 i bi bl λbm=>F155.k15 K c i bk bm) (U .eql p (v6 wg 9) ax λbn bo=>Af bn (Ak 7 a bo λbp bq=>
 I Z 157 #[x0,bp] bq λbr bs=>Ao 0 br bs λbt bu=>Ao 1 br bu λbv bw=>U .neq bv (v6 wg 0) bw λbx bz=>Af bx (Am Z (Instr.build 60 #[]) bz λca cb=>Aj 2 c ca cb λcc=>Ak 2 c cc λr40 _=>K (wc #[r40,bv]) cc) (F155.k14 K x0 a c i bt bz)) (F155.k15 K c i (wd wk) bo)))))):I Z 155 #[x0,x1] w K:=BK (A:=F155.ann) (args:=[x0,x1]) (qq h)
namespace F157
def ann:=a1 [(6,[6])]
def code:=cd f157
def BM:=tp f157
variable(K:VK)(y6:wm)(w:wn)
@[irreducible]def k6:=nk ann 26 [(6,y6)] w [1,1,1] code (BM K)
end F157
def F157.k6.to(h:(Ab 1 y6 w λa b=>Ac a b λc d=>K (wc #[c,(v6 wg 0)]) d)):F157.k6 K y6 w:=qq h
def F157.sh(h:(Aq (wt (wm.cells x1) 40) w λa b=>Ab 1 a b λc d=>Ac c d λf g=>Ab 2 a g λi j=>Ac i j λk m=>I Z 158 #[x0,f,k] m λo p=>Ao 0 o p λq r=>Ao 1 o r λs t=>Aq (wt #[v6 wg 0,v6 wg 0] 60) t λu v=>Aj 2 u q v λx=>A8 s x λy z=>Af y (K (wc #[(v6 wg 0),(v6 wg 4)]) z) (Ab 0 u z λaa ab=>Ac aa ab λac ad=>U .neq ac (v6 wg 2) ad λae af=>Af ae (K (wc #[(v6 wg 0),(v6 wg 12)]) af) (F157.k6 K u af)))):I Z 157 #[x0,x1] w K:=BK (A:=F157.ann) (args:=[x0,x1]) (qq h)
namespace F158
def ann:=a1 [(4,[2,6,8])]
def code:=cd f158
def BM:=tp f158
variable(K:VK)(y2 y6 y8:wm)(w:wn)
@[irreducible]def k4:=nk ann 24 [(2,y2),(6,y6),(8,y8)] w [1,1,1] code (BM K)
end F158
def F158.k4.to(h:(AC 2 y8 y2 w λa b=>Ak 2 a b λc d=>Aj 2 y6 c d λf=>Ak 2 y6 f λr4 _=>K (wc #[r4,(wd wk)]) f)):F158.k4 K y2 y6 y8 w:=qq h
def F158.sh(h:(Aq (wt #[v6 wg 0,v6 wg 0] 60) w λa b=>Ae x0 b λc d=>Ab 12 c d λf g=>Ac f g λi j=>I Z 47 #[i,x1] j λk m=>AD k m λo p=>U .geq x2 o p λq r=>Af q (Am Z (Instr.build 60 #[]) r λs t=>Aj 2 a s t λu=>Ak 2 a u λr10 _=>K (wc #[r10,(wd wl)]) u) (F158.k4 K x2 a k r))):I Z 158 #[x0,x1,x2] w K:=BK (A:=F158.ann) (args:=[x0,x1,x2]) (qq h)
def F163.sh(h:(Aq (wt #[v6 wg 0,v6 wg 0,v6 wg 0,v6 wg 0,v6 wg 0] 38) w λa b=>I Z 234 #[x0,x1] b λc d=>Ae x0 d λf g=>Ab 0 f g λi j=>Ab 1 i j λk m=>Ac k m λo p=>I Z 235 #[o,c] p λq r=>Am Z (Instr.build 38 #[(3,c)]) r λs t=>Aj 5 a s t λu=>Ak 5 a u λr10 _=>K r10 u)):I Z 163 #[x0,x1] w K:=BK (A:=A0) (args:=[x0,x1]) (qq h)
def F165.sh(h:(Aq (wt (wm.cells x0) 94) w λa b=>Ab 0 a b λc d=>Ac c d λf g=>I Z 237 #[f,x1,x2] g λi j=>K (wc #[]) j)):I Z 165 #[x0,x1,x2] w K:=BK (A:=A0) (args:=[x0,x1,x2]) (qq h)
namespace F222
def ann:Cg:=⟨[(4,[0,3,4]),(8,[0,3,4,6,7])],[],[],[(4,(tk [0,1,2,3,6,7,8,9,4,10] (.go 5 (tk [11,12] .fin) .fin))),(6,(tk [0,1,2,3,5,7,8,4,6,9,10] (.go 11 (.take 12 .fin) .fin))),(10,(tk [0,1,2,4,6,7,3,5,8,9] (.go 10 .fin .fin)))],wj⟩
def code:=cd f222
def BM:=tp f222
variable(K:VK)(y0 y3 y4 y6 y7:wm)(w:wn)
def k4:=nk ann 78 [(0,y0),(3,y3),(4,y4)] w [1,1] code (BM K)
def k8:=nk ann 78 [(0,y0),(3,y3),(4,y4),(6,y6),(7,y7)] w [1,1,1,1,1] code (BM K)
attribute [irreducible] k4 k8
end F222
def F222.k4.to(h:(A2 w λS a=>Ae y0 a λb c=>Ab 0 b c λd f=>Ab 1 d f λg i=>Ae y0 i λj k=>Ab 2 j k λm o=>Ab 6 m o λp q=>An S g q λr s=>An S p s λt u=>(I Z 274 #[r] u λv x=>(S x/\
 ∃y,(∀w',S w'->(builtin .min #[3,3] 3 #[wl,wl] #[v,t]).run Z w'=.ok (.value y) w')/\(Ae y0 x λz aa=>Ab 2 z aa λab ac=>Ab 6 ab ac λad ae=>Ac ad ae λaf ag=>U .sub af y ag λah ai=>A2 ai λS aj=>Ae y0 aj λak al=>Ab 0 ak al λam an=>Ab 0 am an λao ap=>Ab 1 y3 ap λaq ar=>Ab 5 y3 ar λau av=>An S ao av λaw ax=>An S aq ax λay az=>An S au az λba bb=>U .mul ah ba bb λbc bd=>(I Z 164 #[aw,ay,bc] bd λbe bf=>(S bf/\
 A8 be bf λbg bh=>Af bg (I Z 54 #[(v6 wg 21)] bh λbi bj=>Aj 5 y4 bi bj λbk=>Ak 5 y4 bk λr31 _=>K r31 bk) (F222.k8 K y0 y3 y4 y ah bh)))/\True)))/\True)):F222.k4 K y0 y3 y4 w:=qq h
def F222.k8.to(h:(Ae y0 w λa b=>Ab 0 a b λc d=>Ab 1 c d λf g=>Ac f g λi j=>I Z 275 #[i,y6] j λk m=>I Z 234 #[y0,y7] m λo p=>A2 p λS q=>Ae y0 q λr s=>Ab 0 r s λt u=>Ab 1 y3 u λv x=>Ab 5 y3 x λy z=>AM S 2 t z λaa ab=>An S v ab λac ad=>An S y ad λae af=>U .mul o ae af λag ah=>(I Z 165 #[aa,ac,ag] ah λai aj=>(S aj/\
 Am Z (Instr.build 38 #[(3,o),(4,y6)]) aj λak al=>Aj 5 y4 ak al λam=>Ak 5 y4 am λr19 _=>K r19 am))/\True)):F222.k8 K y0 y3 y4 y6 y7 w:=qq h
def F222.sh(h:(Aq (wt (wm.cells x1) 40) w λa b=>Aq (wt #[v6 wg 0,v6 wg 0,v6 wg 0,v6 wg 0,v6 wg 0] 38) b λc d=>Ae x0 d λf g=>Ab 12 f g λi j=>Ac i j λk m=>I Z 59 #[k] m λo p=>U .neq o (v6 wg 3) p λq r=>Aa wk q (λK=>K o r) r λs t=>Aa wk q (U .neq s (v6 wg 5) t) t λu v=>Aw (wh q) (wh u) (wh (wd wl)) v λx y=>Af x (Am Z (Instr.build 38 #[]) y λz aa=>Aj 5 c z aa λab=>Ak 5 c ab λr13 _=>K r13 ab) (F222.k4 K x0 a c y))):I Z 222 #[x0,x1] w K:=BK (A:=F222.ann) (args:=[x0,x1]) (qq h)
namespace F234
def ann:Cg:=⟨[(3,[0,1,6,7]),(6,[0,1,6,7]),(7,[1])],[(2,[0,1,6,7])],[],[],wj⟩
def code:=cd f234
def BM:=tp f234
variable(K:VK)(y0 y1 y6 y7:wm)(w:wn)
def k7:=nk ann 19 [(1,y1)] w [1,1] code (BM K)
def l2:=nl ann 19 [(0,y0),(1,y1),(6,y6),(7,y7)] w [1,0,1,0] code (BM K)
def k3:=nk ann 19 [(0,y0),(1,y1),(6,y6),(7,y7)] w [1,0,1,0,0,1,1] code (BM K)
def k6:=nk ann 19 [(0,y0),(1,y1),(6,y6),(7,y7)] w [1,0,1,0,0,1,1,1] code (BM K)
attribute [irreducible] k7 l2 k3 k6
end F234
def F234.k7.to(h:(K y1 w)):F234.k7 K y1 w:=qq h
def F234.l2.to(h:(U .lss y7 y6 w λa b=>Af a (F234.k3 K y0 y1 y6 y7 b) (F234.k7 K y1 b))):F234.l2 K y0 y1 y6 y7 w:=by unfold F234.l2 nl;exact BW (qq h)
def F234.k3.to(h:(Ae y0 w λa b=>Ab 12 a b λc d=>Ac c d λf g=>I Z 280 #[f] g λi j=>A8 i j λk m=>Af k (K y7 m) (F234.k6 K y0 y1 y6 y7 m))):F234.k3 K y0 y1 y6 y7 w:=qq h
def F234.k6.to(h:(U .add y7 (v6 wg 1) w λa b=>F234.l2 K y0 y1 y6 a b)):F234.k6 K y0 y1 y6 y7 w:=qq h
def F234.sh(h:(F234.l2 K x0 x1 x1 (v6 wg 0) w)):I Z 234 #[x0,x1] w K:=BK (A:=F234.ann) (args:=[x0,x1]) (qq h)
end
section
open Go.RowKit
structure Ci where
 Q:C4
 ma:Nat
 lg:Nat
 bb:Nat
 bn:Nat
def Ci.fix(A:Ci):List Nat:=[A.ma,A.lg,A.bb,A.bn]
def Ci.low(A:Ci):List Nat:=A.Q.fix++(A.Q.H.fix++A.Q.H.D.all)
structure Ci.Ok(A:Ci):Prop where
 nd:A.fix.Nodup
 dj:∀x∈A.fix,x∉A.low
 lo:∀x∈A.fix,x<A.Q.H.N
structure Gw where
 m:Mv
 S:Nat->wm
def M5(T:Nat)(S:Nat->wm):List Nat:=(List.range T).flatMap λt=>BN (S t)
def Fg{T:Nat}{S:Nat->wm}{x:Nat}:x∈M5 T S↔∃t,t<T/\x∈BN (S t):=by simp[M5]
def Gw.all(T:Nat)(g:Gw):List Nat:=g.m.all++M5 T g.S
def Ci.S(A:Ci)(T:Nat)(g:Gw):List Nat:=A.fix++(A.Q.fix++(A.Q.H.fix++(A.Q.H.D.all.tail++g.all T)))
def Ci.all(A:Ci)(T:Nat)(g:Gw):List Nat:=A.fix++(A.low++g.all T)
structure BU(A:Ci)(T:Nat)(g:Gw)(w:wn)(g':Gw)(w':wn):Prop where
 fr:Fr (A.S T g) w w'
 gr:∀x∈g'.all T,x∈g.all T∨w.heap.size<=x
section
variable{A:Ci}{T:Nat}{g g' g'':Gw}
def BU.refl(A:Ci)(T:Nat)(g:Gw)(w:wn):BU A T g w g w:=⟨Fr.refl _ _,λx hx=>wr hx⟩
def BU.w{a b:wn}(h:Fr [] a b):BU A T g a g b:=⟨h.w,λx hx=>wr hx⟩
def BU.trans{w w' w'':wn}(h:BU A T g w g' w')(k:BU A T g' w' g'' w''):BU A T g w g'' w'':=
 ⟨h.fr.then k.fr λx hx=>by
  simp only[Ci.S,n7]at hx ⊢;rcases hx with c|c|c|c|c
  ·exact wr (wr c)
  ·exact wr (ws (wr c))
  ·exact wr (ws (ws (wr c)))
  ·exact wr (ws (ws (ws (wr c))))
  ·rcases h.gr x c with d|d
   ·exact wr (ws (ws (ws (ws d))))
   ·exact ws d,λx hx=>by
  rcases k.gr x hx with c|c
  ·exact h.gr x c
  ·have:=h.fr.size;exact ws (by omega)⟩
def BU.c{m':Mv}{a b:wn}(h:Cj A.Q g.m a m' b):BU A T g a { g with m:=m' } b:=
 ⟨h.fr.mono λx hx=>by
  simp only[C4.S,n7]at hx;simp only[Ci.S,Gw.all,n7];rcases hx with c|c|c|c
  ·exact ws (wr c)
  ·exact ws (ws (wr c))
  ·exact ws (ws (ws (wr c)))
  ·exact ws (ws (ws (ws (wr c)))),λx hx=>by
  simp only[Gw.all,n7]at hx ⊢;rcases hx with c|c
  ·rcases h.gr x c with d|d
   ·exact wr (wr d)
   ·exact ws d
  ·exact wr (ws c)⟩
def BU.b{a b:wn}(h:Fr [A.bn] a b):BU A T g a g b:=⟨h.mono λx hx=>by simp only[zF]at hx;simp[Ci.S,Ci.fix,hx],λx hx=>wr hx⟩
def BU.l{t:Nat}{s:wm}{a b:wn}(ht:t<T)(h:R2 a b A.bb t g.S s):BU A T g a { g with S:=DH g.S t s } b:=
 ⟨h.fr.mono λx hx=>by
  simp only[ux]at hx;simp only[Ci.S,Ci.fix,Gw.all,n7,ux];rcases hx with c|c
  ·exact wr (ws (ws (wr c)))
  ·exact ws (ws (ws (ws (ws (Fg.2 ⟨t,ht,c⟩))))),λx hx=>by
  simp only[Gw.all,n7]at hx ⊢;rcases hx with c|c
  ·exact wr (wr c)
  ·obtain⟨u,hu,c⟩:=Fg.1 c;by_cases e:u=t
   ·subst e;simp only[DH]at c;exact ws (h.new x c)
   ·simp only[DH,vx e]at c;exact wr (ws (Fg.2 ⟨u,hu,c⟩))⟩
end
structure Cf.Fine(cf:Cf):Prop where
 th:1<=cf.threads/\cf.threads<=8
 wi:1<=cf.window/\cf.window<=64
 mo:0<=cf.most/\cf.most<=cf.window
 qu:1<=cf.quantum/\cf.quantum<=64
 ca:0<=cf.cap/\cf.cap<=65535
 ta:0<=cf.tax/\cf.tax<=64
def Dk(cf:Cf):List wm:=[v6 wg cf.pages,v6 wg cf.threads,v6 wg cf.window,v6 wg cf.quantum,v6 wg cf.target,v6 wg cf.cap,v6 wg cf.tax,v6 wg cf.chunk,v6 wg cf.stack,v6 wg cf.trigger]
def Er(A:Ci)(cf:Cf):Obj:=wt #[v7 (wh ⟨A.lg,0,wj⟩),v7 (wh ⟨A.bn,0,wj⟩),v6 wg cf.pages,v6 wg cf.threads,v6 wg cf.window,v6 wg cf.quantum,v6 wg cf.target,v6 wg cf.cap,v6 wg cf.tax,v6 wg cf.chunk,v6 wg cf.stack,v6 wg cf.trigger,v7 (wh ⟨A.Q.co,0,wj⟩)] 96 (0,0)
structure BS(A:Ci)(g:Gw)(cf:Cf)(B:Int)(w:wn)(x:Ma):Prop where
 ok:A.Ok
 fine:cf.Fine
 co:BZ A.Q g.m cf w x.co
 blk:w.heap[A.ma]?=wh (Er A cf)
 led:Ew w A.lg A.bb cf.threads.toNat cf.window cf.most g.S x.lg
 bnk:w.heap[A.bn]?=wh (bk x.bi x.bo x.bl wk cf.cap)
 bin:N8 B x.bi x.bo x.bl cf.cap
 l64:∀t,(x.lg t).length<=64
 hs:∀y∈M5 cf.threads.toNat g.S,A.Q.H.N<=y
 rl:x.co.r.l.length=cf.threads.toNat
section
variable{A:Ci}{g:Gw}{cf:Cf}{B:Int}{w w':wn}{x:Ma}
def BS.keep{S:List Nat}(h:BS A g cf B w x)(hf:Fr S w w')(ha:∀y∈A.all cf.threads.toNat g,y∉S):BS A g cf B w' x:=by
 refine⟨h.ok,h.fine,h.co.keep hf (λy hy=>ha y ?_),hf.at_ h.blk (ha _ (by simp[Ci.all,Ci.fix])),h.led.keep hf (ha _ (by simp[Ci.all,Ci.fix])) (ha _ (by simp[Ci.all,Ci.fix])) (λt ht y hy=>ha y ?_),hf.at_ h.bnk (ha _ (by simp[Ci.all,Ci.fix])),h.bin,h.l64,h.hs,h.rl⟩
 ·simp only[C4.all,n7]at hy;simp only[Ci.all,Ci.low,Gw.all,n7];rcases hy with d|d|d|d
  ·exact ws (wr (wr d))
  ·exact ws (wr (ws (wr d)))
  ·exact ws (wr (ws (ws d)))
  ·exact ws (ws (wr d))
 ·simp only[Ci.all,Gw.all,n7];exact ws (ws (ws (Fg.2 ⟨t,ht,hy⟩)))
def BS.keep0(h:BS A g cf B w x)(hf:Fr [] w w'):BS A g cf B w' x:=h.keep hf (by simp)
def BS.setC{m':Mv}{c':Co}(h:BS A g cf B w x)(hf:Cj A.Q g.m w m' w')(hc:BZ A.Q m' cf w' c')(hl:c'.r.l.length=x.co.r.l.length):BS A { g with m:=m' } cf B w' { x with co:=c' }:=by
 obtain⟨cs,b1,b2⟩:=h.led.bk;have sub:∀y∈A.Q.S g.m,y∈A.low∨y∈g.m.all:=λy hy=>by
  simp only[C4.S,n7]at hy;simp only[Ci.low,n7];rcases hy with d|d|d|d
  ·exact wr (wr d)
  ·exact wr (ws (wr d))
  ·exact wr (ws (ws (List.mem_of_mem_tail d)))
  ·exact ws d
 have hi:∀y∈g.m.all,A.Q.H.N<=y:=λy hy=>by
  simp only[Mv.all,n7]at hy;rcases hy with d|d|d
  ·exact h.co.hp.hi y d
  ·exact h.co.hv y d
  ·exact h.co.ht y d
 have nf:∀y∈A.fix,y∉A.Q.S g.m:=λy hy e=>by
  rcases sub y e with d|d
  ·exact h.ok.dj y hy d
  ·have h1:=h.ok.lo y hy;have h2:=hi y d;omega
 have ns:∀t,t<cf.threads.toNat->∀y∈BN (g.S t),y∉A.Q.S g.m:=λt ht y hy e=>by
  rcases sub y e with d|d
  ·have h1:=h.co.low (x:=y) d;have h2:=h.hs y (Fg.2 ⟨t,ht,hy⟩);omega
  ·have ho:=h.led.own t ht;simp only[Mv.all,n7]at d;rcases d with d|d|d
   ·exact ho.ne h.co.hp.gy.stk.own (by decide) y hy d
   ·exact h.co.fb.fam.ne ho (by decide) y d hy
   ·exact h.co.th.ne ho (by decide) y d hy
 exact⟨h.ok,h.fine,hc,hf.fr.at_ h.blk (nf _ (by simp[Ci.fix])),h.led.keep hf.fr (nf _ (by simp[Ci.fix])) (nf _ (by simp[Ci.fix])) ns,hf.fr.at_ h.bnk (nf _ (by simp[Ci.fix])),h.bin,h.l64,h.hs,hl.trans h.rl⟩
def BS.nfC(h:BS A g cf B w x){y:Nat}(hy:y∈A.fix∨∃t,t<cf.threads.toNat/\y∈BN (g.S t)):y∉A.Q.all g.m:=λe=>by
 have e':y∈A.low∨y∈g.m.all:=by
  simp only[C4.all,n7]at e;simp only[Ci.low,n7];rcases e with d|d|d|d
  ·exact wr (wr d)
  ·exact wr (ws (wr d))
  ·exact wr (ws (ws d))
  ·exact ws d
 have hi:∀y∈g.m.all,A.Q.H.N<=y:=λy hy=>by
  simp only[Mv.all,n7]at hy;rcases hy with d|d|d
  ·exact h.co.hp.hi y d
  ·exact h.co.hv y d
  ·exact h.co.ht y d
 rcases hy with hy|⟨t,ht,hy⟩
 ·rcases e' with d|d
  ·exact h.ok.dj y hy d
  ·have h1:=h.ok.lo y hy;have h2:=hi y d;omega
 ·rcases e' with d|d
  ·have h1:=h.co.low (x:=y) d;have h2:=h.hs y (Fg.2 ⟨t,ht,hy⟩);omega
  ·have ho:=h.led.own t ht;simp only[Mv.all,n7]at d;rcases d with d|d|d
   ·exact ho.ne h.co.hp.gy.stk.own (by decide) y hy d
   ·exact h.co.fb.fam.ne ho (by decide) y d hy
   ·exact h.co.th.ne ho (by decide) y d hy
def BS.setB{B' bi bo bl:Int}(h:BS A g cf B w x)(hf:Fr [A.bn] w w')(hb:w'.heap[A.bn]?=wh (bk bi bo bl wk cf.cap))(hk:N8 B' bi bo bl cf.cap):BS A g cf B' w' { x with bi:=bi,bo:=bo,bl:=bl }:=by
 have nd:=h.ok.nd;simp only[Ci.fix,o7,ux,i9,vt,not_or]at nd;have lt:=h.ok.lo;exact⟨h.ok,h.fine,h.co.keep hf (λy hy e=>by simp only[zF]at e;subst e;exact h.nfC (wr (by simp[Ci.fix])) hy),hf.at_ h.blk (by simp only[zF];exact nd.1.2.2),h.led.keep hf (by simp only[zF];exact nd.2.1.2) (by simp only[zF];exact nd.2.2.1) (λt ht y hy e=>by
  simp only[zF]at e;subst e;exact (h.led.own t ht).nb h.bnk (by decide) hy),hb,hk,h.l64,h.hs,h.rl⟩
def BS.setL{t:Nat}{s:wm}{l:List Bool}(h:BS A g cf B w x)(ht:t<cf.threads.toNat)(hf:R2 w w' A.bb t g.S s)(hl:Ew w' A.lg A.bb cf.threads.toNat cf.window cf.most (DH g.S t s) (DH x.lg t l))(h64:l.length<=64):BS A { g with S:=DH g.S t s } cf B w' { x with lg:=DH x.lg t l }:=by
 have nd:=h.ok.nd;simp only[Ci.fix,o7,ux,i9,vt,not_or]at nd;have ho:=h.led.own t ht;refine⟨h.ok,h.fine,h.co.keep hf.fr (λy hy e=>?_),hf.fr.at_ h.blk ?_,hl,hf.fr.at_ h.bnk ?_,h.bin,λu=>?_,λy hy=>?_,h.rl⟩
 ·simp only[ux]at e;rcases e with e|e
  ·subst e;exact h.nfC (wr (by simp[Ci.fix])) hy
  ·exact h.nfC (ws ⟨t,ht,e⟩) hy
 ·simp only[ux,not_or];exact⟨nd.1.2.1,ho.nb h.blk (by decide)⟩
 ·simp only[ux,not_or];exact⟨λe=>nd.2.2.1 e.symm,ho.nb h.bnk (by decide)⟩
 ·show (DH x.lg t l u).length<=64;by_cases e:u=t
  ·simp only[DH,vy e];exact h64
  ·simp only[DH,vx e];exact h.l64 u
 ·obtain⟨u,hu,c⟩:=Fg.1 hy;by_cases e:u=t
  ·subst e;simp only[DH]at c;have:=hf.new y c;have:=h.co.hp.le;omega
  ·simp only[DH,vx e]at c;exact h.hs y (Fg.2 ⟨u,hu,c⟩)
end
def C6(a:Ch):wm := .agg #[v6 wg a.code,v6 wg a.kd,v6 wg a.n,v6 wg a.done,v6 wg a.credit]
def CN(x:Cd):wm := .agg #[v6 wg x.kd,v6 wg x.t,v6 wg x.i,v6 wg x.f,v6 wg x.j,v6 wg x.cost,v6 wg x.n]
def EA{a:Ch}:∀v∈(C6 a).cells.toList,v.oneCell'=wk:=by intro v hv;simp only[C6,wm.cells,ux,i9,vt]at hv;rcases hv with rfl|rfl|rfl|rfl|rfl<;>rfl
section
variable{K:VK}{w w':wn}{A:Ci}{g:Gw}{cf:Cf}{B:Int}{x:Ma}
def X8(e:Int):(Instr.build 38 #[(0,v6 wg e)]).run Z w=.ok (C6 (Ch.err e)) w:=by kernel_rfl
def Sf(k n:Int):(Instr.build 38 #[(1,v6 wg k),(2,v6 wg n)]).run Z w=.ok (C6 ⟨0,k,n,0,0⟩) w:=by kernel_rfl
def Kf:(Instr.build 38 #[]).run Z w=.ok (C6 Ch.ok) w:=by kernel_rfl
def L0{b:Nat}{cs:Array wm}{a:Ch}(hb:w.heap[b]?=wh (wt cs 38 (0,0)))(hs:cs.size=5)(hk:∀w',Fr [b] w w'->K (C6 a) w'):
  Aj 5 (v7 (wh ⟨b,0,wj⟩)) (C6 a) w λw2=>Ak 5 (v7 (wh ⟨b,0,wj⟩)) w2 λr _=>K r w2:=
 AA hb rfl EA hs λw3 hu=>A3 hu.at_ rfl (hk w3 hu.fr)
def Rw{e:Int}(hk:∀w',Fr [] w w'->K (C6 (Ch.err e)) w'):I Z 54 #[v6 wg e] w K:=by refine F54.sh (Ar λb w1 hn=>A4 (X8 e) (L0 (a:=Ch.err e) hn.at_ rfl λw2 hf2=>hk w2 (hn.fr.then hf2 ?_)));have:=hn.is;simp;omega
def HV{n lo hi:Int}(hk:K (wd (decide (n<lo∨hi<n))) w):I Z 150 #[v6 wg n,v6 wg lo,v6 wg hi] w K:=by
 refine F150.sh ?_;by_cases z1:n<lo
 ·rw[ur (wr z1)]at hk;simp only[zv,z1];exact hk
 ·by_cases z2:n>hi
  ·rw[ur (ws z2)]at hk;simp only[zv,z1,z2];exact hk
  ·rw[p9 (by omega)]at hk;simp only[zv,z1,z2];exact hk
def WA(a:Int):EE a=if DL 2 a=0 then (2,a) else (0,0):=by
 unfold EE DL;by_cases h:0<=a/\a<2048
 ·simp[h]
 ·simp[h]
def K1{a:Int}(hk:∀w',Fr [] w w'->K (V (EE a).1 (EE a).2) w'):I Z 153 #[v6 wg a] w K:=by
 rw[WA]at hk;refine F153.sh (Ar λb w1 hn1=>A4 (L5 2 a) (F224.sh (Ar λy w2 hn2=>Ar λz w3 hn3=>?_)));have l1:=hn1.is;have l2:=hn2.is;have l3:=hn3.is;have s1:=hn1.fr.size;have s2:=hn2.fr.size;have lb:=BP hn1.at_;have ly:=BP hn2.at_;refine A3 (hn3.fr.at_ hn2.at_ (by simp)) rfl (G5 2 a λw4 hf4=>?_);have f4:=(hn1.fr.trans (hn2.fr.trans hn3.fr)).trans hf4;have b4:=(hn2.fr.trans (hn3.fr.trans hf4)).at_ hn1.at_ (by simp)
 have y4:=(hn3.fr.trans hf4).at_ hn2.at_ (by simp);have z4:=hf4.at_ hn3.at_ (by simp);have fin:∀(v:V2) w5,w5.heap[b]?=wh (wt #[v6 wg 0,v6 wg 0] 60 (0,0))->(∀w',Fr [b] w5 w'->K (V v.1 v.2) w')->Aj 2 (v7 (wh ⟨b,0,wj⟩)) (V v.1 v.2) w5 λw6=>Ak 2 (v7 (wh ⟨b,0,wj⟩)) w6 λr _=>K r w6:=λv w5 hb hk=>AA hb rfl Cc rfl λw6 hu=>A3 hu.at_ rfl (hk w6 hu.fr);by_cases c:DL 2 a=0
 ·simp only[zv,vw,c,vz,zW];simp only[vy c]at hk;refine F224.k3.to (A3 y4 rfl (AA (x:=V 2 a) z4 rfl Cc rfl λw5 hu5=>A3 hu5.at_ rfl ?_));refine fin (2,a) w5 (hu5.fr.at_ b4 (by simp;omega)) λw6 hf6=>hk w6 ?_;exact (f4.then hu5.fr (by simp;omega)).then hf6 (by simp;omega)
 ·simp only[zv,c,vz,zX];simp only[vx c]at hk;refine A4 Fa (AA (x:=V 0 0) z4 rfl Cc rfl λw5 hu5=>A3 hu5.at_ rfl ?_);refine fin (0,0) w5 (hu5.fr.at_ b4 (by simp;omega)) λw6 hf6=>hk w6 ?_;exact (f4.then hu5.fr (by simp;omega)).then hf6 (by simp;omega)
def V7{c:Co}{Q:C4}{m:Mv}(h:BZ Q m cf w c)(hk:∀w',Fr [] w w'->K (v6 wg (Dt c.s.c.ks)) w'):I Z 221 #[v7 (wh ⟨Q.co,0,wj⟩)] w K:=by
 obtain⟨cs,b1,b2⟩:=h.blk;refine F221.sh (FR h ?_)
 try simp only[zv]
 refine F221.k3.to ?_
 try simp only[zv]
 refine Ad (v:=v7 (wh ⟨Q.H.D.st,0,wj⟩)) b1 b2.s0 (F273.sh (Ht h.hp.st ?_))
 try simp only[zv]
 refine F273.k3.to ?_
 try simp only[zv]
 exact Ad (v:=v7 (wh ⟨Q.H.D.A.cel,0,wj⟩)) h.hp.st.blk rfl (Py h.hp.st.cel hk)
def Lu(h:BS A g cf B w x)(hk:K (wd wk) w):I Z 45 #[v7 (wh ⟨A.ma,0,wj⟩)] w K:=by
 refine F45.sh ⟨_,CJ _ _ _ Tryz.underlying49,?_⟩
 try simp only[zv]
 refine Ad (v:=v7 (wh ⟨A.Q.co,0,wj⟩)) h.blk rfl ⟨_,CJ _ _ _ Tryz.underlying86,?_⟩;exact hk
def Ly{v:V2}(h:BS A g cf B w x)(hk:∀w',Fr [] w w'->K (C6 ⟨0,(x.told v).1,(x.told v).2,0,0⟩) w'):I Z 81 #[v7 (wh ⟨A.ma,0,wj⟩),V v.1 v.2] w K:=by
 refine F81.sh (Ar λy w1 hn1=>Ar λz w2 hn2=>?_);have l1:=hn1.is;have l2:=hn2.is;have s1:=hn1.fr.size;have ly:=BP hn1.at_;have y2:=hn2.fr.at_ hn1.at_ (by simp);have f2:=hn1.fr.trans hn2.fr;unfold Ma.told at hk;simp only at hk
 have fin:∀(n:Int) w3,w3.heap[y]?=wh (wt #[v6 wg v.1,v6 wg n] 60 (0,0))->(∃cs:Array wm,w3.heap[z]?=wh (wt cs 38 (0,0))/\cs.size=5)->(∀w',Fr [z] w3 w'->K (C6 ⟨0,v.1,n,0,0⟩) w')->F81.k3 K (v7 (wh ⟨y,0,wj⟩)) (v7 (wh ⟨z,0,wj⟩)) w3:=λn w3 hy hz hk=>by
  obtain⟨cs,hz,hs⟩:=hz;refine F81.k3.to ?_
  try simp only[zv]
  refine Ad (v:=v6 wg v.1) hy rfl ?_;refine Ad (v:=v6 wg n) hy rfl (A4 (Sf v.1 n) (L0 (a:=⟨0,v.1,n,0,0⟩) hz hs hk))
 try simp only[zv]
 refine Ad (v:=v6 wg v.1) y2 rfl ?_;by_cases c:v.1=2
 ·simp only[zv,vw,c];rw[vy c]at hk;have h2:=h.keep0 f2;refine A9 (λw'=>w'.heap[A.ma]?=wh (Er A cf)) λw3 hf3 _=>⟨hf3.at_ h2.blk (by simp),?_⟩;have h3:=h2.keep0 hf3;have y3:=hf3.at_ y2 (by simp);have la:=BP h.blk;refine Au (v:=v7 (wh ⟨A.Q.co,0,wj⟩)) (λw' hw=>⟨_,_,_,hw,rfl⟩) ⟨Ad (v:=v6 wg v.2) y3 rfl ⟨h3.blk,⟨GV h3.co ⟨h3.blk,?_⟩,trivial⟩⟩,trivial⟩
  refine⟨AI y3 rfl rfl (by simp[V,wm.cells]) λw4 hu4=>⟨hu4.fr.at_ h3.blk (by simp;omega),?_⟩,trivial⟩;refine fin (x.co.s.serial v.2) w4 (by simpa[V,wm.cells] using hu4.at_) ⟨_,hu4.fr.at_ (hf3.at_ hn2.at_ (by simp)) (by simp;omega),rfl⟩ λw5 hf5=>?_;exact hk w5 (((f2.trans hf3).then hu4.fr (by simp;omega)).then hf5 (by simp;omega))
 ·simp only[zv,c];rw[vx c]at hk;exact fin v.2 w2 y2 ⟨_,hn2.at_,rfl⟩ λw5 hf5=>hk w5 (f2.then hf5 (by simp;omega))
def Nj(h:BS A g cf B w x)(t:Int):(x.co.roots t).length<=16:=by
 unfold Co.roots;split
 ·by_cases hj:t.toNat<x.co.th.length
  ·have:=h.co.t16 _ (d7 hj);simpa[List.getD,hj] using this
  ·simp[List.getD,hj]
 ·simp
def Lx{t i:Int}(h:BS A g cf B w x)(hi:0<=i)(h1:∀v,x.root t i=wh v->∀w',Fr [] w w'->K (wc #[V v.1 v.2,wd wk]) w')(h2:x.root t i=wj->∀w',Fr [] w w'->K (wc #[V 0 0,wd wl]) w'):
  I Z 158 #[v7 (wh ⟨A.ma,0,wj⟩),v6 wg t,v6 wg i] w K:=by
 refine F158.sh (Ar λy w1 hn1=>?_);have l1:=hn1.is;have h1':=h.keep0 hn1.fr
 try simp only[zv]
 refine Ad (v:=v7 (wh ⟨A.Q.co,0,wj⟩)) h1'.blk rfl (H8 h1'.co λv w2 hf2 hv hn2=>AH hv.rd ?_);rw[CE];unfold Ma.root at h1 h2;have y2:=hf2.at_ hn1.at_ (by simp);have f2:=hn1.fr.trans hf2;obtain⟨j,rfl⟩:=xU hi;simp only[zK]at h1 h2;by_cases c:(j:Int)≥((x.co.roots t).length:Int)
 ·simp only[zv,c];refine A4 Fa (AA (x:=V 0 0) y2 rfl Cc rfl λw3 hu=>A3 hu.at_ rfl (h2 (by rw[yG];omega) w3 (f2.then hu.fr (by simp;omega))))
 ·simp only[zv,c];have hj:j<(x.co.roots t).length:=by omega
  refine F158.k4.to (Bp hv.rd hj λgg o cs e fz hg hcs ho=>AS hg (by omega) hcs (AA (x:=V (x.co.roots t)[j].1 (x.co.roots t)[j].2) y2 rfl Cc rfl λw3 hu=>A3 hu.at_ rfl ?_));exact h1 _ (xS hj) w3 (f2.then hu.fr (by simp;omega))
def NJ{s:Cd}(h:BS A g cf B w x)(hi:0<=s.i)(hk:∀w',Fr [] w w'->K (wc #[v6 wg (x.object s).1,v6 wg (x.object s).2]) w'):
  I Z 157 #[v7 (wh ⟨A.ma,0,wj⟩),CN s] w K:=by
 refine F157.sh (Ar λy w1 hn1=>?_);have l1:=hn1.is;have h1':=h.keep0 hn1.fr;unfold Ma.object at hk
 try simp only[zv]
 refine Ad (v:=v6 wg s.t) hn1.at_ rfl ?_;refine Ad (v:=v6 wg s.i) hn1.at_ rfl (Lx h1' hi (λv hv w2 hf2=>?_) λhv w2 hf2=>?_)
 ·rw[hv]at hk;simp only at hk
  try simp only[zv]
  refine Ar λz w3 hn3=>AA (x:=V v.1 v.2) hn3.at_ rfl Cc rfl λw4 hu4=>?_;have l3:=hn3.is;have s2:=hf2.size;have s1:=hn1.fr.size;have f4:Fr [] w w4:=((hn1.fr.trans hf2).trans hn3.fr).then hu4.fr (by simp;omega)
  try simp only[zv]
  refine Ad (v:=v6 wg v.1) hu4.at_ rfl ?_;by_cases c:v.1=2
  ·rw[vx (by simp[c])]at hk;simp only[zv,vw,c,vz,zW];refine F157.k6.to ?_
   try simp only[zv]
   exact Ad (v:=v6 wg v.2) hu4.at_ rfl (hk w4 f4)
  ·rw[vy c]at hk;simp only[zv,c,vz,zX];exact hk w4 f4
 ·rw[hv]at hk;simp only at hk
  try simp only[zv]
  refine Ar λz w3 hn3=>AA (x:=V 0 0) hn3.at_ rfl Cc rfl λw4 hu4=>?_;have l3:=hn3.is;have s2:=hf2.size;have s1:=hn1.fr.size;exact hk w4 (((hn1.fr.trans hf2).trans hn3.fr).then hu4.fr (by simp;omega))
def YO(A:Ci):wm := .agg #[v7 (wh ⟨A.lg,0,wj⟩),v7 (wh ⟨A.bn,0,wj⟩)]
def Qc{t:Nat}{n:Int}{b:Bool}(hw:cf.window<=64):(Gt cf.window.toNat (x.lg t++List.replicate (min n cf.window).toNat b)).length<=64:=by rw[MY];omega
def UX{t:Nat}{n:Int}(h:BS A g cf B w x)(ht:t<cf.threads.toNat)(h0:0<=n)(h64:n<=64)(hk:∀g' w',BU A cf.threads.toNat g w g' w'->BS A g' cf B w' (x.ownT cf t n)->K (wc #[]) w'):
  I Z 58 #[YO A,v6 wg (t:Int),v6 wg n] w K:=by
 have hw:=h.fine.wi;refine F58.sh (Ar λy w1 hn1=>?_);have h1:=h.keep0 hn1.fr
 try simp only[zv]
 refine Ad (v:=v7 (wh ⟨A.lg,0,wj⟩)) hn1.at_ rfl (QX h1.led ht h0 h64 (by omega) hw.2 (h.l64 t) λs w2 hx hL=>?_);have h2:=h1.setL ht hx hL (Qc hw.2);refine hk _ w2 ((BU.w hn1.fr).trans (BU.l ht hx)) ?_;unfold Ma.ownT;rw[zK];exact h2
def NB{t:Nat}{n:Int}(h:BS A g cf B w x)(ht:t<cf.threads.toNat)(hk:∀g' w',BU A cf.threads.toNat g w g' w'->BS A g' cf B w' (x.charge cf t n)->K (wc #[]) w'):
  I Z 165 #[YO A,v6 wg (t:Int),v6 wg n] w K:=by
 have hw:=h.fine.wi;refine F165.sh (Ar λy w1 hn1=>?_);have h1:=h.keep0 hn1.fr;unfold Ma.charge Ma.admt at hk;rw[zK]at hk
 try simp only[zv]
 refine Ad (v:=v7 (wh ⟨A.lg,0,wj⟩)) hn1.at_ rfl (S9 h1.led ht (by omega) hw.2 h.fine.mo.2 (h.l64 t) (λhno w2 hf2=>?_) λhye s w2 hx hL=>?_)
 ·rw[hno]at hk;exact hk g w2 (BU.w (hn1.fr.trans hf2)) (h1.keep0 hf2)
 ·rw[hye]at hk;exact hk _ w2 ((BU.w hn1.fr).trans (BU.l ht hx)) (h1.setL ht hx hL (Qc hw.2))
end
structure Db(A:Ci)(T:Nat)(g:Gw)(b:Nat)(w:wn):Prop where
 no:b∉A.all T g
 lt:b<w.heap.size
def Ci.sub(A:Ci)(T:Nat)(g:Gw):∀y∈A.S T g,y∈A.all T g:=λy hy=>by
 simp only[Ci.S,n7]at hy;simp only[Ci.all,Ci.low,n7];rcases hy with d|d|d|d|d
 ·exact wr d
 ·exact ws (wr (wr d))
 ·exact ws (wr (ws (wr d)))
 ·exact ws (wr (ws (ws (List.mem_of_mem_tail d))))
 ·exact ws (ws d)
def Db.at_{A:Ci}{T:Nat}{g g':Gw}{b:Nat}{w w':wn}{o:Obj}(h:Db A T g b w)(t:BU A T g w g' w')(hb:w.heap[b]?=wh o):w'.heap[b]?=wh o:=t.fr.at_ hb λe=>h.no (A.sub T g b e)
def Db.step{A:Ci}{T:Nat}{g g':Gw}{b:Nat}{w w':wn}(h:Db A T g b w)(t:BU A T g w g' w'):Db A T g' b w':=
 ⟨λe=>by
  simp only[Ci.all,n7]at e;rcases e with d|d|d
  ·exact h.no (by simp[Ci.all,d])
  ·exact h.no (by simp[Ci.all,d])
  ·rcases t.gr b d with c|c
   ·exact h.no (by simp[Ci.all,c])
   ·have:=h.lt;omega,zG h.lt t.fr.size⟩
def Db.fr{A:Ci}{T:Nat}{g:Gw}{b:Nat}{S:List Nat}{w w':wn}(h:Db A T g b w)(hf:Fr S w w'):Db A T g b w':=⟨h.no,zG h.lt hf.size⟩
def BU.then{A:Ci}{T:Nat}{g g':Gw}{S:List Nat}{w w' w'':wn}(t:BU A T g w g' w')(hf:Fr S w' w'')(hS:∀y∈S,w.heap.size<=y):BU A T g w g' w'':=⟨t.fr.then hf λy hy=>ws (hS y hy),t.gr⟩
section
variable{K:VK}{w w':wn}{A:Ci}{g:Gw}{cf:Cf}{B:Int}{x:Ma}
def BS.ltA(h:BS A g cf B w x):∀y∈A.all cf.threads.toNat g,y<w.heap.size:=λy hy=>by
 have lo:=h.co.hp.le;simp only[Ci.all,Ci.low,Gw.all,Mv.all,n7]at hy;rcases hy with d|(d|d|d)|(d|d|d)|d
 ·have:=h.ok.lo y d;omega
 ·have:=h.co.low (x:=y) (by simp[d]);omega
 ·have:=h.co.low (x:=y) (by simp[d]);omega
 ·have:=h.co.low (x:=y) (by simp[d]);omega
 ·exact h.co.hp.gy.stk.own.lt (Cb.1 d)
 ·exact h.co.fb.fam.lt y d
 ·exact h.co.th.lt y d
 ·obtain⟨t,ht,hy⟩:=Fg.1 d;exact (h.led.own t ht).lt (Cb.1 hy)
def BS.loc(h:BS A g cf B w x){b:Nat}(hb:w.heap.size<=b)(hl:b<w'.heap.size):Db A cf.threads.toNat g b w':=⟨λe=>by have:=h.ltA b e;omega,hl⟩
def BS.keepL{b:Nat}(h:BS A g cf B w x)(hf:Fr [b] w w')(hl:Db A cf.threads.toNat g b w):BS A g cf B w' x:=h.keep hf λy hy e=>by simp only[zF]at e;subst e;exact hl.no hy
def Ex{w0:wn}{g0:Gw}{b:Nat}{cs:Array wm}{a:Ch}(t:BU A cf.threads.toNat g0 w0 g w)(h:BS A g cf B w x)(hl:Db A cf.threads.toNat g b w)(h0:w0.heap.size<=b)(hb:w.heap[b]?=wh (wt cs 38 (0,0)))(hs:cs.size=5)(hk:∀w',BU A cf.threads.toNat g0 w0 g w'->BS A g cf B w' x->K (C6 a) w'):
  Aj 5 (v7 (wh ⟨b,0,wj⟩)) (C6 a) w λw2=>Ak 5 (v7 (wh ⟨b,0,wj⟩)) w2 λr _=>K r w2:=
 L0 (a:=a) hb hs λw' hf=>hk w' (t.then hf (by simpa using h0)) (h.keepL hf hl)
def EM{w0:wn}{g0:Gw}{b:Nat}{cs:Array wm}{e:Int}(t:BU A cf.threads.toNat g0 w0 g w)(h:BS A g cf B w x)(hl:Db A cf.threads.toNat g b w)(h0:w0.heap.size<=b)(hb:w.heap[b]?=wh (wt cs 38 (0,0)))(hs:cs.size=5)(hk:∀w',BU A cf.threads.toNat g0 w0 g w'->BS A g cf B w' x->K (C6 (Ch.err e)) w'):
  I Z 54 #[v6 wg e] w λx1 w1=>Aj 5 (v7 (wh ⟨b,0,wj⟩)) x1 w1 λw2=>Ak 5 (v7 (wh ⟨b,0,wj⟩)) w2 λr _=>K r w2:=
 Rw λw1 hf1=>Ex (t.trans (BU.w hf1)) (h.keep0 hf1) (hl.fr hf1) h0 (hf1.at_ hb (by simp)) hs hk
def VQ{s:Cd}(h:BS A g cf B w x)(hi:0<=s.i)(hk:∀w',Fr [] w w'->K (wc #[V (x.value s).1.1 (x.value s).1.2,v6 wg (x.value s).2]) w'):
  I Z 155 #[v7 (wh ⟨A.ma,0,wj⟩),CN s] w K:=by
 refine F155.sh (Ar λy w1 hn1=>Ar λr w2 hn2=>A4 Fa (Ar λz w3 hn3=>AA (x:=V 0 0) hn3.at_ rfl Cc rfl λw4 hu4=>?_));have l1:=hn1.is;have l2:=hn2.is;have l3:=hn3.is;have s1:=hn1.fr.size;have s2:=hn2.fr.size;have ly:=BP hn1.at_;have lr:=BP hn2.at_;have f3:=(hn1.fr.trans hn2.fr).trans hn3.fr;have f4:Fr [] w w4:=f3.then hu4.fr (by simp;omega);have h4:=h.keep0 f4
 have y4:=hu4.fr.at_ ((hn2.fr.trans hn3.fr).at_ hn1.at_ (by simp)) (by simp;omega);have r4:=hu4.fr.at_ (hn3.fr.at_ hn2.at_ (by simp)) (by simp;omega);have z4:=hu4.at_;unfold Ma.value at hk
 have yes:∀(v:V2) w5,Fr [] w w5->w5.heap[r]?=wh (wt #[v6 wg 0,v6 wg 0] 60 (0,0))->w5.heap[z]?=wh (wt (V v.1 v.2).cells 60 (0,0))->(∀w',Fr [] w w'->K (wc #[V v.1 v.2,v6 wg 0]) w')->F155.k15 K (v7 (wh ⟨r,0,wj⟩)) (v7 (wh ⟨z,0,wj⟩)) (wd wk) w5:=λv w5 f5 hr hz hk=>by
  refine F155.k15.to ?_;simp only[zv];exact F155.k17.to (A3 hz rfl (AA (x:=V v.1 v.2) hr rfl Cc rfl λw6 hu=>A3 hu.at_ rfl (hk w6 (f5.then hu.fr (by simp;omega)))))
 have no:∀w5,Fr [] w w5->w5.heap[r]?=wh (wt #[v6 wg 0,v6 wg 0] 60 (0,0))->(∀w',Fr [] w w'->K (wc #[V 0 0,v6 wg 4]) w')->F155.k15 K (v7 (wh ⟨r,0,wj⟩)) (v7 (wh ⟨z,0,wj⟩)) (wd wl) w5:=λw5 f5 hr hk=>by
  refine F155.k15.to ?_;simp only[zv];exact A4 Fa (AA (x:=V 0 0) hr rfl Cc rfl λw6 hu=>A3 hu.at_ rfl (hk w6 (f5.then hu.fr (by simp;omega))))
 have lw4:=hu4.fr.size;have lw3:=BP hn3.at_;have szw:w.heap.size<=w4.heap.size:=f4.size
 try simp only[zv]
 refine Ad (v:=v6 wg s.kd) y4 rfl ?_;by_cases k4:s.kd=4
 ·simp only[vy k4]at hk;simp only[zv,vw,k4];refine Ad (v:=v6 wg s.n) y4 rfl (A4 (L5 1 s.n) (AA (x:=V 1 s.n) z4 rfl Cc rfl λw5 hu5=>A3 hu5.at_ rfl (G5 1 s.n λw6 hf6=>?_)));have f6:Fr [] w w6:=(f4.then hu5.fr (by simp;omega)).trans hf6;have r6:=hf6.at_ (hu5.fr.at_ r4 (by simp;omega)) (by simp);have z6:=hf6.at_ hu5.at_ (by simp);by_cases c:DL 1 s.n=0
  ·simp only[vy c]at hk;simp only[zv,vw,c];exact yes (1,s.n) w6 f6 r6 z6 hk
  ·simp only[vx c]at hk;simp only[zv,c];exact no w6 f6 r6 hk
 simp only[vx k4]at hk;simp only[zv,k4];by_cases k6:s.kd=6
 ·simp only[vy k6]at hk;simp only[zv,vw,k6];refine Ad (v:=v7 (wh ⟨A.Q.co,0,wj⟩)) h4.blk rfl (MG h4.co (K1 λw5 hf5=>?_));refine AA (x:=V (EE x.co.global).1 (EE x.co.global).2) (hf5.at_ z4 (by simp)) rfl Cc rfl λw6 hu6=>?_;exact yes (EE x.co.global) w6 ((f4.trans hf5).then hu6.fr (by simp;omega)) (hu6.fr.at_ (hf5.at_ r4 (by simp)) (by simp;omega)) hu6.at_ hk
 simp only[vx k6]at hk;simp only[zv,k6];by_cases k7:s.kd=7
 ·simp only[vy k7]at hk;simp only[zv,vw,k7];refine Ad (v:=v6 wg s.t) y4 rfl ?_;refine Ad (v:=v6 wg s.i) y4 rfl (Lx h4 hi (λv hv w5 hf5=>?_) λhv w5 hf5=>?_)
  ·rw[hv]at hk;simp only at hk
   try simp only[zv]
   refine AA (x:=V v.1 v.2) (hf5.at_ z4 (by simp)) rfl Cc rfl λw6 hu6=>?_;exact yes v w6 ((f4.trans hf5).then hu6.fr (by simp;omega)) (hu6.fr.at_ (hf5.at_ r4 (by simp)) (by simp;omega)) hu6.at_ hk
  ·rw[hv]at hk;simp only at hk
   try simp only[zv]
   refine AA (x:=V 0 0) (hf5.at_ z4 (by simp)) rfl Cc rfl λw6 hu6=>?_;exact no w6 ((f4.trans hf5).then hu6.fr (by simp;omega)) (hu6.fr.at_ (hf5.at_ r4 (by simp)) (by simp;omega)) hk
 simp only[vx k7]at hk;simp only[zv,k7];by_cases k9:s.kd=9
 ·simp only[vy k9]at hk;simp only[zv,vw,k9];refine A3 y4 rfl (NJ (s:=s) h4 hi λw5 hf5=>?_);have h5:=h4.keep0 hf5;have r5:=hf5.at_ r4 (by simp);have z5:=hf5.at_ z4 (by simp);have y5:=hf5.at_ y4 (by simp);have f5:=f4.trans hf5
  try simp only[zv]
  by_cases c:(x.object s).2=0
  ·rw[vx (by simp[c])]at hk;simp only[zv,vw,c,vz,zW];have la:=BP h.blk;refine F155.k14.to (A9 (λw'=>w'.heap[A.ma]?=wh (Er A cf)/\w'.heap[y]?=wh (wt (CN s).cells 40 (0,0))) λw6 hf6 _=>⟨⟨hf6.at_ h5.blk (by simp),hf6.at_ y5 (by simp)⟩,?_⟩);have h6:=h5.keep0 hf6
   try simp only[zv]
   refine Au (v:=v7 (wh ⟨A.Q.co,0,wj⟩)) (λw' hw=>⟨_,_,_,hw.1,rfl⟩) (Au (v:=v6 wg s.f) (λw' hw=>⟨_,_,_,hw.2,rfl⟩) ⟨P6 h6.co λw7 hf7=>⟨⟨hf7.at_ h6.blk (by simp),hf7.at_ (hf6.at_ y5 (by simp)) (by simp)⟩,?_⟩,trivial⟩);have f7:=(f5.trans hf6).trans hf7;have z7:=(hf6.trans hf7).at_ z5 (by simp);have r7:=(hf6.trans hf7).at_ r5 (by simp)
   try simp only[zv]
   refine⟨AA (x:=V (x.co.s.get (x.object s).1 s.f).1.1 (x.co.s.get (x.object s).1 s.f).1.2) z7 rfl Cc rfl λw8 hu8=>⟨⟨hu8.fr.at_ (hf7.at_ h6.blk (by simp)) (by simp;omega),hu8.fr.at_ (hf7.at_ (hf6.at_ y5 (by simp)) (by simp)) (by simp;omega)⟩,?_⟩,trivial⟩;have f8:Fr [] w w8:=f7.then hu8.fr (by simp;omega);have r8:=hu8.fr.at_ r7 (by simp;omega);cases e:(x.co.s.get (x.object s).1 s.f).2 with
   | true=>
    rw[e]at hk;simp only[vu]at hk;exact yes _ w8 f8 r8 hu8.at_ hk
   | false=>
    rw[e]at hk;simp only[yZ,vq]at hk;exact no w8 f8 r8 hk
  ·rw[vy c]at hk;simp only[zv,c,vz,zX];exact A4 Fa (AA (x:=V 0 0) r5 rfl Cc rfl λw6 hu=>A3 hu.at_ rfl (hk w6 (f5.then hu.fr (by simp;omega))))
 ·simp only[vx k9]at hk;simp only[zv,k9];exact yes (0,0) w4 f4 r4 z4 hk
def SV(c:Co)(t:Int)(v:V2):(c.push t v).1.r=c.r:=by unfold Co.push;split<;>rfl
def V8{s:Cd}(h:BS A g cf B w x)(hi:0<=s.i)(hk:∀g' w',BU A cf.threads.toNat g w g' w'->BS A g' cf B w' (x.pushS s).1->K (C6 (x.pushS s).2) w'):
  I Z 101 #[v7 (wh ⟨A.ma,0,wj⟩),CN s] w K:=by
 refine F101.sh (Ar λy w1 hn1=>Ar λr w2 hn2=>?_);have l1:=hn1.is;have l2:=hn2.is;have s1:=hn1.fr.size;have ly:=BP hn1.at_;have f2:=hn1.fr.trans hn2.fr;have h2:=h.keep0 f2;have y2:=hn2.fr.at_ hn1.at_ (by simp);have la:=BP h.blk;unfold Ma.pushS at hk;refine A3 y2 rfl (VQ (s:=s) h2 hi λw3 hf3=>?_);have f3:=f2.trans hf3;have y3:=hf3.at_ y2 (by simp);have r3:=hf3.at_ hn2.at_ (by simp);have s3:=hf3.size
 have lr:=BP hn2.at_;generalize x.value s=p at *;obtain⟨v,e⟩:=p;simp only at hk ⊢
 try simp only[zv]
 refine Ar λz w4 hn4=>AA (x:=V v.1 v.2) hn4.at_ rfl Cc rfl λw5 hu5=>?_;have l4:=hn4.is;have f5:Fr [] w w5:=(f3.trans hn4.fr).then hu5.fr (by simp;omega);have h5:=h.keep0 f5;have y5:=hu5.fr.at_ (hn4.fr.at_ y3 (by simp)) (by simp;omega);have r5:=hu5.fr.at_ (hn4.fr.at_ r3 (by simp)) (by simp;omega);have z5:=hu5.at_;by_cases c:e=0
 ·rw[vx (by simp[c])]at hk;simp only[zv,vw,c,vz,zW];refine F101.k4.to (A9 (λw'=>w'.heap[A.ma]?=wh (Er A cf)/\w'.heap[y]?=wh (wt (CN s).cells 40 (0,0))/\w'.heap[z]?=wh (wt #[v6 wg v.1,v6 wg v.2] 60 (0,0))) λw6 hf6 _=>⟨⟨hf6.at_ h5.blk (by simp),hf6.at_ y5 (by simp),hf6.at_ z5 (by simp)⟩,?_⟩);have h6:=h5.keep0 hf6;have f6:=f5.trans hf6;have s6:=f6.size
  try simp only[zv]
  refine Au (v:=v7 (wh ⟨A.Q.co,0,wj⟩)) (λw' hw=>⟨_,_,_,hw.1,rfl⟩) (Au (v:=v6 wg s.t) (λw' hw=>⟨_,_,_,hw.2.1,rfl⟩) (AO (vs:=[v6 wg v.1,v6 wg v.2]) (λw' hw=>⟨_,_,_,hw.2.2,by simp,rfl⟩) ⟨RE (v:=v) h6.co λm' w7 ht7 h7=>?_,trivial⟩));have h7':=h6.setC ht7 h7 (by rw[SV]);have mt7:BU A cf.threads.toNat g w6 { g with m:=m' } w7:=BU.c ht7;have z6:=hf6.at_ z5 (by simp);have y6:=hf6.at_ y5 (by simp)
  have r6:=hf6.at_ r5 (by simp);have lz:Db A cf.threads.toNat g z w6:=h.loc (by omega) (BP z6);have lyy:Db A cf.threads.toNat g y w6:=h.loc (by omega) (BP y6);have lrr:Db A cf.threads.toNat g r w6:=h.loc (by omega) (BP r6);have z7:=lz.at_ mt7 z6;have y7:=lyy.at_ mt7 y6;have r7:=lrr.at_ mt7 r6;have t7:BU A cf.threads.toNat g w { g with m:=m' } w7:=(BU.w f6).trans mt7;refine⟨⟨h7'.blk,y7,z7⟩,?_⟩
  cases ep:(x.co.push s.t v).2 with
  | false=>
   have e0:x.co.push s.t v=(x.co,wl):=by
    unfold Co.push at ep ⊢;split at ep
    ·simp at ep
    ·rename_i hh;rw[vx hh]
   rw[e0]at hk h7';simp only at hk;simp only[zv];exact EM (e:=3) t7 h7' (lrr.step mt7) (by omega) r7 rfl λw' ht' h'=>hk _ w' ht' h'
  | true=>
   have e0:x.co.push s.t v=((x.co.push s.t v).1,wk):=by rw[<-ep]
   rw[e0]at hk;simp only at hk;simp only[zv];refine F101.k6.to (A3 z7 rfl (Ly (v:=v) h7' λw8 hf8=>?_));exact Ex (t7.trans (BU.w hf8)) (h7'.keep0 hf8) ((lrr.step mt7).fr hf8) (by omega) (hf8.at_ r7 (by simp)) rfl λw' ht' h'=>hk _ w' ht' h'
 ·rw[vy c]at hk;simp only[zv,c,vz,zX];refine Rw λw6 hf6=>L0 (a:=Ch.err e) (hf6.at_ r5 (by simp)) rfl λw7 hf7=>?_;have f7:Fr [] w w7:=(f5.trans hf6).then hf7 (by simp;omega);exact hk g w7 (BU.w f7) (h.keep0 f7)
end
section
variable{K:VK}{w w':wn}{A:Ci}{g:Gw}{cf:Cf}{B:Int}{x:Ma}
def WD(c:Co)(t a i:Int)(v:V2):(c.write t a i v).1.r=c.r:=by unfold Co.write;split<;>rfl
def TH{s:Cd}(h:BS A g cf B w x)(hi:0<=s.i)(hj:0<=s.j)(hk:∀g' w',BU A cf.threads.toNat g w g' w'->BS A g' cf B w' (x.writeS s).1->K (C6 (x.writeS s).2) w'):
  I Z 103 #[v7 (wh ⟨A.ma,0,wj⟩),CN s] w K:=by
 refine F103.sh (Ar λy w1 hn1=>Ar λr w2 hn2=>?_);have l1:=hn1.is;have l2:=hn2.is;have s1:=hn1.fr.size;have ly:=BP hn1.at_;have f2:=hn1.fr.trans hn2.fr;have h2:=h.keep0 f2;have y2:=hn2.fr.at_ hn1.at_ (by simp);unfold Ma.writeS at hk;refine A3 y2 rfl (NJ (s:=s) h2 hi λw3 hf3=>?_);have f3:=f2.trans hf3;have h3:=h.keep0 f3;have y3:=hf3.at_ y2 (by simp);have r3:=hf3.at_ hn2.at_ (by simp);have lr:=BP hn2.at_
 have s3:=hf3.size;generalize x.object s=p at *;obtain⟨a,e⟩:=p;simp only at hk ⊢
 try simp only[zv]
 by_cases c:e=0
 ·rw[vx (by simp[c])]at hk;simp only[zv,vw,c,vz,zW];refine F103.k4.to ?_
  try simp only[zv]
  refine Ad (v:=v6 wg s.t) y3 rfl ?_;refine Ad (v:=v6 wg s.j) y3 rfl (Lx h3 hj (λv hv w4 hf4=>?_) λhv w4 hf4=>?_)
  ·rw[hv]at hk;simp only at hk
   try simp only[zv]
   refine Ar λz w5 hn5=>AA (x:=V v.1 v.2) hn5.at_ rfl Cc rfl λw6 hu6=>?_;have l5:=hn5.is;have s4:=hf4.size;have f6:Fr [] w w6:=((f3.trans hf4).trans hn5.fr).then hu6.fr (by simp;omega);have h6:=h.keep0 f6;have y6:=hu6.fr.at_ ((hf4.trans hn5.fr).at_ y3 (by simp)) (by simp;omega);have r6:=hu6.fr.at_ ((hf4.trans hn5.fr).at_ r3 (by simp)) (by simp;omega);have z6:=hu6.at_
   refine A9 (λw'=>w'.heap[A.ma]?=wh (Er A cf)/\w'.heap[y]?=wh (wt (CN s).cells 40 (0,0))/\w'.heap[z]?=wh (wt #[v6 wg v.1,v6 wg v.2] 60 (0,0))) λw7 hf7 _=>⟨⟨hf7.at_ h6.blk (by simp),hf7.at_ y6 (by simp),hf7.at_ z6 (by simp)⟩,?_⟩;have h7:=h6.keep0 hf7;have f7:=f6.trans hf7;have y7:=hf7.at_ y6 (by simp);have r7:=hf7.at_ r6 (by simp);have z7:=hf7.at_ z6 (by simp)
   refine Au (v:=v7 (wh ⟨A.Q.co,0,wj⟩)) (λw' hw=>⟨_,_,_,hw.1,rfl⟩) (Au (v:=v6 wg s.t) (λw' hw=>⟨_,_,_,hw.2.1,rfl⟩) (Au (v:=v6 wg s.f) (λw' hw=>⟨_,_,_,hw.2.1,rfl⟩) (AO (vs:=[v6 wg v.1,v6 wg v.2]) (λw' hw=>⟨_,_,_,hw.2.2,by simp,rfl⟩) ⟨VS (v:=v) h7.co λm' w8 ht8 h8=>?_,trivial⟩)));have h8':=h7.setC ht8 h8 (by rw[WD]);have mt8:BU A cf.threads.toNat g w7 { g with m:=m' } w8:=BU.c ht8
   have lrr:Db A cf.threads.toNat g r w7:=h.loc (by omega) (BP r7);have lyy:Db A cf.threads.toNat g y w7:=h.loc (by omega) (BP y7);have lzz:Db A cf.threads.toNat g z w7:=h.loc (by omega) (BP z7);have r8:=lrr.at_ mt8 r7;have t8:BU A cf.threads.toNat g w { g with m:=m' } w8:=(BU.w f7).trans mt8;refine⟨⟨h8'.blk,lyy.at_ mt8 y7,lzz.at_ mt8 z7⟩,?_⟩;cases ew:(x.co.write s.t a s.f v).2 with
   | false=>
    simp only[ew,yZ,vq]at hk;simp only[zv];exact EM (e:=4) t8 h8' (lrr.step mt8) (by omega) r8 rfl λw' ht' h'=>hk _ w' ht' h'
   | true=>
    simp only[ew,vu]at hk;simp only[zv];refine F103.k7.to (A4 Kf (Ex t8 h8' (lrr.step mt8) (by omega) r8 rfl λw' ht' h'=>hk _ w' ht' h'))
  ·rw[hv]at hk;simp only at hk
   try simp only[zv]
   refine Ar λz w5 hn5=>AA (x:=V 0 0) hn5.at_ rfl Cc rfl λw6 hu6=>?_;have l5:=hn5.is;have s4:=hf4.size;have f6:Fr [] w w6:=((f3.trans hf4).trans hn5.fr).then hu6.fr (by simp;omega);have r6:=hu6.fr.at_ ((hf4.trans hn5.fr).at_ r3 (by simp)) (by simp;omega);refine A9 (λ_=>True) λw7 hf7 _=>⟨trivial,?_⟩;have f7:=f6.trans hf7;have r7:=hf7.at_ r6 (by simp);refine⟨⟨trivial,?_⟩,trivial⟩
   exact EM (e:=4) (BU.w f7) (h.keep0 f7) (h.loc (by omega) (BP r7)) (by omega) r7 rfl λw' ht' h'=>hk _ w' ht' h'
 ·rw[vy c]at hk;simp only[zv,c,vz,zX];exact EM (e:=e) (BU.w f3) h3 (h.loc (by omega) (BP r3)) (by omega) r3 rfl λw' ht' h'=>hk _ w' ht' h'
def PB{t i:Int}(h:BS A g cf B w x)(hi:0<=i)(hk:∀w',Fr [] w w'->K (wc #[V ((x.root t i).getD (0,0)).1 ((x.root t i).getD (0,0)).2,wd (x.root t i).isSome]) w'):
  I Z 158 #[v7 (wh ⟨A.ma,0,wj⟩),v6 wg t,v6 wg i] w K:=
 Lx h hi (λv hv w' hf=>by have:=hk w' hf;rw[hv]at this;exact this) λhv w' hf=>by have:=hk w' hf;rw[hv]at this;exact this
def Yk{s:Cd}(h:BS A g cf B w x)(hkd:s.kd=11∨s.kd=12)(hi:0<=s.i)(hj:0<=s.j)(hk:∀w',BU A cf.threads.toNat g w g w'->BS A g cf B w' x->K (C6 (x.ask s)) w'):
  I Z 104 #[v7 (wh ⟨A.ma,0,wj⟩),CN s] w K:=by
 refine F104.sh (Ar λy w1 hn1=>Ar λr w2 hn2=>?_);have l1:=hn1.is;have l2:=hn2.is;have s1:=hn1.fr.size;have ly:=BP hn1.at_;have lr:=BP hn2.at_;have f2:=hn1.fr.trans hn2.fr;have h2:=h.keep0 f2;have y2:=hn2.fr.at_ hn1.at_ (by simp);unfold Ma.ask at hk
 try simp only[zv]
 refine Ad (v:=v6 wg s.t) y2 rfl ?_;refine Ad (v:=v6 wg s.i) y2 rfl (PB h2 hi λw3 hf3=>?_);generalize hra:x.root s.t s.i=ra at *;have s3:=hf3.size
 try simp only[zv]
 refine Ar λz w4 hn4=>AA (x:=V (ra.getD (0,0)).1 (ra.getD (0,0)).2) hn4.at_ rfl Cc rfl λw5 hu5=>?_;have l4:=hn4.is;have f25:Fr [] w2 w5:=(hf3.trans hn4.fr).then hu5.fr (by simp;omega);have f5:=f2.trans f25;have h5:=h.keep0 f5;have y5:=f25.at_ y2 (by simp);have z5:=hu5.at_;have lz:=BP z5
 try simp only[zv]
 refine Ad (v:=v6 wg s.t) y5 rfl ?_;refine Ad (v:=v6 wg s.j) y5 rfl (PB h5 hj λw6 hf6=>?_);generalize hrb:x.root s.t s.j=rb at *;have s6:=hf6.size
 try simp only[zv]
 refine Ar λq w7 hn7=>AA (x:=V (rb.getD (0,0)).1 (rb.getD (0,0)).2) hn7.at_ rfl Cc rfl λw8 hu8=>?_;have l7:=hn7.is;have f58:Fr [] w5 w8:=(hf6.trans hn7.fr).then hu8.fr (by simp;omega);have f8:=f5.trans f58;have h8:=h.keep0 f8;have y8:=f58.at_ y5 (by simp);have z8:=f58.at_ z5 (by simp);have r8:=(f25.trans f58).at_ hn2.at_ (by simp);have q8:=hu8.at_;have lrr:Db A cf.threads.toNat g r w8:=h.loc (by omega) (BP r8)
 have err:∀(e:Int),(∀w',BU A cf.threads.toNat g w g w'->BS A g cf B w' x->K (C6 (Ch.err e)) w')->I Z 54 #[v6 wg e] w8 λx1 w1=>Aj 5 (v7 (wh ⟨r,0,wj⟩)) x1 w1 λw2=>Ak 5 (v7 (wh ⟨r,0,wj⟩)) w2 λr _=>K r w2:=λe hk=>EM (e:=e) (BU.w f8) h8 lrr (by omega) r8 rfl hk
 have out:∀(n:Int) w9,Fr [] w8 w9->(∀w',BU A cf.threads.toNat g w g w'->BS A g cf B w' x->K (C6 ⟨0,1,n,0,0⟩) w')->F104.k13 K (v7 (wh ⟨r,0,wj⟩)) (v6 wg n) w9:=λn w9 hf9 hk=>F104.k13.to (A4 (Sf 1 n) (Ex (a:=⟨0,1,n,0,0⟩) (BU.w (f8.trans hf9)) (h8.keep0 hf9) (lrr.fr hf9) (by omega) (hf9.at_ r8 (by simp)) rfl hk));cases ra with
 | none=>
  simp only at hk;simp only[Option.isSome_none,Ah,q9];exact err 4 hk
 | some v=>
  simp only[Option.isSome_some,j5,Ag,uu] at *;refine Ad (v:=v6 wg s.kd) y8 rfl ?_;rcases hkd with k11|k12
  ·simp only[zv,vw,k11];have n12:¬(11:Int)=12:=by decide
   cases rb with
   | none=>
    rw[vy ⟨k11,rfl⟩]at hk;simp only[Option.isSome_none,Ah,q9];exact err 4 hk
   | some u=>
    rw[vx (λe=>by simp at e),vx (λe=>n12 (k11 ▸ e.1)),vx (λe=>n12 (k11 ▸ e))]at hk;simp only[Option.isSome_some,j5,Ag,uu] at *;refine Ad (v:=v6 wg s.kd) y8 rfl ?_;simp only[zv,k11,n12];refine Ad (v:=v6 wg s.kd) y8 rfl ?_;simp only[zv,k11,n12];refine A3 z8 rfl (A3 q8 rfl ⟨_,ZL _ _ v.1 v.2 u.1 u.2,?_⟩);have e:(v=u)↔(v.1=u.1/\v.2=u.2):=ve;by_cases c:v=u
    ·rw[vy c]at hk;rw[ur (e.1 c)];simp only[Ah];exact out 1 w8 (Fr.refl _ _) hk
    ·rw[vx c]at hk;rw[p9 (λd=>c (e.2 d))];simp only[Ag];exact out 0 w8 (Fr.refl _ _) hk
  ·have n11:¬(12:Int)=11:=by decide
   simp only[zv,k12,n11];rw[vx (λe=>n11 (k12 ▸ e.1))]at hk;refine Ad (v:=v6 wg s.kd) y8 rfl ?_;simp only[zv,vw,k12];refine Ad (v:=v6 wg v.1) z8 rfl ?_;by_cases c:v.1=2
   ·rw[vx (λe=>e.2 c),vy k12]at hk;simp only[zv,vw,c,vz,zW];refine Ad (v:=v6 wg s.kd) y8 rfl ?_;simp only[zv,vw,k12];refine A9 (λw'=>w'.heap[A.ma]?=wh (Er A cf)/\w'.heap[z]?=wh (wt (V v.1 v.2).cells 60 (0,0))) λw9 hf9 _=>⟨⟨hf9.at_ h8.blk (by simp),hf9.at_ z8 (by simp)⟩,?_⟩;have h9:=h8.keep0 hf9
    refine Au (v:=v7 (wh ⟨A.Q.co,0,wj⟩)) (λw' hw=>⟨_,_,_,hw.1,rfl⟩) (Au (v:=v6 wg v.2) (λw' hw=>⟨_,_,_,hw.2,rfl⟩) ⟨MF h9.co ⟨⟨h9.blk,hf9.at_ z8 (by simp)⟩,?_⟩,trivial⟩);exact out _ w9 hf9 hk
   ·rw[vy ⟨k12,c⟩]at hk;simp only[zv,c,vz,zX];exact err 12 hk
def UO(cf:Cf)(c:Co):(c.unit cf).1.r.l.length=c.r.l.length:=by
 have adv:∀d (c:Co),(Co.advance cf d c).r.l.length=c.r.l.length:=by
  intro d;induction d with
  | zero=>intro c;rfl
  | succ d ih=>
   intro c;rw[Co.advance];split
   ·split
    ·rw[ih];rfl
    ·split
     ·rw[ih]
     ·split
      ·rw[ih]
      ·split
       ·rw[ih]
       ·rfl
   ·rfl
 have tU:(c.tUnit cf).1.r=c.r:=by
  unfold Co.tUnit;split
  ·rfl
  ·split
   ·unfold Co.entry;simp only;split<;>rfl
   ·split<;>rfl
 have sw:∀(l:List Int) (c:Co),(c.sweepAll l).r=c.r:=by
  intro l;induction l with
  | nil=>intro c;rfl
  | cons a l ih=>intro c;rw[Co.sweepAll,ih];unfold Co.sweepOne;split<;>rfl
 have wU:(c.wUnit cf).1.r=c.r:=by
  unfold Co.wUnit;split
  ·rfl
  ·exact sw _ c
 unfold Co.unit;simp only;by_cases p3:c.phase=3
 ·simp only[vy p3];cases e:c.tUnit cf with
  | mk d b=>
   rw[e]at tU;simp only at tU;cases b
   ·simp only[yZ,vq];unfold Co.adv;rw[adv];show (d.raise 4).r.l.length=_;unfold Co.raise Rg.raise;simp only;rw[tU]
   ·simp only[vu];rw[tU]
 ·simp only[vx p3];by_cases p5:c.phase=5
  ·simp only[vy p5];cases e:c.wUnit cf with
   | mk d b=>
    rw[e]at wU;simp only at wU;by_cases z:cf.pages<=d.at_
    ·simp only[vy z];cases b<;>simp[wU]
    ·simp only[vx z];cases b<;>simp[wU]
  ·simp only[vx p5,yZ,vq]
def Mp(cf:Cf):∀d (c:Co),(Co.advance cf d c).r.l.length=c.r.l.length:=by
 intro d;induction d with
 | zero=>intro c;rfl
 | succ d ih=>
  intro c;rw[Co.advance];split
  ·split
   ·rw[ih];rfl
   ·split
    ·rw[ih]
    ·split
     ·rw[ih]
     ·split
      ·rw[ih]
      ·rfl
  ·rfl
def Lp(cf:Cf):∀d (c:Co),(c.workN cf d).2<=d:=by
 intro d;induction d with
 | zero=>intro c;simp[Co.workN]
 | succ d ih=>
  intro c;rw[Co.workN];split
  ·simp
  ·rename_i c' _;have:=ih c';simp only;omega
def RV{n:Nat}(hn:n<=1000){w0:wn}{g0:Gw}{x0:Ma}{ce:Co}{k:Nat}(hk:∀g' w',BU A cf.threads.toNat g0 w0 g' w'->BS A g' cf B w' { x0 with co:=ce }->K (v6 wg (k:Int)) w'):
  ∀(d i:Nat) (c:Co) (g:Gw) (w:wn),i+d=n->BU A cf.threads.toNat g0 w0 g w->BS A g cf B w { x0 with co:=c }->(c.workN cf d).1=ce->i+(c.workN cf d).2=k->
   F234.l2 K (v7 (wh ⟨A.ma,0,wj⟩)) (v6 wg (n:Int)) (v6 wg (n:Int)) (v6 wg (i:Int)) w:=by
 intro d;induction d with
 | zero=>
  intro i c g w hi ht h e1 e2;have e:i=n:=by omega
  subst e;refine F234.l2.to ?_;simp only[zv,show ¬((i:Int)<(i:Int)) by omega];simp only[Co.workN]at e1 e2;subst e1;rw[u9]at e2;subst e2;exact F234.k7.to (hk g w ht h)
 | succ d ih=>
  intro i c g w hi ht h e1 e2;refine F234.l2.to ?_;simp only[zv,show (i:Int)<(n:Int) by omega];refine F234.k3.to ?_
  try simp only[zv]
  refine Ad (v:=v7 (wh ⟨A.Q.co,0,wj⟩)) h.blk rfl (Xt h.co λm' w1 ht1 h1=>?_);have h1':=h.setC ht1 h1 (UO cf c);have t1:=ht.trans (BU.c ht1);rw[Co.workN]at e1 e2;cases e:c.unit cf with
  | mk c' b=>
   rw[e]at e1 e2 h1';cases b with
   | false=>
    simp only at e1 e2 h1';subst e1;rw[u9]at e2;subst e2;simp only[zv];exact hk _ w1 t1 h1'
   | true=>
    simp only at e1 e2 h1';simp only[zv];refine F234.k6.to ?_
    try simp only[A7]
    rw[BO (n:=(i:Int)+1) (by omega)];exact ih (i+1) c' _ w1 (by omega) t1 h1' e1 (by omega)
def RU{n:Nat}(h:BS A g cf B w x)(hn:n<=1000)(hk:∀g' w',BU A cf.threads.toNat g w g' w'->BS A g' cf B w' { x with co:=(x.co.workN cf n).1 }->K (v6 wg ((x.co.workN cf n).2:Int)) w'):
  I Z 234 #[v7 (wh ⟨A.ma,0,wj⟩),v6 wg (n:Int)] w K:=
 F234.sh (RV (x0:=x) hn hk n 0 x.co g w (by omega) (BU.refl _ _ _ _) h rfl (by omega))
def BS.mono{B':Int}(h:BS A g cf B w x)(hB:B<=B'):BS A g cf B' w x:=
 ⟨h.ok,h.fine,h.co,h.blk,h.led,h.bnk,⟨h.bin.toTy,by have:=h.bin.iB;omega,by have:=h.bin.lB;omega⟩,h.l64,h.hs,h.rl⟩
def BS.prS(h:w.heap[A.ma]?=wh (Er A cf)):∃cs e fz,w.heap[A.ma]?=wh (wt cs e fz)/\0+2<=cs.size/\(cs.toList.drop 0).take 2=[v7 (wh ⟨A.lg,0,wj⟩),v7 (wh ⟨A.bn,0,wj⟩)]:=⟨_,_,_,h,by simp,rfl⟩
def X7(d:Int):(Instr.build 38 #[(3,v6 wg d)]).run Z w=.ok (C6 ⟨0,0,0,d,0⟩) w:=by kernel_rfl
def Wc(d e:Int):(Instr.build 38 #[(3,v6 wg d),(4,v6 wg e)]).run Z w=.ok (C6 ⟨0,0,0,d,e⟩) w:=by kernel_rfl
def U9{n:Int}(hB:B<=1000000000000)(hb:N8 B x.bi x.bo x.bl cf.cap)(h0:0<=n)(hn:n<=64):
  N8 (B+64) (x.bi+min n (cf.cap-(x.bi-x.bo))) x.bo (x.bl+(n-min n (cf.cap-(x.bi-x.bo)))) cf.cap:=by obtain⟨⟨a1,a2,a3,a4,a5,a6,a7,a8⟩,a9,a10⟩:=hb;exact⟨⟨by omega,by omega,by omega,by omega,by omega,by omega,by omega,by omega⟩,by omega,by omega⟩
def Pu{n:Nat}(h:BS A g cf B w x)(hB:B<=1000000000000)(hn:n<=64)(hk:∀g' w',BU A cf.threads.toNat g w g' w'->BS A g' cf (B+64) w' (x.ahead cf n).1->K (C6 (x.ahead cf n).2) w'):
  I Z 163 #[v7 (wh ⟨A.ma,0,wj⟩),v6 wg (n:Int)] w K:=by
 refine F163.sh (Ar λr w1 hn1=>?_);have l1:=hn1.is;have h1:=h.keep0 hn1.fr;have lr1:Db A cf.threads.toNat g r w1:=h.loc (by omega) (BP hn1.at_);unfold Ma.ahead at hk;simp only[zK]at hk;have hle:=Lp cf n x.co;refine RU h1 (by omega) λg2 w2 ht2 h2=>?_;generalize hce:(x.co.workN cf n).1=ce at *;generalize hkk:(x.co.workN cf n).2=k at *;have r2:=lr1.at_ ht2 hn1.at_;have lr2:=lr1.step ht2
 try simp only[zv]
 refine Ad (v:=v7 (wh ⟨A.bn,0,wj⟩)) h2.blk rfl (Wb (k:Int) h2.bnk h2.bin.toTy λw3 hf3 hb3=>?_);have ec:Dn (k:Int) 0 2147483648=(k:Int):=by unfold Dn;rw[vx (by omega),vx (by omega)]
 rw[ec]at hb3;have fit:=U9 (x:={ x with co:=ce }) hB h2.bin (n:=(k:Int)) (by omega) (by omega);have h3:=h2.setB hf3 hb3 fit;have t3:BU A cf.threads.toNat g w g2 w3:=((BU.w hn1.fr).trans ht2).trans (BU.b hf3);have r3:=lr2.at_ (BU.b (T:=cf.threads.toNat) (g:=g2) hf3) r2;refine A4 (X7 (k:Int)) (Ex (a:=⟨0,0,0,(k:Int),0⟩) t3 h3 (lr2.fr hf3) (by omega) r3 rfl λw' ht' h'=>hk _ w' ht' h')
end
section
variable{K:VK}{w w':wn}{A:Ci}{g:Gw}{cf:Cf}{B:Int}{x:Ma}
structure EJ(w:wn)(y r:Nat)(s:Cd):Prop where
 y:w.heap[y]?=wh (wt (CN s).cells 40 (0,0))
 r:∃cs:Array wm,w.heap[r]?=wh (wt cs 38 (0,0))/\cs.size=5
def EJ.to{y r:Nat}{s:Cd}{g':Gw}(h:EJ w y r s)(t:BU A cf.threads.toNat g w g' w')(hy:Db A cf.threads.toNat g y w)(hr:Db A cf.threads.toNat g r w):EJ w' y r s:=by obtain⟨cs,h1,h2⟩:=h.r;exact⟨hy.at_ t h.y,cs,hr.at_ t h1,h2⟩
def EJ.fr{y r:Nat}{s:Cd}(h:EJ w y r s)(hf:Fr [] w w'):EJ w' y r s:=by obtain⟨cs,h1,h2⟩:=h.r;exact⟨hf.at_ h.y (by simp),cs,hf.at_ h1 (by simp),h2⟩
def Yv{s:Cd}{t:Nat}(h:BS A g cf B w x)(hB:B<=1000000000000)(et:s.t=(t:Int))(ht:t<cf.threads.toNat)(hc:1<=s.cost/\s.cost<=64)(hk:∀g' w',BU A cf.threads.toNat g w g' w'->BS A g' cf B w' (x.tax cf s).1->K (C6 (x.tax cf s).2) w'):
  I Z 222 #[v7 (wh ⟨A.ma,0,wj⟩),CN s] w K:=by
 have hta:=h.fine.ta;have hwi:=h.fine.wi;refine F222.sh (Ar λy w1 hn1=>Ar λr w2 hn2=>?_);have l1:=hn1.is;have l2:=hn2.is;have s1:=hn1.fr.size;have ly:=BP hn1.at_;have lr:=BP hn2.at_;have f2:=hn1.fr.trans hn2.fr;have h2:=h.keep0 f2;have e2:EJ w2 y r s:=⟨hn2.fr.at_ hn1.at_ (by simp),_,hn2.at_,rfl⟩;have yl2:Db A cf.threads.toNat g y w2:=h.loc (by omega) (BP e2.y)
 have rl2:Db A cf.threads.toNat g r w2:=h.loc (by omega) lr;unfold Ma.tax at hk
 try simp only[zv]
 refine Ad (v:=v7 (wh ⟨A.Q.co,0,wj⟩)) h2.blk rfl (IJ h2.co ?_);have quiet:(x.co.phase≠3/\x.co.phase≠5)->Am Z (Instr.build 38 #[]) w2 λx20 w11=>Aj 5 (v7 (wh ⟨r,0,wj⟩)) x20 w11 λw12=>Ak 5 (v7 (wh ⟨r,0,wj⟩)) w12 λr13 _=>K r13 w12:=λhp=>by
  rw[vy hp]at hk;exact A4 Kf (Ex (a:=Ch.ok) (BU.w f2) h2 rl2 (by omega) hn2.at_ rfl λw' ht' h'=>hk g w' ht' h')
 have M0:¬(x.co.phase≠3/\x.co.phase≠5)->F222.k4 K (v7 (wh ⟨A.ma,0,wj⟩)) (v7 (wh ⟨y,0,wj⟩)) (v7 (wh ⟨r,0,wj⟩)) w2:=λhp=>by
  rw[vx hp]at hk;simp only at hk;refine F222.k4.to (A9 (λw'=>w'.heap[A.ma]?=wh (Er A cf)) λw3 hf3 _=>⟨hf3.at_ h2.blk (by simp),?_⟩);have h3:=h2.keep0 hf3
  try simp only[zv]
  refine Au (v:=v7 (wh ⟨A.bn,0,wj⟩)) (λw' hw=>⟨_,_,_,hw,rfl⟩) (Au (v:=v6 wg cf.tax) (λw' hw=>⟨_,_,_,hw,rfl⟩) ⟨Iw h3.bnk λw4 hf4 he4=>⟨hf4.at_ h3.blk (by simp),?_⟩,trivial⟩);have h4:=h3.keep0 hf4;have f4:=(f2.trans hf3).trans hf4;have bo:=h.bin.toTy;have q1:=bo.b0;have q2:=bo.b1;have q3:=bo.m1;rw[BO (n:=x.bi-x.bo) (by omega)];refine⟨_,λw' _=>Hi _ _ _ _ _ _,?_⟩
  generalize hcr:min (x.bi-x.bo) cf.tax=cr at *;have c0:0<=cr/\cr<=cf.tax/\cr<=x.bi-x.bo:=by omega
  refine Ad (v:=v6 wg cf.tax) h4.blk rfl ?_
  try simp only[AN]
  rw[BO (n:=cf.tax-cr) (by omega)];have e4:EJ w4 y r s:=(e2.fr hf3).fr hf4;have yl4:=(yl2.fr hf3).fr hf4;have rl4:=(rl2.fr hf3).fr hf4;refine A9 (λw'=>w'.heap[A.ma]?=wh (Er A cf)/\EJ w' y r s) λw5 hf5 _=>⟨⟨hf5.at_ h4.blk (by simp),e4.fr hf5⟩,?_⟩;have h5:=h4.keep0 hf5;have f5:=f4.trans hf5
  refine Au (v:=v7 (wh ⟨A.lg,0,wj⟩)) (λw' hw=>⟨_,_,_,hw.1,rfl⟩) (Au (v:=v6 wg s.t) (λw' hw=>⟨_,_,_,hw.2.y,rfl⟩) (Au (v:=v6 wg s.cost) (λw' hw=>⟨_,_,_,hw.2.y,rfl⟩) ?_));obtain⟨rest,hrest⟩:=xU (show 0<=cf.tax-cr by omega);have hm:0<=(cf.tax-cr)*s.cost/\(cf.tax-cr)*s.cost<=4096:=by
   constructor
   ·exact uo (by omega) (by omega)
   ·exact u4 (un (show cf.tax-cr<=64 by omega) hc.2 (by omega) (by omega)) (by decide)
  try simp only[AP]
  rw[BO (n:=(cf.tax-cr)*s.cost) (by omega),et];rw[et]at hk;refine⟨IX h5.led ht (by omega) hwi.2 h.fine.mo.2 (h.l64 t) λw6 hf6=>?_,trivial⟩;have h6:=h5.keep0 hf6;have f6:=f5.trans hf6;have e6:EJ w6 y r s:=(e4.fr hf5).fr hf6;have yl6:=(yl4.fr hf5).fr hf6;have rl6:=(rl4.fr hf5).fr hf6;refine⟨⟨h6.blk,e6⟩,?_⟩
  have ea:x.admt cf (t:Int) ((cf.tax-cr)*s.cost)=Fj cf.window cf.most ((cf.tax-cr)*s.cost) (x.lg t):=by unfold Ma.admt;rw[zK]
  obtain⟨cs6,r6,rs6⟩:=e6.r;cases z:Fj cf.window cf.most ((cf.tax-cr)*s.cost) (x.lg t) with
  | false=>
   rw[vy (by rw[ea,z];simp)]at hk;simp only[zv];exact EM (e:=21) (BU.w f6) h6 rl6 (by omega) r6 rs6 λw' ht' h'=>hk g w' ht' h'
  | true=>
   rw[vx (by rw[ea,z];simp)]at hk;simp only[zv];refine F222.k8.to ?_
   try simp only[zv]
   refine Ad (v:=v7 (wh ⟨A.bn,0,wj⟩)) h6.blk rfl (Sb cr h6.bnk bo λw7 hf7 hb7=>?_);have ec:Dn cr 0 (x.bi-x.bo)=cr:=by unfold Dn;rw[vx (by omega),vx (by omega)]
   rw[ec]at hb7;have hb7':N8 B x.bi (x.bo+cr) x.bl cf.cap:=⟨⟨q3,by omega,by omega,bo.i0,by have:=bo.o0;omega,bo.l0,bo.i1,bo.l1⟩,h.bin.iB,h.bin.lB⟩;have h7:=h6.setB hf7 hb7 hb7';have t7:BU A cf.threads.toNat g w6 g w7:=BU.b hf7;have e7:=e6.to t7 yl6 rl6;have yl7:=yl6.step t7;have rl7:=rl6.step t7;rw[hrest];rw[hrest]at hk;simp only[zK]at hk;refine RU h7 (by omega) λg8 w8 ht8 h8=>?_;have e8:=e7.to ht8 yl7 rl7
   have yl8:=yl7.step ht8;have rl8:=rl7.step ht8;have hle:=Lp cf rest x.co;simp only at h8;generalize hce:(x.co.workN cf rest).1=ce at *;generalize hkk:(x.co.workN cf rest).2=k at *;refine A9 (λw'=>w'.heap[A.ma]?=wh (Er A cf)/\w'.heap[y]?=wh (wt (CN s).cells 40 (0,0))) λw9 hf9 _=>⟨⟨hf9.at_ h8.blk (by simp),hf9.at_ e8.y (by simp)⟩,?_⟩;have h9:=h8.keep0 hf9
   refine AO (vs:=[v7 (wh ⟨A.lg,0,wj⟩),v7 (wh ⟨A.bn,0,wj⟩)]) (λw' hw=>BS.prS hw.1) (Au (v:=v6 wg s.t) (λw' hw=>⟨_,_,_,hw.2,rfl⟩) (Au (v:=v6 wg s.cost) (λw' hw=>⟨_,_,_,hw.2,rfl⟩) ?_));have hm2:0<=(k:Int)*s.cost/\(k:Int)*s.cost<=4096:=by
    constructor
    ·exact uo (by omega) (by omega)
    ·exact u4 (un (show (k:Int)<=64 by omega) hc.2 (by omega) (by omega)) (by decide)
   try simp only[AP]
   rw[BO (n:=(k:Int)*s.cost) (by omega),et];refine⟨NB h9 ht λg10 w10 ht10 h10=>?_,trivial⟩;have yl9:=yl8.fr hf9;have rl9:=rl8.fr hf9;have e10:=(e8.fr hf9).to ht10 yl9 rl9;obtain⟨cs10,r10,rs10⟩:=e10.r;refine⟨⟨h10.blk,e10.y⟩,A4 (Wc (k:Int) cr) ?_⟩;have tt:BU A cf.threads.toNat g w g10 w10:=((((BU.w f6).trans t7).trans ht8).trans (BU.w hf9)).trans ht10
   exact Ex (a:=⟨0,0,0,(k:Int),cr⟩) tt h10 (rl9.step ht10) (by omega) r10 rs10 λw' ht' h'=>hk _ w' ht' h'
 by_cases p3:x.co.phase=3
 ·simp only[zv,vw,p3,vz,zW];exact M0 (λe=>e.1 p3)
 ·simp only[zv,p3,vz,zX];by_cases p5:x.co.phase=5
  ·simp only[zv,vw,p5,zW];exact M0 (λe=>e.2 p5)
  ·simp only[zv,p5,zX];exact quiet ⟨p3,p5⟩
end
section
variable{K:VK}{w w':wn}{A:Ci}{g:Gw}{cf:Cf}{B:Int}{x:Ma}
def L3(cf:Cf)(c:Co):(c.beginC cf).1.r.l.length=c.r.l.length:=by
 unfold Co.beginC;split
 ·show (Co.advance cf 4 _).r.l.length=_;rw[Mp];rfl
 ·rfl
def PQ(cf:Cf)(c:Co)(a:Int):(c.color cf a).r=c.r:=by
 unfold Co.color;split
 ·rfl
 ·split<;>rfl
def Ya(cf:Cf)(c:Co)(t n:Int):(c.slow cf t n).1.r=c.r:=by
 unfold Co.slow;split
 ·simp only;split
  ·rw[PQ]
  ·rfl
 ·rfl
def XD(cf:Cf)(c:Co)(t n:Int):(c.fast cf t n).1.r=c.r:=by
 unfold Co.fast;split
 ·split
  ·rfl
  ·rw[PQ]
 ·rfl
def Ke{a:Ch}:(C6 a).cells.size=5:=rfl
def Xn{s:Cd}{t:Nat}(h:BS A g cf B w x)(hB:B<=1000000000000)(et:s.t=(t:Int))(ht:t<cf.threads.toNat)(hc:1<=s.cost/\s.cost<=64)(hk:∀g' w',BU A cf.threads.toNat g w g' w'->BS A g' cf B w' (x.slow cf s).1->K (wc #[v6 wg (x.slow cf s).2.1,C6 (x.slow cf s).2.2]) w'):
  I Z 152 #[v7 (wh ⟨A.ma,0,wj⟩),CN s] w K:=by
 refine F152.sh (Ar λy w1 hn1=>Ar λr w2 hn2=>?_);have l1:=hn1.is;have l2:=hn2.is;have s1:=hn1.fr.size;have lr:=BP hn2.at_;have f2:=hn1.fr.trans hn2.fr;have h2:=h.keep0 f2;have e2:EJ w2 y r s:=⟨hn2.fr.at_ hn1.at_ (by simp),_,hn2.at_,rfl⟩;have yl2:Db A cf.threads.toNat g y w2:=h.loc (by omega) (BP e2.y);have rl2:Db A cf.threads.toNat g r w2:=h.loc (by omega) lr;unfold Ma.slow at hk;simp only at hk
 have rest:∀g3 w3 (x3:Ma),BU A cf.threads.toNat g w g3 w3->BS A g3 cf B w3 x3->EJ w3 y r s->Db A cf.threads.toNat g3 y w3->Db A cf.threads.toNat g3 r w3->
   (∀g' w',BU A cf.threads.toNat g w g' w'->BS A g' cf B w' (if (x3.tax cf s).2.code≠0 then ((x3.tax cf s).1,(0:Int),(x3.tax cf s).2) else ({ (x3.tax cf s).1 with co:=((x3.tax cf s).1.co.slow cf s.t s.n).1 },((x3.tax cf s).1.co.slow cf s.t s.n).2.1,{ (x3.tax cf s).2 with code:=((x3.tax cf s).1.co.slow cf s.t s.n).2.2 })).1->
    K (wc #[v6 wg (if (x3.tax cf s).2.code≠0 then ((x3.tax cf s).1,(0:Int),(x3.tax cf s).2) else ({ (x3.tax cf s).1 with co:=((x3.tax cf s).1.co.slow cf s.t s.n).1 },((x3.tax cf s).1.co.slow cf s.t s.n).2.1,{ (x3.tax cf s).2 with code:=((x3.tax cf s).1.co.slow cf s.t s.n).2.2 })).2.1,C6 (if (x3.tax cf s).2.code≠0 then ((x3.tax cf s).1,(0:Int),(x3.tax cf s).2) else ({ (x3.tax cf s).1 with co:=((x3.tax cf s).1.co.slow cf s.t s.n).1 },((x3.tax cf s).1.co.slow cf s.t s.n).2.1,{ (x3.tax cf s).2 with code:=((x3.tax cf s).1.co.slow cf s.t s.n).2.2 })).2.2]) w')->
   F152.k3 K (v7 (wh ⟨A.ma,0,wj⟩)) (v7 (wh ⟨y,0,wj⟩)) (v7 (wh ⟨r,0,wj⟩)) w3:=λg3 w3 x3 t3 h3 e3 yl3 rl3 hk=>by
  refine F152.k3.to (A3 e3.y rfl (Yv (s:=s) (t:=t) h3 hB et ht hc λg4 w4 t4 h4=>?_));have e4:=e3.to t4 yl3 rl3;have yl4:=yl3.step t4;have rl4:=rl3.step t4;have tt4:=t3.trans t4;generalize x3.tax cf s=p at *;obtain⟨x4,a4⟩:=p;simp only at hk h4 ⊢;refine Ar λz w5 hn5=>AA (x:=C6 a4) hn5.at_ rfl EA rfl λw6 hu6=>?_;have l5:=hn5.is;have sz4:=tt4.fr.size;have f46:Fr [] w4 w6:=hn5.fr.then hu6.fr (by simp;omega)
  have h6:=h4.keep0 f46;have e6:=e4.fr f46;have yl6:=yl4.fr f46;have rl6:=rl4.fr f46;have z6:=hu6.at_;have zl6:Db A cf.threads.toNat g4 z w6:=h4.loc (by omega) (BP z6);obtain⟨cr6,r6,rs6⟩:=e6.r;have hzr:z≠r:=by have:=rl4.lt;omega
  have hzy:z≠y:=by have:=yl4.lt;omega
  have tt6:=tt4.trans (BU.w f46)
  try simp only[zv]
  refine Ad (v:=v6 wg a4.code) z6 rfl ?_;have out:∀(n:Int) (a:Ch) g8 (x8:Ma) w8,BU A cf.threads.toNat g w g8 w8->BS A g8 cf B w8 x8->(∃cs:Array wm,w8.heap[r]?=wh (wt cs 38 (0,0))/\cs.size=5)->w8.heap[z]?=wh (wt (C6 a).cells 38 (0,0))->Db A cf.threads.toNat g8 r w8->
    (∀w',BU A cf.threads.toNat g w g8 w'->BS A g8 cf B w' x8->K (wc #[v6 wg n,C6 a]) w')->
    A2 w8 λS w9=>AM S 5 (v7 (wh ⟨z,0,wj⟩)) w9 λx9 w10=>(Aj 5 (v7 (wh ⟨r,0,wj⟩)) x9 w10 λw11=>(S w11/\Ak 5 (v7 (wh ⟨r,0,wj⟩)) w11 λr11 _=>K (wc #[v6 wg n,r11]) w11))/\True:=λn a g8 x8 w8 t8 h8 hr8 hz8 rl8 hk=>by
   obtain⟨cs,hr8,hs8⟩:=hr8;refine A9 (λw'=>w'.heap[z]?=wh (wt (C6 a).cells 38 (0,0))) λw9 hf9 _=>⟨hf9.at_ hz8 (by simp),?_⟩
   refine AO (vs:=(C6 a).cells.toList) (λw' hw=>⟨_,_,_,hw,by simp[Ke],rfl⟩) ⟨AA (x:=C6 a) (hf9.at_ hr8 (by simp)) rfl EA hs8 λw10 hu=>⟨hu.fr.at_ (hf9.at_ hz8 (by simp)) (by simpa using hzr),A3 hu.at_ rfl (hk w10 ((t8.trans (BU.w hf9)).then hu.fr (by simp;omega)) ((h8.keep0 hf9).keepL hu.fr (rl8.fr hf9)))⟩,trivial⟩
  by_cases c0:a4.code=0
  ·rw[vx (by simp[c0])]at hk;simp only[zv,vw,c0,vz,zW];refine F152.k6.to (A9 (λw'=>w'.heap[A.ma]?=wh (Er A cf)/\w'.heap[y]?=wh (wt (CN s).cells 40 (0,0))) λw7 hf7 _=>⟨⟨hf7.at_ h6.blk (by simp),hf7.at_ e6.y (by simp)⟩,?_⟩);have h7:=h6.keep0 hf7
   try simp only[zv]
   refine Au (v:=v7 (wh ⟨A.Q.co,0,wj⟩)) (λw' hw=>⟨_,_,_,hw.1,rfl⟩) (Au (v:=v6 wg s.t) (λw' hw=>⟨_,_,_,hw.2,rfl⟩) (Au (v:=v6 wg s.n) (λw' hw=>⟨_,_,_,hw.2,rfl⟩) ⟨Xm h7.co λm' w8 ht8 h8=>?_,trivial⟩));have h8':=h7.setC ht8 h8 (by rw[Ya]);have mt8:BU A cf.threads.toNat g4 w7 { g4 with m:=m' } w8:=BU.c ht8;have e8:=(e6.fr hf7).to mt8 (yl6.fr hf7) (rl6.fr hf7)
   have z8:=(zl6.fr hf7).at_ mt8 (hf7.at_ z6 (by simp));have zl8:=(zl6.fr hf7).step mt8;have rl8:=(rl6.fr hf7).step mt8;refine⟨⟨h8'.blk,e8.y⟩,?_⟩;generalize x4.co.slow cf s.t s.n=q at *
   try simp only[zv]
   refine AI z8 rfl rfl (by simp[Ke]) λw9 hu9=>?_;have h9:=h8'.keepL hu9.fr zl8;obtain⟨cr8,r8,rs8⟩:=e8.r;have z9:w9.heap[z]?=wh (wt (C6 { a4 with code:=q.2.2 }).cells 38 (0,0)):=hu9.at_;have tt9:BU A cf.threads.toNat g w { g4 with m:=m' } w9:=((tt6.trans (BU.w hf7)).trans mt8).then hu9.fr (by simp;omega)
   exact out q.2.1 { a4 with code:=q.2.2 } _ _ w9 tt9 h9 ⟨cr8,hu9.fr.at_ r8 (by simpa using vv hzr),rs8⟩ z9 (rl8.fr hu9.fr) λw' ht' h'=>hk _ w' ht' h'
  ·rw[vy c0]at hk;simp only[zv,c0,vz,zX];exact out 0 a4 g4 x4 w6 tt6 h6 ⟨cr6,r6,rs6⟩ z6 rl6 λw' ht' h'=>hk _ w' ht' h'
 refine A9 (λw'=>w'.heap[A.ma]?=wh (Er A cf)) λw3 hf3 _=>⟨hf3.at_ h2.blk (by simp),?_⟩;have h3:=h2.keep0 hf3;have t3:BU A cf.threads.toNat g w g w3:=BU.w (f2.trans hf3)
 try simp only[zv]
 refine Au (v:=v7 (wh ⟨A.Q.co,0,wj⟩)) (λw' hw=>⟨_,_,_,hw,rfl⟩) ⟨IJ h3.co ⟨h3.blk,?_⟩,trivial⟩;by_cases p0:x.co.phase=0
 ·simp only[zv,vw,p0];refine Au (v:=v7 (wh ⟨A.Q.co,0,wj⟩)) (λw' hw=>⟨_,_,_,hw,rfl⟩) (Au (v:=v6 wg cf.trigger) (λw' hw=>⟨_,_,_,hw,rfl⟩) ⟨V7 h3.co λw4 hf4=>⟨hf4.at_ h3.blk (by simp),?_⟩,trivial⟩);have h4:=h3.keep0 hf4;by_cases z:Dt x.co.s.c.ks<cf.trigger
  ·simp only[zv,z];rw[vy (show x.co.phase=0/\Dt x.co.s.c.ks<cf.trigger from⟨p0,z⟩)]at hk;refine Ad (v:=v7 (wh ⟨A.Q.co,0,wj⟩)) h4.blk rfl (Pw h4.co λm' w5 ht5 h5=>?_);have h5':=h4.setC ht5 h5 (L3 _ _);have mt5:BU A cf.threads.toNat g w4 { g with m:=m' } w5:=BU.c ht5
   exact rest _ w5 _ ((t3.trans (BU.w hf4)).trans mt5) h5' (((e2.fr hf3).fr hf4).to mt5 ((yl2.fr hf3).fr hf4) ((rl2.fr hf3).fr hf4)) (((yl2.fr hf3).fr hf4).step mt5) (((rl2.fr hf3).fr hf4).step mt5) hk
  ·simp only[zv,z];rw[vx (show ¬(x.co.phase=0/\Dt x.co.s.c.ks<cf.trigger) from λe=>z e.2)]at hk;exact rest g w4 x (t3.trans (BU.w hf4)) h4 ((e2.fr hf3).fr hf4) ((yl2.fr hf3).fr hf4) ((rl2.fr hf3).fr hf4) hk
 ·simp only[zv,p0];rw[vx (show ¬(x.co.phase=0/\Dt x.co.s.c.ks<cf.trigger) from λe=>p0 e.1)]at hk;exact⟨⟨h3.blk,rest g w3 x t3 h3 (e2.fr hf3) (yl2.fr hf3) (rl2.fr hf3) hk⟩,trivial⟩
end
section
variable{K:VK}{w w':wn}{A:Ci}{g:Gw}{cf:Cf}{B:Int}{x:Ma}
def UV{w0:wn}{g0:Gw}{s:Cd}{y r z:Nat}{a:Int}{b:Ch}(t0:BU A cf.threads.toNat g0 w0 g w)(h:BS A g cf B w x)(he:EJ w y r s)(hz:w.heap[z]?=wh (wt (C6 b).cells 38 (0,0)))(yl:Db A cf.threads.toNat g y w)(rl:Db A cf.threads.toNat g r w)(zl:Db A cf.threads.toNat g z w)(hzr:z≠r)(hzy:z≠y)(r0:w0.heap.size<=r)(z0:w0.heap.size<=z)(hk:∀g' w',BU A cf.threads.toNat g0 w0 g' w'->BS A g' cf B w' (x.got s a b).1->K (C6 (x.got s a b).2) w'):
  F100.k12 K (v7 (wh ⟨A.ma,0,wj⟩)) (v7 (wh ⟨y,0,wj⟩)) (v7 (wh ⟨r,0,wj⟩)) (v6 wg a) (v7 (wh ⟨z,0,wj⟩)) w:=by
 unfold Ma.got at hk;simp only at hk;have sz0:=t0.fr.size;refine F100.k12.to (K1 λw1 hf1=>?_);have h1:=h.keep0 hf1;generalize EE a=v at *;refine Ar λu w2 hn2=>AA (x:=V v.1 v.2) hn2.at_ rfl Cc rfl λw3 hu3=>?_;have l2:=hn2.is;have s1:=hf1.size;have f3:Fr [] w w3:=(hf1.trans hn2.fr).then hu3.fr (by simp;omega);have h3:=h.keep0 f3;have e3:=he.fr f3;have z3:=f3.at_ hz (by simp);have u3:=hu3.at_
 have ul3:Db A cf.threads.toNat g u w3:=h.loc (by omega) (BP u3);have yl3:=yl.fr f3;have rl3:=rl.fr f3;have zl3:=zl.fr f3;refine A9 (λw'=>w'.heap[A.ma]?=wh (Er A cf)/\w'.heap[y]?=wh (wt (CN s).cells 40 (0,0))/\w'.heap[u]?=wh (wt #[v6 wg v.1,v6 wg v.2] 60 (0,0))) λw4 hf4 _=>⟨⟨hf4.at_ h3.blk (by simp),hf4.at_ e3.y (by simp),hf4.at_ u3 (by simp)⟩,?_⟩;have h4:=h3.keep0 hf4
 try simp only[zv]
 refine Au (v:=v7 (wh ⟨A.Q.co,0,wj⟩)) (λw' hw=>⟨_,_,_,hw.1,rfl⟩) (Au (v:=v6 wg s.t) (λw' hw=>⟨_,_,_,hw.2.1,rfl⟩) (AO (vs:=[v6 wg v.1,v6 wg v.2]) (λw' hw=>⟨_,_,_,hw.2.2,by simp,rfl⟩) ⟨RE (v:=v) h4.co λm' w5 ht5 h5=>?_,trivial⟩));have h5':=h4.setC ht5 h5 (by rw[SV]);have mt5:BU A cf.threads.toNat g w4 { g with m:=m' } w5:=BU.c ht5;have e5:=(e3.fr hf4).to mt5 (yl3.fr hf4) (rl3.fr hf4)
 have u5:=(ul3.fr hf4).at_ mt5 (hf4.at_ u3 (by simp));have z5:=(zl3.fr hf4).at_ mt5 (hf4.at_ z3 (by simp));have rl5:=(rl3.fr hf4).step mt5;have zl5:=(zl3.fr hf4).step mt5;have t5:BU A cf.threads.toNat g0 w0 { g with m:=m' } w5:=(t0.trans (BU.w (f3.trans hf4))).trans mt5;refine⟨⟨h5'.blk,e5.y,u5⟩,A3 u5 rfl (Ly (v:=v) h5' λw6 hf6=>?_)⟩;generalize hx5:({ x with co:=(x.co.push s.t v).1 }:Ma)=x5 at *
 generalize x5.told v=q at *;refine Ar λp w7 hn7=>AA (x:=C6 ⟨0,q.1,q.2,0,0⟩) hn7.at_ rfl EA rfl λw8 hu8=>?_;have l7:=hn7.is;have s6:=hf6.size;have f58:Fr [] w5 w8:=(hf6.trans hn7.fr).then hu8.fr (by simp;omega);have h8:=h5'.keep0 f58;have p8:=hu8.at_;have z8:=f58.at_ z5 (by simp);have hpz:p≠z:=by have:=zl5.lt;omega
 have rl8:=rl5.fr f58;have zl8:=zl5.fr f58;obtain⟨cr,r5,rs5⟩:=e5.r;have r8:=f58.at_ r5 (by simp);have t8:=t5.trans (BU.w f58);refine A9 (λw'=>w'.heap[p]?=wh (wt (C6 ⟨0,q.1,q.2,0,0⟩).cells 38 (0,0))) λw9 hf9 _=>⟨hf9.at_ p8 (by simp),?_⟩;have h9:=h8.keep0 hf9;have z9:=hf9.at_ z8 (by simp)
 try simp only[zv]
 refine Au (v:=v6 wg q.1) (λw' hw=>⟨_,_,_,hw,rfl⟩) ?_;refine Au (v:=v6 wg q.2) (λw' hw=>⟨_,_,_,hw,rfl⟩) ?_;refine⟨AI z9 rfl rfl (by simp[Ke]) λw10 hu10=>⟨hu10.fr.at_ (hf9.at_ p8 (by simp)) (by simpa using hpz),?_⟩,trivial⟩;have z10:w10.heap[z]?=wh (wt (C6 { b with kd:=q.1 }).cells 38 (0,0)):=hu10.at_;have h10:=h9.keepL hu10.fr (zl8.fr hf9)
 refine⟨AI z10 rfl rfl (by simp[Ke]) λw11 hu11=>⟨hu11.fr.at_ (hu10.fr.at_ (hf9.at_ p8 (by simp)) (by simpa using hpz)) (by simpa using hpz),?_⟩,trivial⟩;have z11:w11.heap[z]?=wh (wt (C6 { b with kd:=q.1,n:=q.2 }).cells 38 (0,0)):=hu11.at_;have h11:=h10.keepL hu11.fr ((zl8.fr hf9).fr hu10.fr);have r11:=hu11.fr.at_ (hu10.fr.at_ (hf9.at_ r8 (by simp)) (by simpa using vv hzr)) (by simpa using vv hzr)
 have t11:BU A cf.threads.toNat g0 w0 { g with m:=m' } w11:=((t8.trans (BU.w hf9)).then hu10.fr (by simpa using z0)).then hu11.fr (by simpa using z0);exact A3 z11 rfl (Ex (a:={ b with kd:=q.1,n:=q.2 }) t11 h11 (((rl8.fr hf9).fr hu10.fr).fr hu11.fr) r0 r11 rs5 λw' ht' h'=>hk _ w' ht' h')
def Vi{s:Cd}{t:Nat}(h:BS A g cf B w x)(hB:B<=1000000000000)(et:s.t=(t:Int))(ht:t<cf.threads.toNat)(hk:∀g' w',BU A cf.threads.toNat g w g' w'->BS A g' cf B w' (x.alloc cf s).1->K (C6 (x.alloc cf s).2) w'):
  I Z 100 #[v7 (wh ⟨A.ma,0,wj⟩),CN s] w K:=by
 have hq:=h.fine.qu;refine F100.sh (Ar λy w1 hn1=>Ar λr w2 hn2=>?_);have l1:=hn1.is;have l2:=hn2.is;have s1:=hn1.fr.size;have lr:=BP hn2.at_;have f2:=hn1.fr.trans hn2.fr;have h2:=h.keep0 f2;have e2:EJ w2 y r s:=⟨hn2.fr.at_ hn1.at_ (by simp),_,hn2.at_,rfl⟩;have yl2:Db A cf.threads.toNat g y w2:=h.loc (by omega) (BP e2.y);have rl2:Db A cf.threads.toNat g r w2:=h.loc (by omega) lr;unfold Ma.alloc at hk
 have err:∀(e:Int) w3,Fr [] w2 w3->(∀w',BU A cf.threads.toNat g w g w'->BS A g cf B w' x->K (C6 (Ch.err e)) w')->I Z 54 #[v6 wg e] w3 λx1 w1=>Aj 5 (v7 (wh ⟨r,0,wj⟩)) x1 w1 λw2=>Ak 5 (v7 (wh ⟨r,0,wj⟩)) w2 λr _=>K r w2:=λe w3 hf3 hk=>EM (e:=e) (BU.w (f2.trans hf3)) (h2.keep0 hf3) (rl2.fr hf3) (by omega) (hf3.at_ hn2.at_ (by simp)) rfl hk
 try simp only[zv]
 refine Ad (v:=v6 wg s.n) e2.y rfl (HV ?_);by_cases o1:s.n<0∨127<s.n
 ·rw[vy (show s.n<0∨127<s.n∨s.cost<1∨cf.quantum<s.cost by omega)]at hk;rw[ur o1]
  try simp only[Ah]
  exact err 4 w2 (Fr.refl _ _) λw' ht' h'=>hk g w' ht' h'
 rw[p9 o1]
 try simp only[Ag]
 refine A9 (λw'=>w'.heap[A.ma]?=wh (Er A cf)/\w'.heap[y]?=wh (wt (CN s).cells 40 (0,0))) λw3 hf3 _=>⟨⟨hf3.at_ h2.blk (by simp),hf3.at_ e2.y (by simp)⟩,?_⟩;have h3:=h2.keep0 hf3;refine Au (v:=v6 wg s.cost) (λw' hw=>⟨_,_,_,hw.2,rfl⟩) (Au (v:=v6 wg cf.quantum) (λw' hw=>⟨_,_,_,hw.1,rfl⟩) ⟨HV ⟨⟨h3.blk,hf3.at_ e2.y (by simp)⟩,?_⟩,trivial⟩);by_cases o2:s.cost<1∨cf.quantum<s.cost
 ·rw[vy (show s.n<0∨127<s.n∨s.cost<1∨cf.quantum<s.cost by omega)]at hk;rw[ur o2]
  try simp only[Ah]
  exact err 4 w3 hf3 λw' ht' h'=>hk g w' ht' h'
 rw[vx (show ¬(s.n<0∨127<s.n∨s.cost<1∨cf.quantum<s.cost) by omega)]at hk;rw[p9 o2]
 try simp only[Ag]
 refine A9 (λw'=>w'.heap[A.ma]?=wh (Er A cf)/\w'.heap[y]?=wh (wt (CN s).cells 40 (0,0))) λw4 hf4 _=>⟨⟨hf4.at_ h3.blk (by simp),hf4.at_ (hf3.at_ e2.y (by simp)) (by simp)⟩,?_⟩;have h4:=h3.keep0 hf4;have f24:=hf3.trans hf4
 refine Au (v:=v7 (wh ⟨A.Q.co,0,wj⟩)) (λw' hw=>⟨_,_,_,hw.1,rfl⟩) (Au (v:=v6 wg s.t) (λw' hw=>⟨_,_,_,hw.2,rfl⟩) ⟨H8 h4.co λrv w5 hf5 hr5 hn5=>⟨⟨hf5.at_ h4.blk (by simp),hf5.at_ (f24.at_ e2.y (by simp)) (by simp)⟩,AH hr5.rd ?_⟩,trivial⟩);rw[CE];have f25:=f24.trans hf5;have h5:=h2.keep0 f25;by_cases o3:(x.co.roots s.t).length=16
 ·rw[vy o3]at hk;simp only[zv,vw,show ((x.co.roots s.t).length:Int)=16 by omega];exact err 3 w5 f25 λw' ht' h'=>hk g w' ht' h'
 rw[vx o3]at hk;simp only[zv,show ¬((x.co.roots s.t).length:Int)=16 by omega];have e5:=e2.fr f25;have yl5:=yl2.fr f25;have rl5:=rl2.fr f25;refine F100.k6.to (A9 (λw'=>w'.heap[A.ma]?=wh (Er A cf)/\w'.heap[y]?=wh (wt (CN s).cells 40 (0,0))) λw6 hf6 _=>⟨⟨hf6.at_ h5.blk (by simp),hf6.at_ e5.y (by simp)⟩,?_⟩);have h6:=h5.keep0 hf6;have f6:=(f2.trans f25).trans hf6
 try simp only[zv]
 refine Au (v:=v7 (wh ⟨A.Q.co,0,wj⟩)) (λw' hw=>⟨_,_,_,hw.1,rfl⟩) (Au (v:=v6 wg s.t) (λw' hw=>⟨_,_,_,hw.2,rfl⟩) (Au (v:=v6 wg s.n) (λw' hw=>⟨_,_,_,hw.2,rfl⟩) ⟨WO h6.co λm' w7 ht7 h7=>?_,trivial⟩));have h7':=h6.setC ht7 h7 (by rw[XD]);have mt7:BU A cf.threads.toNat g w6 { g with m:=m' } w7:=BU.c ht7;have e7:=(e5.fr hf6).to mt7 (yl5.fr hf6) (rl5.fr hf6);have yl7:=(yl5.fr hf6).step mt7
 have rl7:=(rl5.fr hf6).step mt7;have t7:BU A cf.threads.toNat g w { g with m:=m' } w7:=(BU.w f6).trans mt7;have sz7:=t7.fr.size;refine⟨⟨h7'.blk,e7.y⟩,?_⟩;cases ef:(x.co.fast cf s.t s.n).2 with
 | some a=>
  have e0:x.co.fast cf s.t s.n=((x.co.fast cf s.t s.n).1,wh a):=by rw[<-ef]
  rw[e0]at hk;simp only at hk
  try simp only[zv]
  refine Ar λz w8 hn8=>?_;have l8:=hn8.is;have h8:=h7'.keep0 hn8.fr;have e8:=e7.fr hn8.fr;have z8:w8.heap[z]?=wh (wt (C6 Ch.ok).cells 38 (0,0)):=hn8.at_;refine F100.k10.to ?_
  try simp only[zv]
  refine Ad (v:=v6 wg 0) z8 rfl ?_;simp only[zv,vw,vz,zW];exact UV (t7.trans (BU.w hn8.fr)) h8 e8 z8 (yl7.fr hn8.fr) (rl7.fr hn8.fr) (h7'.loc (by omega) (BP z8)) (by have:=rl7.lt;omega) (by have:=yl7.lt;omega) (by omega) (by omega) hk
 | none=>
  have e0:x.co.fast cf s.t s.n=(x.co,wj):=by
   unfold Co.fast at ef ⊢;split at ef
   ·rename_i hl;rw[vy hl];split at ef
    ·rename_i e1;rfl
    ·simp at ef
   ·rename_i hl;rw[vx hl]
  rw[e0]at hk h7';simp only at hk h7'
  try simp only[zv]
  refine Ar λz w8 hn8=>?_;have l8:=hn8.is;have h8:=h7'.keep0 hn8.fr;have e8:=e7.fr hn8.fr;have zl8:Db A cf.threads.toNat { g with m:=m' } z w8:=h7'.loc (by omega) (BP hn8.at_);refine A3 e8.y rfl (Xn (s:=s) (t:=t) h8 hB et ht (by omega) λg9 w9 t9 h9=>?_);have e9:=e8.to t9 (yl7.fr hn8.fr) (rl7.fr hn8.fr);have z9:=zl8.at_ t9 hn8.at_;have zl9:=zl8.step t9;have yl9:=(yl7.fr hn8.fr).step t9
  have rl9:=(rl7.fr hn8.fr).step t9;have tt9:=(t7.trans (BU.w hn8.fr)).trans t9;have eta:({ x with co:=x.co }:Ma)=x:=rfl;rw[eta]at h9 ⊢;generalize x.slow cf s=p at *;obtain⟨x9,a9,b9⟩:=p;simp only at hk h9 ⊢
  try simp only[zv]
  refine AA (x:=C6 b9) z9 rfl EA rfl λw10 hu10=>?_;have h10:=h9.keepL hu10.fr zl9;have z10:=hu10.at_;have hzr:z≠r:=by have:=rl7.lt;omega
  have hzy:z≠y:=by have:=yl7.lt;omega
  obtain⟨cr,r9,rs9⟩:=e9.r;have r10:=hu10.fr.at_ r9 (by simpa using vv hzr);have e10:EJ w10 y r s:=⟨hu10.fr.at_ e9.y (by simpa using vv hzy),cr,r10,rs9⟩;have t10:=tt9.then hu10.fr (by simp;omega);refine F100.k10.to ?_
  try simp only[zv]
  refine Ad (v:=v6 wg b9.code) z10 rfl ?_;by_cases c:b9.code=0
  ·rw[vx (by simp[c])]at hk;simp only[zv,vw,c,vz,zW];exact UV t10 h10 e10 z10 (yl9.fr hu10.fr) (rl9.fr hu10.fr) (zl9.fr hu10.fr) hzr hzy (by omega) (by omega) hk
  ·rw[vy c]at hk;simp only[zv,c,vz,zX];exact A3 z10 rfl (Ex (a:=b9) t10 h10 (rl9.fr hu10.fr) (by omega) r10 rs9 λw' ht' h'=>hk _ w' ht' h')
end
section
variable{K:VK}{w w':wn}{A:Ci}{g:Gw}{cf:Cf}{B:Int}{x:Ma}
def QB(x:Ma)(cf:Cf)(n:Nat):(x.ahead cf n).2=⟨0,0,0,((x.co.workN cf n).2:Int),0⟩:=by unfold Ma.ahead;simp
def TG{s:Cd}(h:BS A g cf B w x)(hB:B<=1000000000000)(hth:s.kd=16∨s.kd=17∨∃t:Nat,s.t=(t:Int)/\t<cf.threads.toNat)(hk:∀g' w',BU A cf.threads.toNat g w g' w'->BS A g' cf (B+64) w' (x.spend cf s).1->K (C6 (x.spend cf s).2) w'):
  I Z 106 #[v7 (wh ⟨A.ma,0,wj⟩),CN s] w K:=by
 have hq:=h.fine.qu;have hwi:=h.fine.wi;have up:∀ {g':Gw} {w':wn} {x':Ma},BS A g' cf B w' x'->BS A g' cf (B+64) w' x':=λh=>h.mono (by omega);refine F106.sh (Ar λy w1 hn1=>Ar λr w2 hn2=>?_);have l1:=hn1.is;have l2:=hn2.is;have s1:=hn1.fr.size;have lr:=BP hn2.at_;have f2:=hn1.fr.trans hn2.fr;have h2:=h.keep0 f2;have e2:EJ w2 y r s:=⟨hn2.fr.at_ hn1.at_ (by simp),_,hn2.at_,rfl⟩
 have yl2:Db A cf.threads.toNat g y w2:=h.loc (by omega) (BP e2.y);have rl2:Db A cf.threads.toNat g r w2:=h.loc (by omega) lr;unfold Ma.spend at hk
 have err:∀(e:Int) w3,Fr [] w2 w3->(∀g' w',BU A cf.threads.toNat g w g' w'->BS A g' cf (B+64) w' x->K (C6 (Ch.err e)) w')->I Z 54 #[v6 wg e] w3 λx1 w1=>Aj 5 (v7 (wh ⟨r,0,wj⟩)) x1 w1 λw2=>Ak 5 (v7 (wh ⟨r,0,wj⟩)) w2 λr _=>K r w2:=λe w3 hf3 hk=>EM (e:=e) (BU.w (f2.trans hf3)) (h2.keep0 hf3) (rl2.fr hf3) (by omega) (hf3.at_ hn2.at_ (by simp)) rfl λw' ht' h'=>hk g w' ht' (up h')
 have okEnd:∀g3 w3 (x3:Ma),BU A cf.threads.toNat g w g3 w3->BS A g3 cf (B+64) w3 x3->EJ w3 y r s->Db A cf.threads.toNat g3 r w3->(∀g' w',BU A cf.threads.toNat g w g' w'->BS A g' cf (B+64) w' x3->K (C6 Ch.ok) w')->F106.k17 K (v7 (wh ⟨r,0,wj⟩)) w3:=λg3 w3 x3 t3 h3 e3 rl3 hk=>by
  obtain⟨cr,r3,rs3⟩:=e3.r;exact F106.k17.to (A4 Kf (Ex (a:=Ch.ok) t3 h3 rl3 (by omega) r3 rs3 λw' ht' h'=>hk _ w' ht' h'))
 try simp only[zv]
 refine Ad (v:=v6 wg s.kd) e2.y rfl ?_;by_cases k17:s.kd=17
 ·rw[vy k17]at hk;simp only[zv,vw,k17];refine Ad (v:=v7 (wh ⟨A.Q.co,0,wj⟩)) h2.blk rfl (Pw h2.co λm' w3 ht3 h3=>?_);have h3':=h2.setC ht3 h3 (L3 _ _);have mt3:BU A cf.threads.toNat g w2 { g with m:=m' } w3:=BU.c ht3;have e3:=e2.to mt3 yl2 rl2;have rl3:=rl2.step mt3;have t3:=(BU.w f2).trans mt3;cases eb:(x.co.beginC cf).2 with
  | true=>
   rw[vy eb]at hk
   try simp only[zv]
   exact okEnd _ w3 _ t3 (up h3') e3 rl3 λg' w' ht' h'=>hk g' w' ht' h'
  | false=>
   rw[vx (by simp[eb])]at hk;have e0:(x.co.beginC cf).1=x.co:=by
    unfold Co.beginC at eb ⊢;split at eb
    ·simp at eb
    ·rename_i hh;rw[vx hh]
   rw[e0]at h3'
   try simp only[zv]
   obtain⟨cr,r3,rs3⟩:=e3.r;exact EM (e:=9) t3 h3' rl3 (by omega) r3 rs3 λw' ht' h'=>hk _ w' ht' (up h')
 rw[vx k17]at hk;simp only[zv,k17];refine Ad (v:=v6 wg s.n) e2.y rfl (HV ?_);by_cases o1:s.n<1∨64<s.n
 ·rw[vy o1]at hk;rw[ur o1]
  try simp only[Ah]
  exact err 4 w2 (Fr.refl _ _) hk
 rw[vx o1]at hk;rw[p9 o1]
 try simp only[Ag]
 obtain⟨n,hn⟩:=xU (show 0<=s.n by omega);refine Ad (v:=v6 wg s.kd) e2.y rfl ?_;by_cases k13:s.kd=13
 ·rw[vy k13]at hk;simp only[zv,vw,k13];obtain⟨t,et,ht⟩:∃t:Nat,s.t=(t:Int)/\t<cf.threads.toNat:=by
   rcases hth with e|e|e
   ·rw[k13]at e;exact absurd e (by decide)
   ·exact absurd e k17
   ·exact e
  refine A9 (λw'=>w'.heap[A.ma]?=wh (Er A cf)/\w'.heap[y]?=wh (wt (CN s).cells 40 (0,0))) λw3 hf3 _=>⟨⟨hf3.at_ h2.blk (by simp),hf3.at_ e2.y (by simp)⟩,?_⟩;have h3:=h2.keep0 hf3;refine AO (vs:=[v7 (wh ⟨A.lg,0,wj⟩),v7 (wh ⟨A.bn,0,wj⟩)]) (λw' hw=>BS.prS hw.1) (Au (v:=v6 wg s.t) (λw' hw=>⟨_,_,_,hw.2,rfl⟩) (Au (v:=v6 wg s.n) (λw' hw=>⟨_,_,_,hw.2,rfl⟩) ?_));rw[et]at hk ⊢
  refine⟨UX h3 ht (by omega) (by omega) λg4 w4 t4 h4=>?_,trivial⟩;have e4:=(e2.fr hf3).to t4 (yl2.fr hf3) (rl2.fr hf3);exact⟨⟨h4.blk,e4.y⟩,okEnd g4 w4 _ ((BU.w (f2.trans hf3)).trans t4) (up h4) e4 ((rl2.fr hf3).step t4) hk⟩
 rw[vx k13]at hk;simp only[zv,k13];refine Ad (v:=v6 wg s.kd) e2.y rfl ?_;by_cases k16:s.kd=16
 ·rw[vy k16]at hk;simp only[zv,vw,k16];refine Ad (v:=v6 wg s.n) e2.y rfl ?_;rw[hn]at hk ⊢;refine Pu h2 hB (by omega) λg4 w4 t4 h4=>?_;have e4:=e2.to t4 yl2 rl2;obtain⟨cr,r4,rs4⟩:=e4.r;exact Ex ((BU.w f2).trans t4) h4 (rl2.step t4) (by omega) r4 rs4 λw' ht' h'=>hk _ w' ht' h'
 rw[vx k16]at hk;simp only[zv,k16];obtain⟨t,et,ht⟩:∃t:Nat,s.t=(t:Int)/\t<cf.threads.toNat:=by
  rcases hth with e|e|e
  ·exact absurd e k16
  ·exact absurd e k17
  ·exact e
 refine A9 (λw'=>w'.heap[A.ma]?=wh (Er A cf)/\w'.heap[y]?=wh (wt (CN s).cells 40 (0,0))) λw3 hf3 _=>⟨⟨hf3.at_ h2.blk (by simp),hf3.at_ e2.y (by simp)⟩,?_⟩;have h3:=h2.keep0 hf3;refine Au (v:=v6 wg s.cost) (λw' hw=>⟨_,_,_,hw.2,rfl⟩) (Au (v:=v6 wg cf.quantum) (λw' hw=>⟨_,_,_,hw.1,rfl⟩) ⟨HV ⟨⟨h3.blk,hf3.at_ e2.y (by simp)⟩,?_⟩,trivial⟩);by_cases o2:s.cost<1∨cf.quantum<s.cost
 ·rw[vy o2]at hk;rw[ur o2]
  try simp only[Ah]
  exact err 4 w3 hf3 hk
 rw[vx o2]at hk;rw[p9 o2]
 try simp only[Ag]
 refine A9 (λw'=>w'.heap[A.ma]?=wh (Er A cf)/\EJ w' y r s) λw4 hf4 _=>⟨⟨hf4.at_ h3.blk (by simp),(e2.fr hf3).fr hf4⟩,?_⟩;have h4:=h3.keep0 hf4;have f24:=hf3.trans hf4;have hm:0<=s.n*s.cost/\s.n*s.cost<=4096:=by
  constructor
  ·exact uo (by omega) (by omega)
  ·exact u4 (un (show s.n<=64 by omega) (show s.cost<=64 by omega) (by omega) (by omega)) (by decide)
 refine Au (v:=v7 (wh ⟨A.lg,0,wj⟩)) (λw' hw=>⟨_,_,_,hw.1,rfl⟩) (Au (v:=v6 wg s.t) (λw' hw=>⟨_,_,_,hw.2.y,rfl⟩) (Au (v:=v6 wg s.n) (λw' hw=>⟨_,_,_,hw.2.y,rfl⟩) (Au (v:=v6 wg s.cost) (λw' hw=>⟨_,_,_,hw.2.y,rfl⟩) ?_)))
 try simp only[AP]
 rw[BO (n:=s.n*s.cost) (by omega),et];rw[et]at hk;refine⟨IX h4.led ht (by omega) hwi.2 h.fine.mo.2 (h.l64 t) λw5 hf5=>?_,trivial⟩;have h5:=h4.keep0 hf5;have f25:=f24.trans hf5;have e5:=e2.fr f25;have ea:x.admt cf (t:Int) (s.n*s.cost)=Fj cf.window cf.most (s.n*s.cost) (x.lg t):=by unfold Ma.admt;rw[zK]
 refine⟨⟨h5.blk,e5⟩,?_⟩;cases z:Fj cf.window cf.most (s.n*s.cost) (x.lg t) with
 | false=>
  rw[vy (by rw[ea,z];simp)]at hk
  try simp only[zv]
  exact err 21 w5 f25 hk
 | true=>
  rw[vx (by rw[ea,z];simp)]at hk;simp only at hk
  try simp only[zv]
  refine Ad (v:=v6 wg s.n) e5.y rfl ?_;rw[hn]at hk ⊢;have hdone:=QB x cf n;have hle:=Lp cf n x.co;refine Pu h5 hB (by omega) λg6 w6 t6 h6=>?_;have e6:=e5.to t6 (yl2.fr f25) (rl2.fr f25);have yl6:=(yl2.fr f25).step t6;have rl6:=(rl2.fr f25).step t6;generalize hkk:(x.co.workN cf n).2=k at *;generalize x.ahead cf (n:Int)=p at *;obtain⟨x6,a6⟩:=p;simp only at hdone hk h6 ⊢;subst hdone;simp only at hk
  have tt6:=(BU.w (f2.trans f25)).trans t6;have sz6:=tt6.fr.size;refine Ar λz w7 hn7=>AA (x:=C6 ⟨0,0,0,(k:Int),0⟩) hn7.at_ rfl EA rfl λw8 hu8=>?_;have l7:=hn7.is;have f68:Fr [] w6 w8:=hn7.fr.then hu8.fr (by simp;omega);have h8:=h6.keep0 f68;have e8:=e6.fr f68;have z8:=hu8.at_;have zl8:Db A cf.threads.toNat g6 z w8:=h6.loc (by omega) (BP z8)
  refine A9 (λw'=>w'.heap[A.ma]?=wh (Er A cf)/\w'.heap[y]?=wh (wt (CN s).cells 40 (0,0))/\w'.heap[z]?=wh (wt (C6 ⟨0,0,0,(k:Int),0⟩).cells 38 (0,0))) λw9 hf9 _=>⟨⟨hf9.at_ h8.blk (by simp),hf9.at_ e8.y (by simp),hf9.at_ z8 (by simp)⟩,?_⟩;have h9:=h8.keep0 hf9;have hm2:0<=(k:Int)*s.cost/\(k:Int)*s.cost<=4096:=by
   constructor
   ·exact uo (by omega) (by omega)
   ·exact u4 (un (show (k:Int)<=64 by omega) (show s.cost<=64 by omega) (by omega) (by omega)) (by decide)
  try simp only[zv]
  refine AO (vs:=[v7 (wh ⟨A.lg,0,wj⟩),v7 (wh ⟨A.bn,0,wj⟩)]) (λw' hw=>BS.prS hw.1) (Au (v:=v6 wg s.t) (λw' hw=>⟨_,_,_,hw.2.1,rfl⟩) (Au (v:=v6 wg (k:Int)) (λw' hw=>⟨_,_,_,hw.2.2,rfl⟩) (Au (v:=v6 wg s.cost) (λw' hw=>⟨_,_,_,hw.2.1,rfl⟩) ?_)))
  try simp only[AP]
  rw[BO (n:=(k:Int)*s.cost) (by omega),et];refine⟨NB h9 ht λg10 w10 t10 h10=>?_,trivial⟩;have e10:=(e8.fr hf9).to t10 ((yl6.fr f68).fr hf9) ((rl6.fr f68).fr hf9);have z10:=(zl8.fr hf9).at_ t10 (hf9.at_ z8 (by simp));obtain⟨cr,r10,rs10⟩:=e10.r
  refine⟨⟨h10.blk,e10.y,z10⟩,A3 z10 rfl (Ex (a:=⟨0,0,0,(k:Int),0⟩) ((tt6.trans (BU.w (f68.trans hf9))).trans t10) h10 (((rl6.fr f68).fr hf9).step t10) (by omega) r10 rs10 λw' ht' h'=>hk _ w' ht' h')⟩
def Yw{s:Cd}(h:BS A g cf B w x)(hk:∀w',Fr [] w w'->K (v6 wg (x.who cf s)) w'):I Z 56 #[v7 (wh ⟨A.ma,0,wj⟩),CN s] w K:=by
 refine F56.sh (Ar λy w1 hn1=>?_);have h1:=h.keep0 hn1.fr;have y1:=hn1.at_;unfold Ma.who at hk
 try simp only[zv]
 refine Ad (v:=v6 wg s.kd) y1 rfl ?_;by_cases k16:16<=s.kd
 ·rw[vy k16]at hk;simp only[zv,show s.kd≥16 from k16];exact hk w1 hn1.fr
 rw[vx k16]at hk;simp only[zv,show ¬s.kd≥16 from k16];have S0:∀w',Fr [] w1 w'->w'.heap[A.ma]?=wh (Er A cf)/\w'.heap[y]?=wh (wt (CN s).cells 40 (0,0)):=λw' hf=>⟨hf.at_ h1.blk (by simp),hf.at_ y1 (by simp)⟩;refine A9 (λw'=>w'.heap[A.ma]?=wh (Er A cf)/\w'.heap[y]?=wh (wt (CN s).cells 40 (0,0))) λw2 hf2 _=>⟨S0 w2 hf2,?_⟩
 refine Au (v:=v6 wg s.t) (λw' hw=>⟨_,_,_,hw.2,rfl⟩) (Au (v:=v6 wg cf.threads) (λw' hw=>⟨_,_,_,hw.1,rfl⟩) ?_);by_cases o:cf.threads<=s.t
 ·rw[vy o]at hk;simp only[zv,show s.t≥cf.threads from o];exact hk w2 (hn1.fr.trans hf2)
 rw[vx o]at hk;simp only[zv,show ¬s.t≥cf.threads from o];refine A9 (λw'=>w'.heap[A.ma]?=wh (Er A cf)/\w'.heap[y]?=wh (wt (CN s).cells 40 (0,0))) λw3 hf3 _=>⟨S0 w3 (hf2.trans hf3),?_⟩;have f3:=hf2.trans hf3;have h3:=h1.keep0 f3;have S3:=S0 w3 f3;refine Au (v:=v6 wg s.kd) (λw' hw=>⟨_,_,_,hw.2,rfl⟩) ?_
 have second:¬(s.kd=1/\x.co.r.live s.t=wk)->A2 w3 λS w25=>Ab 0 (v7 (wh ⟨y,0,wj⟩)) w25 λx32 w26=>An S x32 w26 λx33 w27=>U .neq x33 (v6 wg 1) w27 λx34 w28=>Aa wk x34 (λK=>K (v7 (wh ⟨A.ma,0,wj⟩)) w28) w28 λx36 w29=>Aa wk x34 (Ae x36 w29) w29 λx37 w30=>Aa wk x34 (Ab 12 x37 w30) w30 λx38 w31=>Aa wk x34 (Ab 1 (v7 (wh ⟨y,0,wj⟩)) w31) w31 λx40 w32=>Aa wk x34 (An S x38 w32) w32 λx39 w33=>Aa wk x34 (An S x40 w33) w33 λx41 w34=>(Aa wk x34 (λK=>I Z 53 #[x39,x41] w34 K) w34 λx42 w35=>(S w35/\Aa wk x34 (A8 x42 w35) w35 λx43 w36=>Aw (wh x34) (wh x43) (wh (wd wl)) w36 λx44 w37=>Af x44 (K (v6 wg 14) w37) (F56.k9 K w37)))/\True:=λhno=>by
  rw[vx hno]at hk;refine A9 (λw'=>w'.heap[A.ma]?=wh (Er A cf)/\w'.heap[y]?=wh (wt (CN s).cells 40 (0,0))) λw4 hf4 _=>⟨S0 w4 (f3.trans hf4),?_⟩;have f4:=f3.trans hf4;have h4:=h1.keep0 f4
  try simp only[zv]
  refine Au (v:=v6 wg s.kd) (λw' hw=>⟨_,_,_,hw.2,rfl⟩) ?_;by_cases k1:s.kd=1
  ·rw[vx (λe=>e.1 k1)]at hk;simp only[zv,vw,k1,vz,zW];exact⟨⟨S0 w4 f4,F56.k9.to (hk w4 (hn1.fr.trans f4))⟩,trivial⟩
  ·simp only[zv,k1,vz,zX];refine Au (v:=v7 (wh ⟨A.Q.co,0,wj⟩)) (λw' hw=>⟨_,_,_,hw.1,rfl⟩) (Au (v:=v6 wg s.t) (λw' hw=>⟨_,_,_,hw.2,rfl⟩) ⟨Fq h4.co ⟨S0 w4 f4,?_⟩,trivial⟩);cases el:x.co.r.live s.t with
   | true=>
    rw[vx (λe=>e.2 el)]at hk
    try simp only[zv]
    exact F56.k9.to (hk w4 (hn1.fr.trans f4))
   | false=>
    rw[vy ⟨k1,by simp[el]⟩]at hk
    try simp only[zv]
    exact hk w4 (hn1.fr.trans f4)
 by_cases k1:s.kd=1
 ·simp only[zv,vw,k1];refine Au (v:=v7 (wh ⟨A.Q.co,0,wj⟩)) (λw' hw=>⟨_,_,_,hw.1,rfl⟩) (Au (v:=v6 wg s.t) (λw' hw=>⟨_,_,_,hw.2,rfl⟩) ⟨Fq h3.co ⟨S3,?_⟩,trivial⟩);cases el:x.co.r.live s.t with
  | true=>
   rw[vy ⟨k1,el⟩]at hk
   try simp only[Ah]
   exact hk w3 (hn1.fr.trans f3)
  | false=>
   try simp only[Ag]
   have:=second (λe=>by simp[el]at e)
   try simp only[zv]at this
   exact this
 ·simp only[zv,k1];have:=second (λe=>k1 e.1)
  try simp only[zv]at this
  exact⟨⟨S3,this⟩,trivial⟩
end
end
end Go.Proofs.QV
