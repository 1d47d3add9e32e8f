/- Part 10 of what the law needs: own lemmas, in the order in which they build. -/
import Derived.Laws.AppendOwn
import Derived.Test.YtcakfaakbpdklaaGreatDoorProg
import Derived.Test.YtcakfaakbpdklaaGreatDoorTopLike09
set_option linter.defProp false
set_option linter.unusedSimpArgs false
set_option linter.unusedVariables false
set_option maxRecDepth 100000
namespace Go.Proofs.QV
open Go Go.Proofs Go.Proofs.Tryz
open Go.Proofs.Tryz renaming prog->vp
open Go.IntKind renaming i64->vy
open Go.Value renaming int->vq,pointer->vr,slice->vt,bool->vw,agg->vx
open Option renaming some->vz
open Option renaming none->v6
open Bool renaming true->v7
open Bool renaming false->v8
open Go renaming Value->wc
open Go renaming World->wd
open Or renaming inl->wg
open Or renaming inr->wh
open Go.Obj renaming cells->wj
noncomputable section
variable{K:VK}{w:wd}{x0 x1 x2 y0 y1 y2 y3 y4 y5 y6 y7 y8 y9 y10 y11:wc}
namespace F12
def ann:Cd:=⟨[],[],[],[(1,(tk [1,0,2] (.go 3 (.go 4 (.go 5 (.take 6 (.go 7 (.take 8 .fin) .fin)) .fin) .fin) (.go 4 (.go 3 (.go 5 (.take 6 (.go 7 (.take 8 .fin) .fin)) .fin) (.go 5 (.go 3 (.take 6 (.go 7 (.take 8 .fin) .fin)) .fin) .fin)) .fin))))],v6⟩
end F12
def F12.sh(h:(Aw (wj (wc.cells x0) 23) w λa b=>A4 b λS c=>Ab 1 a c λd f=>AN S 10 a f λg i=>Al S d i λj k=>(Am vp (Instr.makeSlice 77 j j) k λm o=>(S o/\
 (Am vp (Instr.makeSlice 56 (vq vy 4) (vq vy 4)) o λp q=>(S q/\
 (Am vp (Instr.buildSlice 43 1 #[(0,p)]) q λr s=>(S s/\
 ∃t,(∀w',S w'->(Instr.build 79 #[(0,g),(1,m),(2,r)]).run vp w'=.ok t w')/\((Aw (wj (wc.cells t) 79) s λu v=>(S v/\
 K u v))/\True)))/\True))/\True))/\((Am vp (Instr.makeSlice 56 (vq vy 4) (vq vy 4)) k λx y=>(S y/\
 (Am vp (Instr.makeSlice 77 j j) y λz aa=>(S aa/\
 (Am vp (Instr.buildSlice 43 1 #[(0,x)]) aa λab ac=>(S ac/\
 ∃ad,(∀w',S w'->(Instr.build 79 #[(0,g),(1,z),(2,ab)]).run vp w'=.ok ad w')/\((Aw (wj (wc.cells ad) 79) ac λae af=>(S af/\
 K ae af))/\True)))/\True))/\((Am vp (Instr.buildSlice 43 1 #[(0,x)]) y λag ah=>(S ah/\
 (Am vp (Instr.makeSlice 77 j j) ah λai aj=>(S aj/\
 ∃ak,(∀w',S w'->(Instr.build 79 #[(0,g),(1,ai),(2,ag)]).run vp w'=.ok ak w')/\((Aw (wj (wc.cells ak) 79) aj λal am=>(S am/\
 K al am))/\True)))/\True))/\True)))/\True))):I vp 12 #[x0] w K:=BK (A:=F12.ann) (args:=[x0]) (qq h)
namespace F13
def ann:=a1 [(4,[0,2,4,6]),(6,[0,4,6])]
def code:=cd f13
def BL:=tp f13
variable(K:VK)(y0 y2 y4 y6:wc)(w:wd)
def k4:=nk ann 37 [(0,y0),(2,y2),(4,y4),(6,y6)] w [1,1] code (BL K)
def k6:=nk ann 37 [(0,y0),(4,y4),(6,y6)] w [1,1,1] code (BL K)
attribute [irreducible] k4 k6
end F13
def F13.k4.to(h:(Ab 0 y4 w λa b=>Ad a b λc d=>U .eql c (vq vy 3) d λf g=>Aa v8 f (Ab 0 y4 g) g λi j=>Aa v8 f (Ad i j) j λk m=>Aa v8 f (U .eql k (vq vy 15) m) m λo p=>Ar (vz f) (vz (vw v7)) (vz o) p λq r=>Aa v8 q (Ab 0 y4 r) r λs t=>Aa v8 q (Ad s t) t λu v=>Aa v8 q (U .eql u (vq vy 17) v) v λx y=>Ar (vz q) (vz (vw v7)) (vz x) y λz aa=>Aa v7 z (λK=>K y2 aa) aa λab ac=>Aa v7 z (U .neq ab (vq vy 0) ac) ac λad ae=>Ar (vz z) (vz ad) (vz (vw v8)) ae λaf ag=>Af af (Am vp (Instr.build 38 #[(0,y2)]) ag λah ai=>Aj 5 y6 ah ai λaj=>Ak 5 y6 aj λr17 _=>K r17 aj) (F13.k6 K y0 y4 y6 ag))):F13.k4 K y0 y2 y4 y6 w:=qq h
def F13.k6.to(h:(Ak 7 y4 w λa b=>I vp 38 #[y0,a] b λc d=>Aj 5 y6 c d λf=>Ak 5 y6 f λr4 _=>K r4 f)):F13.k6 K y0 y4 y6 w:=qq h
def F13.sh(h:(Aw (wj (wc.cells x1) 40) w λa b=>Aw (wj #[vq vy 0,vq vy 0,vq vy 0,vq vy 0,vq vy 0] 38) b λc d=>Ak 7 a d λf g=>I vp 37 #[x0,f] g λi j=>U .neq i (vq vy 0) j λk m=>Af k (Am vp (Instr.build 38 #[(0,i)]) m λo p=>Aj 5 c o p λq=>Ak 5 c q λr8 _=>K r8 q) (F13.k4 K x0 x2 a c m))):I vp 13 #[x0,x1,x2] w K:=BK (A:=F13.ann) (args:=[x0,x1,x2]) (qq h)
namespace F15
def ann:Cd:=⟨[(4,[0,2,3,4]),(5,[0,2,3,4]),(8,[0,2,3]),(11,[0,2,3,6,7]),(12,[0,2,3,6,7]),(16,[2,3])],[(3,[0,2,3,4]),(10,[0,2,3,6,7])],[],[],v6⟩
def code:=cd f15
def BL:=tp f15
variable(K:VK)(y0 y2 y3 y4 y6 y7:wc)(w:wd)
def k8:=nk ann 64 [(0,y0),(2,y2),(3,y3)] w [1,1,1] code (BL K)
def l3:=nl ann 64 [(0,y0),(2,y2),(3,y3),(4,y4)] w [1,1,0,1,0] code (BL K)
def k5:=nk ann 64 [(0,y0),(2,y2),(3,y3),(4,y4)] w [1,1,0,1,0,0,1] code (BL K)
def k4:=nk ann 64 [(0,y0),(2,y2),(3,y3),(4,y4)] w [1,1,0,1,0,0,1,1] code (BL K)
def k16:=nk ann 64 [(2,y2),(3,y3)] w [1,1,1,1,1] code (BL K)
def l10:=nl ann 64 [(0,y0),(2,y2),(3,y3),(6,y6),(7,y7)] w [1,1,1,1,0,1,0] code (BL K)
def k12:=nk ann 64 [(0,y0),(2,y2),(3,y3),(6,y6),(7,y7)] w [1,1,1,1,0,1,0,0,1] code (BL K)
def k11:=nk ann 64 [(0,y0),(2,y2),(3,y3),(6,y6),(7,y7)] w [1,1,1,1,0,1,0,0,1,1] code (BL K)
attribute [irreducible] k8 l3 k5 k4 k16 l10 k12 k11
end F15
def F15.k8.to(h:(I vp 40 #[y0] w λa b=>F15.l10 K y0 y2 y3 a (vq vy 0) b)):F15.k8 K y0 y2 y3 w:=qq h
def F15.l3.to(h:(Ag y0 w λa b=>Ab 10 a b λc d=>Ad c d λf g=>AH f g λi j=>U .lss y4 i j λk m=>Af k (F15.k5 K y0 y2 y3 y4 m) (F15.k8 K y0 y2 y3 m))):F15.l3 K y0 y2 y3 y4 w:=by unfold F15.l3 nl;exact BW (qq h)
def F15.k5.to(h:(Ag y0 w λa b=>Ab 10 a b λc d=>Ad c d λf g=>A6 2 f y4 g λi j=>Ab 1 i j λk m=>Ad k m λo p=>Am vp (Builtin.append_ #[56,56] 56 #[(vt v6 0 0),o]) p λq r=>Ab 0 y3 r λs t=>Ad s t λu v=>Am vp (Instr.buildSlice 43 1 #[(0,q)]) v λx y=>Am vp (Builtin.append_ #[43,43] 43 #[u,x]) y λz aa=>Ab 0 y3 aa λab ac=>Aj 1 ab z ac λad=>F15.k4 K y0 y2 y3 y4 ad)):F15.k5 K y0 y2 y3 y4 w:=qq h
def F15.k4.to(h:(U .add y4 (vq vy 1) w λa b=>F15.l3 K y0 y2 y3 a b)):F15.k4 K y0 y2 y3 y4 w:=qq h
def F15.k16.to(h:(Ak 2 y3 w λa b=>Aj 2 y2 a b λc=>Ak 2 y2 c λr3 _=>K r3 c)):F15.k16 K y2 y3 w:=qq h
def F15.l10.to(h:(AH y6 w λa b=>U .lss y7 a b λc d=>Af c (F15.k12 K y0 y2 y3 y6 y7 d) (F15.k16 K y2 y3 d))):F15.l10 K y0 y2 y3 y6 y7 w:=by unfold F15.l10 nl;exact BW (qq h)
def F15.k12.to(h:(A6 1 y6 y7 w λa b=>Ad a b λc d=>Af c (Ag y0 d λf g=>Ab 11 f g λi j=>Ad i j λk m=>A6 1 k y7 m λo p=>Ad o p λq r=>Am vp (Builtin.append_ #[56,56] 56 #[(vt v6 0 0),q]) r λs t=>Ab 1 y3 t λu v=>Ad u v λx y=>Am vp (Instr.build 58 #[(0,y7),(1,s)]) y λz aa=>Am vp (Instr.buildSlice 44 1 #[(0,z)]) aa λab ac=>Am vp (Builtin.append_ #[44,44] 44 #[x,ab]) ac λad ae=>Ab 1 y3 ae λaf ag=>Aj 1 af ad ag λah=>F15.k11 K y0 y2 y3 y6 y7 ah) (F15.k11 K y0 y2 y3 y6 y7 d))):F15.k12 K y0 y2 y3 y6 y7 w:=qq h
def F15.k11.to(h:(U .add y7 (vq vy 1) w λa b=>F15.l10 K y0 y2 y3 y6 a b)):F15.k11 K y0 y2 y3 y6 y7 w:=qq h
def F15.sh(h:(Aw (wj #[vt v6 0 0,vt v6 0 0] 46) w λa b=>Aw (wj #[vt v6 0 0,vt v6 0 0] 46) b λc d=>F15.l3 K x0 a c (vq vy 0) d)):I vp 15 #[x0] w K:=BK (A:=F15.ann) (args:=[x0]) (qq h)
namespace F37
def ann:Cd:=⟨[(4,[0,3]),(7,[0,3]),(10,[0,3]),(12,[0,3]),(17,[3,8]),(19,[3,8]),(21,[])],[],[],[(12,(tk [0,1,2,4,3,5,6,7,8,9,10] .fin))],v6⟩
def code:=cd f37
def BL:=tp f37
variable(K:VK)(y0 y3 y8:wc)(w:wd)
def k4:=nk ann 118 [(0,y0),(3,y3)] w [1,1] code (BL K)
def k7:=nk ann 118 [(0,y0),(3,y3)] w [1,1,1] code (BL K)
def k10:=nk ann 118 [(0,y0),(3,y3)] w [1,1,1,1] code (BL K)
def k12:=nk ann 118 [(0,y0),(3,y3)] w [1,1,1,1,1] code (BL K)
def k17:=nk ann 118 [(3,y3),(8,y8)] w [1,1,1,1,1,1,1] code (BL K)
def k19:=nk ann 118 [(3,y3),(8,y8)] w [1,1,1,1,1,1,1,1] code (BL K)
def k21:=nk ann 118 [] w [1,1,1,1,1,1,1,1,1] code (BL K)
attribute [irreducible] k4 k7 k10 k12 k17 k19 k21
end F37
def F37.k4.to(h:(Ak 7 y3 w λa b=>I vp 68 #[y0,a] b λc d=>U .neq c (vq vy 0) d λf g=>Af f (K c g) (F37.k7 K y0 y3 g))):F37.k4 K y0 y3 w:=qq h
def F37.k7.to(h:(Ak 7 y3 w λa b=>I vp 69 #[y0,a] b λc d=>U .neq c (vq vy 0) d λf g=>Af f (K c g) (F37.k10 K y0 y3 g))):F37.k7 K y0 y3 w:=qq h
def F37.k10.to(h:(Ab 0 y3 w λa b=>Ad a b λc d=>U .lss c (vq vy 3) d λf g=>Aa v8 f (Ab 0 y3 g) g λi j=>Aa v8 f (Ad i j) j λk m=>Aa v8 f (U .gtr k (vq vy 12) m) m λo p=>Ar (vz f) (vz (vw v7)) (vz o) p λq r=>Af q (K (vq vy 0) r) (F37.k12 K y0 y3 r))):F37.k10 K y0 y3 w:=qq h
def F37.k12.to(h:(A4 w λS a=>Ag y0 a λb c=>Ab 10 b c λd f=>Ab 1 y3 f λg i=>Al S d i λj k=>Al S g k λm o=>A6 2 j m o λp q=>Ab 1 p q λr s=>Al S r s λt u=>AH t u λv x=>Ab 0 y3 x λy z=>Ad y z λaa ab=>U .eql aa (vq vy 9) ab λac ad=>Aa v8 ac (Ab 0 y3 ad) ad λae af=>Aa v8 ac (Ad ae af) af λag ah=>Aa v8 ac (U .eql ag (vq vy 10) ah) ah λai aj=>Ar (vz ac) (vz (vw v7)) (vz ai) aj λak al=>Aa v8 ak (Ab 0 y3 al) al λam an=>Aa v8 ak (Ad am an) an λao ap=>Aa v8 ak (U .eql ao (vq vy 12) ap) ap λaq ar=>Ar (vz ak) (vz (vw v7)) (vz aq) ar λau av=>Af au (Ak 7 y3 av λaw ax=>Ab 0 y3 ax λay az=>Ad ay az λba bb=>U .neq ba (vq vy 12) bb λbc bd=>I vp 70 #[y0,aw,bc] bd λbe bf=>U .neq be (vq vy 0) bf λbg bh=>Af bg (K be bh) (F37.k17 K y3 v bh)) (F37.k17 K y3 v av))):F37.k12 K y0 y3 w:=qq h
def F37.k17.to(h:(Ab 0 y3 w λa b=>Ad a b λc d=>U .eql c (vq vy 7) d λf g=>Aa v8 f (Ab 0 y3 g) g λi j=>Aa v8 f (Ad i j) j λk m=>Aa v8 f (U .eql k (vq vy 11) m) m λo p=>Ar (vz f) (vz (vw v7)) (vz o) p λq r=>Aa v7 q (Ab 2 y3 r) r λs t=>Aa v7 q (Ad s t) t λu v=>Aa v7 q (λK=>K y8 v) v λx y=>Aa v7 q (U .geq u x y) y λz aa=>Ar (vz q) (vz z) (vz (vw v8)) aa λab ac=>Aa v8 ab (Ab 0 y3 ac) ac λad ae=>Aa v8 ab (Ad ad ae) ae λaf ag=>Aa v8 ab (U .eql af (vq vy 10) ag) ag λah ai=>Aa v8 ab (λK=>K ah ai) ai λaj ak=>Aa v8 aj (Ab 0 y3 ak) ak λal am=>Aa v8 aj (Ad al am) am λan ao=>Aa v8 aj (U .eql an (vq vy 11) ao) ao λap aq=>Aa v8 ab (λK=>Ar (vz aj) (vz (vw v7)) (vz ap) aq K) aq λar au=>Aa v8 ab (λK=>K ar au) au λav aw=>Aa v7 av (Ab 4 y3 aw) aw λax ay=>Aa v7 av (Ad ax ay) ay λaz ba=>Aa v7 av (λK=>K y8 ba) ba λbb bc=>Aa v7 av (U .geq az bb bc) bc λbd be=>
 Aa v8 ab (λK=>Ar (vz av) (vz bd) (vz (vw v8)) be K) be λbf bg=>Ar (vz ab) (vz (vw v7)) (vz bf) bg λbh bi=>Aa v8 bh (Ab 0 y3 bi) bi λbj bk=>Aa v8 bh (Ad bj bk) bk λbl bm=>Aa v8 bh (U .eql bl (vq vy 8) bm) bm λbn bo=>Aa v8 bh (λK=>K bn bo) bo λbp bq=>Aa v7 bp (λK=>K y8 bq) bq λbr bs=>Aa v7 bp (U .eql br (vq vy 0) bs) bs λbt bu=>Aa v8 bh (λK=>Ar (vz bp) (vz bt) (vz (vw v8)) bu K) bu λbv bw=>Ar (vz bh) (vz (vw v7)) (vz bv) bw λbx bz=>Af bx (K (vq vy 4) bz) (F37.k19 K y3 y8 bz))):F37.k17 K y3 y8 w:=qq h
def F37.k19.to(h:(Ab 0 y3 w λa b=>Ad a b λc d=>U .leq c (vq vy 7) d λf g=>Aa v8 f (Ab 0 y3 g) g λi j=>Aa v8 f (Ad i j) j λk m=>Aa v8 f (U .eql k (vq vy 9) m) m λo p=>Ar (vz f) (vz (vw v7)) (vz o) p λq r=>Aa v7 q (λK=>K y8 r) r λs t=>Aa v7 q (U .geq s (vq vy 16) t) t λu v=>Ar (vz q) (vz u) (vz (vw v8)) v λx y=>Af x (K (vq vy 3) y) (F37.k21 K y))):F37.k19 K y3 y8 w:=qq h
def F37.k21.to(h:(K (vq vy 0) w)):F37.k21 K w:=qq h
def F37.sh(h:(Aw (wj (wc.cells x1) 40) w λa b=>Ak 7 a b λc d=>I vp 67 #[c] d λf g=>U .neq f (vq vy 0) g λi j=>Af i (K f j) (F37.k4 K x0 a j))):I vp 37 #[x0,x1] w K:=BK (A:=F37.ann) (args:=[x0,x1]) (qq h)
namespace F38
def ann:Cd:=⟨[(3,[0,3,4]),(5,[0,3,4]),(7,[0,3,4]),(8,[0,3,4]),(10,[0,3,4]),(15,[0,3,4]),(18,[0,3,4]),(22,[4]),(23,[0,3,4]),(26,[4])],[],[],[(2,(tk [0,1,2,4,3,5,6,7] (.go 8 .fin .fin))),(4,(tk [0,1,2,4,3,5,6,7] (.go 8 .fin .fin))),(6,(tk [0,1,2,3,5,6] (.go 4 (.go 7 (.go 8 (.go 9 (tk [10,11] (.go 12 .fin .fin)) .fin) .fin) .fin) (.go 7 (.go 4 (.go 8 (.go 9 (tk [10,11] (.go 12 .fin .fin)) .fin) .fin) (.go 8 (.go 4 (.go 9 (tk [10,11] (.go 12 .fin .fin)) .fin) .fin) .fin)) .fin)))),(7,(tk [0,1,3,4,5,2,6,7,8,9] (.go 10 (.go 11 .fin .fin) .fin))),(9,(tk [0,1,3,2,4] (.go 5 (.go 6 (.go 7 .fin .fin) .fin) .fin))),(11,(tk [0,1,2,4,3,5,6,7,8,9] .fin)),(13,(tk [0,1,2,4,6,7,8,9,3,5,10,11,12] (.go 13 .fin .fin))),(16,(tk [0,1,2,4,3,5,6,7,8,9] .fin)),(17,(tk [0,1,2,4,5,12,14,15,3,6,7,8,9,10,11,13,16,17,18,19] (.go 20 .fin .fin))),(19,(tk [0,1,2,4,3,5,6,7,8,9] .fin)),(20,(tk [0,1,5,6,2,3,4,7,8,9,10] .fin)),(24,(tk [0,1,2,4,3,5,6,7,8,9] .fin)),(25,(tk [0,1,2,4,5,3,6,7,8,9,10,11,12,13] (.go 14 .fin .fin)))],v6⟩
def code:=cd f38
def BL:=tp f38
variable(K:VK)(y0 y3 y4:wc)(w:wd)
def k3:=nk ann 198 [(0,y0),(3,y3),(4,y4)] w [1,1] code (BL K)
def k5:=nk ann 198 [(0,y0),(3,y3),(4,y4)] w [1,1,1] code (BL K)
def k8:=nk ann 198 [(0,y0),(3,y3),(4,y4)] w [1,1,1,1] code (BL K)
def k7:=nk ann 198 [(0,y0),(3,y3),(4,y4)] w [1,1,1,0,1,0,1] code (BL K)
def k10:=nk ann 198 [(0,y0),(3,y3),(4,y4)] w [1,1,1,1,1] code (BL K)
def k15:=nk ann 198 [(0,y0),(3,y3),(4,y4)] w [1,1,1,1,1,1] code (BL K)
def k18:=nk ann 198 [(0,y0),(3,y3),(4,y4)] w [1,1,1,1,1,1,1] code (BL K)
def k23:=nk ann 198 [(0,y0),(3,y3),(4,y4)] w [1,1,1,1,1,1,1,1] code (BL K)
def k22:=nk ann 198 [(4,y4)] w [1,1,1,1,1,1,1,0,1,0,1,1] code (BL K)
def k26:=nk ann 198 [(4,y4)] w [1,1,1,1,1,1,1,1,1] code (BL K)
attribute [irreducible] k3 k5 k8 k7 k10 k15 k18 k23 k22 k26
end F38
def F38.k3.to(h:(Ab 0 y3 w λa b=>Ad a b λc d=>U .eql c (vq vy 2) d λf g=>Af f (A4 g λS i=>Ag y0 i λj k=>Ab 10 j k λm o=>Ab 1 y3 o λp q=>Al S m q λr s=>Al S p s λt u=>∃v,(∀w',S w'->(Instr.build 83 #[]).run vp w'=.ok v w')/\(A6 2 r t u λx y=>(Aj 2 x v y λz=>(S z/\
 F38.k5 K y0 y3 y4 z))/\True)) (F38.k5 K y0 y3 y4 g))):F38.k3 K y0 y3 y4 w:=qq h
def F38.k5.to(h:(Ab 0 y3 w λa b=>Ad a b λc d=>U .eql c (vq vy 3) d λf g=>Af f (A4 g λS i=>Ag y0 i λj k=>Ab 11 j k λm o=>Ab 6 y3 o λp q=>Al S p q λr s=>(Ad m s λt u=>(S u/\
 (Am vp (Instr.makeSlice 56 r r) u λv x=>(S x/\
 (Am vp (Instr.buildSlice 43 1 #[(0,v)]) x λy z=>(S z/\
 (Am vp (Builtin.append_ #[43,43] 43 #[t,y]) z λaa ab=>(S ab/\
 Ag y0 ab λac ad=>Ab 11 ac ad λae af=>(Aj 1 ae aa af λag=>(S ag/\
 F38.k7 K y0 y3 y4 ag))/\True))/\True))/\True))/\True))/\((Am vp (Instr.makeSlice 56 r r) s λah ai=>(S ai/\
 (Ad m ai λaj ak=>(S ak/\
 (Am vp (Instr.buildSlice 43 1 #[(0,ah)]) ak λal am=>(S am/\
 (Am vp (Builtin.append_ #[43,43] 43 #[aj,al]) am λan ao=>(S ao/\
 Ag y0 ao λap aq=>Ab 11 ap aq λar au=>(Aj 1 ar an au λav=>(S av/\
 F38.k7 K y0 y3 y4 av))/\True))/\True))/\True))/\((Am vp (Instr.buildSlice 43 1 #[(0,ah)]) ai λaw ax=>(S ax/\
 (Ad m ax λay az=>(S az/\
 (Am vp (Builtin.append_ #[43,43] 43 #[ay,aw]) az λba bb=>(S bb/\
 Ag y0 bb λbc bd=>Ab 11 bc bd λbe bf=>(Aj 1 be ba bf λbg=>(S bg/\
 F38.k7 K y0 y3 y4 bg))/\True))/\True))/\True))/\True)))/\True)) (F38.k8 K y0 y3 y4 g))):F38.k5 K y0 y3 y4 w:=qq h
def F38.k8.to(h:(Ab 0 y3 w λa b=>Ad a b λc d=>U .geq c (vq vy 4) d λf g=>Aa v7 f (Ab 0 y3 g) g λi j=>Aa v7 f (Ad i j) j λk m=>Aa v7 f (U .leq k (vq vy 7) m) m λo p=>Ar (vz f) (vz o) (vz (vw v8)) p λq r=>Aa v8 q (Ab 0 y3 r) r λs t=>Aa v8 q (Ad s t) t λu v=>Aa v8 q (U .eql u (vq vy 9) v) v λx y=>Ar (vz q) (vz (vw v7)) (vz x) y λz aa=>Af z (A4 aa λS ab=>Ab 1 y3 ab λac ad=>Al S ac ad λae af=>AN S 7 y3 af λag ah=>(I vp 72 #[y0,ag] ah λai aj=>(S aj/\
 (I vp 71 #[y0,ae,ai] aj λak al=>(S al/\
 (Aj 5 y4 ak al λam=>(S am/\
 Ak 5 y4 am λr19 _=>K r19 am))/\True))/\True))/\True) (F38.k10 K y0 y3 y4 aa))):F38.k8 K y0 y3 y4 w:=qq h
def F38.k7.to(h:(A4 w λS a=>Ab 1 y3 a λb c=>Ag y0 c λd f=>Ab 11 d f λg i=>Al S b i λj k=>Al S g k λm o=>AH m o λp q=>U .sub p (vq vy 1) q λr s=>∃t,(∀w',S w'->(Instr.build 60 #[(0,(vq vy 2)),(1,r)]).run vp w'=.ok t w')/\((I vp 71 #[y0,j,t] s λu v=>(S v/\
 (Aj 5 y4 u v λx=>(S x/\
 Ak 5 y4 x λr12 _=>K r12 x))/\True))/\True))):F38.k7 K y0 y3 y4 w:=qq h
def F38.k10.to(h:(Ab 0 y3 w λa b=>Ad a b λc d=>U .eql c (vq vy 8) d λf g=>Af f (A4 g λS i=>Ag y0 i λj k=>Ab 10 j k λm o=>Ab 1 y3 o λp q=>Al S m q λr s=>Al S p s λt u=>A6 2 r t u λv x=>Ab 1 v x λy z=>Al S y z λaa ab=>AH aa ab λac ad=>U .sub ac (vq vy 1) ad λae af=>A6 2 aa ae af λag ah=>Ak 2 ag ah λai aj=>Aw (wj #[vq vy 0,vq vy 0] 60) aj λak al=>Aj 2 ak ai al λam=>A4 am λS an=>Ag y0 an λao ap=>Ab 10 ao ap λaq ar=>Ab 1 y3 ar λau av=>AH aa av λaw ax=>U .sub aw (vq vy 1) ax λay az=>Al S aq az λba bb=>Al S au bb λbc bd=>∃be,(∀w',S w'->(Instr.sliceAt 56 aa v6 (vz ay) v6).run vp w'=.ok be w')/\(A6 2 ba bc bd λbf bg=>Ab 1 bf bg λbh bi=>(Aj 1 bh be bi λbj=>(S bj/\
 Ab 0 ak bj λbk bl=>Ad bk bl λbm bn=>Ab 1 ak bn λbo bp=>Ad bo bp λbq br=>Am vp (Instr.build 38 #[(1,bm),(2,bq)]) br λbs bt=>Aj 5 y4 bs bt λbu=>Ak 5 y4 bu λr37 _=>K r37 bu))/\True)) (F38.k15 K y0 y3 y4 g))):F38.k10 K y0 y3 y4 w:=qq h
def F38.k15.to(h:(Ab 0 y3 w λa b=>Ad a b λc d=>U .eql c (vq vy 10) d λf g=>Af f (A4 g λS i=>Ag y0 i λj k=>Ab 10 j k λm o=>Ab 1 y3 o λp q=>Al S m q λr s=>Al S p s λt u=>A6 2 r t u λv x=>Ab 1 v x λy z=>Al S y z λaa ab=>A4 ab λS ac=>Ag y0 ac λad ae=>Ab 11 ad ae λaf ag=>Ab 2 y3 ag λah ai=>Ab 3 y3 ai λaj ak=>Ab 4 y3 ak λal am=>Al S af am λan ao=>Al S ah ao λap aq=>A6 2 aa ap aq λar au=>Ab 1 ar au λav aw=>Al S av aw λax ay=>A6 1 an ax ay λaz ba=>Al S az ba λbb bc=>Al S aj bc λbd be=>Al S al be λbf bg=>A6 2 aa bf bg λbh bi=>AN S 2 bh bi λbj bk=>A6 2 bb bd bk λbl bm=>(Aj 2 bl bj bm λbn=>(S bn/\
 F38.k18 K y0 y3 y4 bn))/\True) (F38.k18 K y0 y3 y4 g))):F38.k15 K y0 y3 y4 w:=qq h
def F38.k18.to(h:(Ab 0 y3 w λa b=>Ad a b λc d=>U .eql c (vq vy 11) d λf g=>Af f (A4 g λS i=>Ag y0 i λj k=>Ab 10 j k λm o=>Ab 1 y3 o λp q=>Al S m q λr s=>Al S p s λt u=>A6 2 r t u λv x=>Ab 1 v x λy z=>Al S y z λaa ab=>A4 ab λS ac=>Ab 2 y3 ac λad ae=>Ab 4 y3 ae λaf ag=>Al S ad ag λah ai=>A6 2 aa ah ai λaj ak=>AN S 2 aj ak λal am=>Al S af am λan ao=>A6 2 aa an ao λap aq=>AN S 2 ap aq λar au=>∃av,(∀w',S w'->((do eqGuard .eql 60 (.tmp 162) (.tmp 167) al ar;binOp .eql 60 al ar:Sem wc)).run vp w'=.ok av w')/\(Af av (Am vp (Instr.build 38 #[(1,(vq vy 1)),(2,(vq vy 1))]) au λaw ax=>Aj 5 y4 aw ax λay=>Ak 5 y4 ay λr25 _=>K r25 ay) (F38.k22 K y4 au))) (F38.k23 K y0 y3 y4 g))):F38.k18 K y0 y3 y4 w:=qq h
def F38.k23.to(h:(Ab 0 y3 w λa b=>Ad a b λc d=>U .eql c (vq vy 12) d λf g=>Af f (A4 g λS i=>Ag y0 i λj k=>Ab 10 j k λm o=>Ab 1 y3 o λp q=>Al S m q λr s=>Al S p s λt u=>A6 2 r t u λv x=>Ab 1 v x λy z=>Al S y z λaa ab=>A4 ab λS ac=>Ag y0 ac λad ae=>Ab 11 ad ae λaf ag=>Ab 2 y3 ag λah ai=>Al S af ai λaj ak=>Al S ah ak λal am=>A6 2 aa al am λan ao=>Ab 1 an ao λap aq=>Al S ap aq λar au=>A6 1 aj ar au λav aw=>Al S av aw λax ay=>AH ax ay λaz ba=>∃bb,(∀w',S w'->(Instr.build 38 #[(1,(vq vy 1)),(2,az)]).run vp w'=.ok bb w')/\((Aj 5 y4 bb ba λbc=>(S bc/\
 Ak 5 y4 bc λr27 _=>K r27 bc))/\True)) (F38.k26 K y4 g))):F38.k23 K y0 y3 y4 w:=qq h
def F38.k22.to(h:(Am vp (Instr.build 38 #[(1,(vq vy 1))]) w λa b=>Aj 5 y4 a b λc=>Ak 5 y4 c λr3 _=>K r3 c)):F38.k22 K y4 w:=qq h
def F38.k26.to(h:(Am vp (Instr.build 38 #[]) w λa b=>Aj 5 y4 a b λc=>Ak 5 y4 c λr3 _=>K r3 c)):F38.k26 K y4 w:=qq h
def F38.sh(h:(Aw (wj (wc.cells x1) 40) w λa b=>Aw (wj #[vq vy 0,vq vy 0,vq vy 0,vq vy 0,vq vy 0] 38) b λc d=>Ab 0 a d λf g=>Ad f g λi j=>U .eql i (vq vy 1) j λk m=>Af k (A4 m λS o=>Ag x0 o λp q=>Ab 10 p q λr s=>Ab 1 a s λt u=>Al S r u λv x=>Al S t x λy z=>∃aa,(∀w',S w'->(Instr.build 83 #[(0,(vw v7))]).run vp w'=.ok aa w')/\(A6 2 v y z λab ac=>(Aj 2 ab aa ac λad=>(S ad/\
 F38.k3 K x0 a c ad))/\True)) (F38.k3 K x0 a c m))):I vp 38 #[x0,x1] w K:=BK (A:=F38.ann) (args:=[x0,x1]) (qq h)
namespace F40
def ann:Cd:=⟨[(5,[0,3,4,5]),(6,[0,3,4,5]),(9,[0,3,4,5,6,7]),(10,[0,3,4,5,6,7]),(12,[0,3,4]),(14,[0,3,4,8]),(15,[0,3,4,8]),(17,[0,3,4,8,9]),(21,[0,3,4,8,10,11]),(22,[0,3,4,8,10,11]),(24,[3])],[(4,[0,3,4,5]),(8,[0,3,4,5,6,7]),(13,[0,3,4,8]),(20,[0,3,4,8,10,11])],[],[],v6⟩
def code:=cd f40
def BL:=tp f40
variable(K:VK)(y0 y3 y4 y5 y6 y7 y8 y9 y10 y11:wc)(w:wd)
def k12:=nk ann 101 [(0,y0),(3,y3),(4,y4)] w [1,1,1,1] code (BL K)
def l4:=nl ann 101 [(0,y0),(3,y3),(4,y4),(5,y5)] w [1,1,1,0,1,0] code (BL K)
def k6:=nk ann 101 [(0,y0),(3,y3),(4,y4),(5,y5)] w [1,1,1,0,1,0,0,1] code (BL K)
def k5:=nk ann 101 [(0,y0),(3,y3),(4,y4),(5,y5)] w [1,1,1,0,1,0,0,1,1] code (BL K)
def l8:=nl ann 101 [(0,y0),(3,y3),(4,y4),(5,y5),(6,y6),(7,y7)] w [1,1,1,0,1,0,0,1,0,0,1,1,0] code (BL K)
def k10:=nk ann 101 [(0,y0),(3,y3),(4,y4),(5,y5),(6,y6),(7,y7)] w [1,1,1,0,1,0,0,1,0,0,1,1,0,0,1] code (BL K)
def k9:=nk ann 101 [(0,y0),(3,y3),(4,y4),(5,y5),(6,y6),(7,y7)] w [1,1,1,0,1,0,0,1,0,0,1,1,0,0,1,1] code (BL K)
def k24:=nk ann 101 [(3,y3)] w [1,1,1,1,1] code (BL K)
def l13:=nl ann 101 [(0,y0),(3,y3),(4,y4),(8,y8)] w [1,1,1,1,0,1,0] code (BL K)
def k15:=nk ann 101 [(0,y0),(3,y3),(4,y4),(8,y8)] w [1,1,1,1,0,1,0,0,1] code (BL K)
def k14:=nk ann 101 [(0,y0),(3,y3),(4,y4),(8,y8)] w [1,1,1,1,0,1,0,0,1,1] code (BL K)
def k17:=nk ann 101 [(0,y0),(3,y3),(4,y4),(8,y8),(9,y9)] w [1,1,1,1,0,1,0,0,1,0,0,1,1] code (BL K)
def l20:=nl ann 101 [(0,y0),(3,y3),(4,y4),(8,y8),(10,y10),(11,y11)] w [1,1,1,1,0,1,0,0,1,0,0,1,1,1,1,1,0] code (BL K)
def k22:=nk ann 101 [(0,y0),(3,y3),(4,y4),(8,y8),(10,y10),(11,y11)] w [1,1,1,1,0,1,0,0,1,0,0,1,1,1,1,1,0,0,1] code (BL K)
def k21:=nk ann 101 [(0,y0),(3,y3),(4,y4),(8,y8),(10,y10),(11,y11)] w [1,1,1,1,0,1,0,0,1,0,0,1,1,1,1,1,0,0,1,1] code (BL K)
attribute [irreducible] k12 l4 k6 k5 l8 k10 k9 k24 l13 k15 k14 k17 l20 k22 k21
end F40
def F40.k12.to(h:(F40.l13 K y0 y3 y4 (vq vy 0) w)):F40.k12 K y0 y3 y4 w:=qq h
def F40.l4.to(h:(Ag y0 w λa b=>Ab 10 a b λc d=>Ad c d λf g=>AH f g λi j=>U .lss y5 i j λk m=>Af k (F40.k6 K y0 y3 y4 y5 m) (F40.k12 K y0 y3 y4 m))):F40.l4 K y0 y3 y4 y5 w:=by unfold F40.l4 nl;exact BW (qq h)
def F40.k6.to(h:(Ag y0 w λa b=>Ab 10 a b λc d=>Ad c d λf g=>A6 2 f y5 g λi j=>Ab 1 i j λk m=>Ad k m λo p=>F40.l8 K y0 y3 y4 y5 o (vq vy 0) p)):F40.k6 K y0 y3 y4 y5 w:=qq h
def F40.k5.to(h:(U .add y5 (vq vy 1) w λa b=>F40.l4 K y0 y3 y4 a b)):F40.k5 K y0 y3 y4 y5 w:=qq h
def F40.l8.to(h:(AH y6 w λa b=>U .lss y7 a b λc d=>Af c (F40.k10 K y0 y3 y4 y5 y6 y7 d) (F40.k5 K y0 y3 y4 y5 d))):F40.l8 K y0 y3 y4 y5 y6 y7 w:=by unfold F40.l8 nl;exact BW (qq h)
def F40.k10.to(h:(A6 2 y6 y7 w λa b=>Ab 0 a b λc d=>Ad c d λf g=>U .eql f (vq vy 2) g λi j=>Af i (A6 2 y6 y7 j λk m=>Ab 1 k m λo p=>Ad o p λq r=>Am vp (Instr.buildSlice 52 1 #[(0,q)]) r λs t=>Am vp (Builtin.append_ #[52,52] 52 #[y4,s]) t λu v=>F40.k9 K y0 y3 u y5 y6 y7 v) (F40.k9 K y0 y3 y4 y5 y6 y7 j))):F40.k10 K y0 y3 y4 y5 y6 y7 w:=qq h
def F40.k9.to(h:(U .add y7 (vq vy 1) w λa b=>F40.l8 K y0 y3 y4 y5 y6 a b)):F40.k9 K y0 y3 y4 y5 y6 y7 w:=qq h
def F40.k24.to(h:(K y3 w)):F40.k24 K y3 w:=qq h
def F40.l13.to(h:(AH y4 w λa b=>U .lss y8 a b λc d=>Af c (F40.k15 K y0 y3 y4 y8 d) (F40.k24 K y3 d))):F40.l13 K y0 y3 y4 y8 w:=by unfold F40.l13 nl;exact BW (qq h)
def F40.k15.to(h:(A6 1 y4 y8 w λa b=>Ad a b λc d=>A6 1 y3 c d λf g=>Ad f g λi j=>Af i (F40.k14 K y0 y3 y4 y8 j) (F40.k17 K y0 y3 y4 y8 c j))):F40.k15 K y0 y3 y4 y8 w:=qq h
def F40.k14.to(h:(U .add y8 (vq vy 1) w λa b=>F40.l13 K y0 y3 y4 a b)):F40.k14 K y0 y3 y4 y8 w:=qq h
def F40.k17.to(h:(A6 1 y3 y9 w λa b=>Aj 1 a (vw v7) b λc=>Ag y0 c λd f=>Ab 11 d f λg i=>Ad g i λj k=>A6 1 j y9 k λm o=>Ad m o λp q=>F40.l20 K y0 y3 y4 y8 p (vq vy 0) q)):F40.k17 K y0 y3 y4 y8 y9 w:=qq h
def F40.l20.to(h:(AH y10 w λa b=>U .lss y11 a b λc d=>Af c (F40.k22 K y0 y3 y4 y8 y10 y11 d) (F40.k14 K y0 y3 y4 y8 d))):F40.l20 K y0 y3 y4 y8 y10 y11 w:=by unfold F40.l20 nl;exact BW (qq h)
def F40.k22.to(h:(A6 2 y10 y11 w λa b=>Ab 0 a b λc d=>Ad c d λf g=>U .eql f (vq vy 2) g λi j=>Af i (A6 2 y10 y11 j λk m=>Ab 1 k m λo p=>Ad o p λq r=>Am vp (Instr.buildSlice 52 1 #[(0,q)]) r λs t=>Am vp (Builtin.append_ #[52,52] 52 #[y4,s]) t λu v=>F40.k21 K y0 y3 u y8 y10 y11 v) (F40.k21 K y0 y3 y4 y8 y10 y11 j))):F40.k22 K y0 y3 y4 y8 y10 y11 w:=qq h
def F40.k21.to(h:(U .add y11 (vq vy 1) w λa b=>F40.l20 K y0 y3 y4 y8 y10 a b)):F40.k21 K y0 y3 y4 y8 y10 y11 w:=qq h
def F40.sh(h:(Ag x0 w λa b=>Ab 11 a b λc d=>Ad c d λf g=>AH f g λi j=>Am vp (Instr.makeSlice 84 i i) j λk m=>Am vp (Instr.buildSlice 52 1 #[(0,(vq vy 0))]) m λo p=>F40.l4 K x0 k o (vq vy 0) p)):I vp 40 #[x0] w K:=BK (A:=F40.ann) (args:=[x0]) (qq h)
namespace F67
def ann:Cd:=⟨[(3,[1]),(6,[1,3,4]),(7,[1,3,4]),(9,[1,3]),(12,[1,3,5,6]),(13,[1,3,5,6]),(15,[1,5]),(17,[])],[(5,[1,3,4]),(11,[1,3,5,6])],[],[],v6⟩
def code:=cd f67
def BL:=tp f67
variable(K:VK)(y1 y3 y4 y5 y6:wc)(w:wd)
def k3:=nk ann 65 [(1,y1)] w [1,1] code (BL K)
def k9:=nk ann 65 [(1,y1),(3,y3)] w [1,1,1,1] code (BL K)
def l5:=nl ann 65 [(1,y1),(3,y3),(4,y4)] w [1,1,1,0,1,0] code (BL K)
def k7:=nk ann 65 [(1,y1),(3,y3),(4,y4)] w [1,1,1,0,1,0,0,1] code (BL K)
def k6:=nk ann 65 [(1,y1),(3,y3),(4,y4)] w [1,1,1,0,1,0,0,1,1] code (BL K)
def k15:=nk ann 65 [(1,y1),(5,y5)] w [1,1,1,1,1,1] code (BL K)
def l11:=nl ann 65 [(1,y1),(3,y3),(5,y5),(6,y6)] w [1,1,1,1,1,0,1,0] code (BL K)
def k13:=nk ann 65 [(1,y1),(3,y3),(5,y5),(6,y6)] w [1,1,1,1,1,0,1,0,0,1] code (BL K)
def k12:=nk ann 65 [(1,y1),(3,y3),(5,y5),(6,y6)] w [1,1,1,1,1,0,1,0,0,1,1] code (BL K)
def k17:=nk ann 65 [] w [1,1,1,1,1,1,1] code (BL K)
attribute [irreducible] k3 k9 l5 k7 k6 k15 l11 k13 k12 k17
end F67
def F67.k3.to(h:(Ab 1 y1 w λa b=>Ad a b λc d=>Ab 2 y1 d λf g=>Ad f g λi j=>Ab 3 y1 j λk m=>Ad k m λo p=>Ab 4 y1 p λq r=>Ad q r λs t=>Ab 5 y1 t λu v=>Ad u v λx y=>Am vp (Instr.build 158 #[(0,c),(1,i),(2,o),(3,s),(4,x)]) y λz aa=>Aw (wj #[vq vy 0,vq vy 0,vq vy 0,vq vy 0,vq vy 0] 158) aa λab ac=>Aj 5 ab z ac λad=>F67.l5 K y1 ab (vq vy 0) ad)):F67.k3 K y1 w:=qq h
def F67.k9.to(h:(Ab 0 y1 w λa b=>Ad a b λc d=>I vp 111 #[c] d λf g=>Aw (wj #[vw v8,vw v8,vw v8,vw v8,vw v8,vw v8] 164) g λi j=>Aj 6 i f j λk=>F67.l11 K y1 y3 i (vq vy 0) k)):F67.k9 K y1 y3 w:=qq h
def F67.l5.to(h:(U .lss y4 (vq vy 5) w λa b=>Af a (F67.k7 K y1 y3 y4 b) (F67.k9 K y1 y3 b))):F67.l5 K y1 y3 y4 w:=by unfold F67.l5 nl;exact BW (qq h)
def F67.k7.to(h:(AP 5 1 y3 y4 w λa b=>Ad a b λc d=>U .lss c (vq vy 0) d λf g=>Aa v8 f (λK=>K y4 g) g λi j=>Aa v8 f (AP 5 1 y3 i j) j λk m=>Aa v8 f (Ad k m) m λo p=>Aa v8 f (U .gtr o (vq vy 255) p) p λq r=>Ar (vz f) (vz (vw v7)) (vz q) r λs t=>Af s (K (vq vy 4) t) (F67.k6 K y1 y3 y4 t))):F67.k7 K y1 y3 y4 w:=qq h
def F67.k6.to(h:(U .add y4 (vq vy 1) w λa b=>F67.l5 K y1 y3 a b)):F67.k6 K y1 y3 y4 w:=qq h
def F67.k15.to(h:(AP 6 1 y5 (vq vy 5) w λa b=>Ad a b λc d=>AE c d λf g=>Aa v7 f (Ab 6 y1 g) g λi j=>Aa v7 f (Ad i j) j λk m=>Aa v7 f (U .neq k (vq vy 0) m) m λo p=>Ar (vz f) (vz o) (vz (vw v8)) p λq r=>Af q (K (vq vy 16) r) (F67.k17 K r))):F67.k15 K y1 y5 w:=qq h
def F67.l11.to(h:(U .lss y6 (vq vy 5) w λa b=>Af a (F67.k13 K y1 y3 y5 y6 b) (F67.k15 K y1 y5 b))):F67.l11 K y1 y3 y5 y6 w:=by unfold F67.l11 nl;exact BW (qq h)
def F67.k13.to(h:(AP 6 1 y5 y6 w λa b=>Ad a b λc d=>AE c d λf g=>Aa v7 f (λK=>K y6 g) g λi j=>Aa v7 f (AP 5 1 y3 i j) j λk m=>Aa v7 f (Ad k m) m λo p=>Aa v7 f (U .neq o (vq vy 0) p) p λq r=>Ar (vz f) (vz q) (vz (vw v8)) r λs t=>Af s (K (vq vy 16) t) (F67.k12 K y1 y3 y5 y6 t))):F67.k13 K y1 y3 y5 y6 w:=qq h
def F67.k12.to(h:(U .add y6 (vq vy 1) w λa b=>F67.l11 K y1 y3 y5 a b)):F67.k12 K y1 y3 y5 y6 w:=qq h
def F67.k17.to(h:(K (vq vy 0) w)):F67.k17 K w:=qq h
def F67.sh(h:(Aw (wj (wc.cells x0) 40) w λa b=>Ab 0 a b λc d=>Ad c d λf g=>U .lss f (vq vy 1) g λi j=>Aa v8 i (Ab 0 a j) j λk m=>Aa v8 i (Ad k m) m λo p=>Aa v8 i (U .gtr o (vq vy 17) p) p λq r=>Ar (vz i) (vz (vw v7)) (vz q) r λs t=>Af s (K (vq vy 12) t) (F67.k3 K a t))):I vp 67 #[x0] w K:=BK (A:=F67.ann) (args:=[x0]) (qq h)
namespace F68
def ann:Cd:=⟨[(3,[0,3]),(5,[0,3]),(7,[0,3]),(9,[])],[],[],[(3,(tk [0,2,3,4,1,5,6,7] .fin)),(5,(tk [0,1,2,3,4,5,6,8,7,9,10,11,12,13] .fin)),(7,(tk [0,1,2,3,4,5,6,8,7,9,10,11,12,13,14] .fin))],v6⟩
def code:=cd f68
def BL:=tp f68
variable(K:VK)(y0 y3:wc)(w:wd)
def k3:=nk ann 45 [(0,y0),(3,y3)] w [1,1] code (BL K)
def k5:=nk ann 45 [(0,y0),(3,y3)] w [1,1,1] code (BL K)
def k7:=nk ann 45 [(0,y0),(3,y3)] w [1,1,1,1] code (BL K)
def k9:=nk ann 45 [] w [1,1,1,1,1] code (BL K)
attribute [irreducible] k3 k5 k7 k9
end F68
def F68.k3.to(h:(A4 w λS a=>Ab 1 y3 a λb c=>Ag y0 c λd f=>Ab 10 d f λg i=>Al S b i λj k=>Al S g k λm o=>AH m o λp q=>U .geq j p q λr s=>Af r (K (vq vy 4) s) (F68.k5 K y0 y3 s))):F68.k3 K y0 y3 w:=qq h
def F68.k5.to(h:(A4 w λS a=>Ab 0 y3 a λb c=>Al S b c λd f=>U .eql d (vq vy 1) f λg i=>Aa v7 g (λK=>K y0 i) i λj k=>Aa v7 g (Ag j k) k λm o=>Aa v7 g (Ab 10 m o) o λp q=>Aa v7 g (Ab 1 y3 q) q λr s=>Aa v7 g (Al S p s) s λt u=>Aa v7 g (Al S r u) u λv x=>Aa v7 g (A6 2 t v x) x λy z=>Aa v7 g (Ab 0 y z) z λaa ab=>Aa v7 g (Al S aa ab) ab λac ad=>Ar (vz g) (vz ac) (vz (vw v8)) ad λae af=>Af ae (K (vq vy 9) af) (F68.k7 K y0 y3 af))):F68.k5 K y0 y3 w:=qq h
def F68.k7.to(h:(A4 w λS a=>Ab 0 y3 a λb c=>Al S b c λd f=>U .neq d (vq vy 1) f λg i=>Aa v7 g (λK=>K y0 i) i λj k=>Aa v7 g (Ag j k) k λm o=>Aa v7 g (Ab 10 m o) o λp q=>Aa v7 g (Ab 1 y3 q) q λr s=>Aa v7 g (Al S p s) s λt u=>Aa v7 g (Al S r u) u λv x=>Aa v7 g (A6 2 t v x) x λy z=>Aa v7 g (Ab 0 y z) z λaa ab=>Aa v7 g (Al S aa ab) ab λac ad=>Aa v7 g (AE ac ad) ad λae af=>Ar (vz g) (vz ae) (vz (vw v8)) af λag ah=>Af ag (K (vq vy 14) ah) (F68.k9 K ah))):F68.k7 K y0 y3 w:=qq h
def F68.k9.to(h:(K (vq vy 0) w)):F68.k9 K w:=qq h
def F68.sh(h:(Aw (wj (wc.cells x1) 40) w λa b=>Ab 0 a b λc d=>Ad c d λf g=>U .geq f (vq vy 16) g λi j=>Af i (K (vq vy 0) j) (F68.k3 K x0 a j))):I vp 68 #[x0,x1] w K:=BK (A:=F68.ann) (args:=[x0,x1]) (qq h)
namespace F69
def ann:Cd:=⟨[(4,[3,5]),(6,[])],[],[],[(1,(tk [0,1,2,3,4,6,7,8,9,5,10,11,12,13] .fin))],v6⟩
def code:=cd f69
def BL:=tp f69
variable(K:VK)(y3 y5:wc)(w:wd)
def k4:=nk ann 86 [(3,y3),(5,y5)] w [1,1,1] code (BL K)
def k6:=nk ann 86 [] w [1,1,1,1] code (BL K)
attribute [irreducible] k4 k6
end F69
def F69.k4.to(h:(Ab 0 y3 w λa b=>Ad a b λc d=>U .eql c (vq vy 13) d λf g=>Aa v8 f (Ab 0 y3 g) g λi j=>Aa v8 f (Ad i j) j λk m=>Aa v8 f (U .eql k (vq vy 16) m) m λo p=>Ar (vz f) (vz (vw v7)) (vz o) p λq r=>Aa v7 q (Ab 6 y3 r) r λs t=>Aa v7 q (Ad s t) t λu v=>Aa v7 q (U .lss u (vq vy 1) v) v λx y=>Aa v7 q (λK=>K x y) y λz aa=>Aa v8 z (Ab 6 y3 aa) aa λab ac=>Aa v8 z (Ad ab ac) ac λad ae=>Aa v8 z (U .gtr ad (vq vy 64) ae) ae λaf ag=>Aa v7 q (λK=>Ar (vz z) (vz (vw v7)) (vz af) ag K) ag λah ai=>Ar (vz q) (vz ah) (vz (vw v8)) ai λaj ak=>Aa v8 aj (Ab 0 y3 ak) ak λal am=>Aa v8 aj (Ad al am) am λan ao=>Aa v8 aj (U .eql an (vq vy 15) ao) ao λap aq=>Aa v8 aj (λK=>K ap aq) aq λar au=>Aa v7 ar (Ab 6 y3 au) au λav aw=>Aa v7 ar (Ad av aw) aw λax ay=>Aa v7 ar (U .lss ax (vq vy 1) ay) ay λaz ba=>Aa v7 ar (λK=>K az ba) ba λbb bc=>Aa v8 bb (Ab 6 y3 bc) bc λbd be=>Aa v8 bb (Ad bd be) be λbf bg=>
 Aa v8 bb (U .gtr bf (vq vy 64) bg) bg λbh bi=>Aa v7 ar (λK=>Ar (vz bb) (vz (vw v7)) (vz bh) bi K) bi λbj bk=>Aa v7 ar (λK=>K bj bk) bk λbl bm=>Aa v8 bl (λK=>K y5 bm) bm λbn bo=>Aa v7 ar (λK=>Ar (vz bl) (vz (vw v7)) (vz bn) bo K) bo λbp bq=>Aa v8 aj (λK=>Ar (vz ar) (vz bp) (vz (vw v8)) bq K) bq λbr bs=>Ar (vz aj) (vz (vw v7)) (vz br) bs λbt bu=>Af bt (K (vq vy 4) bu) (F69.k6 K bu))):F69.k4 K y3 y5 w:=qq h
def F69.k6.to(h:(K (vq vy 0) w)):F69.k6 K w:=qq h
def F69.sh(h:(Aw (wj (wc.cells x1) 40) w λa b=>A4 b λS c=>Ab 5 a c λd f=>Al S d f λg i=>U .lss g (vq vy 1) i λj k=>Aa v8 j (Ab 5 a k) k λm o=>Aa v8 j (λK=>K x0 o) o λp q=>Aa v8 j (Ag p q) q λr s=>Aa v8 j (Ab 0 r s) s λt u=>Aa v8 j (Ab 3 t u) u λv x=>Aa v8 j (Al S m x) x λy z=>Aa v8 j (Al S v z) z λaa ab=>Aa v8 j (U .gtr y aa ab) ab λac ad=>Ar (vz j) (vz (vw v7)) (vz ac) ad λae af=>Ab 0 a af λag ah=>Ad ag ah λai aj=>U .eql ai (vq vy 3) aj λak al=>Aa v7 ak (Ab 6 a al) al λam an=>Aa v7 ak (Ad am an) an λao ap=>Aa v7 ak (U .lss ao (vq vy 0) ap) ap λaq ar=>Aa v7 ak (λK=>K aq ar) ar λau av=>Aa v8 au (Ab 6 a av) av λaw ax=>Aa v8 au (Ad aw ax) ax λay az=>Aa v8 au (U .gtr ay (vq vy 127) az) az λba bb=>Aa v7 ak (λK=>Ar (vz au) (vz (vw v7)) (vz ba) bb K) bb λbc bd=>Aa v7 ak (λK=>K bc bd) bd λbe bf=>Aa v8 be (λK=>K ae bf) bf λbg bh=>Aa v7 ak (λK=>Ar (vz be) (vz (vw v7)) (vz bg) bh K) bh λbi bj=>
 Ar (vz ak) (vz bi) (vz (vw v8)) bj λbk bl=>Aa v8 bk (Ab 0 a bl) bl λbm bn=>Aa v8 bk (Ad bm bn) bn λbo bp=>Aa v8 bk (U .eql bo (vq vy 4) bp) bp λbq br=>Aa v8 bk (λK=>K bq br) br λbs bt=>Aa v7 bs (Ab 6 a bt) bt λbu bv=>Aa v7 bs (Ad bu bv) bv λbw bx=>Aa v7 bs (λK=>U .lss bw (vq vy (-1099511627776)) bx K) bx λbz ca=>Aa v7 bs (λK=>K bz ca) ca λcb cc=>Aa v8 cb (Ab 6 a cc) cc λce cf=>Aa v8 cb (Ad ce cf) cf λcg ch=>Aa v8 cb (U .gtr cg (vq vy 1099511627775) ch) ch λci cj=>Aa v7 bs (λK=>Ar (vz cb) (vz (vw v7)) (vz ci) cj K) cj λck cl=>Aa v8 bk (λK=>Ar (vz bs) (vz ck) (vz (vw v8)) cl K) cl λcm cn=>Ar (vz bk) (vz (vw v7)) (vz cm) cn λco cp=>Af co (K (vq vy 4) cp) (F69.k4 K a ae cp))):I vp 69 #[x0,x1] w K:=BK (A:=F69.ann) (args:=[x0,x1]) (qq h)
namespace F70
def ann:Cd:=⟨[(4,[0,2,4,7]),(6,[0,2,4,7]),(8,[])],[],[],[(1,(tk [0,1,2,4,3,5,6,7,8,9] .fin)),(6,(tk [0,1,2,4,5,6,8,9,3,7,10,11,12,13,14,15,16,17,18] .fin))],v6⟩
def code:=cd f70
def BL:=tp f70
variable(K:VK)(y0 y2 y4 y7:wc)(w:wd)
def k4:=nk ann 48 [(0,y0),(2,y2),(4,y4),(7,y7)] w [1,1,1] code (BL K)
def k6:=nk ann 48 [(0,y0),(2,y2),(4,y4),(7,y7)] w [1,1,1,1] code (BL K)
def k8:=nk ann 48 [] w [1,1,1,1,1] code (BL K)
attribute [irreducible] k4 k6 k8
end F70
def F70.k4.to(h:(Ab 2 y4 w λa b=>Ad a b λc d=>A6 2 y7 c d λf g=>Ab 0 f g λi j=>Ad i j λk m=>U .neq k (vq vy 2) m λo p=>Af o (K (vq vy 12) p) (F70.k6 K y0 y2 y4 y7 p))):F70.k4 K y0 y2 y4 y7 w:=qq h
def F70.k6.to(h:(A4 w λS a=>Aa v7 y2 (Ab 3 y4 a) a λb c=>Aa v7 y2 (λK=>K y0 c) c λd f=>Aa v7 y2 (Ag d f) f λg i=>Aa v7 y2 (Ab 11 g i) i λj k=>Aa v7 y2 (λK=>K y7 k) k λm o=>Aa v7 y2 (Ab 2 y4 o) o λp q=>Aa v7 y2 (Al S b q) q λr s=>Aa v7 y2 (Al S j s) s λt u=>Aa v7 y2 (Al S p u) u λv x=>Aa v7 y2 (A6 2 m v x) x λy z=>Aa v7 y2 (Ab 1 y z) z λaa ab=>Aa v7 y2 (Al S aa ab) ab λac ad=>Aa v7 y2 (A6 1 t ac ad) ad λae af=>Aa v7 y2 (Al S ae af) af λag ah=>Aa v7 y2 (AH ag ah) ah λai aj=>Aa v7 y2 (U .geq r ai aj) aj λak al=>Ar (vz y2) (vz ak) (vz (vw v8)) al λam an=>Af am (K (vq vy 4) an) (F70.k8 K an))):F70.k6 K y0 y2 y4 y7 w:=qq h
def F70.k8.to(h:(K (vq vy 0) w)):F70.k8 K w:=qq h
def F70.sh(h:(Aw (wj (wc.cells x1) 40) w λa b=>A4 b λS c=>Ag x0 c λd f=>Ab 10 d f λg i=>Ab 1 a i λj k=>Al S g k λm o=>Al S j o λp q=>A6 2 m p q λr s=>Ab 1 r s λt u=>Al S t u λv x=>Ab 2 a x λy z=>Ad y z λaa ab=>AH v ab λac ad=>U .geq aa ac ad λae af=>Af ae (K (vq vy 4) af) (F70.k4 K x0 x2 a v af))):I vp 70 #[x0,x1,x2] w K:=BK (A:=F70.ann) (args:=[x0,x1,x2]) (qq h)
def F71.sh(h:(Aw (wj (wc.cells x2) 60) w λa b=>Aw (wj #[vq vy 0,vq vy 0,vq vy 0,vq vy 0,vq vy 0] 38) b λc d=>Ag x0 d λf g=>Ab 10 f g λi j=>Ad i j λk m=>A6 2 k x1 m λo p=>Ab 1 o p λq r=>Ad q r λs t=>Am vp (Builtin.append_ #[56,56] 56 #[(vt v6 0 0),s]) t λu v=>Ak 2 a v λx y=>Am vp (Instr.buildSlice 56 1 #[(0,x)]) y λz aa=>Am vp (Builtin.append_ #[56,56] 56 #[u,z]) aa λab ac=>Ag x0 ac λad ae=>Ab 10 ad ae λaf ag=>Ad af ag λah ai=>A6 2 ah x1 ai λaj ak=>Ab 1 aj ak λal am=>Aj 1 al ab am λan=>Ab 0 a an λao ap=>Ad ao ap λaq ar=>Ab 1 a ar λau av=>Ad au av λaw ax=>Am vp (Instr.build 38 #[(1,aq),(2,aw)]) ax λay az=>Aj 5 c ay az λba=>Ak 5 c ba λr25 _=>K r25 ba)):I vp 71 #[x0,x1,x2] w K:=BK (A:=A0) (args:=[x0,x1,x2]) (qq h)
namespace F72
def ann:Cd:=⟨[(4,[0,3,4,5]),(6,[0,3,4,5]),(8,[0,3,4,5]),(10,[4])],[],[],[(1,(tk [0,1,2,4,3,5,6,7,8,9] .fin)),(9,(tk [0,1,2,4,5,12,3,6,7,8,9,10,11,13,14,15] (.go 16 .fin .fin)))],v6⟩
def code:=cd f72
def BL:=tp f72
variable(K:VK)(y0 y3 y4 y5:wc)(w:wd)
def k4:=nk ann 53 [(0,y0),(3,y3),(4,y4),(5,y5)] w [1,1,1] code (BL K)
def k6:=nk ann 53 [(0,y0),(3,y3),(4,y4),(5,y5)] w [1,1,1,1] code (BL K)
def k8:=nk ann 53 [(0,y0),(3,y3),(4,y4),(5,y5)] w [1,1,1,1,1] code (BL K)
def k10:=nk ann 53 [(4,y4)] w [1,1,1,1,1,1] code (BL K)
attribute [irreducible] k4 k6 k8 k10
end F72
def F72.k4.to(h:(Ab 0 y3 w λa b=>Ad a b λc d=>U .eql c (vq vy 6) d λf g=>Af f (Am vp (Instr.build 60 #[(0,(vq vy 2))]) g λi j=>Aj 2 y4 i j λk=>Ak 2 y4 k λr6 _=>K r6 k) (F72.k6 K y0 y3 y4 y5 g))):F72.k4 K y0 y3 y4 y5 w:=qq h
def F72.k6.to(h:(Ab 0 y3 w λa b=>Ad a b λc d=>U .eql c (vq vy 7) d λf g=>Af f (Ab 2 y3 g λi j=>Ad i j λk m=>A6 2 y5 k m λo p=>Ak 2 o p λq r=>Aj 2 y4 q r λs=>Ak 2 y4 s λr9 _=>K r9 s) (F72.k8 K y0 y3 y4 y5 g))):F72.k6 K y0 y3 y4 y5 w:=qq h
def F72.k8.to(h:(Ab 0 y3 w λa b=>Ad a b λc d=>U .eql c (vq vy 9) d λf g=>Af f (A4 g λS i=>Ag y0 i λj k=>Ab 11 j k λm o=>Ab 2 y3 o λp q=>Ab 3 y3 q λr s=>Al S m s λt u=>Al S p u λv x=>A6 2 y5 v x λy z=>Ab 1 y z λaa ab=>Al S aa ab λac ad=>A6 1 t ac ad λae af=>Al S ae af λag ah=>Al S r ah λai aj=>A6 2 ag ai aj λak al=>AN S 2 ak al λam an=>(Aj 2 y4 am an λao=>(S ao/\
 Ak 2 y4 ao λr20 _=>K r20 ao))/\True) (F72.k10 K y4 g))):F72.k8 K y0 y3 y4 y5 w:=qq h
def F72.k10.to(h:(Am vp (Instr.build 60 #[]) w λa b=>Aj 2 y4 a b λc=>Ak 2 y4 c λr3 _=>K r3 c)):F72.k10 K y4 w:=qq h
def F72.sh(h:(Aw (wj (wc.cells x1) 40) w λa b=>Aw (wj #[vq vy 0,vq vy 0] 60) b λc d=>A4 d λS f=>Ag x0 f λg i=>Ab 10 g i λj k=>Ab 1 a k λm o=>Al S j o λp q=>Al S m q λr s=>A6 2 p r s λt u=>Ab 1 t u λv x=>Al S v x λy z=>Ab 0 a z λaa ab=>Ad aa ab λac ad=>U .eql ac (vq vy 4) ad λae af=>Af ae (Ab 6 a af λag ah=>Ad ag ah λai aj=>Am vp (Instr.build 60 #[(0,(vq vy 1)),(1,ai)]) aj λak al=>Aj 2 c ak al λam=>Ak 2 c am λr19 _=>K r19 am) (F72.k4 K x0 a c y af))):I vp 72 #[x0,x1] w K:=BK (A:=F72.ann) (args:=[x0,x1]) (qq h)
def F111.sh(h:(Aw (wj #[vw v8,vw v8,vw v8,vw v8,vw v8,vw v8] 164) w λa b=>U .neq x0 (vq vy 16) b λc d=>Aa v7 c (λK=>K x0 d) d λf g=>Aa v7 c (U .neq f (vq vy 17) g) g λi j=>Ar (vz c) (vz i) (vz (vw v8)) j λk m=>U .eql x0 (vq vy 7) m λo p=>Aa v8 o (λK=>K x0 p) p λq r=>Aa v8 o (U .geq q (vq vy 9) r) r λs t=>Aa v8 o (λK=>K s t) t λu v=>Aa v7 u (λK=>K x0 v) v λx y=>Aa v7 u (U .leq x (vq vy 12) y) y λz aa=>Aa v8 o (λK=>Ar (vz u) (vz z) (vz (vw v8)) aa K) aa λab ac=>Ar (vz o) (vz (vw v7)) (vz ab) ac λad ae=>U .eql x0 (vq vy 9) ae λaf ag=>Aa v8 af (λK=>K x0 ag) ag λah ai=>Aa v8 af (U .eql ah (vq vy 10) ai) ai λaj ak=>Ar (vz af) (vz (vw v7)) (vz aj) ak λal am=>U .eql x0 (vq vy 10) am λan ao=>Aa v8 an (λK=>K x0 ao) ao λap aq=>Aa v8 an (U .eql ap (vq vy 11) aq) aq λar au=>Ar (vz an) (vz (vw v7)) (vz ar) au λav aw=>U .eql x0 (vq vy 3) aw λax ay=>Aa v8 ax (λK=>K x0 ay) ay λaz ba=>
 Aa v8 ax (U .eql az (vq vy 15) ba) ba λbb bc=>Ar (vz ax) (vz (vw v7)) (vz bb) bc λbd be=>U .eql x0 (vq vy 3) be λbf bg=>Aa v8 bf (λK=>K x0 bg) bg λbh bi=>Aa v8 bf (U .eql bh (vq vy 4) bi) bi λbj bk=>Ar (vz bf) (vz (vw v7)) (vz bj) bk λbl bm=>Aa v8 bl (λK=>K x0 bm) bm λbn bo=>Aa v8 bl (U .eql bn (vq vy 13) bo) bo λbp bq=>Ar (vz bl) (vz (vw v7)) (vz bp) bq λbr bs=>Aa v8 br (λK=>K x0 bs) bs λbt bu=>Aa v8 br (U .eql bt (vq vy 15) bu) bu λbv bw=>Ar (vz br) (vz (vw v7)) (vz bv) bw λbx bz=>Aa v8 bx (λK=>K x0 bz) bz λca cb=>Aa v8 bx (U .eql ca (vq vy 16) cb) cb λcc ce=>Ar (vz bx) (vz (vw v7)) (vz cc) ce λcf cg=>Am vp (Instr.build 164 #[(0,k),(1,ad),(2,al),(3,av),(4,bd),(5,cf)]) cg λch ci=>Aj 6 a ch ci λcj=>Ak 6 a cj λr41 _=>K r41 cj)):I vp 111 #[x0] w K:=BK (A:=A0) (args:=[x0]) (qq h)
end
section
open Go.RowKit
def Xo{k:Int}(h:1<=k/\k<=17):k=1∨k=2∨k=3∨k=4∨k=5∨k=6∨k=7∨k=8∨k=9∨k=10∨k=11∨k=12∨k=13∨k=14∨k=15∨k=16∨k=17:=by omega
section
variable{K:VK}{w:wd}{cf:Cf}{lo p:Nat}{tv nv:wc}{hs ns:List wc}{g:BR}{x:BY}
def Xe(a b c d e f:Bool):(Instr.build 164 #[(0,vw a),(1,vw b),(2,vw c),(3,vw d),(4,vw e),(5,vw f)]).run vp w=.ok (vx #[vw a,vw b,vw c,vw d,vw e,vw f]) w:=by kernel_rfl
def Y0(a b c d e:Int):(Instr.build 158 #[(0,vq vy a),(1,vq vy b),(2,vq vy c),(3,vq vy d),(4,vq vy e)]).run vp w=.ok (vx #[vq vy a,vq vy b,vq vy c,vq vy d,vq vy e]) w:=by kernel_rfl
def Lg(k:Int):Array wc := #[vw ((Cn k).getD 0 v8),vw ((Cn k).getD 1 v8),vw ((Cn k).getD 2 v8),vw ((Cn k).getD 3 v8),vw ((Cn k).getD 4 v8),vw ((Cn k).getD 5 v8)]
def NJ(k:Int):(Cn k).length=6:=by
 unfold Cn
 repeat' split
 all_goals rfl
def VA{k:Int}(hk:1<=k/\k<=17)(h:∀w',Fr [] w w'->K (vx (Lg k)) w'):I vp 111 #[vq vy k] w K:=by
 refine F111.sh (Ay λb w1 hn1=>?_);have l1:=hn1.is;have fin:∀a0 a1 a2 a3 a4 a5:Bool, #[wc.bool a0,vw a1,vw a2,vw a3,vw a4,vw a5]=Lg k->Am vp (Instr.build 164 #[(0,vw a0),(1,vw a1),(2,vw a2),(3,vw a3),(4,vw a4),(5,vw a5)]) w1 λx67 w39=>Aj 6 (vr (vz ⟨b,0,v6⟩)) x67 w39 λw40=>Ak 6 (vr (vz ⟨b,0,v6⟩)) w40 λr41 _=>K r41 w40:=λa0 a1 a2 a3 a4 a5 e=>by
  refine A7 (Xe _ _ _ _ _ _) (AB (x:=vx #[vw a0,vw a1,vw a2,vw a3,vw a4,vw a5]) hn1.at_ rfl (by simp[wc.cells,wc.oneCell']) rfl λw2 hu2=>A5 hu2.at_ rfl ?_);have:=h w2 (hn1.fr.then hu2.fr (by simp;omega));rw[<-e]at this;exact this
 rcases Xo hk with rfl|rfl|rfl|rfl|rfl|rfl|rfl|rfl|rfl|rfl|rfl|rfl|rfl|rfl|rfl|rfl|rfl <;>
  (simp only[zv,vl,vo,ge_iff_le,Int.reduceEq,Int.reduceLE,zQ,zR];exact fin _ _ _ _ _ _ rfl)
def Nw{j:Nat}(hj:j<5){b:Nat}{w:wd}(hb:w.heap[b]?=vz (wj #[vq vy x.t,vq vy x.i,vq vy x.f,vq vy x.j,vq vy x.cost] 158 (0,0))):∃hl:j<x.small.length,(#[wc.int vy x.t,vq vy x.i,vq vy x.f,vq vy x.j,vq vy x.cost]:Array wc)[0+j*1]?=vz (vq vy x.small[j]):=by
 have:j=0∨j=1∨j=2∨j=3∨j=4:=by omega
 rcases this with rfl|rfl|rfl|rfl|rfl<;>exact⟨by simp[BY.small],rfl⟩
def Re{k:Int}{j:Nat}(hj:j<6):(Lg k)[0+j*1]?=vz (vw ((Cn k).getD j v8)):=by
 have:j=0∨j=1∨j=2∨j=3∨j=4∨j=5:=by omega
 rcases this with rfl|rfl|rfl|rfl|rfl|rfl<;>rfl
def Qk{b:Nat}{y1:wc}(h4:(∃j,∃hl:j<x.small.length,x.small[j]<0∨255<x.small[j])->K (vq vy 4) w)(h9:(∀j (hl:j<x.small.length),¬(x.small[j]<0∨255<x.small[j]))->F67.k9 K y1 (vr (vz ⟨b,0,v6⟩)) w)(hb:w.heap[b]?=vz (wj #[vq vy x.t,vq vy x.i,vq vy x.f,vq vy x.j,vq vy x.cost] 158 (0,0))):
  ∀(d j:Nat),j+d=5->(∀i (hl:i<x.small.length),i<j->¬(x.small[i]<0∨255<x.small[i]))->F67.l5 K y1 (vr (vz ⟨b,0,v6⟩)) (vq vy (j:Int)) w:=by
 intro d;induction d with
 | zero=>
  intro j hj hp;refine F67.l5.to ?_;simp only[zv,show ¬((j:Int)<5) by omega];exact h9 λi hl=>hp i hl (by simp[BY.small]at hl;omega)
 | succ d ih=>
  intro j hj hp;obtain⟨hl,hv⟩:=Nw (x:=x) (j:=j) (by omega) hb;refine F67.l5.to ?_;simp only[zv,show ((j:Int)<5) by omega];refine F67.k7.to (AU (by omega) (by omega) ?_);rw[zE];refine Ac (v:=vq vy x.small[j]) hb hv ?_;have go:¬(x.small[j]<0∨255<x.small[j])->F67.k6 K y1 (vr (vz ⟨b,0,v6⟩)) (vq vy (j:Int)) w:=λhg=>by
   refine F67.k6.to ?_;simp only[AC];rw[BN (n:=(j:Int)+1) (by omega),show (j:Int)+1=((j+1:Nat):Int) by omega];refine ih (j+1) (by omega) λi hl' hi=>?_;by_cases e:i=j
   ·subst e;exact hg
   ·exact hp i hl' (by omega)
  by_cases c1:x.small[j]<0
  ·simp only[zv,c1];exact h4 ⟨j,hl,wg c1⟩
  ·simp only[zv,c1];refine AU (by omega) (by omega) ?_;rw[zE]
   try simp only[uy]
   refine Ac (v:=vq vy x.small[j]) hb (by rw[uy]at hv;exact hv) ?_;by_cases c2:255<x.small[j]
   ·simp only[zv,gt_iff_lt,c2];exact h4 ⟨j,hl,wh c2⟩
   ·simp only[zv,gt_iff_lt,c2];exact go (by omega)
def Pc{b c:Nat}{y1:wc}{k:Int}(h16:(∃j,∃hl:j<x.small.length,(Cn k).getD j v8=v8/\x.small[j]≠0)->K (vq vy 16) w)(h15:(∀j (hl:j<x.small.length),¬((Cn k).getD j v8=v8/\x.small[j]≠0))->F67.k15 K y1 (vr (vz ⟨c,0,v6⟩)) w)(hb:w.heap[b]?=vz (wj #[vq vy x.t,vq vy x.i,vq vy x.f,vq vy x.j,vq vy x.cost] 158 (0,0)))(hc:w.heap[c]?=vz (wj (Lg k) 164 (0,0))):
  ∀(d j:Nat),j+d=5->(∀i (hl:i<x.small.length),i<j->¬((Cn k).getD i v8=v8/\x.small[i]≠0))->F67.l11 K y1 (vr (vz ⟨b,0,v6⟩)) (vr (vz ⟨c,0,v6⟩)) (vq vy (j:Int)) w:=by
 intro d;induction d with
 | zero=>
  intro j hj hp;refine F67.l11.to ?_;simp only[zv,show ¬((j:Int)<5) by omega];exact h15 λi hl=>hp i hl (by simp[BY.small]at hl;omega)
 | succ d ih=>
  intro j hj hp;obtain⟨hl,hv⟩:=Nw (x:=x) (j:=j) (by omega) hb;refine F67.l11.to ?_;simp only[zv,show ((j:Int)<5) by omega];refine F67.k13.to (AU (by omega) (by omega) ?_);rw[zE];refine Ac (v:=vw ((Cn k).getD j v8)) hc (Re (by omega)) ?_;have go:¬((Cn k).getD j v8=v8/\x.small[j]≠0)->F67.k12 K y1 (vr (vz ⟨b,0,v6⟩)) (vr (vz ⟨c,0,v6⟩)) (vq vy (j:Int)) w:=λhg=>by
   refine F67.k12.to ?_;simp only[AC];rw[BN (n:=(j:Int)+1) (by omega),show (j:Int)+1=((j+1:Nat):Int) by omega];refine ih (j+1) (by omega) λi hl' hi=>?_;by_cases e:i=j
   ·subst e;exact hg
   ·exact hp i hl' (by omega)
  cases hh:(Cn k).getD j v8 with
  | true=>
   rw[hh]at go;simp only[zv];exact go (by simp)
  | false=>
   rw[hh]at go;simp only[zv];refine AU (by omega) (by omega) ?_;rw[zE]
   try simp only[uy]
   refine Ac (v:=vq vy x.small[j]) hb (by rw[uy]at hv;exact hv) ?_;by_cases c2:x.small[j]=0
   ·simp only[zv,vl,vo,c2,zQ];exact go (by simp[c2])
   ·simp only[zv,vo,c2,zR];exact h16 ⟨j,hl,hh,c2⟩
def OU{x:BY}{k:Int}:((x.small.zip (Cn k)).any λy=>decide (y.1≠0) && !y.2)=v7↔∃j,∃hl:j<x.small.length,(Cn k).getD j v8=v8/\x.small[j]≠0:=by
 have h6:=NJ k;have h5:x.small.length=5:=rfl;rw[List.any_eq_true];constructor
 ·rintro⟨y,hy,e⟩;obtain⟨j,hj,rfl⟩:=yS hy;rw[List.length_zip]at hj;refine⟨j,by omega,?_⟩;rw[List.getElem_zip]at e;simp only[zS,zP,zD]at e;rw[xC,xO (by omega)];exact⟨e.2,e.1⟩
 ·rintro⟨j,hl,h1,h2⟩;refine⟨(x.small.zip (Cn k))[j]'(by rw[List.length_zip];omega),zW _,?_⟩;rw[List.getElem_zip];rw[xC,xO (by omega)]at h1;have h1:(Cn k)[j]=v8:=h1;simp only[zS,zP,zD];exact⟨h2,h1⟩
def LX{x:BY}:(x.small.any λn=>decide (n<0) || decide (255<n))=v7↔∃j,∃hl:j<x.small.length,x.small[j]<0∨255<x.small[j]:=by
 rw[List.any_eq_true];constructor
 ·rintro⟨y,hy,e⟩;obtain⟨j,hj,rfl⟩:=yS hy;exact⟨j,hj,by simpa using e⟩
 ·rintro⟨j,hl,h⟩;exact⟨_,zW hl,by simpa using h⟩
def Sg(h:∀w',Fr [] w w'->K (vq vy x.check) w'):I vp 67 #[C5 x] w K:=by
 refine F67.sh (Ay λb w1 hn1=>?_);have hb:=hn1.at_;unfold BY.check at h;simp only[zv];refine Ac (v:=vq vy x.kd) hb rfl ?_;by_cases c1:x.kd<1
 ·rw[vn (wg c1)]at h;simp only[zv,c1];exact h w1 hn1.fr
 by_cases c2:17<x.kd
 ·rw[vn (wh c2)]at h;simp only[zv,c1];refine Ac (v:=vq vy x.kd) hb rfl ?_;simp only[zv,gt_iff_lt,c2];exact h w1 hn1.fr
 rw[vm (by omega)]at h;simp only[zv,c1];refine Ac (v:=vq vy x.kd) hb rfl ?_;simp only[zv,gt_iff_lt,c2];refine F67.k3.to ?_;simp only[zv];refine Ac (v:=vq vy x.t) hb rfl ?_;refine Ac (v:=vq vy x.i) hb rfl ?_;refine Ac (v:=vq vy x.f) hb rfl ?_;refine Ac (v:=vq vy x.j) hb rfl ?_;refine Ac (v:=vq vy x.cost) hb rfl ?_
 refine A7 (Y0 _ _ _ _ _) (Ay λb2 w2 hn2=>AB (x:=vx #[vq vy x.t,vq vy x.i,vq vy x.f,vq vy x.j,vq vy x.cost]) hn2.at_ rfl (by simp[wc.cells,wc.oneCell']) rfl λw3 hu3=>?_);have l1:=hn1.is;have l2:=hn2.is;have s1:=hn1.fr.size;have f3:Fr [] w1 w3:=hn2.fr.then hu3.fr (by simp;omega);have hb3:=f3.at_ hb (by simp);refine Qk (x:=x) (b:=b2) (λhx=>?_) (λhx=>?_) hu3.at_ 5 0 rfl (λi hl hi=>absurd hi (by omega))
 ·rw[vn (LX.2 hx)]at h;exact h w3 (hn1.fr.trans f3)
 rw[vm (λy=>by obtain⟨j,hl,e⟩:=LX.1 y;exact hx j hl e)]at h;refine F67.k9.to ?_;simp only[zv];refine Ac (v:=vq vy x.kd) hb3 rfl (VA (by omega) λw4 hf4=>Ay λb5 w5 hn5=>AB (x:=vx (Lg x.kd)) hn5.at_ rfl (by simp[Lg,wc.cells,wc.oneCell']) rfl λw6 hu6=>?_);have l5:=hn5.is;have s5:=hn5.fr.size;have f6:Fr [] w4 w6:=hn5.fr.then hu6.fr (by simp;omega);have f36:=hf4.trans f6;have fw:=(hn1.fr.trans f3).trans f36
 have hb6:=f36.at_ hb3 (by simp);refine Pc (x:=x) (b:=b2) (c:=b5) (k:=x.kd) (λhx=>?_) (λhx=>?_) (f36.at_ hu3.at_ (by simp)) hu6.at_ 5 0 rfl (λi hl hi=>absurd hi (by omega))
 ·rw[vn (OU.2 hx)]at h;exact h w6 fw
 rw[vm (λy=>by obtain⟨j,hl,e⟩:=OU.1 y;exact hx j hl e)]at h;refine F67.k15.to (AU (by omega) (by omega) ?_);refine Ac (v:=vw ((Cn x.kd).getD 5 v8)) hu6.at_ (Re (j:=5) (by omega)) ?_;cases hh:(Cn x.kd).getD 5 v8 with
 | true=>
  rw[hh,vm (by simp)]at h;simp only[zv];exact F67.k17.to (h w6 fw)
 | false=>
  rw[hh]at h;simp only[zv];refine Ac (v:=vq vy x.n) hb6 rfl ?_;by_cases c3:x.n=0
  ·rw[vm (λy=>y.1 c3)]at h;simp only[zv,vl,vo,c3,zQ];exact F67.k17.to (h w6 fw)
  ·rw[vn ⟨c3,rfl⟩]at h;simp only[zv,vo,c3,zR];exact h w6 fw
def VF(hg:CE lo w cf p tv nv hs ns g)(hx:0<=x.t)(h:∀w',Fr [] w w'->K (vq vy (g.who x)) w'):I vp 68 #[vr (vz ⟨p,0,v6⟩),C5 x] w K:=by
 obtain⟨t,ht⟩:=xQ hx;have hlen:=hg.lens;refine F68.sh (Ay λb w1 hn1=>?_);have hb:=hn1.at_;have hg1:=hg.keep0 hn1.fr;unfold BR.who at h;simp only[zv];refine Ac (v:=vq vy x.kd) hb rfl ?_;by_cases c16:16<=x.kd
 ·rw[vn c16]at h;simp only[zv,ge_iff_le,c16];exact h w1 hn1.fr
 rw[vm c16]at h;simp only[zv,ge_iff_le,c16];refine F68.k3.to (A8 (λw'=>Fr [] w1 w') λw2 hf2 _=>⟨hf2,?_⟩);simp only[zv];refine Aq (v:=vq vy x.t) (λw' hw=>⟨_,_,_,hw.at_ hb (by simp),rfl⟩) (hg1.s10 (AK hg1.th.rd ?_));rw[GX hlen.1];have f2:=hn1.fr.trans hf2;have hb2:=hf2.at_ hb (by simp);have hg2:=hg.keep0 f2;by_cases c4:(g.th.length:Int)<=x.t
 ·rw[vn c4]at h;simp only[zv,ge_iff_le,c4];exact h w2 f2
 rw[vm c4]at h;simp only[zv,ge_iff_le,c4];have htl:t<g.th.length:=by omega
 rw[ht,BR.live_eq htl]at h;have fin:∀ {w3:wd},Fr [] w2 w3->(¬(x.kd=1/\g.th[t].1=v7))->F68.k7 K (vr (vz ⟨p,0,v6⟩)) (vr (vz ⟨b,0,v6⟩)) w3:=fun {w3} hf3 hno=>by
  rw[vm hno]at h;have hb3:=hf3.at_ hb2 (by simp);have hg3:=hg2.keep0 hf3;refine F68.k7.to (A8 (λw'=>Fr [] w3 w') λw4 hf4 _=>⟨hf4,?_⟩);have f4:=(f2.trans hf3).trans hf4;simp only[zv];refine Aq (v:=vq vy x.kd) (λw' hw=>⟨_,_,_,hw.at_ hb3 (by simp),rfl⟩) ?_;by_cases c1:x.kd=1
  ·rw[vm (λy=>y.1 c1)]at h;simp only[zv,vl,vo,c1,zQ];exact F68.k9.to (h w4 f4)
  ·simp only[zv,vo,c1,zR];refine hg3.s10 ?_;refine Aq (v:=vq vy x.t) (λw' hw=>⟨_,_,_,hw.at_ hb3 (by simp),rfl⟩) ?_;rw[ht];refine hg3.idxT hf4 htl (by omega) λb' o' hr=>?_
   try simp only[Ah]
   refine Aq (v:=vw g.th[t].1) (λw' hw=>by obtain⟨cs,e,fz,a1,a2,_⟩:=hr w' hw;exact⟨cs,e,fz,a1,a2⟩) ?_;cases hl:g.th[t].1 with
   | true=>
    rw[hl,vm (by simp)]at h;simp only[zv];exact F68.k9.to (h w4 f4)
   | false=>
    rw[hl,vn ⟨c1,by simp⟩]at h;simp only[zv];exact h w4 f4
 refine F68.k5.to (A8 (λw'=>Fr [] w2 w') λw3 hf3 _=>⟨hf3,?_⟩);simp only[zv];refine Aq (v:=vq vy x.kd) (λw' hw=>⟨_,_,_,hw.at_ hb2 (by simp),rfl⟩) ?_;by_cases c1:x.kd=1
 ·simp only[zv,vl,c1];refine hg2.s10 ?_;refine Aq (v:=vq vy x.t) (λw' hw=>⟨_,_,_,hw.at_ hb2 (by simp),rfl⟩) ?_;rw[ht];refine hg2.idxT hf3 htl (by omega) λb' o' hr=>?_
  try simp only[Ah]
  refine Aq (v:=vw g.th[t].1) (λw' hw=>by obtain⟨cs,e,fz,a1,a2,_⟩:=hr w' hw;exact⟨cs,e,fz,a1,a2⟩) ?_;cases hl:g.th[t].1 with
  | true=>
   rw[hl,vn ⟨c1,rfl⟩]at h;simp only[Ai];exact h w3 (f2.trans hf3)
  | false=>
   simp only[Ae];exact fin hf3 λy=>by rw[hl]at y;cases y.2
 ·simp only[zv,c1];exact fin hf3 λy=>c1 y.1
end
section
variable{K:VK}{w:wd}{cf:Cf}{lo p:Nat}{tv nv:wc}{hs ns:List wc}{g:BR}{x:BY}{t:Nat}
def Si{b:Nat}{bc:Bool}(hb:w.heap[b]?=vz (wj (C5 x).cells 40 (0,0)))(hbc:bc=decide (x.cost<1∨cf.quantum<x.cost))(hno:¬(x.kd=3/\(x.n<0∨127<x.n∨x.cost<1∨cf.quantum<x.cost)∨x.kd=4/\(x.n < -1099511627776∨1099511627775<x.n)))(h:K (vq vy (x.nums cf)) w):
  F69.k4 K (vr (vz ⟨b,0,v6⟩)) (vw bc) w:=by
 have h4:((x.kd=13∨x.kd=16)/\(x.n<1∨64<x.n)∨x.kd=15/\(x.n<1∨64<x.n∨x.cost<1∨cf.quantum<x.cost))->K (vq vy 4) w:=λhc=>by
  unfold BY.nums at h;rw[vm hno,vn hc]at h;exact h
 have h0:¬((x.kd=13∨x.kd=16)/\(x.n<1∨64<x.n)∨x.kd=15/\(x.n<1∨64<x.n∨x.cost<1∨cf.quantum<x.cost))->F69.k6 K w:=λhc=>by
  unfold BY.nums at h;rw[vm hno,vm hc]at h;exact F69.k6.to h
 refine F69.k4.to ?_;simp only[zv];refine Ac (v:=vq vy x.kd) hb rfl ?_;by_cases c13:x.kd=13
 ·simp only[zv,vl,c13];refine Ac (v:=vq vy x.n) hb rfl ?_;by_cases n1:x.n<1
  ·simp only[zv,n1];exact h4 (by omega)
  ·simp only[zv,n1];refine Ac (v:=vq vy x.n) hb rfl ?_;by_cases n2:64<x.n
   ·simp only[zv,n2];exact h4 (by omega)
   ·simp only[zv,n2];refine Ac (v:=vq vy x.kd) hb rfl ?_;simp only[zv,c13,Int.reduceEq];exact h0 (by omega)
 simp only[zv,c13];refine Ac (v:=vq vy x.kd) hb rfl ?_;by_cases c16:x.kd=16
 ·simp only[zv,vl,c16];refine Ac (v:=vq vy x.n) hb rfl ?_;by_cases n1:x.n<1
  ·simp only[zv,n1];exact h4 (by omega)
  ·simp only[zv,n1];refine Ac (v:=vq vy x.n) hb rfl ?_;by_cases n2:64<x.n
   ·simp only[zv,n2];exact h4 (by omega)
   ·simp only[zv,n2];refine Ac (v:=vq vy x.kd) hb rfl ?_;simp only[zv,c16,Int.reduceEq];exact h0 (by omega)
 simp only[zv,c16];refine Ac (v:=vq vy x.kd) hb rfl ?_;by_cases c15:x.kd=15
 ·simp only[zv,vl,c15];refine Ac (v:=vq vy x.n) hb rfl ?_;by_cases n1:x.n<1
  ·simp only[zv,n1];exact h4 (by omega)
  ·simp only[zv,n1];refine Ac (v:=vq vy x.n) hb rfl ?_;by_cases n2:64<x.n
   ·simp only[zv,n2];exact h4 (by omega)
   ·simp only[zv,n2];by_cases nb:x.cost<1∨cf.quantum<x.cost
    ·rw[o8 nb]at hbc;subst hbc;simp only[Ai];exact h4 (by omega)
    ·rw[m8 nb]at hbc;subst hbc;simp only[Ae];exact h0 (by omega)
 simp only[zv,c15];exact h0 (by omega)
def Uq(hg:CE lo w cf p tv nv hs ns g)(h:∀w',Fr [] w w'->K (vq vy (x.nums cf)) w'):I vp 69 #[vr (vz ⟨p,0,v6⟩),C5 x] w K:=by
 refine F69.sh (Ay λb w1 hn1=>A8 (λw'=>Fr [] w1 w') λw2 hf2 _=>⟨hf2,?_⟩);have hb1:=hn1.at_;have hg1:=hg.keep0 hn1.fr;have f2:=hn1.fr.trans hf2;have hb:=hf2.at_ hb1 (by simp);have h:=h w2 f2;have hq:∀ {K':VK},K' (vq vy cf.quantum) w2->Al (λw'=>Fr [] w1 w') (vr (vz ⟨p,0+0+3,v6⟩)) w2 K':=fun {K'} hk'=>Aq (λw' hw=>⟨_,_,_,(hg1.keep0 hw).blk,by simp[C9]⟩) hk'
 have h4:(x.kd=3/\(x.n<0∨127<x.n∨x.cost<1∨cf.quantum<x.cost)∨x.kd=4/\(x.n < -1099511627776∨1099511627775<x.n))->K (vq vy 4) w2:=λhc=>by
  unfold BY.nums at h;rw[vn hc]at h;exact h
 have hk4:=λ(bc:Bool) e hno=>Si (b:=b) (bc:=bc) (w:=w2) hb e hno h;simp only[zv];refine Aq (v:=vq vy x.cost) (λw' hw=>⟨_,_,_,hw.at_ hb1 (by simp),rfl⟩) ?_;by_cases c1:x.cost<1
 rotate_left
 simp only[zv,c1];refine Aq (v:=vq vy x.cost) (λw' hw=>⟨_,_,_,hw.at_ hb1 (by simp),rfl⟩) ?_;refine hq ?_;by_cases c2:cf.quantum<x.cost
 all_goals
  try simp only[zv,c1,gt_iff_lt]
  try simp only[zv,c2]
  have hk4:=hk4 _ rfl;refine Ac (v:=vq vy x.kd) hb rfl ?_;by_cases c3:x.kd=3
  ·simp only[zv,vl,c3];refine Ac (v:=vq vy x.n) hb rfl ?_;by_cases n1:x.n<0
   ·simp only[zv,n1];exact h4 (by omega)
   ·simp only[zv,n1];refine Ac (v:=vq vy x.n) hb rfl ?_;by_cases n2:127<x.n
    ·simp only[zv,n2];exact h4 (by omega)
    ·simp only[zv,n2]
     first
     | exact h4 (by omega)
     | (refine Ac (v:=vq vy x.kd) hb rfl ?_;simp only[zv,c3,Int.reduceEq];have:=hk4 (by omega);rwa [m8 (by omega)]at this)
  ·simp only[zv,c3];refine Ac (v:=vq vy x.kd) hb rfl ?_;by_cases c4:x.kd=4
   ·simp only[zv,vl,c4];refine Ac (v:=vq vy x.n) hb rfl ?_;by_cases n1:x.n < -1099511627776
    ·simp only[zv,n1];exact h4 (by omega)
    ·simp only[zv,n1];refine Ac (v:=vq vy x.n) hb rfl ?_;by_cases n2:1099511627775<x.n
     ·simp only[zv,n2];exact h4 (by omega)
     ·simp only[zv,n2];have:=hk4 (by omega)
      first
      | rwa [m8 (by omega)]at this
      | rwa [o8 (by omega)]at this
   ·simp only[zv,c4];have:=hk4 (by omega)
    first
    | rwa [m8 (by omega)]at this
    | rwa [o8 (by omega)]at this
end
section
variable{K:VK}{w:wd}{cf:Cf}{lo p:Nat}{tv nv:wc}{hs ns:List wc}{g:BR}{x:BY}{t:Nat}
def VD(hg:CE lo w cf p tv nv hs ns g)(ok:C8 g)(ht:x.t=t)(htl:t<g.th.length)(h0:0<=x.i)(bf:Bool)(h:∀w',Fr [] w w'->K (vq vy (g.object x bf)) w'):
  I vp 70 #[vr (vz ⟨p,0,v6⟩),C5 x,vw bf] w K:=by
 have hlen:=hg.lens;have hth':t<hs.length:=by omega
 have hheld:=BR.held_eq htl;have hmem:g.th[t]∈g.th:=zW htl;unfold BR.object at h;rw[ht,hheld]at h;refine F70.sh (Ay λb w1 hn1=>A8 (λw'=>Fr [] w1 w') λw2 hf2 _=>⟨hf2,?_⟩);have hb1:=hn1.at_;have hg1:=hg.keep0 hn1.fr;have f2:=hn1.fr.trans hf2;have hb2:=hf2.at_ hb1 (by simp);have hg2:=hg.keep0 f2;simp only[zv];refine hg1.s10 ?_;refine Aq (v:=vq vy x.t) (λw' hw=>⟨_,_,_,hw.at_ hb1 (by simp),rfl⟩) ?_;rw[ht]
 refine hg1.idxT hf2 htl hth' λb' o' hr=>?_
 try simp only[Ah]
 refine Aq (v:=hs[t]) (λw' hw=>by obtain⟨cs,e,fz,a1,_,a2⟩:=hr w' hw;exact⟨cs,e,fz,a1,a2⟩) ?_;refine Ac (v:=vq vy x.i) hb2 rfl ?_;have ho:=hg2.heldO htl hth';refine AK ho.rd ?_;rw[Cr];by_cases ci:(g.th[t].2.length:Int)<=x.i
 ·rw[yC (by omega)]at h;simp only[zv,ge_iff_le,ci];exact h w2 f2
 have hil:x.i.toNat<g.th[t].2.length:=by omega
 rw[xO hil]at h;simp only at h;simp only[zv,ge_iff_le,ci];refine F70.k4.to ?_;simp only[zv];refine Ac (v:=vq vy x.i) hb2 rfl ?_;refine AS ho.rd h0 (Dr hil) λg3 o3 cs3 e3 fz3 hg3 hl3 hs3=>?_
 try simp only[Ah]
 refine Ac (v:=vq vy g.th[t].2[x.i.toNat].1) hg3 (by simpa using hs3 0 (by decide)) ?_;by_cases c2:g.th[t].2[x.i.toNat].1=2
 rotate_left
 ·rw[vn c2]at h;simp only[zv,vo,c2,zR];exact h w2 f2
 rw[vm (λy=>y c2)]at h;simp only[zv,vl,vo,c2,zQ];refine F70.k6.to (A8 (λw'=>Fr [] w2 w') λw4 hf4 _=>⟨hf4,?_⟩);have f4:=f2.trans hf4;have hb4:=hf4.at_ hb2 (by simp);have hg4:=hg2.keep0 hf4;cases bf with
 | false=>
  rw[vm (λy=>by cases y.1)]at h;simp only[zv];exact F70.k8.to (h w4 f4)
 | true=>
  have hrf:=(ok.th _ hmem).2 _ (zW hil) c2;have hnl:g.th[t].2[x.i.toNat].2.toNat<ns.length:=by omega
  have hno:=hg2.nodeO hrf.2 hnl;rw[BR.node_eq hrf.2]at h;simp only[zv];refine Aq (v:=vq vy x.f) (λw' hw=>⟨_,_,_,hw.at_ hb2 (by simp),rfl⟩) ?_;refine hg2.s11 ?_;refine Aq (v:=vq vy x.i) (λw' hw=>⟨_,_,_,hw.at_ hb2 (by simp),rfl⟩) ?_;refine AV (S:=λw'=>Fr [] w2 w') (λw' hw=>(ho.keep hw (by simp)).rd) hf4 h0 (Dr hil) λg5 o5 hl5 hs5=>?_
  try simp only[Ah]
  refine Aq (v:=vq vy g.th[t].2[x.i.toNat].2) (λw' hw=>by obtain⟨cs,e,fz,a1,a2⟩:=hs5 w' hw;exact⟨cs,e,fz,a1,by simpa using a2 1 (by decide)⟩) ?_;refine hg2.idxN hf4 hrf.1 hnl λg6 o6 hs6=>?_;refine Aq (v:=ns[g.th[t].2[x.i.toNat].2.toNat]) (λw' hw=>by obtain⟨cs,e,fz,a1,a2⟩:=hs6 w' hw;exact⟨cs,e,fz,a1,a2⟩) ?_;refine AK hno.rd ?_;rw[Cr]
  by_cases cf5:((g.nd[g.th[t].2[x.i.toNat].2.toNat]).length:Int)<=x.f
  ·rw[vn ⟨rfl,cf5⟩]at h;simp only[zv,ge_iff_le,cf5];exact h w4 f4
  ·rw[vm (λy=>cf5 y.2)]at h;simp only[zv,ge_iff_le,cf5];exact F70.k8.to (h w4 f4)
def Ql{b n:Nat}(hb:w.heap[b]?=vz (wj (C5 x).cells 40 (0,0)))(h:K (vq vy (if (x.kd<=7∨x.kd=9)/\16<=n then 3 else 0)) w):
  F37.k19 K (vr (vz ⟨b,0,v6⟩)) (vq vy (n:Int)) w:=by
 refine F37.k19.to ?_;simp only[zv];refine Ac (v:=vq vy x.kd) hb rfl ?_;by_cases c7:x.kd<=7
 ·simp only[zv,c7];by_cases h16:16<=n
  ·rw[vn ⟨wg c7,h16⟩]at h;simp only[zv,ge_iff_le,show (16:Int)<=(n:Int) by omega];exact h
  ·rw[vm (λy=>h16 y.2)]at h;simp only[zv,ge_iff_le,show ¬(16:Int)<=(n:Int) by omega];exact F37.k21.to h
 simp only[zv,c7];refine Ac (v:=vq vy x.kd) hb rfl ?_;by_cases c9:x.kd=9
 ·simp only[zv,vl,c9];by_cases h16:16<=n
  ·rw[vn ⟨wh c9,h16⟩]at h;simp only[zv,ge_iff_le,show (16:Int)<=(n:Int) by omega];exact h
  ·rw[vm (λy=>h16 y.2)]at h;simp only[zv,ge_iff_le,show ¬(16:Int)<=(n:Int) by omega];exact F37.k21.to h
 simp only[zv,c9];rw[vm (λy=>y.1.elim c7 c9)]at h;exact F37.k21.to h
def L5{b n:Nat}(hk:3<=x.kd/\x.kd<=12)(h0:0<=x.i/\0<=x.j)(hb:w.heap[b]?=vz (wj (C5 x).cells 40 (0,0)))(h:K (vq vy (if (x.kd=7∨x.kd=11)/\(n:Int)<=x.i∨(x.kd=10∨x.kd=11)/\(n:Int)<=x.j∨x.kd=8/\n=0 then 4 else if (x.kd<=7∨x.kd=9)/\16<=n then 3 else 0)) w):
  F37.k17 K (vr (vz ⟨b,0,v6⟩)) (vq vy (n:Int)) w:=by
 have h4:((x.kd=7∨x.kd=11)/\(n:Int)<=x.i∨(x.kd=10∨x.kd=11)/\(n:Int)<=x.j∨x.kd=8/\n=0)->K (vq vy 4) w:=λhc=>by
  rw[vn hc]at h;exact h
 have h19:¬((x.kd=7∨x.kd=11)/\(n:Int)<=x.i∨(x.kd=10∨x.kd=11)/\(n:Int)<=x.j∨x.kd=8/\n=0)->F37.k19 K (vr (vz ⟨b,0,v6⟩)) (vq vy (n:Int)) w:=λhc=>by
  rw[vm hc]at h;exact Ql hb h
 refine F37.k17.to ?_;simp only[zv];refine Ac (v:=vq vy x.kd) hb rfl ?_;have hk':x.kd=7∨x.kd=8∨x.kd=10∨x.kd=11∨(x.kd≠7/\x.kd≠8/\x.kd≠10/\x.kd≠11):=by omega
 rcases hk' with c|c|c|c|⟨c7,c8,c10,c11⟩
 ·simp only[zv,vl,c];refine Ac (v:=vq vy x.i) hb rfl ?_;by_cases ci:(n:Int)<=x.i
  ·simp only[zv,ge_iff_le,ci];exact h4 (by omega)
  ·simp only[zv,ge_iff_le,ci];refine Ac (v:=vq vy x.kd) hb rfl ?_;simp only[zv,c,Int.reduceEq];refine Ac (v:=vq vy x.kd) hb rfl ?_;simp only[zv,c,Int.reduceEq];refine Ac (v:=vq vy x.kd) hb rfl ?_;simp only[zv,c,Int.reduceEq];exact h19 (by omega)
 ·simp only[zv,c,Int.reduceEq];refine Ac (v:=vq vy x.kd) hb rfl ?_;simp only[zv,c,Int.reduceEq];refine Ac (v:=vq vy x.kd) hb rfl ?_;simp only[zv,c,Int.reduceEq];refine Ac (v:=vq vy x.kd) hb rfl ?_;simp only[zv,c,Int.reduceEq];refine Ac (v:=vq vy x.kd) hb rfl ?_;simp only[zv,vl,c];by_cases cn:n=0
  ·simp only[zv,vl,show ((n:Int)=0) by omega];exact h4 (by omega)
  ·simp only[zv,show ¬((n:Int)=0) by omega];exact h19 (by omega)
 ·simp only[zv,c,Int.reduceEq];refine Ac (v:=vq vy x.kd) hb rfl ?_;simp only[zv,c,Int.reduceEq];refine Ac (v:=vq vy x.kd) hb rfl ?_;simp only[zv,vl,c];refine Ac (v:=vq vy x.j) hb rfl ?_;by_cases cj:(n:Int)<=x.j
  ·simp only[zv,ge_iff_le,cj];exact h4 (by omega)
  ·simp only[zv,ge_iff_le,cj];refine Ac (v:=vq vy x.kd) hb rfl ?_;simp only[zv,c,Int.reduceEq];exact h19 (by omega)
 ·simp only[zv,c,Int.reduceEq];refine Ac (v:=vq vy x.kd) hb rfl ?_;simp only[zv,vl,c];refine Ac (v:=vq vy x.i) hb rfl ?_;by_cases ci:(n:Int)<=x.i
  ·simp only[zv,ge_iff_le,ci];exact h4 (by omega)
  ·simp only[zv,ge_iff_le,ci];refine Ac (v:=vq vy x.kd) hb rfl ?_;simp only[zv,c,Int.reduceEq];refine Ac (v:=vq vy x.kd) hb rfl ?_;simp only[zv,vl,c];refine Ac (v:=vq vy x.j) hb rfl ?_;by_cases cj:(n:Int)<=x.j
   ·simp only[zv,ge_iff_le,cj];exact h4 (by omega)
   ·simp only[zv,ge_iff_le,cj];refine Ac (v:=vq vy x.kd) hb rfl ?_;simp only[zv,c,Int.reduceEq];exact h19 (by omega)
 ·simp only[zv,c7];refine Ac (v:=vq vy x.kd) hb rfl ?_;simp only[zv,c11];refine Ac (v:=vq vy x.kd) hb rfl ?_;simp only[zv,c10];refine Ac (v:=vq vy x.kd) hb rfl ?_;simp only[zv,c11];refine Ac (v:=vq vy x.kd) hb rfl ?_;simp only[zv,c8];exact h19 (by omega)
def Up(hg:CE lo w cf p tv nv hs ns g)(ok:C8 g)(h:∀w',Fr [] w w'->K (vq vy (g.code cf x)) w'):I vp 37 #[vr (vz ⟨p,0,v6⟩),C5 x] w K:=by
 have hlen:=hg.lens;refine F37.sh (Ay λb w1 hn1=>A5 hn1.at_ rfl (Sg λw2 hf2=>?_));have f2:=hn1.fr.trans hf2;have hb2:=hf2.at_ hn1.at_ (by simp);have hg2:=hg.keep0 f2;unfold BR.code at h;by_cases c1:x.check=0
 rotate_left
 ·rw[vn c1]at h;simp only[zv,vo,c1,zR];exact h w2 f2
 rw[vm (λy=>y c1)]at h;obtain⟨k0,k1,k2,k3,k4,k5⟩:=FG c1;simp only[zv,vl,vo,c1,zQ];refine F37.k4.to (A5 hb2 rfl (VF hg2 k1 λw3 hf3=>?_));have f3:=f2.trans hf3;have hb3:=hf3.at_ hb2 (by simp);have hg3:=hg.keep0 f3;by_cases c2:g.who x=0
 rotate_left
 ·rw[vn c2]at h;simp only[zv,vo,c2,zR];exact h w3 f3
 rw[vm (λy=>y c2)]at h;simp only[zv,vl,vo,c2,zQ];refine F37.k7.to (A5 hb3 rfl (Uq hg3 λw4 hf4=>?_));have f4:=f3.trans hf4;have hb4:=hf4.at_ hb3 (by simp);have hg4:=hg.keep0 f4;by_cases c3:x.nums cf=0
 rotate_left
 ·rw[vn c3]at h;simp only[zv,vo,c3,zR];exact h w4 f4
 rw[vm (λy=>y c3)]at h;simp only[zv,vl,vo,c3,zQ];unfold BR.hands at h;refine F37.k10.to ?_;simp only[zv];refine Ac (v:=vq vy x.kd) hb4 rfl ?_;by_cases d3:x.kd<3
 ·rw[vn (wg d3)]at h;simp only[zv,d3];exact h w4 f4
 simp only[zv,d3];refine Ac (v:=vq vy x.kd) hb4 rfl ?_;by_cases d12:12<x.kd
 ·rw[vn (wh d12)]at h;simp only[zv,gt_iff_lt,d12];exact h w4 f4
 simp only[zv,gt_iff_lt,d12];rw[vm (by omega)]at h;obtain⟨t,ht⟩:=xQ k1;have htl:t<g.th.length:=by
  unfold BR.who at c2;rw[vm (by omega)]at c2;by_cases e:(g.th.length:Int)<=x.t
  ·rw[vn e]at c2;cases c2
  ·omega
 have hth':t<hs.length:=by omega
 rw[ht,BR.held_eq htl]at h;refine F37.k12.to (A8 (λw'=>Fr [] w4 w') λw5 hf5 _=>⟨hf5,?_⟩);have f5:=f4.trans hf5;have hb5:=hf5.at_ hb4 (by simp);have hg5:=hg.keep0 f5;simp only[zv];refine hg4.s10 ?_;refine Aq (v:=vq vy x.t) (λw' hw=>⟨_,_,_,hw.at_ hb4 (by simp),rfl⟩) ?_;rw[ht];refine hg4.idxT hf5 htl hth' λb' o' hr=>?_
 try simp only[Ah]
 refine Aq (v:=hs[t]) (λw' hw=>by obtain⟨cs,e,fz,a1,_,a2⟩:=hr w' hw;exact⟨cs,e,fz,a1,a2⟩) ?_;refine AK (hg5.heldO htl hth').rd ?_;rw[Cr];refine Ac (v:=vq vy x.kd) hb5 rfl ?_;have plain:¬(x.kd=9∨x.kd=10∨x.kd=12)->F37.k17 K (vr (vz ⟨b,0,v6⟩)) (vq vy (g.th[t].2.length:Int)) w5:=λhno=>by
  rw[vm (λy=>hno y.1)]at h;exact L5 (by omega) ⟨k2,k4⟩ hb5 (h w5 f5)
 have obj:(x.kd=9∨x.kd=10∨x.kd=12)->∀bf,bf=decide (x.kd≠12)->I vp 70 #[vr (vz ⟨p,0,v6⟩),C5 x,vw bf] w5 λx63 w26=>U .neq x63 (vq vy 0) w26 λx65 w27=>Af x65 (K x63 w27) (F37.k17 K (vr (vz ⟨b,0,v6⟩)) (vq vy (g.th[t].2.length:Int)) w27):=λhc bf hbf=>by
  refine VD hg5 ok ht htl k2 bf λw6 hf6=>?_;rw[<-hbf]at h;by_cases e:g.object x bf=0
  ·rw[vm (λy=>y.2 e)]at h;simp only[zv,vl,vo,e,zQ];exact L5 (by omega) ⟨k2,k4⟩ (hf6.at_ hb5 (by simp)) (h w6 (f5.trans hf6))
  ·rw[vn ⟨hc,e⟩]at h;simp only[zv,vo,e,zR];exact h w6 (f5.trans hf6)
 by_cases c9:x.kd=9
 ·simp only[zv,vl,c9];refine A5 hb5 rfl ?_;refine Ac (v:=vq vy x.kd) hb5 rfl ?_;simp only[zv,vo,c9,Int.reduceEq,zR];exact obj (wg c9) v7 (by simp[c9])
 simp only[zv,c9];refine Ac (v:=vq vy x.kd) hb5 rfl ?_;by_cases c10:x.kd=10
 ·simp only[zv,vl,c10];refine A5 hb5 rfl ?_;refine Ac (v:=vq vy x.kd) hb5 rfl ?_;simp only[zv,vo,c10,Int.reduceEq,zR];exact obj (wh (wg c10)) v7 (by simp[c10])
 simp only[zv,c10];refine Ac (v:=vq vy x.kd) hb5 rfl ?_;by_cases c12:x.kd=12
 ·simp only[zv,vl,c12];refine A5 hb5 rfl ?_;refine Ac (v:=vq vy x.kd) hb5 rfl ?_;simp only[zv,vl,vo,c12,zQ];exact obj (wh (wh c12)) v8 (by simp[c12])
 simp only[zv,c12];exact plain (by omega)
end
def Du(w:wd)(q:Nat)(Q:Array wc->Prop):Prop:=∃cs:Array wc,w.heap[q]?=vz (wj cs 38 (0,0))/\cs.size=5/\Q cs
abbrev ZT:=Nat->(Array wc->Prop)->Prop
def Du.fr{Z:ZT}{S:List Nat}{w w':wd}(hf:Fr S w w')(hS:∀(q:Nat) (cs:Array wc),w.heap[q]?=vz (wj cs 38 (0,0))->q∉S):∀q Q,Z q Q->Du w q Q->Du w' q Q:=λq _ _ ⟨cs,h1,h2⟩=>⟨cs,hf.at_ h1 (hS q cs h1),h2⟩
def Du.upd{Z:ZT}{w w':wd}{b:Nat}{o o':Array wc}(hb:w.heap[b]?=vz (wj o 38 (0,0)))(hf:Fr [b] w w')(hb':w'.heap[b]?=vz (wj o' 38 (0,0)))(ho:o'.size=5)(hQ:∀Q,Z b Q->Q o'):∀q Q,Z q Q->Du w q Q->Du w' q Q:=λq Q hz ⟨cs,h1,h2⟩=>by
 by_cases e:q=b
 ·subst e;exact⟨o',hb',ho,hQ Q hz⟩
 ·exact⟨cs,hf.at_ h1 (by simpa using e),h2⟩
structure WZ(Z:ZT)(W w:wd):Prop where
 fr:Fr [] W w
 z:∀q Q,Z q Q->Du w q Q
def WZ.size{Z:ZT}{W w:wd}(h:WZ Z W w):W.heap.size<=w.heap.size:=h.fr.size
def WZ.trans{Z:ZT}{W w w':wd}(h:WZ Z W w)(hf:Fr [] w w'):WZ Z W w':=⟨h.fr.trans hf,λq Q hq=>Du.fr hf (by simp) q Q hq (h.z q Q hq)⟩
def WZ.then{Z:ZT}{W w w':wd}{S:List Nat}(h:WZ Z W w)(hf:Fr S w w')(hS:∀y,y∈S->y∈([]:List Nat)∨W.heap.size<=y)(hz:∀q Q,Z q Q->Du w q Q->Du w' q Q):WZ Z W w':=⟨h.fr.then hf hS,λq Q hq=>hz q Q hq (h.z q Q hq)⟩
def WZ.lt{Z:ZT}{W w:wd}(h:WZ Z W w){q:Nat}{Q:Array wc->Prop}(hq:Z q Q):q<w.heap.size:=by obtain⟨cs,h1,_⟩:=h.z q Q hq;exact BP h1
def CT(Z:ZT)(W w:wd)(cf:Cf)(p:Nat)(g:BR):Prop:=WZ Z W w/\∃tv nv hs ns,CE W.heap.size w cf p tv nv hs ns g
section
variable{K:VK}{Z:ZT}{W w:wd}{cf:Cf}{lo p:Nat}{tv nv:wc}{hs ns:List wc}{g:BR}{x:BY}{t:Nat}
def CT.keep0{w':wd}(h:CT Z W w cf p g)(hf:Fr [] w w'):CT Z W w' cf p g:=by obtain⟨f,tv,nv,hs,ns,h⟩:=h;exact⟨f.trans hf,tv,nv,hs,ns,h.keep0 hf⟩
def CE.setH(h:CE lo w cf p tv nv hs ns g){w':wd}(ht:t<g.th.length){hv:wc}{l:List V2}{b:Bool}(ho:BO w hv 60 2 (Ck l))(hg:∀y∈BM hv,(y∈BM (hs.getD t (vt v6 0 0))∨(y∉CM hs/\y∉CM ns/\lo<=y)))(hf:Fr (BM tv) w w')(htv:BO w' tv 83 2 (FU (g.th.set t (b,l)) (hs.set t hv))):
  CE lo w' cf p tv nv (hs.set t hv) ns { g with th:=g.th.set t (b,l) }:=by
 have hlen:=h.lens;have hth':t<hs.length:=by omega
 have e0:hs.getD t (vt v6 0 0)=hs[t]:=by rw[xC,xO hth'];rfl
 rw[e0]at hg;have nb:∀(v:wc) (sz:Nat) (xs:List (List wc)),BO w v 60 sz xs->∀y∈BM v,y∉BM tv:=λv sz xs hv y hy c=>by
  exact hv.ne h.th (by decide) y hy c
 have hfam:ER w 60 2 (hs.set t hv) (I7 (g.th.set t (b,l))):=by
  have e:I7 (g.th.set t (b,l))=(I7 g.th).set t (Ck l):=by unfold I7;rw[u6]
  rw[e];refine⟨by simp[I7];omega,λi h1 h2=>?_,λi j h1 h2 hne y hy hy'=>?_⟩
  ·rw[zX,zX];by_cases e:t=i
   ·rw[vn e,vn e];exact ho
   ·rw[vm e,vm e];exact h.hf.row i (by simpa using h1) (by simpa using h2)
  ·rw[zX]at hy hy';have hj':j<hs.length:=by simpa using h2
   have hi':i<hs.length:=by simpa using h1
   by_cases e:t=i
   ·rw[vn e]at hy;by_cases e':t=j
    ·exact hne (by omega)
    rw[vm e']at hy';rcases hg y hy with c|⟨c,_,_⟩
    ·exact h.hf.dj t j hth' hj' e' y c hy'
    ·exact c (CH hj' hy')
   ·rw[vm e]at hy;by_cases e':t=j
    ·rw[vn e']at hy';rcases hg y hy' with c|⟨c,_,_⟩
     ·exact h.hf.dj t i hth' hi' e y c hy
     ·exact c (CH hi' hy)
    ·rw[vm e']at hy';exact h.hf.dj i j hi' hj' hne y hy hy'
 have hall:∀y∈CM (hs.set t hv),y∉BM tv:=λy hy=>by
  obtain⟨v,hv',hy'⟩:=CR.1 hy;obtain⟨i,hi,rfl⟩:=yS hv';exact nb _ _ _ (hfam.row i hi (by have:=hfam.len;omega)) y hy'
 have hnall:∀y∈CM ns,y∉BM tv:=λy hy=>by
  obtain⟨v,hv',hy'⟩:=CR.1 hy;obtain⟨i,hi,rfl⟩:=yS hv';exact nb _ _ _ (h.nf.row i hi (by have:=h.nf.len;omega)) y hy'
 refine⟨hf.at_ h.blk λc=>?_,htv,h.nd.keep' hf λy hy c=>?_,hfam.keep hf hall,h.nf.keep hf hnall,λy hy c=>?_,h.ge.1,h.ge.2.1,h.ge.2.2.1,λy hy=>?_,h.ge.2.2.2.2⟩
 ·exact h.th.nb h.blk (by decide) c
 ·exact h.nd.ne h.th (by decide) y hy c
 ·rcases DB hy with d|d
  ·exact h.dj y d c
  ·rcases hg y d with e|⟨_,e,_⟩
   ·exact h.dj y (CH hth' e) c
   ·exact e c
 ·rcases DB hy with d|d
  ·exact h.ge.2.2.2.1 y d
  ·rcases hg y d with e|⟨_,_,e⟩
   ·exact h.ge.2.2.2.1 y (CH hth' e)
   ·exact e
def CE.nl(h:CE lo w cf p tv nv hs ns g){q:Nat}{cs:Array wc}{e:TypeId}{fz:Nat × Nat}(hq:w.heap[q]?=vz (wj cs e fz))(he:e≠79/\e≠83/\e≠56/\e≠60){w':wd}(hf:Fr [q] w w'):CE lo w' cf p tv nv hs ns g:=by
 have hall:∀(vs:List wc) (xs:List (List (List wc))),ER w 60 2 vs xs->∀y∈CM vs,y∉[q]:=λvs xs hfam y hy c=>by
  rw[yZ.1 c]at hy;obtain⟨v,hv',hy'⟩:=CR.1 hy;obtain⟨i,hi,rfl⟩:=yS hv';exact (hfam.row i hi (by have:=hfam.len;omega)).nb hq (vk he.2.2.2) hy'
 refine⟨hf.at_ h.blk λc=>?_,h.th.keep' hf λy hy c=>?_,h.nd.keep' hf λy hy c=>?_,h.hf.keep hf (hall _ _ h.hf),h.nf.keep hf (hall _ _ h.nf),h.dj,h.ge⟩
 ·rw[yZ]at c;have:=h.blk;rw[c,hq]at this;simp only[zM,Obj.cells.injEq]at this;exact he.1 this.2.1
 ·rw[yZ.1 c]at hy;exact h.th.nb hq (vk he.2.1) hy
 ·rw[yZ.1 c]at hy;exact h.nd.nb hq (vk he.2.2.1) hy
def CT.nl(h:CT Z W w cf p g){q:Nat}{cs:Array wc}{e:TypeId}{fz:Nat × Nat}(hq:w.heap[q]?=vz (wj cs e fz))(he:e≠79/\e≠83/\e≠56/\e≠60){w':wd}(hf:Fr [q] w w')(hl:W.heap.size<=q)(hz:∀q Q,Z q Q->Du w q Q->Du w' q Q):CT Z W w' cf p g:=by obtain⟨f,tv,nv,hs,ns,h⟩:=h;exact⟨f.then hf (λy hy=>wh (by rw[yZ.1 hy];exact hl)) hz,tv,nv,hs,ns,h.nl hq he hf⟩
def TG(k n:Int):(Instr.build 38 #[(1,vq vy k),(2,vq vy n)]).run vp w=.ok (Cg ⟨0,k,n,0,0⟩) w:=by kernel_rfl
def XM(v:V2):(Instr.buildSlice 56 1 #[(0,vx #[vq vy v.1,vq vy v.2])]).run vp w=.ok (vt (vz ⟨w.heap.size,0,v6⟩) 1 1) (w.alloc (wj #[vq vy v.1,vq vy v.2] 60)):=by kernel_rfl
def B2{src:wc}{l:List V2}(hs:Cq w src 2 (Ck l))(hl:l.length<=1000)(hk:∀v' w',Fr [] w w'->Cc w v'->BO w' v' 60 2 (Ck l)->K v' w'):
  Am vp (Builtin.append_ #[56,56] 56 #[vt v6 0 0,src]) w K:=by refine Bg (W0:=w) (e:=60) (sz:=2) (bytes:=16) (z:=vx #[vq vy 0,vq vy 0]) (xs:=[]) (ys:=Ck l) Tryz.underlying56 (by kernel_rfl) rfl (by decide) (Fr.refl _ _) (Cc.nil _) (BO.nil _ _ _) hs (λy hy u hu=>?_) (by simp[Ck];omega) (by simp[Ck];omega) λv' w' a b c _ _=>hk v' w' a b (by simpa using c);simp only[Ck,uu]at hy;obtain⟨z,_,rfl⟩:=hy;simp only[un,b8,vi]at hu;rcases hu with rfl|rfl<;>rfl
def Og(h:CT Z W w cf p g)(ok:C8 g)(htl:t<g.th.length)(v:V2)(hk:∀w',CT Z W w' cf p (g.hold (t:Int) v).1->(∀(q:Nat) (cs:Array wc) (e:TypeId) (fz:Nat × Nat),w.heap[q]?=vz (wj cs e fz)->e≠83->w'.heap[q]?=vz (wj cs e fz))->K (Cg (g.hold (t:Int) v).2) w'):
  I vp 71 #[vr (vz ⟨p,0,v6⟩),vq vy (t:Int),vx #[vq vy v.1,vq vy v.2]] w K:=by
 obtain⟨f0,tv,nv,hs,ns,h⟩:=h;have hlen:=h.lens;have hth':t<hs.length:=by omega
 have hlt:=(ok.th _ (zW htl)).1;refine F71.sh (Ay λb w1 hn1=>Ay λb2 w2 hn2=>?_);have l1:=hn1.is;have l2:=hn2.is;have s1:=hn1.fr.size;have lb1:=BP hn1.at_;have hb1:=hn2.fr.at_ hn1.at_ (by simp);have f2:=hn1.fr.trans hn2.fr;have h2:=h.keep0 f2;simp only[zv];refine h2.l10 ?_;refine h2.idxT (Fr.refl _ _) htl hth' λb' o' hr=>?_;obtain⟨cs,e,fz,a1,a2,a3⟩:=hr w2 (Fr.refl _ _);simp only[Ah]
 refine Ac (v:=hs[t]) a1 a3 ?_;refine B2 (h2.heldO htl hth').rd (by omega) λv1 w3 hf3 hn3 ho3=>?_;have hb3:=hf3.at_ hb1 (by simp);refine A5 hb3 rfl ?_;refine Bm (W0:=w2) (x:=[vq vy v.1,vq vy v.2]) (e:=60) (sz:=2) (bytes:=16) (z:=vx #[vq vy 0,vq vy 0]) Tryz.underlying56 (by kernel_rfl) rfl (by decide) (XM v) rfl (by simp[wc.oneCell']) hf3 hn3 ho3 (by simp[Ck];omega) (by simp[Ck];omega) λv2 w4 hf4 hn4 ho4 _ _=>?_
 have f4:=f2.trans hf4;have h4:=h.keep0 f4;have hv2:BO w4 v2 60 2 (Ck (g.th[t].2++[v])):=by rw[Lx];exact ho4
 refine h4.l10 ?_;have hthC:=Lu htl hth';refine B9 (P:=vp) (f:=1) h4.th (by omega) (by rw[zE];exact hthC) (by decide) hv2.one.1 hv2.one.2 λw5 ho5 hf5 hz5=>?_;have e5:(FU g.th hs).set (t:Int).toNat (([vw g.th[t].1,hs[t]]:List wc).set 1 v2)=FU (g.th.set t (g.th[t].1,g.th[t].2++[v])) (hs.set t v2):=by rw[Lv,zE];rfl
 rw[e5]at ho5;have sz2:=f2.size;have h5:=h4.setH (b:=g.th[t].1) htl hv2 (λy hy=>wh ⟨λc=>?_,λc=>?_,?_⟩) hf5 ho5
 rotate_left
 ·have:=hn4.blk y hy;have:=h.hf.lt y c;omega
 ·have:=hn4.blk y hy;have:=h.nf.lt y c;omega
 ·have:=hn4.blk y hy;have:=f0.size;omega
 have htvlt:=h.th.mem_lt;have nbt:∀q,w.heap.size<=q->q∉BM tv:=λq hq c=>by have:=htvlt q c;omega
 have f5:WZ Z W w5:=(f0.trans f4).then hf5 (λq hq=>wh (h.ge.2.1 q hq)) (Du.fr hf5 λq cs hq=>h4.th.nb hq (by decide));have hb5:=hf5.at_ (hf4.at_ hb1 (by simp)) (nbt b (by omega));have hb25:=hf5.at_ (hf4.at_ hn2.at_ (by simp)) (nbt b2 (by omega));refine Ac (v:=vq vy v.1) hb5 rfl ?_;refine Ac (v:=vq vy v.2) hb5 rfl ?_;refine A7 (TG _ _) (AB (x:=Cg ⟨0,v.1,v.2,0,0⟩) hb25 rfl CU rfl λw6 hu6=>A5 hu6.at_ rfl ?_)
 have eg:(g.hold (t:Int) v).1={ g with th:=g.th.set t (g.th[t].1,g.th[t].2++[v]) }:=by unfold BR.hold;rw[BR.live_eq htl,BR.held_eq htl,zE]
 have:=hk w6;rw[eg]at this;have hA5:CT Z W w5 cf p { g with th:=g.th.set t (g.th[t].1,g.th[t].2++[v]) }:=⟨f5,tv,nv,_,ns,h5⟩;refine this (hA5.nl hb25 (by decide) hu6.fr (by have:=f0.size;omega) (Du.upd hb25 hu6.fr hu6.at_ rfl λQ hq=>absurd (f0.lt hq) (by omega))) λq cs e fz hq he=>?_;have hql:=BP hq;exact hu6.fr.at_ (hf5.at_ (f4.at_ hq (by simp)) λc=>h.th.nb hq (vk he) c) (by simp;omega)
end
section
variable{K:VK}{W w:wd}{cf:Cf}{lo p:Nat}{tv nv:wc}{hs ns:List wc}{g:BR}{x:BY}{t:Nat}
def Lf(h:g.hands x=0)(hk:x.kd=9∨x.kd=10∨x.kd=12):∃v,(g.held x.t)[x.i.toNat]?=vz v/\v.1=2/\(x.kd≠12->x.f<((g.node v.2).length:Int)):=by
 unfold BR.hands at h;rw[vm (by omega)]at h;by_cases e:g.object x (decide (x.kd≠12))=0
 rotate_left
 ·rw[vn ⟨hk,e⟩]at h;exact absurd h e
 unfold BR.object at e;cases hv:(g.held x.t)[x.i.toNat]? with
 | none=>rw[hv]at e;cases e
 | some v=>
  rw[hv]at e;simp only at e;by_cases h2:v.1≠2
  ·rw[vn h2]at e;cases e
  rw[vm h2]at e;refine⟨v,rfl,by omega,λhne=>?_⟩;by_cases hf:((g.node v.2).length:Int)<=x.f
  ·rw[vn ⟨by simpa using hne,hf⟩]at e;cases e
  ·omega
def O5(h:g.hands x=0)(hk:x.kd=7∨x.kd=11):x.i<((g.held x.t).length:Int):=by
 unfold BR.hands at h;rw[vm (by omega),vm (by omega)]at h;by_cases c:((g.held x.t).length:Int)<=x.i
 ·rw[vn (wg ⟨hk,c⟩)]at h;cases h
 ·omega
def O6(h:g.hands x=0)(hk:x.kd=10∨x.kd=11):x.j<((g.held x.t).length:Int):=by
 unfold BR.hands at h;rw[vm (by omega)]at h;split at h
 ·rename_i e;exact absurd h e.2
 by_cases c:((g.held x.t).length:Int)<=x.j
 ·rw[vn (wh (wg ⟨hk,c⟩))]at h;cases h
 ·omega
def UM(h:g.hands x=0)(hk:x.kd=8):(g.held x.t).length≠0:=by unfold BR.hands at h;rw[vm (by omega),vm (by omega)]at h;intro c;rw[vn (wh (wh ⟨hk,c⟩))]at h;cases h
def QJ(h:g.code cf x=0):x.check=0/\g.who x=0/\x.nums cf=0/\g.hands x=0:=by
 unfold BR.code at h;split at h
 ·rename_i c;exact absurd h c
 split at h
 ·rename_i c;exact absurd h c
 split at h
 ·rename_i c;exact absurd h c
 ·exact⟨by omega,by omega,by omega,h⟩
def Xy(h:g.who x=0)(hk:x.kd<16):x.t<(g.th.length:Int):=by
 unfold BR.who at h;rw[vm (by omega)]at h;by_cases c:(g.th.length:Int)<=x.t
 ·rw[vn c]at h;cases h
 ·omega
def Y2(n:Int):(Instr.build 60 #[(0,vq vy 1),(1,vq vy n)]).run vp w=.ok (vx #[vq vy 1,vq vy n]) w:=by kernel_rfl
def Y3:(Instr.build 60 #[(0,vq vy 2)]).run vp w=.ok (vx #[vq vy 2,vq vy 0]) w:=by kernel_rfl
def Y1:(Instr.build 60 #[]).run vp w=.ok (vx #[vq vy 0,vq vy 0]) w:=by kernel_rfl
def Qo(h:CE lo w cf p tv nv hs ns g)(ok:C8 g)(ht:x.t=t)(htl:t<g.th.length)(h0:0<=x.i/\0<=x.f)(hh:g.hands x=0)(hkd:x.kd=4∨x.kd=5∨x.kd=6∨x.kd=7∨x.kd=9)(hk:∀w',Fr [] w w'->K (vx #[vq vy (g.pushed x).1,vq vy (g.pushed x).2]) w'):I vp 72 #[vr (vz ⟨p,0,v6⟩),C5 x] w K:=by
 have hlen:=h.lens;have hth':t<hs.length:=by omega
 have hheld:=BR.held_eq htl;refine F72.sh (Ay λb w1 hn1=>Ay λb2 w2 hn2=>A8 (λw'=>Fr [] w2 w') λw3 hf3 _=>⟨hf3,?_⟩);have l1:=hn1.is;have l2:=hn2.is;have s1:=hn1.fr.size;have lb1:=BP hn1.at_;have hb2:=hn2.fr.at_ hn1.at_ (by simp);have f2:=hn1.fr.trans hn2.fr;have h2:=h.keep0 f2;have f3:=f2.trans hf3;have hb3:=hf3.at_ hb2 (by simp);have h3:=h.keep0 f3;have ho3:=h3.heldO htl hth'
 have hr3:=hf3.at_ hn2.at_ (by simp);simp only[zv];refine h2.s10 ?_;refine Aq (v:=vq vy x.t) (λw' hw=>⟨_,_,_,hw.at_ hb2 (by simp),rfl⟩) ?_;rw[ht];refine h2.idxT hf3 htl hth' λb' o' hr=>?_
 try simp only[Ah]
 refine Aq (v:=hs[t]) (λw' hw=>by obtain⟨cs,e,fz,a1,_,a2⟩:=hr w' hw;exact⟨cs,e,fz,a1,a2⟩) ?_;refine Ac (v:=vq vy x.kd) hb3 rfl ?_;have fin:∀(v:V2) (w4:wd),Fr [] w3 w4->g.pushed x=v->Aj 2 (vr (vz ⟨b2,0,v6⟩)) (vx #[vq vy v.1,vq vy v.2]) w4 (λw5=>Fr [b2] w3 w5/\Ak 2 (vr (vz ⟨b2,0,v6⟩)) w5 λr _=>K r w5):=λv w4 hf4 e=>by
  refine AB (x:=vx #[vq vy v.1,vq vy v.2]) (hf4.at_ hr3 (by simp)) rfl (by simp[wc.cells,wc.oneCell']) rfl λw5 hu5=>⟨hf4.w.trans hu5.fr,A5 hu5.at_ rfl ?_⟩;have:=hk w5 ((f3.trans hf4).then hu5.fr (by simp;omega));rw[e]at this;exact this
 have fin':∀(v:V2) (w4:wd),Fr [] w3 w4->g.pushed x=v->Aj 2 (vr (vz ⟨b2,0,v6⟩)) (vx #[vq vy v.1,vq vy v.2]) w4 (λw5=>Ak 2 (vr (vz ⟨b2,0,v6⟩)) w5 λr _=>K r w5):=λv w4 hf4 e=>by
  refine AB (x:=vx #[vq vy v.1,vq vy v.2]) (hf4.at_ hr3 (by simp)) rfl (by simp[wc.cells,wc.oneCell']) rfl λw5 hu5=>A5 hu5.at_ rfl ?_;have:=hk w5 ((f3.trans hf4).then hu5.fr (by simp;omega));rw[e]at this;exact this
 by_cases c4:x.kd=4
 ·simp only[zv,vl,c4];refine Ac (v:=vq vy x.n) hb3 rfl ?_;refine A7 (Y2 _) ?_;exact fin' (1,x.n) w3 (Fr.refl _ _) (by unfold BR.pushed;rw[vn c4])
 simp only[zv,c4];refine F72.k4.to ?_;simp only[zv];refine Ac (v:=vq vy x.kd) hb3 rfl ?_;by_cases c6:x.kd=6
 ·simp only[zv,vl,c6];refine A7 Y3 ?_;exact fin' (2,0) w3 (Fr.refl _ _) (by unfold BR.pushed;rw[vm c4,vn c6])
 simp only[zv,c6];refine F72.k6.to ?_;simp only[zv];refine Ac (v:=vq vy x.kd) hb3 rfl ?_;by_cases c7:x.kd=7
 ·have hi:=O5 hh (wg c7);rw[ht,hheld]at hi;have hil:x.i.toNat<g.th[t].2.length:=by omega
  simp only[zv,vl,c7];refine Ac (v:=vq vy x.i) hb3 rfl ?_;refine AS ho3.rd h0.1 (Dr hil) λg3 o3 cs3 e3 fz3 hg3 hl3 hs3=>Bt (x:=[vq vy g.th[t].2[x.i.toNat].1,vq vy g.th[t].2[x.i.toNat].2]) hg3 rfl (by omega) hs3 ?_;refine fin' g.th[t].2[x.i.toNat] w3 (Fr.refl _ _) ?_;unfold BR.pushed;rw[vm c4,vm c6,vn c7,ht,hheld,xC,xO hil];rfl
 simp only[zv,c7];refine F72.k8.to ?_;simp only[zv];refine Ac (v:=vq vy x.kd) hb3 rfl ?_;by_cases c9:x.kd=9
 rotate_left
 ·simp only[zv,c9];refine F72.k10.to (A7 Y1 ?_);exact fin' (0,0) w3 (Fr.refl _ _) (by unfold BR.pushed;rw[vm c4,vm c6,vm c7,vm c9])
 obtain⟨v,hv,hv2,hvf⟩:=Lf hh (wg c9);have hvf:=hvf (by omega);rw[ht,hheld]at hv;have hil:x.i.toNat<g.th[t].2.length:=(xI.1 hv).1;have hve:g.th[t].2[x.i.toNat]=v:=(xI.1 hv).2;have hrf:=(ok.th _ (zW htl)).2 _ (zW hil) (by rw[hve];exact hv2);rw[hve]at hrf;have hnl:v.2.toNat<ns.length:=by omega
 rw[BR.node_eq hrf.2]at hvf;have hfl:x.f.toNat<g.nd[v.2.toNat].length:=by omega
 simp only[zv,vl,c9];refine A8 (λw'=>Fr [b2] w3 w') λw4 hf4 _=>⟨hf4.w,?_⟩;have hb3n:b∉[b2]:=by simp;omega
 have sep:∀w',Fr [b2] w3 w'->Fr [] w w':=λw' hw=>f3.then hw (by simp;omega);have hb4:∀w',Fr [b2] w3 w'->w'.heap[b]?=vz (wj (C5 x).cells 40 (0,0)):=λw' hw=>hw.at_ hb3 hb3n;refine Aq (v:=nv) (λw' hw=>⟨_,_,_,(h.keep0 (sep w' hw)).blk,by simp[C9]⟩) ?_;refine Aq (v:=vq vy x.i) (λw' hw=>⟨_,_,_,hb4 w' hw,rfl⟩) ?_
 refine AV (S:=λw'=>Fr [b2] w3 w') (λw' hw=>((h.keep0 (sep w' hw)).heldO htl hth').rd) hf4.w h0.1 (Dr hil) λg5 o5 hl5 hs5=>?_
 try simp only[Ah]
 refine Aq (v:=vq vy v.2) (λw' hw=>by obtain⟨cs,e,fz,a1,a2⟩:=hs5 w' hw;exact⟨cs,e,fz,a1,by have:=a2 1 (by decide);rw[hve]at this;simpa using this⟩) ?_;refine AV (S:=λw'=>Fr [b2] w3 w') (λw' hw=>(h.keep0 (sep w' hw)).nd.rd) hf4.w hrf.1 (HU hnl) λg6 o6 hl6 hs6=>?_;refine Aq (v:=ns[v.2.toNat]) (λw' hw=>by obtain⟨cs,e,fz,a1,a2⟩:=hs6 w' hw;exact⟨cs,e,fz,a1,by simpa using a2 0 (by decide)⟩) ?_
 refine Aq (v:=vq vy x.f) (λw' hw=>⟨_,_,_,hb4 w' hw,rfl⟩) ?_;refine AV (S:=λw'=>Fr [b2] w3 w') (λw' hw=>((h.keep0 (sep w' hw)).nodeO hrf.2 hnl).rd) hf4.w h0.2 (Dr hfl) λg7 o7 hl7 hs7=>?_;refine Bc hl7 (by decide) hs7 ⟨?_,trivial⟩;refine fin g.nd[v.2.toNat][x.f.toNat] w4 hf4 ?_;unfold BR.pushed;rw[vm c4,vm c6,vm c7,vn c9,ht,hheld,xC (l:=g.th[t].2),hv];simp only[d8];rw[BR.node_eq hrf.2,xC,xO hfl];rfl
end
section
variable{K:VK}{Z:ZT}{W w:wd}{cf:Cf}{p b b2:Nat}{g g':BR}{x:BY}{t:Nat}
structure E8(Z:ZT)(W w:wd)(x:BY)(b b2:Nat):Prop where
 zq:∀Q,Z b2 Q->∀o,Q o
 st:w.heap[b]?=vz (wj (C5 x).cells 40 (0,0))
 an:w.heap[b2]?=vz (wj #[vq vy 0,vq vy 0,vq vy 0,vq vy 0,vq vy 0] 38 (0,0))
 lo:W.heap.size<=b/\W.heap.size<=b2
def E8.keep0{w':wd}(h:E8 Z W w x b b2)(hf:Fr [] w w'):E8 Z W w' x b b2:=⟨h.zq,hf.at_ h.st (by simp),hf.at_ h.an (by simp),h.lo⟩
def HK{a:BZ}(hA:CT Z W w cf p g')(hi:E8 Z W w x b b2)(hk:∀w',CT Z W w' cf p g'->K (Cg a) w'):Aj 5 (vr (vz ⟨b2,0,v6⟩)) (Cg a) w λw3=>Ak 5 (vr (vz ⟨b2,0,v6⟩)) w3 λr _=>K r w3:=
 AB (x:=Cg a) hi.an rfl CU rfl λw3 hu3=>A5 hu3.at_ rfl (hk w3 (hA.nl hi.an (by decide) hu3.fr hi.lo.2 (Du.upd hi.an hu3.fr hu3.at_ rfl λQ hq=>hi.zq Q hq _)))
def Yp:(Instr.build 38 #[]).run vp w=.ok (Cg BZ.ok) w:=by kernel_rfl
def XC:(Instr.build 38 #[(1,vq vy 1)]).run vp w=.ok (Cg ⟨0,1,0,0,0⟩) w:=by kernel_rfl
def NY(hA:CT Z W w cf p g')(hi:E8 Z W w x b b2)(hn:x.kd≠11/\x.kd≠12)(hk:∀w',CT Z W w' cf p g'->K (Cg BZ.ok) w'):F38.k18 K (vr (vz ⟨p,0,v6⟩)) (vr (vz ⟨b,0,v6⟩)) (vr (vz ⟨b2,0,v6⟩)) w:=by refine F38.k18.to ?_;simp only[zv];refine Ac (v:=vq vy x.kd) hi.st rfl ?_;simp only[zv,hn.1];refine F38.k23.to ?_;simp only[zv];refine Ac (v:=vq vy x.kd) hi.st rfl ?_;simp only[zv,hn.2];exact F38.k26.to (A7 Yp (HK hA hi hk))
def PM(hA:CT Z W w cf p g')(hi:E8 Z W w x b b2)(hn:x.kd<3∨12<x.kd)(hk:∀w',CT Z W w' cf p g'->K (Cg BZ.ok) w'):F38.k5 K (vr (vz ⟨p,0,v6⟩)) (vr (vz ⟨b,0,v6⟩)) (vr (vz ⟨b2,0,v6⟩)) w:=by
 refine F38.k5.to ?_;simp only[zv];refine Ac (v:=vq vy x.kd) hi.st rfl ?_;simp only[zv,show ¬x.kd=3 by omega];refine F38.k8.to ?_;simp only[zv];refine Ac (v:=vq vy x.kd) hi.st rfl ?_;have h8:F38.k10 K (vr (vz ⟨p,0,v6⟩)) (vr (vz ⟨b,0,v6⟩)) (vr (vz ⟨b2,0,v6⟩)) w:=by refine F38.k10.to ?_;simp only[zv];refine Ac (v:=vq vy x.kd) hi.st rfl ?_;simp only[zv,show ¬x.kd=8 by omega];refine F38.k15.to ?_;simp only[zv];refine Ac (v:=vq vy x.kd) hi.st rfl ?_;simp only[zv,show ¬x.kd=10 by omega];exact NY hA hi (by omega) hk
 by_cases c4:4<=x.kd
 ·simp only[zv,ge_iff_le,c4];refine Ac (v:=vq vy x.kd) hi.st rfl ?_;simp only[zv,show ¬x.kd<=7 by omega];refine Ac (v:=vq vy x.kd) hi.st rfl ?_;simp only[zv,show ¬x.kd=9 by omega];exact h8
 ·simp only[zv,ge_iff_le,c4];refine Ac (v:=vq vy x.kd) hi.st rfl ?_;simp only[zv,show ¬x.kd=9 by omega];exact h8
def PL(hA:CT Z W w cf p g')(hi:E8 Z W w x b b2)(hn:x.kd<2∨12<x.kd)(hk:∀w',CT Z W w' cf p g'->K (Cg BZ.ok) w'):F38.k3 K (vr (vz ⟨p,0,v6⟩)) (vr (vz ⟨b,0,v6⟩)) (vr (vz ⟨b2,0,v6⟩)) w:=by refine F38.k3.to ?_;simp only[zv];refine Ac (v:=vq vy x.kd) hi.st rfl ?_;simp only[zv,show ¬x.kd=2 by omega];exact PM hA hi (by omega) hk
def XF:(Instr.build 83 #[(0,vw v7)]).run vp w=.ok (vx #[vw v7,vt v6 0 0]) w:=by kernel_rfl
def XE:(Instr.build 83 #[]).run vp w=.ok (vx #[vw v8,vt v6 0 0]) w:=by kernel_rfl
def T8{tv nv:wc}{hs ns:List wc}{w1:wd}(h:CE W.heap.size w cf p tv nv hs ns g)(f0:WZ Z W w)(hi:E8 Z W w x b b2)(htl:t<g.th.length)(bb:Bool)(hf:Fr [] w w1){K:wd->Prop}(hk:∀w',Fr (BM tv) w w'->CT Z W w' cf p { g with th:=g.th.set t (bb,[]) }->E8 Z W w' x b b2->K w'):
  A6 2 tv (vq vy (t:Int)) w1 λq w2=>Aj 2 q (vx #[vw bb,vt v6 0 0]) w2 K:=by
 have h1:=h.keep0 hf;have hlen:=h.lens;refine Bi (x:=vx #[vw bb,vt v6 0 0]) h1.th (by omega) (by rw[zE,GX hlen.1];exact htl) rfl (by simp[wc.cells,wc.oneCell']) λw2 ho2 hf2 hz2=>?_;have e:(FU g.th hs).set (t:Int).toNat (wc.cells (vx #[vw bb,vt v6 0 0])).toList=FU (g.th.set t (bb,[])) (hs.set t (vt v6 0 0)):=by rw[Lv,zE];rfl
 rw[e]at ho2;have h2:=h1.setH (b:=bb) (l:=[]) (hv:=vt v6 0 0) htl (BO.nil _ _ _) (λy hy=>by simp[BM,wc.ownBlock]at hy) hf2 ho2;have f2:Fr (BM tv) w w2:=hf.w.trans hf2;refine hk w2 f2 ⟨f0.then f2 (λq hq=>wh (h.ge.2.1 q hq)) (Du.fr f2 λq cs hq=>h.th.nb hq (by decide)),tv,nv,_,ns,h2⟩ ⟨hi.zq,f2.at_ hi.st (h.th.nb hi.st (by decide)),f2.at_ hi.an (h.th.nb hi.an (by decide)),hi.lo⟩
def X6(hA:CT Z W w cf p g)(hi:E8 Z W w x b b2)(ht:x.t=t)(htl:t<g.th.length)(hk1:x.kd=1)(hk:∀w',CT Z W w' cf p { g with th:=g.th.set t (v7,[]) }->K (Cg BZ.ok) w'):
  A4 w λS w6=>Ab 10 (vr (vz ⟨p,0,v6⟩)) w6 λx15 w8=>Ab 1 (vr (vz ⟨b,0,v6⟩)) w8 λx17 w9=>Al S x15 w9 λx16 w10=>Al S x17 w10 λx18 w11=>∃x19,(∀w',S w'->(Instr.build 83 #[(0,vw v7)]).run vp w'=.ok x19 w')/\(A6 2 x16 x18 w11 λx20 w13=>(Aj 2 x20 x19 w13 λw14=>(S w14/\F38.k3 K (vr (vz ⟨p,0,v6⟩)) (vr (vz ⟨b,0,v6⟩)) (vr (vz ⟨b2,0,v6⟩)) w14))/\True):=by
 obtain⟨f0,tv,nv,hs,ns,h⟩:=hA;refine A8 (λw'=>Fr (BM tv) w w') λw1 hf1 _=>⟨hf1.w,?_⟩;simp only[zv];refine Aq (v:=tv) (λw' hw=>⟨_,_,_,hw.at_ h.blk (h.th.nb h.blk (by decide)),by simp[C9]⟩) ?_;refine Aq (v:=vq vy x.t) (λw' hw=>⟨_,_,_,hw.at_ hi.st (h.th.nb hi.st (by decide)),rfl⟩) ?_;rw[ht];refine⟨_,λw' _=>XF,?_⟩;simp only[and_true]
 exact T8 h f0 hi htl v7 hf1 λw2 hf2 hA2 hi2=>⟨hf2,PL hA2 hi2 (by omega) hk⟩
def X7(hA:CT Z W w cf p g)(hi:E8 Z W w x b b2)(ht:x.t=t)(htl:t<g.th.length)(hk2:x.kd=2)(hk:∀w',CT Z W w' cf p { g with th:=g.th.set t (v8,[]) }->K (Cg BZ.ok) w'):F38.k3 K (vr (vz ⟨p,0,v6⟩)) (vr (vz ⟨b,0,v6⟩)) (vr (vz ⟨b2,0,v6⟩)) w:=by
 obtain⟨f0,tv,nv,hs,ns,h⟩:=hA;refine F38.k3.to ?_;simp only[zv];refine Ac (v:=vq vy x.kd) hi.st rfl ?_;simp only[zv,vl,hk2];refine A8 (λw'=>Fr (BM tv) w w') λw1 hf1 _=>⟨hf1.w,?_⟩;refine Aq (v:=tv) (λw' hw=>⟨_,_,_,hw.at_ h.blk (h.th.nb h.blk (by decide)),by simp[C9]⟩) ?_;refine Aq (v:=vq vy x.t) (λw' hw=>⟨_,_,_,hw.at_ hi.st (h.th.nb hi.st (by decide)),rfl⟩) ?_;rw[ht];refine⟨_,λw' _=>XE,?_⟩
 simp only[and_true];exact T8 h f0 hi htl v8 hf1 λw2 hf2 hA2 hi2=>⟨hf2,PM hA2 hi2 (by omega) hk⟩
end
section
variable{K:VK}{Z:ZT}{W w:wd}{cf:Cf}{p b b2:Nat}{g g':BR}{x:BY}{t:Nat}
def E8.tf{w':wd}(h:E8 Z W w x b b2)(f:∀(q:Nat) (cs:Array wc) (e:TypeId) (fz:Nat × Nat),w.heap[q]?=vz (wj cs e fz)->e≠83->w'.heap[q]?=vz (wj cs e fz)):E8 Z W w' x b b2:=⟨h.zq,f _ _ _ _ h.st (by decide),f _ _ _ _ h.an (by decide),h.lo⟩
def WQ(hA:CT Z W w cf p g)(ok:C8 g)(hi:E8 Z W w x b b2)(ht:x.t=t)(htl:t<g.th.length)(h0:0<=x.i/\0<=x.f)(hh:g.hands x=0)(hkd:x.kd=4∨x.kd=5∨x.kd=6∨x.kd=7∨x.kd=9)(hk:∀w',CT Z W w' cf p (g.hold (t:Int) (g.pushed x)).1->K (Cg (g.hold (t:Int) (g.pushed x)).2) w'):F38.k8 K (vr (vz ⟨p,0,v6⟩)) (vr (vz ⟨b,0,v6⟩)) (vr (vz ⟨b2,0,v6⟩)) w:=by
 refine F38.k8.to ?_;simp only[zv];refine Ac (v:=vq vy x.kd) hi.st rfl ?_
 have Im:A4 w λS w12=>Ab 1 (vr (vz ⟨b,0,v6⟩)) w12 λx72 w13=>Al S x72 w13 λx73 w14=>AN S 7 (vr (vz ⟨b,0,v6⟩)) w14 λx75 w15=>(I vp 72 #[vr (vz ⟨p,0,v6⟩),x75] w15 λx76 w16=>(S w16/\(I vp 71 #[vr (vz ⟨p,0,v6⟩),x73,x76] w16 λx77 w17=>(S w17/\(Aj 5 (vr (vz ⟨b2,0,v6⟩)) x77 w17 λw18=>(S w18/\Ak 5 (vr (vz ⟨b2,0,v6⟩)) w18 λr19 _=>K r19 w18))/\True))/\True))/\True:=by
  have hbb:b≠b2:=λe=>by
   have h1:=hi.st;rw[e,hi.an]at h1;simp only[zM,Obj.cells.injEq]at h1;exact absurd h1.2.1 (by decide)
  refine A8 (λw'=>w'.heap[b]?=vz (wj (C5 x).cells 40 (0,0))) λw1 hf1 _=>⟨hf1.at_ hi.st (by simp),?_⟩;simp only[Ah,uy,and_true];refine Aq (v:=vq vy x.t) (λw' hw=>⟨_,_,_,hw,rfl⟩) ?_;rw[ht];refine Bc (x:=[vq vy x.kd,vq vy x.t,vq vy x.i,vq vy x.f,vq vy x.j,vq vy x.cost,vq vy x.n]) rfl (by decide) (λw' hw=>⟨_,_,_,hw,λj hj=>?_⟩) ?_
  ·have:j=0∨j=1∨j=2∨j=3∨j=4∨j=5∨j=6:=by omega
   rcases this with rfl|rfl|rfl|rfl|rfl|rfl|rfl<;>rfl
  have hA1:=hA.keep0 hf1;have hi1:=hi.keep0 hf1;obtain⟨f1,tv,nv,hs,ns,h1⟩:=id hA1;refine Qo (x:=x) h1 ok ht htl h0 hh hkd λw2 hf2=>⟨hf2.at_ hi1.st (by simp),?_⟩;have hi2:=hi1.keep0 hf2;refine Og (hA1.keep0 hf2) ok htl (g.pushed x) λw3 hA3 ht3=>⟨(hi2.tf ht3).st,?_⟩;have hi3:=hi2.tf ht3
  refine AB (x:=Cg (g.hold (t:Int) (g.pushed x)).2) hi3.an rfl CU rfl λw4 hu4=>⟨hu4.fr.at_ hi3.st (by simp[hbb]),A5 hu4.at_ rfl (hk w4 (hA3.nl hi3.an (by decide) hu4.fr hi3.lo.2 (Du.upd hi3.an hu4.fr hu4.at_ rfl λQ hq=>hi3.zq Q hq _)))⟩
 by_cases c9:x.kd=9
 ·simp only[zv,ge_iff_le,c9,Int.reduceLE];refine Ac (v:=vq vy x.kd) hi.st rfl ?_;simp only[zv,c9,Int.reduceLE];refine Ac (v:=vq vy x.kd) hi.st rfl ?_;simp only[zv,vl,c9];simpa only[Ai,Ae,Az,Ax,A3,Ah,An,AC,AO,AT,Ap,AD,Au,AX,AL,AF,Bk,AW,A9,AA,AZ,Ba,Bb,Ao,AJ,AI,AQ,p7,m9,uy,vl,decide_true,u4] using Im
 ·simp only[zv,ge_iff_le,show (4:Int)<=x.kd by omega];refine Ac (v:=vq vy x.kd) hi.st rfl ?_;simp only[zv,show x.kd<=7 by omega];simpa only[Ai,Ae,Az,Ax,A3,Ah,An,AC,AO,AT,Ap,AD,Au,AX,AL,AF,Bk,AW,A9,AA,AZ,Ba,Bb,Ao,AJ,AI,AQ,p7,m9,uy,vl,decide_true,u4] using Im
def WO(hA:CT Z W w cf p g)(ok:C8 g)(hi:E8 Z W w x b b2)(ht:x.t=t)(htl:t<g.th.length)(h0:0<=x.i)(hh:g.hands x=0)(hkd:x.kd=12)(hk:∀w',CT Z W w' cf p g->K (Cg ⟨0,1,(g.node ((g.held x.t).getD x.i.toNat (0,0)).2).length,0,0⟩) w'):F38.k18 K (vr (vz ⟨p,0,v6⟩)) (vr (vz ⟨b,0,v6⟩)) (vr (vz ⟨b2,0,v6⟩)) w:=by
 obtain⟨v,hv,hv2,_⟩:=Lf hh (wh (wh hkd));rw[ht]at hk;rw[ht,BR.held_eq htl]at hv;rw[BR.held_eq htl,xC,hv]at hk;simp only[d8]at hk;have hil:x.i.toNat<g.th[t].2.length:=(xI.1 hv).1;have hve:g.th[t].2[x.i.toNat]=v:=(xI.1 hv).2;have hrf:=(ok.th _ (zW htl)).2 _ (zW hil) (by rw[hve];exact hv2);rw[hve]at hrf;obtain⟨f0,tv,nv,hs,ns,h⟩:=id hA;have hlen:=h.lens;have hth':t<hs.length:=by omega
 have hnl:v.2.toNat<ns.length:=by omega
 refine F38.k18.to ?_;simp only[zv];refine Ac (v:=vq vy x.kd) hi.st rfl ?_;simp only[zv,hkd,Int.reduceEq];refine F38.k23.to ?_;simp only[zv];refine Ac (v:=vq vy x.kd) hi.st rfl ?_;simp only[zv,vl,hkd];refine A8 (λw'=>Fr [] w w') λw1 hf1 _=>⟨hf1,?_⟩;refine h.s10 ?_;refine Aq (v:=vq vy x.t) (λw' hw=>⟨_,_,_,hw.at_ hi.st (by simp),rfl⟩) ?_;rw[ht];refine h.idxT hf1 htl hth' λb' o' hr=>?_
 try simp only[Ah]
 refine Aq (v:=hs[t]) (λw' hw=>by obtain⟨cs,e,fz,a1,_,a2⟩:=hr w' hw;exact⟨cs,e,fz,a1,a2⟩) ?_;have h1:=h.keep0 hf1;have hi1:=hi.keep0 hf1;have hA1:=hA.keep0 hf1;have ho1:=h1.heldO htl hth';refine A8 (λw'=>Fr [b2] w1 w') λw2 hf2 _=>⟨hf2.w,?_⟩;have hl2:b2∉[b]:=by simp only[yZ];intro e;have h1:=hi.st;rw[<-e,hi.an]at h1;simp only[zM,Obj.cells.injEq]at h1;exact absurd h1.2.1 (by decide)
 have hbn:b∉[b2]:=λc=>hl2 (by simp only[yZ]at c ⊢;exact c.symm);have sep:∀w',Fr [b2] w1 w'->CE W.heap.size w' cf p tv nv hs ns g:=λw' hw=>h1.nl hi1.an (by decide) hw;refine Aq (v:=nv) (λw' hw=>⟨_,_,_,(sep w' hw).blk,by simp[C9]⟩) ?_;refine Aq (v:=vq vy x.i) (λw' hw=>⟨_,_,_,hw.at_ hi1.st hbn,rfl⟩) ?_
 refine AV (S:=λw'=>Fr [b2] w1 w') (λw' hw=>((sep w' hw).heldO htl hth').rd) hf2.w h0 (Dr hil) λg5 o5 hl5 hs5=>?_
 try simp only[Ah]
 refine Aq (v:=vq vy v.2) (λw' hw=>by obtain⟨cs,e,fz,a1,a2⟩:=hs5 w' hw;exact⟨cs,e,fz,a1,by have:=a2 1 (by decide);rw[hve]at this;simpa using this⟩) ?_;refine AV (S:=λw'=>Fr [b2] w1 w') (λw' hw=>(sep w' hw).nd.rd) hf2.w hrf.1 (HU hnl) λg6 o6 hl6 hs6=>?_;refine Aq (v:=ns[v.2.toNat]) (λw' hw=>by obtain⟨cs,e,fz,a1,a2⟩:=hs6 w' hw;exact⟨cs,e,fz,a1,by simpa using a2 0 (by decide)⟩) ?_
 have h2:=h1.keep0 hf2;refine AK (h2.nodeO hrf.2 hnl).rd ?_;rw[Cr];refine⟨_,λw' _=>TG _ _,?_⟩;simp only[and_true];have hi2:=hi1.keep0 hf2;have hA2:=hA1.keep0 hf2;rw[BR.node_eq hrf.2]at hk
 refine AB (x:=Cg ⟨0,1,(g.nd[v.2.toNat].length:Int),0,0⟩) hi2.an rfl CU rfl λw4 hu4=>⟨hf2.w.trans hu4.fr,A5 hu4.at_ rfl (hk w4 (hA2.nl hi2.an (by decide) hu4.fr hi2.lo.2 (Du.upd hi2.an hu4.fr hu4.at_ rfl λQ hq=>hi2.zq Q hq _)))⟩
def XO(x y:Operand)(a b:V2):(do eqGuard .eql 60 x y (vx #[vq vy a.1,vq vy a.2]) (vx #[vq vy b.1,vq vy b.2]);binOp .eql 60 (vx #[vq vy a.1,vq vy a.2]) (vx #[vq vy b.1,vq vy b.2]):Sem wc).run vp w=.ok (vw (([a.1,a.2] == [b.1,b.2]))) w:=
 Ld (ks:=[vy,vy]) x y Tryz.underlying60 (by kernel_rfl) (by kernel_rfl) (by kernel_rfl) [a.1,a.2] [b.1,b.2] rfl rfl
def WN(hA:CT Z W w cf p g)(ok:C8 g)(hi:E8 Z W w x b b2)(ht:x.t=t)(htl:t<g.th.length)(h0:0<=x.i/\0<=x.j)(hh:g.hands x=0)(hkd:x.kd=11)(hk:∀w',CT Z W w' cf p g->K (Cg ⟨0,1,if (g.held x.t).getD x.i.toNat (0,0)=(g.held x.t).getD x.j.toNat (0,0) then 1 else 0,0,0⟩) w'):F38.k18 K (vr (vz ⟨p,0,v6⟩)) (vr (vz ⟨b,0,v6⟩)) (vr (vz ⟨b2,0,v6⟩)) w:=by
 have hi':=O5 hh (wh hkd);have hj':=O6 hh (wh hkd);rw[ht,BR.held_eq htl]at hi' hj' hk;have hil:x.i.toNat<g.th[t].2.length:=by omega
 have hjl:x.j.toNat<g.th[t].2.length:=by omega
 rw[xC,xC,xO hil,xO hjl]at hk;simp only[d8]at hk;obtain⟨f0,tv,nv,hs,ns,h⟩:=id hA;have hlen:=h.lens;have hth':t<hs.length:=by omega
 refine F38.k18.to ?_;simp only[zv];refine Ac (v:=vq vy x.kd) hi.st rfl ?_;simp only[zv,vl,hkd];refine A8 (λw'=>Fr [] w w') λw1 hf1 _=>⟨hf1,?_⟩;refine h.s10 ?_;refine Aq (v:=vq vy x.t) (λw' hw=>⟨_,_,_,hw.at_ hi.st (by simp),rfl⟩) ?_;rw[ht];refine h.idxT hf1 htl hth' λb' o' hr=>?_
 try simp only[Ah]
 refine Aq (v:=hs[t]) (λw' hw=>by obtain⟨cs,e,fz,a1,_,a2⟩:=hr w' hw;exact⟨cs,e,fz,a1,a2⟩) ?_;have h1:=h.keep0 hf1;have hi1:=hi.keep0 hf1;have hA1:=hA.keep0 hf1;refine A8 (λw'=>Fr [] w1 w') λw2 hf2 _=>⟨hf2,?_⟩;have hi2:=hi1.keep0 hf2;have hA2:=hA1.keep0 hf2;refine Aq (v:=vq vy x.i) (λw' hw=>⟨_,_,_,hw.at_ hi1.st (by simp),rfl⟩) ?_
 refine AV (S:=λw'=>Fr [] w1 w') (λw' hw=>((h1.keep0 hw).heldO htl hth').rd) hf2 h0.1 (Dr hil) λg5 o5 hl5 hs5=>Bc hl5 (by decide) hs5 ?_;refine Aq (v:=vq vy x.j) (λw' hw=>⟨_,_,_,hw.at_ hi1.st (by simp),rfl⟩) ?_;refine AV (S:=λw'=>Fr [] w1 w') (λw' hw=>((h1.keep0 hw).heldO htl hth').rd) hf2 h0.2 (Dr hjl) λg6 o6 hl6 hs6=>Bc hl6 (by decide) hs6 ?_;refine⟨_,λw' _=>XO _ _ _ _,?_⟩
 have hbq:=RJ g.th[t].2[x.i.toNat] g.th[t].2[x.j.toNat];have hbq:(([g.th[t].2[x.i.toNat].1,g.th[t].2[x.i.toNat].2] == [g.th[t].2[x.j.toNat].1,g.th[t].2[x.j.toNat].2]))=decide (g.th[t].2[x.i.toNat]=g.th[t].2[x.j.toNat]):=by have:=vh (λz => !z) hbq;simpa only[Bool.not_not] using this
 rw[hbq];by_cases e:g.th[t].2[x.i.toNat]=g.th[t].2[x.j.toNat]
 ·rw[vn e]at hk;rw[o8 e];simp only[Ai];exact A7 (TG _ _) (HK hA2 hi2 hk)
 ·rw[vm e]at hk;rw[m8 e];simp only[Ae];exact F38.k22.to (A7 XC (HK hA2 hi2 hk))
end
section
variable{K:VK}{Z:ZT}{W w:wd}{cf:Cf}{lo p b b2:Nat}{tv nv:wc}{hs ns:List wc}{g g':BR}{x:BY}{t:Nat}
def CE.setN(h:CE lo w cf p tv nv hs ns g){w':wd}{n:Nat}(hn:n<g.nd.length)(hn':n<ns.length){l:List V2}(hf:Fr (BM ns[n]) w w')(ho:BO w' ns[n] 60 2 (Ck l)):CE lo w' cf p tv nv hs ns { g with nd:=g.nd.set n l }:=by have hno:=h.nodeO hn hn';refine⟨hf.at_ h.blk (hno.nb h.blk (by decide)),h.th.keep' hf (h.th.ne hno (by decide)),h.nd.keep' hf (h.nd.ne hno (by decide)),h.hf.keep hf λy hy c=>h.dj y hy (CH hn' c),?_,h.dj,h.ge⟩;have:=h.nf.set (j:=n) (v:=ns[n]) (x:=Ck l) hn' hf (λi hi hne y hy c=>h.nf.dj i n hi hn' hne y hy c) ho λy hy=>wg hy;rw[List.set_getElem_self]at this;simp only[u6];exact this
def CE.addN(h:CE lo w cf p tv nv hs ns g){w5 w6 w7:wd}{node nv':wc}{l:List V2}(h5:Fr [] w w5)(hno:BO w5 node 60 2 (Ck l))(hnn:∀y∈BM node,w.heap.size<=y)(hlo:lo<=w.heap.size)(hnv:BO w6 nv' 56 1 (E5 ns++[[node]]))(h6:Fr (BM nv) w5 w6)(hg:∀y∈BM nv',y∈BM nv∨w5.heap.size<=y)(hu:GB w6 p (wj (C9 cf++[tv,nv']).toArray 79 (0,0)) w7):CE lo w7 cf p tv nv' hs (ns++[node]) { g with nd:=g.nd++[l] }:=by
 have hk:=h.keep0 h5;have s5:=h5.size;have p6:=h6.at_ hk.blk (hk.nd.nb hk.blk (by decide));have hfam:ER w5 60 2 (ns++[node]) ((g.nd++[l]).map Ck):=by
  have hl:=hk.nf.len;rw[i6]at hl;refine⟨by simp;omega,λi h1 h2=>?_,λi j h1 h2 hne y hy hy'=>?_⟩
  ·by_cases e:i<ns.length
   ·have:=hk.nf.row i e (by rw[i6];omega);rw[xP e];simp only[i9,q9,ut]at h2 ⊢;rw[xP (by rw[i6];omega)];exact this
   ·have ei:i=ns.length:=by simp at h1;omega
    subst ei;rw[xJ (va _)];simp only[i9,q9,ut]at h2 ⊢;rw[xJ (by rw[i6];omega)];simp;exact hno
  ·have old:∀(i:Nat) (h1:i<ns.length),∀y∈BM ns[i],y<w.heap.size:=λi h1 y hy=>h.nf.lt y (CH h1 hy);by_cases e:i<ns.length
   ·rw[xP e]at hy;by_cases e':j<ns.length
    ·rw[xP e']at hy';exact hk.nf.dj i j e e' hne y hy hy'
    ·have ej:j=ns.length:=by simp at h2;omega
     subst ej;rw[xJ (va _)]at hy';have:=old i e y hy;have:=hnn y (by simpa using hy');omega
   ·have ei:i=ns.length:=by simp at h1;omega
    subst ei;rw[xJ (va _)]at hy;have e':j<ns.length:=by simp at h2;omega
    rw[xP e']at hy';have:=old j e' y hy';have:=hnn y (by simpa using hy);omega
 have tyn:∀(vs:List wc) (xs:List (List (List wc))),ER w5 60 2 vs xs->∀y∈CM vs,y∉BM nv:=λvs xs hfm y hy c=>by
  obtain⟨v,hv',hy'⟩:=CR.1 hy;obtain⟨i,hi,rfl⟩:=yS hv';exact (hfm.row i hi (by have:=hfm.len;omega)).ne hk.nd (by decide) y hy' c
 have tyg:∀(vs:List wc) (xs:List (List (List wc))),ER w6 60 2 vs xs->∀y∈CM vs,y∉[p]:=λvs xs hfm y hy c=>by
  rw[yZ.1 c]at hy;obtain⟨v,hv',hy'⟩:=CR.1 hy;obtain⟨i,hi,rfl⟩:=yS hv';exact (hfm.row i hi (by have:=hfm.len;omega)).nb p6 (by decide) hy'
 have f1:=hk.hf.keep h6 (tyn _ _ hk.hf);have f2:=hfam.keep h6 (tyn _ _ hfam);have t6:=hk.th.keep' h6 (hk.th.ne hk.nd (by decide));refine⟨hu.at_,t6.keep' hu.fr λy hy c=>?_,?_,f1.keep hu.fr (tyg _ _ f1),f2.keep hu.fr (tyg _ _ f2),λy hy c=>?_,h.ge.1,h.ge.2.1,λy hy=>?_,h.ge.2.2.2.1,λy hy=>?_⟩
 ·rw[yZ.1 c]at hy;exact t6.nb p6 (by decide) hy
 ·have e:E5 ns++[[node]]=E5 (ns++[node]):=by rw[OJ];rfl
  rw[e]at hnv;exact hnv.keep' hu.fr λy hy c=>by
   rw[yZ.1 c]at hy;exact hnv.nb p6 (by decide) hy
 ·obtain⟨v,hv',hy'⟩:=CR.1 c;rcases j4.1 hv' with d|d
  ·exact h.dj y hy (CR.2 ⟨v,d,hy'⟩)
  ·rw[yZ.1 d]at hy';have:=hnn y hy';have:=h.hf.lt y hy;omega
 ·rcases hg y hy with d|d
  ·exact h.ge.2.2.1 y d
  ·omega
 ·obtain⟨v,hv',hy'⟩:=CR.1 hy;rcases j4.1 hv' with d|d
  ·exact h.ge.2.2.2.2 y (CR.2 ⟨v,d,hy'⟩)
  ·rw[yZ.1 d]at hy';have:=hnn y hy';omega
def WM(hA:CT Z W w cf p g)(ok:C8 g)(hi:E8 Z W w x b b2)(ht:x.t=t)(htl:t<g.th.length)(h0:0<=x.i/\0<=x.f/\0<=x.j)(hh:g.hands x=0)(hkd:x.kd=10)(hk:∀w',CT Z W w' cf p { g with nd:=g.nd.set ((g.held x.t).getD x.i.toNat (0,0)).2.toNat ((g.node ((g.held x.t).getD x.i.toNat (0,0)).2).set x.f.toNat ((g.held x.t).getD x.j.toNat (0,0))) }->K (Cg BZ.ok) w'):F38.k15 K (vr (vz ⟨p,0,v6⟩)) (vr (vz ⟨b,0,v6⟩)) (vr (vz ⟨b2,0,v6⟩)) w:=by
 obtain⟨v,hv,hv2,hvf⟩:=Lf hh (wh (wg hkd));have hvf:=hvf (by omega);have hj':=O6 hh (wg hkd);rw[ht]at hk;rw[ht,BR.held_eq htl]at hv hj';have hil:x.i.toNat<g.th[t].2.length:=(xI.1 hv).1;have hjl:x.j.toNat<g.th[t].2.length:=by omega
 have hve:g.th[t].2[x.i.toNat]=v:=(xI.1 hv).2;rw[BR.held_eq htl,xC,hv,xC,xO hjl]at hk;simp only[d8]at hk;have hrf:=(ok.th _ (zW htl)).2 _ (zW hil) (by rw[hve];exact hv2);rw[hve]at hrf;rw[BR.node_eq hrf.2]at hvf hk;have hfl:x.f.toNat<g.nd[v.2.toNat].length:=by omega
 obtain⟨f0,tv,nv,hs,ns,h⟩:=id hA;have hlen:=h.lens;have hth':t<hs.length:=by omega
 have hnl:v.2.toNat<ns.length:=by omega
 refine F38.k15.to ?_;simp only[zv];refine Ac (v:=vq vy x.kd) hi.st rfl ?_;simp only[zv,vl,hkd];refine A8 (λw'=>Fr [] w w') λw1 hf1 _=>⟨hf1,?_⟩;refine h.s10 ?_;refine Aq (v:=vq vy x.t) (λw' hw=>⟨_,_,_,hw.at_ hi.st (by simp),rfl⟩) ?_;rw[ht];refine h.idxT hf1 htl hth' λb' o' hr=>?_
 try simp only[Ah]
 refine Aq (v:=hs[t]) (λw' hw=>by obtain⟨cs,e,fz,a1,_,a2⟩:=hr w' hw;exact⟨cs,e,fz,a1,a2⟩) ?_;have h1:=h.keep0 hf1;have hi1:=hi.keep0 hf1;have ho1:=h1.heldO htl hth';have hno1:=h1.nodeO hrf.2 hnl;refine A8 (λw'=>Fr (BM ns[v.2.toNat]) w1 w') λw2 hf2 _=>⟨hf2.w,?_⟩;have hon:∀y∈BM hs[t],y∉BM ns[v.2.toNat]:=λy hy c=>h.dj y (CH hth' hy) (CH hnl c)
 have bst:∀w',Fr (BM ns[v.2.toNat]) w1 w'->w'.heap[b]?=vz (wj (C5 x).cells 40 (0,0)):=λw' hw=>hw.at_ hi1.st (hno1.nb hi1.st (by decide));have hrd:∀w',Fr (BM ns[v.2.toNat]) w1 w'->Cq w' hs[t] 2 (Ck g.th[t].2):=λw' hw=>(ho1.keep' hw hon).rd;refine Aq (v:=nv) (λw' hw=>⟨_,_,_,hw.at_ h1.blk (hno1.nb h1.blk (by decide)),by simp[C9]⟩) ?_;refine Aq (v:=vq vy x.i) (λw' hw=>⟨_,_,_,bst w' hw,rfl⟩) ?_
 refine AV (S:=λw'=>Fr (BM ns[v.2.toNat]) w1 w') hrd hf2.w h0.1 (Dr hil) λg5 o5 hl5 hs5=>?_
 try simp only[Ah]
 refine Aq (v:=vq vy v.2) (λw' hw=>by obtain⟨cs,e,fz,a1,a2⟩:=hs5 w' hw;exact⟨cs,e,fz,a1,by have:=a2 1 (by decide);rw[hve]at this;simpa using this⟩) ?_;refine AV (S:=λw'=>Fr (BM ns[v.2.toNat]) w1 w') (λw' hw=>(h1.nd.keep' hw (h1.nd.ne hno1 (by decide))).rd) hf2.w hrf.1 (HU hnl) λg6 o6 hl6 hs6=>?_
 refine Aq (v:=ns[v.2.toNat]) (λw' hw=>by obtain⟨cs,e,fz,a1,a2⟩:=hs6 w' hw;exact⟨cs,e,fz,a1,by simpa using a2 0 (by decide)⟩) ?_;refine Aq (v:=vq vy x.f) (λw' hw=>⟨_,_,_,bst w' hw,rfl⟩) ?_;refine Aq (v:=vq vy x.j) (λw' hw=>⟨_,_,_,bst w' hw,rfl⟩) ?_;refine AV (S:=λw'=>Fr (BM ns[v.2.toNat]) w1 w') hrd hf2.w h0.2.2 (Dr hjl) λg7 o7 hl7 hs7=>Bc hl7 (by decide) hs7 ?_;have h2:=h1.keep0 hf2
 simp only[and_true];refine Bi (x:=vx #[vq vy g.th[t].2[x.j.toNat].1,vq vy g.th[t].2[x.j.toNat].2]) (h2.nodeO hrf.2 hnl) h0.2.1 (by rw[Cr];exact hfl) rfl (by simp[wc.cells,wc.oneCell']) λw3 ho3 hf3 hz3=>⟨hf2.w.trans hf3,?_⟩;have e:(Ck g.nd[v.2.toNat]).set x.f.toNat (wc.cells (vx #[vq vy g.th[t].2[x.j.toNat].1,vq vy g.th[t].2[x.j.toNat].2])).toList=Ck (g.nd[v.2.toNat].set x.f.toNat g.th[t].2[x.j.toNat]):=by rw[OS];rfl
 rw[e]at ho3;have h3:=h2.setN hrf.2 hnl hf3 ho3;have f3:Fr (BM ns[v.2.toNat]) w w3:=(hf1.trans hf2).w.trans hf3;have hi3:E8 Z W w3 x b b2:=⟨hi.zq,bst w3 (hf2.w.trans hf3),f3.at_ hi.an ((h.nodeO hrf.2 hnl).nb hi.an (by decide)),hi.lo⟩;exact NY ⟨f0.then f3 (λq hq=>wh (h.ge.2.2.2.2 q (CH hnl hq))) (Du.fr f3 λq cs hq=>(h.nodeO hrf.2 hnl).nb hq (by decide)),tv,nv,hs,ns,h3⟩ hi3 (by omega) hk
def X9(hA:CT Z W w cf p g)(ok:C8 g)(hi:E8 Z W w x b b2)(ht:x.t=t)(htl:t<g.th.length)(hh:g.hands x=0)(hkd:x.kd=8)(hk:∀w',CT Z W w' cf p { g with th:=g.th.set x.t.toNat (g.live x.t,(g.held x.t).dropLast) }->K (Cg ⟨0,((g.held x.t).getLastD (0,0)).1,((g.held x.t).getLastD (0,0)).2,0,0⟩) w'):F38.k10 K (vr (vz ⟨p,0,v6⟩)) (vr (vz ⟨b,0,v6⟩)) (vr (vz ⟨b2,0,v6⟩)) w:=by
 have hne:=UM hh hkd;rw[ht,BR.held_eq htl]at hne hk;rw[BR.live_eq htl,zE]at hk;have hl16:=(ok.th _ (zW htl)).1;have hpl:g.th[t].2.length-1<g.th[t].2.length:=by omega
 have elast:g.th[t].2.getLastD (0,0)=g.th[t].2[g.th[t].2.length-1]:=by rw[List.getLastD_eq_getLast?,List.getLast?_eq_getElem?,xO hpl];rfl
 rw[elast]at hk;obtain⟨f0,tv,nv,hs,ns,h⟩:=id hA;have hlen:=h.lens;have hth':t<hs.length:=by omega
 obtain⟨A,c,eh,hle,hAn⟩:=(h.heldO htl hth').cap;rw[Cr]at eh hle;refine F38.k10.to ?_;simp only[zv];refine Ac (v:=vq vy x.kd) hi.st rfl ?_;simp only[zv,vl,hkd];refine A8 (λw'=>Fr [] w w') λw1 hf1 _=>⟨hf1,?_⟩;refine h.s10 ?_;refine Aq (v:=vq vy x.t) (λw' hw=>⟨_,_,_,hw.at_ hi.st (by simp),rfl⟩) ?_;rw[ht];refine h.idxT hf1 htl hth' λb' o' hr=>?_
 try simp only[Ah]
 refine Aq (v:=hs[t]) (λw' hw=>by obtain⟨cs,e,fz,a1,_,a2⟩:=hr w' hw;exact⟨cs,e,fz,a1,a2⟩) ?_;have h1:=h.keep0 hf1;have hi1:=hi.keep0 hf1;have ho1:=h1.heldO htl hth';have e1:∀w0:wd,IntKind.i64.wrap ((g.th[t].2.length:Int)-1)=((g.th[t].2.length-1:Nat):Int):=λ_=>by rw[BN (by omega)];omega
 refine AK ho1.rd ?_;rw[Cr]
 try simp only[AO]
 rw[e1 w];refine AS ho1.rd (by omega) (by rw[zE];exact Dr hpl) λg3 o3 cs3 e3 fz3 hg3 hl3 hs3=>Bt (x:=[vq vy g.th[t].2[g.th[t].2.length-1].1,vq vy g.th[t].2[g.th[t].2.length-1].2]) hg3 rfl (by omega) hs3 (Ay λbx w2 hn2=>?_);have l2:=hn2.is;have s1:=hf1.size;refine AB (x:=vx #[vq vy g.th[t].2[g.th[t].2.length-1].1,vq vy g.th[t].2[g.th[t].2.length-1].2]) hn2.at_ rfl (by simp[wc.cells,wc.oneCell']) rfl λw3 hu3=>?_
 have f3:Fr [] w w3:=(hf1.trans hn2.fr).then hu3.fr (by simp;omega);have h3:=h.keep0 f3;have hi3:=hi.keep0 f3;have ho3:=h3.heldO htl hth';refine A8 (λw'=>Fr (BM tv) w3 w') λw4 hf4 _=>⟨hf4.w,?_⟩;have h4:=h3.keep0 hf4;have ho4:=h4.heldO htl hth'
 try simp only[zv]
 refine AK ho4.rd ?_;rw[Cr]
 try simp only[AO]
 rw[e1 w];refine Aq (v:=tv) (λw' hw=>⟨_,_,_,hw.at_ h3.blk (h3.th.nb h3.blk (by decide)),by simp[C9]⟩) ?_;refine Aq (v:=vq vy x.t) (λw' hw=>⟨_,_,_,hw.at_ hi3.st (h3.th.nb hi3.st (by decide)),rfl⟩) ?_;rw[ht];have hsl:∀w':wd,(Instr.sliceAt 56 hs[t] v6 (vz (vq vy ((g.th[t].2.length-1:Nat):Int))) v6).run vp w'=.ok (vt A (g.th[t].2.length-1) c) w':=λw'=>by
  rw[eh];have:=F4 (P:=vp) (w:=w') (t:=56) (e:=60) (sz:=2) A g.th[t].2.length c vy ((g.th[t].2.length-1:Nat):Int) Tryz.underlying56 (by kernel_rfl) (by omega) (by omega);rw[zE]at this;exact this
 refine⟨_,λw' _=>hsl w',?_⟩;have hnew:BO w4 (vt A (g.th[t].2.length-1) c) 60 2 (Ck g.th[t].2.dropLast):=by
  have:=ho4;rw[eh]at this;have:=this.take (g.th[t].2.length-1) (by omega) (λe=>by have:=hAn e;rw[<-Cr,this]at hne;simp at hne);have e:(Ck g.th[t].2).take (g.th[t].2.length-1)=Ck g.th[t].2.dropLast:=by unfold Ck;rw[<-List.map_take,List.dropLast_eq_take]
  rw[e]at this;exact this
 simp only[and_true];refine B9 (P:=vp) (f:=1) h4.th (by omega) (by rw[zE];exact Lu htl hth') (by decide) rfl rfl λw5 ho5 hf5 hz5=>?_;have e5:(FU g.th hs).set (t:Int).toNat (([vw g.th[t].1,hs[t]]:List wc).set 1 (vt A (g.th[t].2.length-1) c))=FU (g.th.set t (g.th[t].1,g.th[t].2.dropLast)) (hs.set t (vt A (g.th[t].2.length-1) c)):=by rw[Lv,zE];rfl
 rw[e5]at ho5;have h5:=h4.setH (b:=g.th[t].1) htl hnew (λy hy=>wg (by
  rw[xC,xO hth'];simp only[d8];rw[eh];cases A with
  | none=>simp[BM,wc.ownBlock]at hy
  | some a=>simpa[BM,wc.ownBlock] using hy)) hf5 ho5
 have f5:Fr (BM tv) w w5:=(f3.trans hf4).w.trans hf5;have hx5:w5.heap[bx]?=vz (wj #[vq vy g.th[t].2[g.th[t].2.length-1].1,vq vy g.th[t].2[g.th[t].2.length-1].2] 60 (0,0)):=hf5.at_ (hf4.at_ hu3.at_ (by simp)) λc=>by have:=h.th.mem_lt bx c;omega
 have hi5:E8 Z W w5 x b b2:=⟨hi.zq,f5.at_ hi.st (h.th.nb hi.st (by decide)),f5.at_ hi.an (h.th.nb hi.an (by decide)),hi.lo⟩;have hA5:CT Z W w5 cf p { g with th:=g.th.set t (g.th[t].1,g.th[t].2.dropLast) }:=⟨f0.then f5 (λq hq=>wh (h.ge.2.1 q hq)) (Du.fr f5 λq cs hq=>h.th.nb hq (by decide)),tv,nv,_,ns,h5⟩;refine⟨hf4.w.trans hf5,?_⟩;refine Ac (v:=vq vy g.th[t].2[g.th[t].2.length-1].1) hx5 rfl ?_
 refine Ac (v:=vq vy g.th[t].2[g.th[t].2.length-1].2) hx5 rfl ?_;exact A7 (TG _ _) (HK hA5 hi5 hk)
end
def DM.mono{n m:Nat}{v:V2}(h:DM n v)(hm:n<=m):DM m v:=λe=>by have:=h e;omega
def DM.plain{n:Nat}{v:V2}(h:v.1≠2):DM n v:=λe=>absurd e h
section
variable{cf:Cf}{g:BR}{x:BY}
def C8.add(ok:C8 g){n:Nat}(hn:n<=127):C8 { g with nd:=g.nd++[List.replicate n (0,0)] }:=by
 refine⟨λr hr=>⟨(ok.th r hr).1,λv hv=>((ok.th r hr).2 v hv).mono (by simp)⟩,λl hl=>?_,by simp⟩;rcases j4.1 hl with c|c
 ·exact⟨(ok.nd l c).1,λv hv=>((ok.nd l c).2 v hv).mono (by simp)⟩
 ·rw[yZ.1 c];refine⟨by simpa using hn,λv hv=>?_⟩;rw[xN hv];exact DM.plain (show (0:Int)≠2 by decide)
def C8.setTh(ok:C8 g){t:Nat}{r:Bool × List V2}(h1:r.2.length<=16)(h2:∀v∈r.2,DM g.nd.length v):C8 { g with th:=g.th.set t r }:=by
 refine⟨λq hq=>?_,ok.nd,ok.ne⟩;rcases xK hq with c|rfl
 ·exact ok.th q c
 ·exact⟨h1,h2⟩
def C8.held(ok:C8 g)(t:Int):(g.held t).length<=16/\∀v∈g.held t,DM g.nd.length v:=by
 unfold BR.held;rw[xC];cases h:g.th[t.toNat]? with
 | none=>exact⟨by simp,λv hv=>by cases hv⟩
 | some r=>exact ok.th r (yN h)
def C8.node(ok:C8 g)(n:Int):(g.node n).length<=127/\∀v∈g.node n,DM g.nd.length v:=by
 unfold BR.node;rw[xC];cases h:g.nd[n.toNat]? with
 | none=>exact⟨by simp,λv hv=>by cases hv⟩
 | some r=>exact ok.nd r (yN h)
def C8.at_{l:List V2}{n:Nat}(h:∀v∈l,DM n v)(i:Nat):DM n (l.getD i (0,0)):=by
 rw[xC];cases e:l[i]? with
 | none=>exact DM.plain (show (0:Int)≠2 by decide)
 | some v=>exact h v (yN e)
def C8.hold(ok:C8 g){t:Int}(hn:(g.held t).length<16){v:V2}(hv:DM g.nd.length v):C8 (g.hold t v).1:=by
 unfold BR.hold;refine ok.setTh (by simp;omega) λu hu=>?_;rcases j4.1 hu with c|c
 ·exact (ok.held t).2 u c
 ·rw[yZ.1 c];exact hv
def MQ(h:g.hands x=0)(hk:3<=x.kd/\x.kd<=7∨x.kd=9):(g.held x.t).length<16:=by
 unfold BR.hands at h;rw[vm (by omega)]at h;split at h
 ·rename_i e;exact absurd h e.2
 split at h
 ·cases h
 by_cases c:16<=(g.held x.t).length
 ·rw[vn ⟨by omega,c⟩]at h;cases h
 ·omega
def Rt(h:x.nums cf=0)(hk:x.kd=3):0<=x.n/\x.n<=127:=by
 unfold BY.nums at h;by_cases c:x.n<0∨127<x.n∨x.cost<1∨cf.quantum<x.cost
 ·rw[vn (wg ⟨hk,c⟩)]at h;cases h
 ·omega
def C8.doS(ok:C8 g)(hc:g.code cf x=0):C8 (g.doS x).1:=by
 obtain⟨_,_,hn,hh⟩:=QJ hc;unfold BR.doS;by_cases c1:x.kd=1
 ·rw[vn c1];exact ok.setTh (by simp) λv hv=>by cases hv
 rw[vm c1];by_cases c2:x.kd=2
 ·rw[vn c2];exact ok.setTh (by simp) λv hv=>by cases hv
 rw[vm c2];by_cases c3:x.kd=3
 ·rw[vn c3];have h3:=Rt hn c3;have hl:=MQ hh (wg (by omega));refine (ok.add (n:=x.n.toNat) (by omega)).hold hl λ_=>?_;simp
 rw[vm c3];by_cases c4:4<=x.kd/\x.kd<=7∨x.kd=9
 ·rw[vn c4];refine ok.hold (MQ hh (by omega)) ?_;unfold BR.pushed;split
  ·exact DM.plain (show (1:Int)≠2 by decide)
  split
  ·exact λ_=>⟨by simp,by have:=ok.ne;simp;omega⟩
  split
  ·exact C8.at_ (ok.held x.t).2 _
  split
  ·exact C8.at_ (ok.node _).2 _
  ·exact DM.plain (show (0:Int)≠2 by decide)
 rw[vm c4];by_cases c8:x.kd=8
 ·rw[vn c8];have:=ok.held x.t;exact ok.setTh (by simp;omega) λv hv=>this.2 v (yK _ hv)
 rw[vm c8];by_cases c10:x.kd=10
 ·rw[vn c10];refine⟨λr hr=>⟨(ok.th r hr).1,λv hv=>by simpa using (ok.th r hr).2 v hv⟩,λl hl=>?_,by simpa using ok.ne⟩;simp only[i8];rcases xK hl with c|rfl
  ·exact ok.nd l c
  ·have hnd:=ok.node ((g.held x.t).getD x.i.toNat (0,0)).2;refine⟨by simpa using hnd.1,λv hv=>?_⟩;rcases xK hv with c|rfl
   ·exact hnd.2 v c
   ·exact C8.at_ (ok.held x.t).2 _
 rw[vm c10];split
 ·exact ok
 split
 ·exact ok
 ·exact ok
def C8.step(ok:C8 g)(no:Int):C8 (g.step cf x no).1:=by
 unfold BR.step;split
 ·exact ok
 rename_i hc;split
 ·exact ok
 ·exact ok.doS (cf:=cf) (by omega)
def C8.new(cf:Cf):C8 (BR.new cf):=by
 refine⟨λr hr=>?_,λl hl=>?_,by simp[BR.new]⟩
 ·rw[xN hr];exact⟨by simp,λv hv=>by cases hv⟩
 ·have:l=List.replicate 4 (0,0):=by simpa[BR.new] using hl
  subst this;refine⟨by simp,λv hv=>?_⟩;rw[xN hv];exact DM.plain (show (0:Int)≠2 by decide)
end
section
variable{K:VK}{Z:ZT}{W w:wd}{cf:Cf}{lo p b b2:Nat}{tv nv:wc}{hs ns:List wc}{g g':BR}{x:BY}{t:Nat}
def XG(n:Int):(Instr.build 60 #[(0,vq vy 2),(1,vq vy n)]).run vp w=.ok (vx #[vq vy 2,vq vy n]) w:=by kernel_rfl
def WP(hA:CT Z W w cf p g)(ok:C8 g)(hi:E8 Z W w x b b2)(ht:x.t=t)(htl:t<g.th.length)(hn:g.nd.length<=100000)(hk:∀w',CT Z W w' cf p (g.hold (t:Int) (2,((g.nd.length-1:Nat):Int))).1->K (Cg (g.hold (t:Int) (2,((g.nd.length-1:Nat):Int))).2) w'):
  F38.k7 K (vr (vz ⟨p,0,v6⟩)) (vr (vz ⟨b,0,v6⟩)) (vr (vz ⟨b2,0,v6⟩)) w:=by
 obtain⟨f0,tv,nv,hs,ns,h⟩:=id hA;have hlen:=h.lens;have hbb:b≠b2:=λe=>by
  have h1:=hi.st;rw[e,hi.an]at h1;simp only[zM,Obj.cells.injEq]at h1;exact absurd h1.2.1 (by decide)
 have hpb:p≠b2:=λe=>by
  have h1:=h.blk;rw[e,hi.an]at h1;simp only[zM,Obj.cells.injEq]at h1;exact absurd h1.2.1 (by decide)
 refine F38.k7.to (A8 (λw'=>w'.heap[b]?=vz (wj (C5 x).cells 40 (0,0))/\w'.heap[p]?=vz (wj (C9 cf++[tv,nv]).toArray 79 (0,0))) λw1 hf1 _=>⟨⟨hf1.at_ hi.st (by simp),hf1.at_ h.blk (by simp)⟩,?_⟩);have hA1:=hA.keep0 hf1;have hi1:=hi.keep0 hf1;have h1:=h.keep0 hf1;simp only[Ah,An,uy,and_true];refine Aq (v:=vq vy x.t) (λw' hw=>⟨_,_,_,hw.1,rfl⟩) ?_;rw[ht]
 refine Aq (v:=nv) (λw' hw=>⟨_,_,_,hw.2,by simp[C9]⟩) ?_;refine AK h1.nd.rd ?_;rw[Gc];have ne:=ok.ne;simp only[AO];rw[BN (by omega),show (ns.length:Int)-1=((g.nd.length-1:Nat):Int) by omega];refine⟨vx #[vq vy 2,vq vy ((g.nd.length-1:Nat):Int)],λw' _=>XG _,?_⟩;refine Og hA1 ok htl (2,((g.nd.length-1:Nat):Int)) λw3 hA3 ht3=>⟨⟨(hi1.tf ht3).st,ht3 _ _ _ _ h1.blk (by decide)⟩,?_⟩;have hi3:=hi1.tf ht3
 have hp3:=ht3 _ _ _ _ h1.blk (by decide);exact AB (x:=Cg (g.hold (t:Int) (2,((g.nd.length-1:Nat):Int))).2) hi3.an rfl CU rfl λw4 hu4=>⟨⟨hu4.fr.at_ hi3.st (by simp[hbb]),hu4.fr.at_ hp3 (by simp[hpb])⟩,A5 hu4.at_ rfl (hk w4 (hA3.nl hi3.an (by decide) hu4.fr hi3.lo.2 (Du.upd hi3.an hu4.fr hu4.at_ rfl λQ hq=>hi3.zq Q hq _)))⟩
end
section
variable{K:VK}{Z:ZT}{W w:wd}{cf:Cf}{lo p b b2:Nat}{tv nv:wc}{hs ns:List wc}{g g':BR}{x:BY}{t:Nat}
def K7{m:Nat}(hm:m<=1000)(hk:∀q w',Fr [] w w'->w.heap.size<=q->BO w' (vt (vz ⟨q,0,v6⟩) m m) 60 2 (Ck (List.replicate m (0,0)))->K (vt (vz ⟨q,0,v6⟩) m m) w'):
  Am vp (Instr.makeSlice 56 (vq vy (m:Int)) (vq vy (m:Int))) w K:=by
 refine Be (P:=vp) (e:=60) (sz:=2) (bytes:=16) (z:=vx #[vq vy 0,vq vy 0]) m Tryz.underlying56 (by kernel_rfl) rfl (by decide) (by simp[wc.cells,wc.oneCell']) (by omega) (by omega) λq w1 hn ho=>?_;refine hk q w1 hn.fr (by have:=hn.is;omega) ?_;have e:List.replicate m (wc.cells (vx #[vq vy 0,vq vy 0])).toList=Ck (List.replicate m (0,0)):=by unfold Ck;rw[List.map_replicate];rfl
 rw[e]at ho;exact ho
def MD{A:Option Addr}{n c:Nat}(hk:∀nsl w',Fr [] w w'->Cq w' nsl 1 [[vt A n c]]->K nsl w'):Am vp (Instr.buildSlice 43 1 #[(0,vt A n c)]) w K:=by have hn:=Dz.mk' w (wj #[vt A n c] 56);refine A7 (TH A n c) (hk _ _ hn.fr ?_);exact Cq.of_block hn.at_ rfl (by decide) (by decide) (by simp) rfl
def X8(hA:CT Z W w cf p g)(ok:C8 g)(hi:E8 Z W w x b b2)(ht:x.t=t)(htl:t<g.th.length)(hkd:x.kd=3)(hnum:x.nums cf=0)(hnl:g.nd.length<=90000)(hk:∀w',CT Z W w' cf p (BR.hold { g with nd:=g.nd++[List.replicate x.n.toNat (0,0)] } (t:Int) (2,(g.nd.length:Int))).1->K (Cg (BR.hold { g with nd:=g.nd++[List.replicate x.n.toNat (0,0)] } (t:Int) (2,(g.nd.length:Int))).2) w'):
  F38.k5 K (vr (vz ⟨p,0,v6⟩)) (vr (vz ⟨b,0,v6⟩)) (vr (vz ⟨b2,0,v6⟩)) w:=by
 have h3:=Rt hnum hkd;obtain⟨m,hm⟩:=xQ h3.1;have hm127:m<=127:=by omega
 rw[hm,zE]at hk;obtain⟨f0,tv,nv,hs,ns,h⟩:=id hA;have hlen:=h.lens;have hlo:=f0.size;refine F38.k5.to ?_;simp only[zv];refine Ac (v:=vq vy x.kd) hi.st rfl ?_;simp only[zv,vl,hkd];have hbp:∀(q:Nat) (cs:Array wc) (e:TypeId) (fz:Nat × Nat),w.heap[q]?=vz (wj cs e fz)->e≠79->e≠56->q∉p::BM nv:=λq cs e fz hq h1 h2 c=>by
  rcases un.1 c with rfl|c
  ·rw[h.blk]at hq;simp only[zM,Obj.cells.injEq]at hq;exact h1 hq.2.1.symm
  ·exact h.nd.nb hq (vk h2) c
 refine A8 (λw'=>Fr (p::BM nv) w w') λw1 hf1 _=>⟨hf1.w,?_⟩;simp only[and_true];refine Aq (v:=vq vy x.n) (λw' hw=>⟨_,_,_,hw.at_ hi.st (hbp _ _ _ _ hi.st (by decide) (by decide)),rfl⟩) ?_;rw[hm];have hp1:∀ {w':wd},Fr [] w w'->w'.heap[p]?=vz (wj (C9 cf++[tv,nv]).toArray 79 (0,0)):=λhf=>hf.at_ h.blk (by simp)
 have tail:∀(w5:wd) (q:Nat) (nsl:wc),Fr [] w w5->BO w5 (vt (vz ⟨q,0,v6⟩) m m) 60 2 (Ck (List.replicate m (0,0)))->w.heap.size<=q->Cq w5 nsl 1 [[vt (vz ⟨q,0,v6⟩) m m]]->
   Am vp (Builtin.append_ #[43,43] 43 #[nv,nsl]) w5 λx44 w25=>(Fr (p::BM nv) w w25/\Aj 1 (vr (vz ⟨p,11,v6⟩)) x44 w25 λw28=>(Fr (p::BM nv) w w28/\F38.k7 K (vr (vz ⟨p,0,v6⟩)) (vr (vz ⟨b,0,v6⟩)) (vr (vz ⟨b2,0,v6⟩)) w28)):=λw5 q nsl h5 ho hq hnsl=>by
  refine Bg (W0:=W) (e:=56) (sz:=1) (bytes:=24) (z:=vt v6 0 0) (xs:=E5 ns) (ys:=[[vt (vz ⟨q,0,v6⟩) m m]]) Tryz.underlying43 (by kernel_rfl) rfl (by decide) (f0.trans h5).fr (λy hy=>h.ge.2.2.1 y (Cl.2 hy)) (h.keep0 h5).nd hnsl (by simp[wc.oneCell']) (by rw[Gc];simp;omega) (by rw[Gc];simp;omega) λv' w6 a6 b6 c6 d6 e6=>?_;have g6:Fr (p::BM nv) w w6:=h5.w.trans (d6.mono λy hy=>List.mem_cons_of_mem _ hy)
  have hp6:w6.heap[p]?=vz (wj (C9 cf++[tv,nv]).toArray 79 (0,0)):=d6.at_ (hp1 h5) ((h.keep0 h5).nd.nb (hp1 h5) (by decide));refine⟨g6,AM hp6 c6.one.2 c6.one.1 (by simp[C9]) λw7 hu7=>?_⟩;have g7:Fr (p::BM nv) w w7:=g6.trans (hu7.fr.mono λy hy=>by rw[yZ.1 hy];simp);refine⟨g7,?_⟩;have ec:(C9 cf++[tv,nv]).toArray.setIfInBounds 11 v'=(C9 cf++[tv,v']).toArray:=by simp[C9]
  rw[ec]at hu7;have h7:=h.addN h5 ho (λy hy=>by simp[BM,wc.ownBlock]at hy;omega) hlo c6 d6 e6 hu7;have hA7:CT Z W w7 cf p { g with nd:=g.nd++[List.replicate m (0,0)] }:=⟨f0.then g7 (λy hy=>wh (by
   rcases un.1 hy with rfl|c
   ·exact h.ge.1
   ·exact h.ge.2.2.1 y c)) (Du.fr g7 λq cs hq=>hbp q _ _ _ hq (by decide) (by decide)),tv,v',hs,_,h7⟩
  have hi7:E8 Z W w7 x b b2:=⟨hi.zq,g7.at_ hi.st (hbp _ _ _ _ hi.st (by decide) (by decide)),g7.at_ hi.an (hbp _ _ _ _ hi.an (by decide) (by decide)),hi.lo⟩;refine WP hA7 (ok.add hm127) hi7 ht htl (by simp;omega) λw8 hA8=>?_;have el:(((g.nd++[List.replicate m (0,0)]).length-1:Nat):Int)=(g.nd.length:Int):=by simp
  simp only at hA8 ⊢;rw[el]at hA8 ⊢;exact hk w8 hA8
 refine⟨Ac (v:=nv) (hp1 hf1) (by simp[C9]) ⟨hf1.w,K7 (by omega) λq w2 hf2 hq ho=>⟨(hf1.trans hf2).w,MD λnsl w3 hf3 hr3=>⟨((hf1.trans hf2).trans hf3).w,?_⟩⟩⟩,K7 (by omega) λq w2 hf2 hq ho=>⟨(hf1.trans hf2).w,⟨Ac (v:=nv) (hp1 (hf1.trans hf2)) (by simp[C9]) ⟨(hf1.trans hf2).w,MD λnsl w3 hf3 hr3=>⟨((hf1.trans hf2).trans hf3).w,?_⟩⟩,MD λnsl w3 hf3 hr3=>⟨((hf1.trans hf2).trans hf3).w,Ac (v:=nv) (hp1 ((hf1.trans hf2).trans hf3)) (by simp[C9]) ⟨((hf1.trans hf2).trans hf3).w,?_⟩⟩⟩⟩⟩
 all_goals exact tail w3 q nsl ((hf1.trans hf2).trans hf3) (ho.keep hf3 (by simp)) (by have:=hf1.size;omega) hr3
def WV(hA:CT Z W w cf p g)(ok:C8 g)(hc:g.code cf x=0)(hnl:g.nd.length<=90000)(hk:∀w',CT Z W w' cf p (g.doS x).1->K (Cg (g.doS x).2) w'):I vp 38 #[vr (vz ⟨p,0,v6⟩),C5 x] w K:=by
 obtain⟨hch,hwho,hnum,hh⟩:=QJ hc;obtain⟨k0,k1,k2,k3,k4,k5⟩:=FG hch;obtain⟨t,ht⟩:=xQ k1;have htl:x.kd<16->t<g.th.length:=λh=>by have:=Xy hwho h;omega
 refine F38.sh (Ay λb w1 hn1=>Ay λb2 w2 hn2=>?_);have l1:=hn1.is;have l2:=hn2.is;have s1:=hn1.fr.size;have hW:=hA.1.size;have hA2:=hA.keep0 (hn1.fr.trans hn2.fr);have hi:E8 Z W w2 x b b2:=⟨λQ hq=>absurd (hA.1.lt hq) (by omega),hn2.fr.at_ hn1.at_ (by simp),hn2.at_,by omega,by omega⟩;simp only[Ah,uy];refine Ac (v:=vq vy x.kd) hi.st rfl ?_;unfold BR.doS at hk;by_cases c1:x.kd=1
 ·rw[vn c1,ht,zE]at hk;simp only[Ap,c1,decide_true,Ai,An];simpa only[Ah,uy] using X6 hA2 hi ht (htl (by omega)) c1 hk
 rw[vm c1]at hk;simp only[Ap,c1,u4,Ae];by_cases c2:x.kd=2
 ·rw[vn c2,ht,zE]at hk;exact X7 hA2 hi ht (htl (by omega)) c2 hk
 rw[vm c2]at hk;by_cases c13:12<x.kd
 ·rw[vm (by omega),vm (by omega),vm (by omega),vm (by omega),vm (by omega),vm (by omega)]at hk;exact PL hA2 hi (by omega) hk
 refine F38.k3.to ?_;simp only[Ah,uy];refine Ac (v:=vq vy x.kd) hi.st rfl ?_;simp only[Ap,c2,u4,Ae];by_cases c3:x.kd=3
 ·rw[vn c3,ht]at hk;exact X8 hA2 ok hi ht (htl (by omega)) c3 hnum hnl hk
 rw[vm c3]at hk;refine F38.k5.to ?_;simp only[Ah,uy];refine Ac (v:=vq vy x.kd) hi.st rfl ?_;simp only[Ap,c3,u4,Ae];by_cases c4:4<=x.kd/\x.kd<=7∨x.kd=9
 ·rw[vn c4,ht]at hk;exact WQ hA2 ok hi ht (htl (by omega)) ⟨k2,k3⟩ hh (by omega) hk
 rw[vm c4]at hk;have t8:F38.k10 K (vr (vz ⟨p,0,v6⟩)) (vr (vz ⟨b,0,v6⟩)) (vr (vz ⟨b2,0,v6⟩)) w2:=by
  by_cases c8:x.kd=8
  ·rw[vn c8]at hk;exact X9 hA2 ok hi ht (htl (by omega)) hh c8 hk
  rw[vm c8]at hk;refine F38.k10.to ?_;simp only[Ah,uy];refine Ac (v:=vq vy x.kd) hi.st rfl ?_;simp only[Ap,c8,u4,Ae];by_cases c10:x.kd=10
  ·rw[vn c10]at hk;exact WM hA2 ok hi ht (htl (by omega)) ⟨k2,k3,k4⟩ hh c10 hk
  rw[vm c10]at hk;refine F38.k15.to ?_;simp only[Ah,uy];refine Ac (v:=vq vy x.kd) hi.st rfl ?_;simp only[Ap,c10,u4,Ae];by_cases c11:x.kd=11
  ·rw[vn c11]at hk;exact WN hA2 ok hi ht (htl (by omega)) ⟨k2,k4⟩ hh c11 hk
  rw[vm c11,vn (by omega)]at hk;exact WO hA2 ok hi ht (htl (by omega)) k2 hh (by omega) hk
 refine F38.k8.to ?_;simp only[Ah,uy];refine Ac (v:=vq vy x.kd) hi.st rfl ?_;simp only[zv,ge_iff_le,show (4:Int)<=x.kd by omega];refine Ac (v:=vq vy x.kd) hi.st rfl ?_;simp only[zv,show ¬x.kd<=7 by omega];refine Ac (v:=vq vy x.kd) hi.st rfl ?_;simp only[zv,show ¬x.kd=9 by omega];exact t8
def Wg(e:Int):(Instr.build 38 #[(0,vq vy e)]).run vp w=.ok (Cg (BZ.err e)) w:=by kernel_rfl
def Us(hA:CT Z W w cf p g)(ok:C8 g)(hnl:g.nd.length<=90000)(no:Int)(hk:∀w',CT Z W w' cf p (g.step cf x no).1->K (Cg (g.step cf x no).2) w'):I vp 13 #[vr (vz ⟨p,0,v6⟩),C5 x,vq vy no] w K:=by
 refine F13.sh (Ay λb w1 hn1=>Ay λb2 w2 hn2=>?_);have l1:=hn1.is;have l2:=hn2.is;have s1:=hn1.fr.size;have hW:=hA.1.size;have hA2:=hA.keep0 (hn1.fr.trans hn2.fr);have hi:E8 Z W w2 x b b2:=⟨λQ hq=>absurd (hA.1.lt hq) (by omega),hn2.fr.at_ hn1.at_ (by simp),hn2.at_,by omega,by omega⟩;obtain⟨f2,tv,nv,hs,ns,h2⟩:=id hA2;refine A5 hi.st rfl (Up h2 ok λw3 hf3=>?_);have hi3:=hi.keep0 hf3;have hA3:=hA2.keep0 hf3
 unfold BR.step at hk;by_cases hc:g.code cf x=0
 rotate_left
 ·rw[vn hc]at hk;simp only[zv,vo,hc,zR];exact A7 (Wg _) (HK hA3 hi3 hk)
 rw[vm (λy=>y hc)]at hk;simp only[zv,vl,vo,hc,zQ];refine F13.k4.to ?_;simp only[zv];refine Ac (v:=vq vy x.kd) hi3.st rfl ?_;have do6:¬((x.kd=3∨x.kd=15∨x.kd=17)/\no≠0)->F13.k6 K (vr (vz ⟨p,0,v6⟩)) (vr (vz ⟨b,0,v6⟩)) (vr (vz ⟨b2,0,v6⟩)) w3:=λhno=>by
  rw[vm hno]at hk;have hA3':CT (λq Q=>Z q Q∨(q=b2/\Q=λ_=>True)) W w3 cf p g:=⟨⟨hA3.1.fr,λq Q hq=>hq.elim (hA3.1.z q Q) λe=>by rw[e.1,e.2];exact⟨_,hi3.an,rfl,trivial⟩⟩,hA3.2⟩;refine F13.k6.to (A5 hi3.st rfl (WV hA3' ok hc hnl λw4 hA4=>?_));obtain⟨cs,hq,hsz,_⟩:=hA4.1.z b2 _ (wh ⟨rfl,rfl⟩);have hA4':CT Z W w4 cf p (g.doS x).1:=⟨⟨hA4.1.fr,λq Q hq=>hA4.1.z q Q (wg hq)⟩,hA4.2⟩
  exact AB (x:=Cg (g.doS x).2) hq rfl CU hsz λw5 hu5=>A5 hu5.at_ rfl (hk w5 (hA4'.nl hq (by decide) hu5.fr hi3.lo.2 (Du.upd hq hu5.fr hu5.at_ rfl λQ hq=>hi3.zq Q hq _)))
 have ans:(x.kd=3∨x.kd=15∨x.kd=17)->no≠0->Am vp (Instr.build 38 #[(0,vq vy no)]) w3 λx33 w15=>Aj 5 (vr (vz ⟨b2,0,v6⟩)) x33 w15 λw16=>Ak 5 (vr (vz ⟨b2,0,v6⟩)) w16 λr17 _=>K r17 w16:=λh1 h2=>by
  rw[vn ⟨h1,h2⟩]at hk;exact A7 (Wg _) (HK hA3 hi3 hk)
 by_cases h3:x.kd=3
 ·simp only[zv,vl,h3];by_cases hno:no=0
  ·simp only[zv,vl,vo,hno,zQ];exact do6 (λy=>y.2 hno)
  ·simp only[zv,vo,hno,zR];exact ans (wg h3) hno
 simp only[zv,h3];refine Ac (v:=vq vy x.kd) hi3.st rfl ?_;by_cases h15:x.kd=15
 ·simp only[zv,vl,h15];by_cases hno:no=0
  ·simp only[zv,vl,vo,hno,zQ];exact do6 (λy=>y.2 hno)
  ·simp only[zv,vo,hno,zR];exact ans (wh (wg h15)) hno
 simp only[zv,h15];refine Ac (v:=vq vy x.kd) hi3.st rfl ?_;by_cases h17:x.kd=17
 ·simp only[zv,vl,h17];by_cases hno:no=0
  ·simp only[zv,vl,vo,hno,zQ];exact do6 (λy=>y.2 hno)
  ·simp only[zv,vo,hno,zR];exact ans (wh (wh h17)) hno
 simp only[zv,h17];exact do6 (λy=>by omega)
end
def Ds(l:List Va):List Int:=(l.filter λx=>x.1 == 2).map Prod.snd
def X4(N:List Nd)(s:Int):Option Nat:=N.findIdx? λx=>x.1 == s
def Xu(V:Vw):List Int:=0::V.1.flatMap Ds
inductive RchN(V:Vw):Nat->Prop where
 | seed {s:Int} {i:Nat}:s∈Xu V->X4 V.2 s=vz i->RchN V i
 | step {j i:Nat} {nd:Nd} {s:Int}:RchN V j->V.2[j]?=vz nd->s∈Ds nd.2->X4 V.2 s=vz i->RchN V i
open Classical in
section
variable{K:VK}{w:wd}
def QC(l:List Bool)(j:Nat)(b:Bool):(CA l).set j [vw b]=CA (l.set j b):=by simp[CA,u6]
end
section
variable{K:VK}{w:wd}
end
section
variable{cf:Cf}{E:Int}{m:Ma}
def Hf(h:SI m.co.s){a:Nat}{ser:Int}{fs:List V2}(o:C7 m.co.s.c a ser fs):m.flds (a:Int)=fs:=by
 unfold Ma.flds;rw[(St.read_obj h.hi.ci o).1,zE];apply List.ext_getElem
 ·simp
 ·intro i h1 h2;simp only[zV,List.getElem_range];rw[St.get_obj h.hi.ci o (i:Int),vn (by omega),zE,xO h2]
theorem H8:∀(l:List V2) (out:List Int) (y:Int),y∈CO out l↔y∈out∨∃v∈l,v.1=2/\v.2=y
 | [],out,y=>by simp[CO]
 | v::l,out,y=>by
  have e:CO out (v::l)=CO (if v.1=2/\v.2∉out then out++[v.2] else out) l:=rfl;rw[e,H8 l];constructor
  ·rintro (h|⟨u,hu,h⟩)
   ·split at h
    ·rename_i hc;rcases j4.1 h with h|h
     ·exact wg h
     ·exact wh ⟨v,by simp,hc.1,(yZ.1 h).symm⟩
    ·exact wg h
   ·exact wh ⟨u,by simp[hu],h⟩
  ·rintro (h|⟨u,hu,h1,h2⟩)
   ·left;split
    ·exact j4.2 (wg h)
    ·exact h
   ·rcases un.1 hu with rfl|hu
    ·left;split
     ·exact j4.2 (wh (by simp[h2]))
     ·rename_i hc;apply xF;intro hn;exact hc ⟨h1,by rw[h2];exact hn⟩
    ·exact wh ⟨u,hu,h1,h2⟩
theorem Ja:∀(l:List V2) (out:List Int),∃r,CO out l=out++r
 | [],out=>⟨[],by simp[CO]⟩
 | v::l,out=>by
  have e:CO out (v::l)=CO (if v.1=2/\v.2∉out then out++[v.2] else out) l:=rfl;rw[e];obtain⟨r,hr⟩:=Ja l (if v.1=2/\v.2∉out then out++[v.2] else out);rw[hr];split
  ·exact⟨v.2::r,by simp⟩
  ·exact⟨r,rfl⟩
theorem LU(x:Ma):∀(d i:Nat) (out:List Int),∃r,x.rchGo d i out=out++r
 | 0,i,out=>⟨[],by simp[Ma.rchGo]⟩
 | d+1,i,out=>by
  unfold Ma.rchGo;split
  ·obtain⟨r,hr⟩:=LU x d (i+1) (CO out (x.flds (out.getD i 0)));obtain⟨r',hr'⟩:=Ja (x.flds (out.getD i 0)) out;rw[hr,hr'];exact⟨r'++r,by simp⟩
  ·exact⟨[],by simp⟩
theorem Np(x:Ma):∀(d i:Nat) (out:List Int),DD out->2050<=i+d->(∀j,j<i->j<out.length->∀v∈x.flds (out.getD j 0),v.1=2->v.2∈out)->∀a∈x.rchGo d i out,∀v∈x.flds a,v.1=2->v.2∈x.rchGo d i out
 | 0,i,out,h,hd,hc=>λa ha v hv h2=>by
  simp only[Ma.rchGo]at ha ⊢;obtain⟨j,hj,rfl⟩:=yS ha;have:=h.le;refine hc j (by omega) hj v ?_ h2;rw[xC,xO hj];exact hv
 | d+1,i,out,h,hd,hc=>λa ha v hv h2=>by
  unfold Ma.rchGo at ha ⊢;by_cases hi:i<out.length
  ·rw[vn hi]at ha ⊢;obtain⟨r,hr⟩:=Ja (x.flds (out.getD i 0)) out;refine Np x d (i+1) _ (h.note _ (Jv x _)) (by omega) (λj hj hjl u hu hu2=>?_) a ha v hv h2;have hjo:j<out.length:=by omega
   have e:(CO out (x.flds (out.getD i 0))).getD j 0=out.getD j 0:=by rw[hr,xC,xC,xH hjo]
   rw[e]at hu;rw[H8];by_cases hji:j=i
   ·subst hji;exact wh ⟨u,hu,hu2,rfl⟩
   ·exact wg (hc j (by omega) hjo u hu hu2)
  ·rw[vm hi]at ha ⊢;obtain⟨j,hj,rfl⟩:=yS ha;refine hc j (by omega) hj v ?_ h2;rw[xC,xO hj];exact hv
theorem Hq(x:Ma){y:Int}:∀n:Nat,y∈x.rchT n↔y=x.co.global∨∃t:Nat,t<n/\∃v∈x.co.roots (t:Int),v.1=2/\v.2=y
 | 0=>by simp[Ma.rchT]
 | n+1=>by
  rw[H9,H8,Hq x n];constructor
  ·rintro ((h|⟨t,ht,h⟩)|h)
   ·exact wg h
   ·exact wh ⟨t,by omega,h⟩
   ·exact wh ⟨n,by omega,h⟩
  ·rintro (h|⟨t,ht,h⟩)
   ·exact wg (wg h)
   ·by_cases e:t=n
    ·subst e;exact wh h
    ·exact wg (wh ⟨t,by omega,h⟩)
def OF(x:Ma){y:Int}(h:y∈x.rchT cf.threads.toNat):y∈x.rch cf:=by unfold Ma.rch;obtain⟨r,hr⟩:=LU x 2050 0 (x.rch0 cf);rw[hr];exact j4.2 (wg h)
def W8(x:Ma)(hr:EV x):∀a∈x.rch cf,∀v∈x.flds a,v.1=2->v.2∈x.rch cf:=
 Np x 2050 0 (x.rch0 cf) (HT x hr _) (by omega) λj hj=>absurd hj (by omega)
theorem Jd(x:Ma){P:Int->Prop}(hc:∀a,P a->∀v∈x.flds a,v.1=2->P v.2):∀(d i:Nat) (out:List Int),(∀a∈out,P a)->∀a∈x.rchGo d i out,P a
 | 0,i,out,h=>h
 | d+1,i,out,h=>by
  unfold Ma.rchGo;split
  ·rename_i hi;refine Jd x hc d (i+1) _ λa ha=>?_;rw[H8]at ha;rcases ha with ha|⟨v,hv,h2,rfl⟩
   ·exact h a ha
   ·refine hc _ (h (out.getD i 0) ?_) v hv h2;rw[xC,xO hi];exact zW hi
  ·exact h
def Gb(h:KI cf E m.co):∀a∈m.rch cf,∃n:Nat,a=n/\C0 m.co n:=by
 have hf:∀(a:Nat),C0 m.co a->∀v∈m.flds (a:Int),v.1=2->∃n:Nat,v.2=n/\C0 m.co n:=λa ka v hv h2=>by
  obtain⟨ser,fs,o,_⟩:=h.si.hi.obj a ka.1;rw[Hf h.si o]at hv;obtain⟨j,hj,rfl⟩:=yS hv;obtain⟨b,eb,_⟩:=Dq (o.fld j hj).1 h2;exact⟨b,by rw[eb],h.ni.cl a j b ka ⟨ser,fs,o,by rw[xO hj,eb]⟩⟩
 unfold Ma.rch;refine Jd m (P:=λa=>∃n:Nat,a=n/\C0 m.co n) (λa ⟨n,e,k⟩ v hv h2=>by subst e;exact hf n k v hv h2) 2050 0 _ λa ha=>?_;rcases (Hq m _).1 ha with rfl|⟨t,ht,v,hv,h2,rfl⟩
 ·have:=h.gn;exact⟨m.co.global.toNat,by omega,h.ni.gl _ (by omega)⟩
 ·unfold Co.roots at hv;split at hv
  ·rename_i hl;rw[zE]at hv;have g:=h.root hl hv;obtain⟨b,eb,_⟩:=Dq g.ok h2;exact⟨b,by rw[eb],g.kp b eb⟩
  ·cases hv
def UQ(h:KI cf E m.co){nd:Nd}(hn:nd∈(m.view cf).2):∃(a:Nat) (ser:Int) (fs:List V2),(a:Int)∈m.rch cf/\C7 m.co.s.c a ser fs/\nd=m.node (a:Int)/\nd.1=ser:=by unfold Ma.view at hn;simp only[uu]at hn;obtain⟨x,hx,rfl⟩:=hn;rw[(GP _ _).1.mem_iff]at hx;obtain⟨a,rfl,ka⟩:=Gb h x hx;obtain⟨ser,fs,o,_⟩:=h.si.hi.obj a ka.1;exact⟨a,ser,fs,hx,o,rfl,(St.read_obj h.si.hi.ci o).2⟩
end
inductive GR(g:BR):Int->Prop where
 | zero:GR g 0
 | held {r:Bool × List V2} {s:Int}:r∈g.th->s∈Ds r.2->GR g s
 | step {n s:Int}:GR g n->s∈Ds (g.node n)->GR g s
open Classical in
noncomputable def BR.view(g:BR):Vw:=(g.th.map Prod.snd,((List.range g.nd.length).filter λn:Nat=>decide (GR g (n:Int))).map λn:Nat=>((n:Int),g.node (n:Int)))
theorem OG{α : Type}{f : α -> Int}:∀ {l k:List α},(l.Pairwise λa b=>f a<f b)->(k.Pairwise λa b=>f a<f b)->(∀x,x∈l↔x∈k)->l=k
 | [],[],_,_,_=>rfl
 | [],b::k,_,_,h=>by have:=(h b).2 (by simp);cases this
 | a::l,[],_,_,h=>by have:=(h a).1 (by simp);cases this
 | a::l,b::k,hl,hk,h=>by
  obtain⟨l1,l2⟩:=zC.1 hl;obtain⟨k1,k2⟩:=zC.1 hk;have e:a=b:=by
   rcases un.1 ((h a).1 (by simp))with e|e
   ·exact e
   ·rcases un.1 ((h b).2 (by simp))with e'|e'
    ·exact e'.symm
    ·have:=l1 b e';have:=k1 a e;omega
  subst e;rw[OG l2 k2 λx=>?_];constructor
  ·intro hx;rcases un.1 ((h x).1 (by simp[hx]))with e|e
   ·subst e;have:=l1 x hx;omega
   ·exact e
  ·intro hx;rcases un.1 ((h x).2 (by simp[hx]))with e|e
   ·subst e;have:=k1 x hx;omega
   ·exact e
theorem HH:∀(l:List V2) {out:List Int},out.Nodup->(CO out l).Nodup
 | [],out,h=>h
 | v::l,out,h=>by
  have e:CO out (v::l)=CO (if v.1=2/\v.2∉out then out++[v.2] else out) l:=rfl;rw[e];refine HH l ?_;split
  ·rename_i hc;rw[zK];refine⟨h,by simp,λa ha b hb e=>hc.2 ?_⟩;rw[yZ.1 hb]at e;rw[<-e];exact ha
  ·exact h
theorem JH(x:Ma):∀(d i:Nat) {out:List Int},out.Nodup->(x.rchGo d i out).Nodup
 | 0,i,out,h=>h
 | d+1,i,out,h=>by
  unfold Ma.rchGo;split
  ·exact JH x d (i+1) (HH _ h)
  ·exact h
theorem KD(x:Ma):∀n:Nat,(x.rchT n).Nodup
 | 0=>by simp[Ma.rchT]
 | n+1=>by rw[H9];exact HH _ (KD x n)
def R4(cf:Cf)(x:Ma):(x.rch cf).Nodup:=JH x 2050 0 (KD x _)
def G5{l:List V2}{s:Int}:s∈Ds l↔(2,s)∈l:=by
 unfold Ds;rw[uu];constructor
 ·rintro⟨v,hv,rfl⟩;obtain⟨h1,h2⟩:=m7.1 hv;have:v.1=2:=by simpa using h2
  rw[<-this];exact h1
 ·intro h;exact⟨_,m7.2 ⟨h,by simp⟩,rfl⟩
def N0{s:St}{l:List V2}{y:Int}(h:(2,y)∈l.map (Cv s)):∃v∈l,v.1=2/\s.serial v.2=y:=by obtain⟨v,hv,e⟩:=uu.1 h;unfold Cv at e;have e1:v.1=2:=(uz.1 e).1;rw[vn e1]at e;exact⟨v,hv,e1,(uz.1 e).2⟩
section
variable{cf:Cf}{E:Int}{m:Ma}{g:BR}
def Lt(m:Ma)(l:List V2):m.sers l=l.map (Cv m.co.s):=rfl
def Cx.rows(s:Cx cf m.co g)(h:MJ cf E m):m.rowsV cf.threads.toNat=g.th.map Prod.snd:=by
 apply zF;intro t;unfold Ma.rowsV;rw[zH,zH];by_cases ht:t<cf.threads.toNat
 ·rw[List.getElem?_range ht,s.tv t ht];simp only[j8];rw[Lt];unfold Co.roots;rw[zE];cases hl:m.co.r.live (t:Int) with
  | true=>rw[vn rfl]
  | false=>rw[vm (by decide),h.c.k.lv t hl]
 ·rw[yC (by simp;omega),yC (by rw[s.tl];omega)];rfl
def Cx.row_in(s:Cx cf m.co g){t:Nat}(ht:t<cf.threads.toNat):(m.co.r.live (t:Int),(m.co.th.getD t []).map (Cv m.co.s))∈g.th:=yN (s.tv t ht)
def Cx.reach1(s:Cx cf m.co g)(h:MJ cf E m)(hz:GZ m.co):∀a∈m.rch cf,∃(n:Nat) (ser:Int) (fs:List V2),a=n/\C0 m.co n/\C7 m.co.s.c n ser fs/\GR g ser:=by
 have k:=h.c.k;unfold Ma.rch;refine Jd m (P:=λa=>∃(n:Nat) (ser:Int) (fs:List V2),a=n/\C0 m.co n/\C7 m.co.s.c n ser fs/\GR g ser) (λa ⟨n,ser,fs,e,kn,o,r⟩ v hv h2=>?_) 2050 0 _ λa ha=>?_
 ·subst e;rw[Hf k.si o]at hv;obtain⟨v1,j,ej⟩:=o.ok hv;obtain⟨b,rfl,_⟩:=Dq v1 h2;have kb:=k.ni.cl n j b kn ⟨ser,fs,o,ej⟩;obtain⟨sb,fb,ob,_⟩:=k.si.hi.obj b kb.1;refine⟨b,sb,fb,rfl,kb,ob,GR.step r (G5.2 ?_)⟩;rw[s.obj kn o, <-Eo k.si ob];exact uu.2 ⟨_,hv,rfl⟩
 ·rcases (Hq m _).1 ha with rfl|⟨t,ht,v,hv,h2,rfl⟩
  ·have:=k.gn;obtain⟨fs,o⟩:=hz;exact⟨m.co.global.toNat,0,fs,by omega,k.ni.gl _ (by omega),o,.zero⟩
  ·unfold Co.roots at hv;split at hv
   ·rename_i hl;rw[zE]at hv;have gv:=k.root hl hv;obtain⟨b,rfl,_⟩:=Dq gv.ok h2;have kb:=gv.kp b rfl;obtain⟨sb,fb,ob,_⟩:=k.si.hi.obj b kb.1;refine⟨b,sb,fb,rfl,kb,ob,GR.held (s.row_in ht) (G5.2 ?_)⟩;simp only;rw[<-Eo k.si ob];exact uu.2 ⟨_,hv,rfl⟩
   ·cases hv
def Cx.reach2(s:Cx cf m.co g)(h:MJ cf E m)(hz:GZ m.co)(hr:EV m){y:Int}(r:GR g y):∃(a:Nat) (fs:List V2),(a:Int)∈m.rch cf/\C7 m.co.s.c a y fs:=by
 have k:=h.c.k;have fin:∀(b:Nat),(b:Int)∈m.rch cf->∃(a:Nat) (fs:List V2),(a:Int)∈m.rch cf/\C7 m.co.s.c a (m.co.s.serial (b:Int)) fs:=λb hb=>by
  obtain⟨n,e,kn⟩:=Gb k _ hb;have:n=b:=by omega
  subst this;obtain⟨sb,fb,ob,_⟩:=k.si.hi.obj n kn.1;exact⟨n,fb,hb,by rw[(St.read_obj k.si.hi.ci ob).2];exact ob⟩
 induction r with
 | zero=>
  obtain⟨fs,o⟩:=hz;have:=k.gn;exact⟨m.co.global.toNat,fs,OF m ((Hq m _).2 (wg (by omega))),o⟩
 | @held r y hr' hs=>
  obtain⟨t,ht,rfl⟩:=yS hr';rw[s.tl]at ht;have e:=s.tv t ht;rw[xO (by rw[s.tl];exact ht)]at e;rw[j9 e]at hs;obtain⟨v,hv,h2,e2⟩:=N0 (G5.1 hs);have hl:m.co.r.live (t:Int)=v7:=by
   cases hl:m.co.r.live (t:Int) with
   | true=>rfl
   | false=>rw[k.lv t hl]at hv;cases hv
  have gv:=k.root hl hv;obtain⟨b,rfl,_⟩:=Dq gv.ok h2;rw[<-e2];refine fin b (OF m ((Hq m _).2 (wh ⟨t,ht,(2,(b:Int)),?_,rfl,rfl⟩)));unfold Co.roots;rw[vn hl,zE];exact hv
 | @step n y _ hs ih=>
  obtain⟨a,fs,ha,o⟩:=ih;obtain⟨n',e,kn⟩:=Gb k _ ha;have:n'=a:=by omega
  subst this;rw[s.obj kn o]at hs;obtain⟨v,hv,h2,e2⟩:=N0 (G5.1 hs);obtain⟨v1,j,ej⟩:=o.ok hv;obtain⟨b,rfl,_⟩:=Dq v1 h2;rw[<-e2];refine fin b (W8 m hr _ ha (2,(b:Int)) ?_ rfl);rw[Hf k.si o];exact hv
def Cx.ser_lt(s:Cx cf m.co g)(h:MJ cf E m){a:Nat}{y:Int}{fs:List V2}(o:C7 m.co.s.c a y fs):0<=y/\y.toNat<g.nd.length:=by have:=o.ser;have:=h.c.k.si.hi.ser_lt o;have:=s.nl;omega
def Cx.view(s:Cx cf m.co g)(h:MJ cf E m)(hz:GZ m.co)(hr:EV m):m.view cf=g.view:=by
 have k:=h.c.k;have e1:=s.rows h;have e2:(Em m.co.s.serial (m.rch cf)).map m.node=g.view.2:=by
  refine OG (f:=Prod.fst) ?_ ?_ λnd=>?_
  ·obtain⟨p1,p2⟩:=GP m.co.s.serial (m.rch cf);have hn:(Em m.co.s.serial (m.rch cf)).Nodup:=p1.nodup_iff.2 (R4 cf m);rw[List.pairwise_map];have hall:∀a∈Em m.co.s.serial (m.rch cf),a∈m.rch cf:=λa ha=>p1.mem_iff.1 ha;refine ((p2.and hn).imp_of_mem (R:=λa b=>m.co.s.serial a<=m.co.s.serial b/\a≠b) (S:=λa b=>(m.node a).1<(m.node b).1) fun {a b} ha hb ⟨x,y⟩=>?_)
   have:m.co.s.serial a≠m.co.s.serial b:=λe=>by
    obtain⟨i,rfl,ka⟩:=Gb k a (hall a ha);obtain⟨j,rfl,kb⟩:=Gb k b (hall b hb);obtain⟨s1,f1,o1,_⟩:=k.si.hi.obj i ka.1;obtain⟨s2,f2,o2,_⟩:=k.si.hi.obj j kb.1;rw[(St.read_obj k.si.hi.ci o1).2,(St.read_obj k.si.hi.ci o2).2]at e;subst e;exact y (by rw[k.si.hi.one i j _ _ _ o1 o2])
   unfold Ma.node;simp only;omega
  ·unfold BR.view;simp only;rw[List.pairwise_map];refine (List.pairwise_lt_range.filter _).imp fun {a b} hab=>?_;simp only;omega
  ·constructor
   ·intro hx;obtain⟨a,ser,fs,ha,o,e,e'⟩:=UQ (cf:=cf) k hx;obtain⟨n,ser',fs',en,kn,o',gr⟩:=s.reach1 h hz _ ha;have:n=a:=by omega
    subst this;obtain⟨rfl,rfl⟩:=o.same o';obtain⟨s0,s1⟩:=s.ser_lt h o;unfold BR.view;refine uu.2 ⟨ser.toNat,m7.2 ⟨n9.2 s1,?_⟩,?_⟩
    ·rw[yR s0];simpa using gr
    ·rw[yR s0,e];unfold Ma.node;rw[Lt,Hf k.si o,(St.read_obj k.si.hi.ci o).2,s.obj kn o]
   ·intro hx;unfold BR.view at hx;obtain⟨n,hn,rfl⟩:=uu.1 hx;obtain⟨_,gr⟩:=m7.1 hn;have gr:GR g (n:Int):=by simpa using gr
    obtain⟨a,fs,ha,o⟩:=s.reach2 h hz hr gr;obtain⟨n',e,kn⟩:=Gb k _ ha;have:n'=a:=by omega
    subst this;refine uu.2 ⟨(n':Int),(GP _ _).1.mem_iff.2 ha,?_⟩;unfold Ma.node;rw[Lt,Hf k.si o,(St.read_obj k.si.hi.ci o).2,s.obj kn o]
 unfold Ma.view;rw[e1,e2];rfl
end
end
end Go.Proofs.QV
