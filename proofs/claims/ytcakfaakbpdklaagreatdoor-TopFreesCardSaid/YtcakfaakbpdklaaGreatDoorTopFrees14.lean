/- Part 14 of what the law needs: own lemmas, in the order in which they build. -/
import Derived.Test.YtcakfaakbpdklaaGreatDoorProg
import Derived.Test.YtcakfaakbpdklaaGreatDoorTopFrees13
set_option linter.unusedSimpArgs false
set_option linter.unusedVariables false
set_option maxRecDepth 100000
namespace Go.Proofs.YtcakfaakbpdklaaGreatDoorV
open Go Go.Proofs
open Go.Proofs.Tryz renaming prog→y5c
open Go.IntKind renaming i64→j6
open Go.Value renaming int→y4w,tuple→y4z,bool→y5a
noncomputable section
variable {K:VK} {w:World} {x0 x1 x2 y0 y1 y2 y3 y4 y5 y6 y7 y8 y9 y11 y12 y13 y14 y15 y16 y18 y19 y20 y21 y32 y33 y34 y35 y36:Value}
namespace F16
def ann:Ann:=⟨[(4,[1,4])],[],[],[(4,(.take 0 (.take 2 (.take 7 (.take 12 (.take 1 (.take 3 (.take 4 (.take 8 (.take 11 (.go 5 (.go 6 (.go 9 (.take 10 (.take 13 (.go 14 (.take 15 (.take 16 .fin)) .fin))) .fin) .fin) .fin)))))))))))],none⟩
variable (K:VK) (y1 y4:Value) (w:World)
def k4:Prop:=nk ann 29 [(1,y1),(4,y4)] w [1,1,1] Tryz.f16 K
attribute [irreducible] k4
end F16
theorem F16.k4.to (h:(C.a9 w fun S a=>
 C.ab 1 y1 a fun b c=>
 C.ab 2 y1 c fun d f=>
 C.ab 5 y1 f fun g i=>
 C.aq S b i fun j k=>
 C.aq S d k fun m o=>
 C.bm S 10 y1 o fun p q=>
 C.aq S g q fun r s=>
 C.bm S 10 y1 s fun t u=>
 (C.i y5c 43 #[p] u fun v x=>
 (S x∧
 (C.i y5c 42 #[j,m,v] x fun y z=>
 (S z∧
 (C.i y5c 44 #[r] z fun aa ab=>
 (S ab∧
 ∃ac,(∀w',S w'→(Instr.build 94 #[(0,y),(1,aa)]).run y5c w' = .ok ac w')∧(∃ad,(∀w',S w'→(Instr.build 96 #[(0,ac),(1,t),(2,y4)]).run y5c w' = .ok ad w')∧((C.a3 (.cells (Value.cells ad) 96) ab fun ae af=>
 (S af∧
 K (y4z #[ae,(y4w j6 0)]) af))∧True))))∧True))∧True))∧True)):F16.k4 K y1 y4 w:=qq h
theorem F16.sh (h:(C.a3 (.cells (Value.cells x0) 23) w fun a b=>
 C.an 10 a b fun c d=>
 C.i y5c 41 #[c] d fun f g=>
 C.a1 0 f g fun i j=>
 C.a1 1 f j fun k m=>
 C.aj .neq k (y4w j6 0) m fun o p=>
 C.am o (K (y4z #[(.pointer none),k]) p) (F16.k4 K a i p))):C.i y5c 16 #[x0] w K:=q9 (A:=F16.ann) (args:=[x0]) (qq h)
namespace F17
def ann:Ann:=⟨[(3,[0,2]),(6,[0,2,3,15,16]),(8,[0,2,3,15,16]),(9,[0,2,3]),(11,[0,2,3,34,35,36]),(13,[0,2,3,34,35,36]),(14,[2,3])],[(5,[0,2,3,15,16]),(10,[0,2,3,34,35,36])],[],[(7,(.take 0 (.take 2 (.take 3 (.take 4 (.take 5 (.take 7 (.take 6 (.go 1 (.go 8 (.go 9 (.go 10 (.go 11 (.take 12 (.go 13 .fin .fin)) .fin) .fin) .fin) .fin) (.go 8 (.go 1 (.go 9 (.go 10 (.go 11 (.take 12 (.go 13 .fin .fin)) .fin) .fin) .fin) (.go 9 (.go 1 (.go 10 (.go 11 (.take 12 (.go 13 .fin .fin)) .fin) .fin) (.go 10 (.go 1 (.go 11 (.take 12 (.go 13 .fin .fin)) .fin) .fin) .fin)) .fin)) .fin)))))))))),(12,(.take 0 (.take 2 (.take 3 (.take 4 (.take 6 (.take 8 (.take 9 (.take 10 (.take 5 (.go 1 (.go 7 (.go 11 (.go 12 (.take 13 (.go 14 (.go 15 (.take 16 (.go 17 .fin .fin)) .fin) .fin)) .fin) .fin) .fin) (.go 7 (.go 1 (.go 11 (.go 12 (.take 13 (.go 14 (.go 15 (.take 16 (.go 17 .fin .fin)) .fin) .fin)) .fin) .fin) (.go 11 (.go 1 (.go 12 (.take 13 (.go 14 (.go 15 (.take 16 (.go 17 .fin .fin)) .fin) .fin)) .fin) (.go 12 (.take 13 (.go 1 (.go 14 (.go 15 (.take 16 (.go 17 .fin .fin)) .fin) .fin) (.go 14 (.go 1 (.go 15 (.take 16 (.go 17 .fin .fin)) .fin) .fin) .fin))) .fin)) .fin)) .fin))))))))))))],none⟩
variable (K:VK) (y0 y2 y3 y15 y16 y34 y35 y36:Value) (w:World)
def k3:Prop:=nk ann 59 [(0,y0),(2,y2)] w [1,1] Tryz.f17 K
def k9:Prop:=nk ann 59 [(0,y0),(2,y2),(3,y3)] w [1,1,1,1] Tryz.f17 K
def l5:Prop:=nl ann 59 [(0,y0),(2,y2),(3,y3),(15,y15),(16,y16)] w [1,1,1,0,1,0] Tryz.f17 K
def k6:Prop:=nk ann 59 [(0,y0),(2,y2),(3,y3),(15,y15),(16,y16)] w [1,1,1,0,1,0,0,1,1] Tryz.f17 K
def k8:Prop:=nk ann 59 [(0,y0),(2,y2),(3,y3),(15,y15),(16,y16)] w [1,1,1,0,1,0,0,1,1,1] Tryz.f17 K
def k14:Prop:=nk ann 59 [(2,y2),(3,y3)] w [1,1,1,1,1] Tryz.f17 K
def l10:Prop:=nl ann 59 [(0,y0),(2,y2),(3,y3),(34,y34),(35,y35),(36,y36)] w [1,1,1,1,0,1,0] Tryz.f17 K
def k11:Prop:=nk ann 59 [(0,y0),(2,y2),(3,y3),(34,y34),(35,y35),(36,y36)] w [1,1,1,1,0,1,0,0,1,1] Tryz.f17 K
def k13:Prop:=nk ann 59 [(0,y0),(2,y2),(3,y3),(34,y34),(35,y35),(36,y36)] w [1,1,1,1,0,1,0,0,1,1,1] Tryz.f17 K
attribute [irreducible] k3 k9 l5 k6 k8 k14 l10 k11 k13
end F17
theorem F17.k3.to (h:(C.a3 (.cells #[.slice none 0 0,.slice none 0 0] 46) w fun a b=>
 C.ae y0 b fun c d=>
 C.ab 2 c d fun f g=>
 C.ab 1 f g fun i j=>
 C.ai i j fun k m=>
 F17.l5 K y0 y2 a k (y4w j6 0) m)):F17.k3 K y0 y2 w:=qq h
theorem F17.k9.to (h:(C.i y5c 48 #[y0] w fun a b=>
 C.bl a b fun c d=>
 F17.l10 K y0 y2 y3 a c (y4w j6 0) d)):F17.k9 K y0 y2 y3 w:=qq h
theorem F17.l5.to (h:(C.aj .lss y16 y15 w fun a b=>
 C.am a (F17.k6 K y0 y2 y3 y15 y16 b) (F17.k9 K y0 y2 y3 b))):F17.l5 K y0 y2 y3 y15 y16 w:=by unfold F17.l5 nl;exact qah (qq h)
theorem F17.k6.to (h:(C.a9 w fun S a=>
 C.ab 0 y3 a fun b c=>
 C.ae y0 c fun d f=>
 C.ab 12 d f fun g i=>
 C.aq S g i fun j k=>
 (C.ai b k fun m o=>
 (S o∧
 (C.i y5c 47 #[j,y16] o fun p q=>
 (S q∧
 (C.i y5c 46 #[y0,p] q fun r s=>
 (S s∧
 (C.ay y5c (Instr.buildSlice 43 1 #[(0,r)]) s fun t u=>
 (S u∧
 (C.ay y5c (Builtin.append_ #[43,43] 43 #[m,t]) u fun v x=>
 (S x∧
 C.ab 0 y3 x fun y z=>
 (C.ak 1 y v z fun aa=>
 (S aa∧
 F17.k8 K y0 y2 y3 y15 y16 aa))∧True))∧True))∧True))∧True))∧True))∧((C.i y5c 47 #[j,y16] k fun ab ac=>
 (S ac∧
 (C.ai b ac fun ad ae=>
 (S ae∧
 (C.i y5c 46 #[y0,ab] ae fun af ag=>
 (S ag∧
 (C.ay y5c (Instr.buildSlice 43 1 #[(0,af)]) ag fun ah ai=>
 (S ai∧
 (C.ay y5c (Builtin.append_ #[43,43] 43 #[ad,ah]) ai fun aj ak=>
 (S ak∧
 C.ab 0 y3 ak fun al am=>
 (C.ak 1 al aj am fun an=>
 (S an∧
 F17.k8 K y0 y2 y3 y15 y16 an))∧True))∧True))∧True))∧True))∧((C.i y5c 46 #[y0,ab] ac fun ao ap=>
 (S ap∧
 (C.ai b ap fun aq ar=>
 (S ar∧
 (C.ay y5c (Instr.buildSlice 43 1 #[(0,ao)]) ar fun au av=>
 (S av∧
 (C.ay y5c (Builtin.append_ #[43,43] 43 #[aq,au]) av fun aw ax=>
 (S ax∧
 C.ab 0 y3 ax fun ay az=>
 (C.ak 1 ay aw az fun ba=>
 (S ba∧
 F17.k8 K y0 y2 y3 y15 y16 ba))∧True))∧True))∧True))∧((C.ay y5c (Instr.buildSlice 43 1 #[(0,ao)]) ap fun bb bc=>
 (S bc∧
 (C.ai b bc fun bd be=>
 (S be∧
 (C.ay y5c (Builtin.append_ #[43,43] 43 #[bd,bb]) be fun bf bg=>
 (S bg∧
 C.ab 0 y3 bg fun bh bi=>
 (C.ak 1 bh bf bi fun bj=>
 (S bj∧
 F17.k8 K y0 y2 y3 y15 y16 bj))∧True))∧True))∧True))∧True)))∧True)))∧True))):F17.k6 K y0 y2 y3 y15 y16 w:=qq h
theorem F17.k8.to (h:(C.aj .add y16 (y4w j6 1) w fun a b=>
 F17.l5 K y0 y2 y3 y15 a b)):F17.k8 K y0 y2 y3 y15 y16 w:=qq h
theorem F17.k14.to (h:(C.an 2 y3 w fun a b=>
 C.ak 2 y2 a b fun c=>
 C.an 2 y2 c fun r3 _=>
 K r3 c)):F17.k14 K y2 y3 w:=qq h
theorem F17.l10.to (h:(C.aj .lss y36 y35 w fun a b=>
 C.am a (F17.k11 K y0 y2 y3 y34 y35 y36 b) (F17.k14 K y2 y3 b))):F17.l10 K y0 y2 y3 y34 y35 y36 w:=by unfold F17.l10 nl;exact qah (qq h)
theorem F17.k11.to (h:(C.bk 1 y34 y36 w fun a b=>
 C.ai a b fun c d=>
 C.a9 d fun S f=>
 C.ab 1 y3 f fun g i=>
 C.ae y0 i fun j k=>
 C.ab 12 j k fun m o=>
 C.aq S m o fun p q=>
 (C.ai g q fun r s=>
 (S s∧
 (C.i y5c 49 #[p,c] s fun t u=>
 (S u∧
 (C.i y5c 50 #[y0,c] u fun v x=>
 (S x∧
 (C.i y5c 46 #[y0,v] x fun y z=>
 (S z∧
 ∃aa,(∀w',S w'→(Instr.build 58 #[(0,t),(1,y)]).run y5c w' = .ok aa w')∧((C.ay y5c (Instr.buildSlice 44 1 #[(0,aa)]) z fun ab ac=>
 (S ac∧
 (C.ay y5c (Builtin.append_ #[44,44] 44 #[r,ab]) ac fun ad ae=>
 (S ae∧
 C.ab 1 y3 ae fun af ag=>
 (C.ak 1 af ad ag fun ah=>
 (S ah∧
 F17.k13 K y0 y2 y3 y34 y35 y36 ah))∧True))∧True))∧True)))∧True))∧True))∧True))∧((C.i y5c 49 #[p,c] q fun ai aj=>
 (S aj∧
 (C.ai g aj fun ak al=>
 (S al∧
 (C.i y5c 50 #[y0,c] al fun am an=>
 (S an∧
 (C.i y5c 46 #[y0,am] an fun ao ap=>
 (S ap∧
 ∃aq,(∀w',S w'→(Instr.build 58 #[(0,ai),(1,ao)]).run y5c w' = .ok aq w')∧((C.ay y5c (Instr.buildSlice 44 1 #[(0,aq)]) ap fun ar au=>
 (S au∧
 (C.ay y5c (Builtin.append_ #[44,44] 44 #[ak,ar]) au fun av aw=>
 (S aw∧
 C.ab 1 y3 aw fun ax ay=>
 (C.ak 1 ax av ay fun az=>
 (S az∧
 F17.k13 K y0 y2 y3 y34 y35 y36 az))∧True))∧True))∧True)))∧True))∧True))∧((C.i y5c 50 #[y0,c] aj fun ba bb=>
 (S bb∧
 (C.ai g bb fun bc bd=>
 (S bd∧
 (C.i y5c 46 #[y0,ba] bd fun be bf=>
 (S bf∧
 ∃bg,(∀w',S w'→(Instr.build 58 #[(0,ai),(1,be)]).run y5c w' = .ok bg w')∧((C.ay y5c (Instr.buildSlice 44 1 #[(0,bg)]) bf fun bh bi=>
 (S bi∧
 (C.ay y5c (Builtin.append_ #[44,44] 44 #[bc,bh]) bi fun bj bk=>
 (S bk∧
 C.ab 1 y3 bk fun bl bm=>
 (C.ak 1 bl bj bm fun bn=>
 (S bn∧
 F17.k13 K y0 y2 y3 y34 y35 y36 bn))∧True))∧True))∧True)))∧True))∧((C.i y5c 46 #[y0,ba] bb fun bo bp=>
 (S bp∧
 ∃bq,(∀w',S w'→(Instr.build 58 #[(0,ai),(1,bo)]).run y5c w' = .ok bq w')∧((C.ai g bp fun br bs=>
 (S bs∧
 (C.ay y5c (Instr.buildSlice 44 1 #[(0,bq)]) bs fun bt bu=>
 (S bu∧
 (C.ay y5c (Builtin.append_ #[44,44] 44 #[br,bt]) bu fun bv bw=>
 (S bw∧
 C.ab 1 y3 bw fun bx bz=>
 (C.ak 1 bx bv bz fun ca=>
 (S ca∧
 F17.k13 K y0 y2 y3 y34 y35 y36 ca))∧True))∧True))∧True))∧((C.ay y5c (Instr.buildSlice 44 1 #[(0,bq)]) bp fun cb cc=>
 (S cc∧
 (C.ai g cc fun ce cf=>
 (S cf∧
 (C.ay y5c (Builtin.append_ #[44,44] 44 #[ce,cb]) cf fun cg ch=>
 (S ch∧
 C.ab 1 y3 ch fun ci cj=>
 (C.ak 1 ci cg cj fun ck=>
 (S ck∧
 F17.k13 K y0 y2 y3 y34 y35 y36 ck))∧True))∧True))∧True))∧True))))∧True)))∧True)))∧True))):F17.k11 K y0 y2 y3 y34 y35 y36 w:=qq h
theorem F17.k13.to (h:(C.aj .add y36 (y4w j6 1) w fun a b=>
 F17.l10 K y0 y2 y3 y34 y35 a b)):F17.k13 K y0 y2 y3 y34 y35 y36 w:=qq h
theorem F17.sh (h:(C.a3 (.cells #[.slice none 0 0,.slice none 0 0] 46) w fun a b=>
 C.i y5c 45 #[x0] b fun c d=>
 C.bf c d fun f g=>
 C.am f (C.ay y5c (Instr.build 46 #[]) g fun i j=>
 C.ak 2 a i j fun k=>
 C.an 2 a k fun r6 _=>
 K r6 k) (F17.k3 K x0 a g))):C.i y5c 17 #[x0] w K:=q9 (A:=F17.ann) (args:=[x0]) (qq h)
namespace F18
def ann:Ann:=⟨[(3,[0]),(6,[0,3,13,14,15]),(8,[0,3,13,14,15]),(9,[3])],[(5,[0,3,13,14,15])],[],[],none⟩
variable (K:VK) (y0 y3 y13 y14 y15:Value) (w:World)
def k3:Prop:=nk ann 32 [(0,y0)] w [1,1] Tryz.f18 K
def k9:Prop:=nk ann 32 [(3,y3)] w [1,1,1,1] Tryz.f18 K
def l5:Prop:=nl ann 32 [(0,y0),(3,y3),(13,y13),(14,y14),(15,y15)] w [1,1,1,0,1,0] Tryz.f18 K
def k6:Prop:=nk ann 32 [(0,y0),(3,y3),(13,y13),(14,y14),(15,y15)] w [1,1,1,0,1,0,0,1,1] Tryz.f18 K
def k8:Prop:=nk ann 32 [(0,y0),(3,y3),(13,y13),(14,y14),(15,y15)] w [1,1,1,0,1,0,0,1,1,1] Tryz.f18 K
attribute [irreducible] k3 k9 l5 k6 k8
end F18
theorem F18.k3.to (h:(C.ae y0 w fun a b=>
 C.ab 12 a b fun c d=>
 C.ai c d fun f g=>
 C.i y5c 51 #[f] g fun i j=>
 C.bl i j fun k m=>
 F18.l5 K y0 (.slice none 0 0) i k (y4w j6 0) m)):F18.k3 K y0 w:=qq h
theorem F18.k9.to (h:(C.i y5c 52 #[y3] w fun a b=>
 K y3 b)):F18.k9 K y3 w:=qq h
theorem F18.l5.to (h:(C.aj .lss y15 y14 w fun a b=>
 C.am a (F18.k6 K y0 y3 y13 y14 y15 b) (F18.k9 K y3 b))):F18.l5 K y0 y3 y13 y14 y15 w:=by unfold F18.l5 nl;exact qah (qq h)
theorem F18.k6.to (h:(C.bk 1 y13 y15 w fun a b=>
 C.ai a b fun c d=>
 C.ae y0 d fun f g=>
 C.ab 12 f g fun i j=>
 C.ai i j fun k m=>
 C.i y5c 49 #[k,c] m fun o p=>
 C.ay y5c (Instr.buildSlice 52 1 #[(0,o)]) p fun q r=>
 C.ay y5c (Builtin.append_ #[52,52] 52 #[y3,q]) r fun s t=>
 F18.k8 K y0 s y13 y14 y15 t)):F18.k6 K y0 y3 y13 y14 y15 w:=qq h
theorem F18.k8.to (h:(C.aj .add y15 (y4w j6 1) w fun a b=>
 F18.l5 K y0 y3 y13 y14 a b)):F18.k8 K y0 y3 y13 y14 y15 w:=qq h
theorem F18.sh (h:(C.i y5c 45 #[x0] w fun a b=>
 C.bf a b fun c d=>
 C.am c (K (.slice none 0 0) d) (F18.k3 K x0 d))):C.i y5c 18 #[x0] w K:=q9 (A:=F18.ann) (args:=[x0]) (qq h)
namespace F20
def ann:Ann:=⟨[(3,[0,3,4]),(6,[0,3,4]),(9,[0,3,4]),(12,[4,7])],[],[],[(11,(.take 0 (.take 1 (.take 2 (.take 4 (.take 3 (.take 5 (.go 6 .fin .fin))))))))],none⟩
variable (K:VK) (y0 y3 y4 y7:Value) (w:World)
def k3:Prop:=nk ann 49 [(0,y0),(3,y3),(4,y4)] w [1,1] Tryz.f20 K
def k6:Prop:=nk ann 49 [(0,y0),(3,y3),(4,y4)] w [1,1,1] Tryz.f20 K
def k9:Prop:=nk ann 49 [(0,y0),(3,y3),(4,y4)] w [1,1,1,1] Tryz.f20 K
def k12:Prop:=nk ann 49 [(4,y4),(7,y7)] w [1,1,1,1,1,1] Tryz.f20 K
attribute [irreducible] k3 k6 k9 k12
end F20
theorem F20.k3.to (h:(C.an 7 y3 w fun a b=>
 C.i y5c 55 #[a] b fun c d=>
 C.aj .neq c (y4w j6 0) d fun f g=>
 C.am f (C.i y5c 54 #[c] g fun i j=>
 C.ak 5 y4 i j fun k=>
 C.an 5 y4 k fun r6 _=>
 K r6 k) (F20.k6 K y0 y3 y4 g))):F20.k3 K y0 y3 y4 w:=qq h
theorem F20.k6.to (h:(C.an 7 y3 w fun a b=>
 C.i y5c 56 #[y0,a] b fun c d=>
 C.aj .neq c (y4w j6 0) d fun f g=>
 C.am f (C.i y5c 54 #[c] g fun i j=>
 C.ak 5 y4 i j fun k=>
 C.an 5 y4 k fun r6 _=>
 K r6 k) (F20.k9 K y0 y3 y4 g))):F20.k6 K y0 y3 y4 w:=qq h
theorem F20.k9.to (h:(C.an 7 y3 w fun a b=>
 C.i y5c 57 #[y0,a] b fun c d=>
 C.a3 (.cells #[y4w j6 0,y4w j6 0,y4w j6 0,y4w j6 0,y4w j6 0] 38) d fun f g=>
 C.ak 5 f c g fun i=>
 C.ab 0 y3 i fun j k=>
 C.ai j k fun m o=>
 C.aj .geq m (y4w j6 3) o fun p q=>
 C.q true p (fun K=>C.ab 0 y3 q K) q fun r s=>
 C.q true p (fun K=>C.ai r s K) s fun t u=>
 C.q true p (fun K=>C.aj .leq t (y4w j6 12) u K) u fun v x=>
 C.a2 (some p) (some v) (some (y5a false)) x fun y z=>
 C.q true y (fun K=>C.ab 0 f z K) z fun aa ab=>
 C.q true y (fun K=>C.ai aa ab K) ab fun ac ad=>
 C.q true y (fun K=>C.aj .eql ac (y4w j6 0) ad K) ad fun ae af=>
 C.a2 (some y) (some ae) (some (y5a false)) af fun ag ah=>
 C.am ag (C.a9 ah fun S ai=>
 C.ae y0 ai fun aj ak=>
 C.ab 0 aj ak fun al am=>
 C.ab 1 y3 am fun an ao=>
 C.bm S 2 al ao fun ap aq=>
 C.aq S an aq fun ar au=>
 (C.i y5c 58 #[ap,ar,(y4w j6 1)] au fun av aw=>
 (S aw∧
 F20.k12 K y4 f aw))∧True) (F20.k12 K y4 f ah))):F20.k9 K y0 y3 y4 w:=qq h
theorem F20.k12.to (h:(C.an 5 y7 w fun a b=>
 C.ak 5 y4 a b fun c=>
 C.an 5 y4 c fun r3 _=>
 K r3 c)):F20.k12 K y4 y7 w:=qq h
theorem F20.sh (h:(C.a3 (.cells (Value.cells x1) 40) w fun a b=>
 C.a3 (.cells #[y4w j6 0,y4w j6 0,y4w j6 0,y4w j6 0,y4w j6 0] 38) b fun c d=>
 C.i y5c 45 #[x0] d fun f g=>
 C.bf f g fun i j=>
 C.am i (C.i y5c 54 #[(y4w j6 9)] j fun k m=>
 C.ak 5 c k m fun o=>
 C.an 5 c o fun r7 _=>
 K r7 o) (F20.k3 K x0 a c j))):C.i y5c 20 #[x0,x1] w K:=q9 (A:=F20.ann) (args:=[x0,x1]) (qq h)
namespace F23
def ann:Ann:=⟨[(3,[0])],[],[],[],none⟩
variable (K:VK) (y0:Value) (w:World)
def k3:Prop:=nk ann 11 [(0,y0)] w [1,1] Tryz.f23 K
attribute [irreducible] k3
end F23
theorem F23.k3.to (h:(C.ae y0 w fun a b=>
 C.ab 12 a b fun c d=>
 C.ai c d fun f g=>
 C.i y5c 59 #[f] g fun i j=>
 K i j)):F23.k3 K y0 w:=qq h
theorem F23.sh (h:(C.i y5c 45 #[x0] w fun a b=>
 C.bf a b fun c d=>
 C.am c (K (y4w j6 0) d) (F23.k3 K x0 d))):C.i y5c 23 #[x0] w K:=q9 (A:=F23.ann) (args:=[x0]) (qq h)
namespace F24
def ann:Ann:=⟨[(3,[0])],[],[],[],none⟩
variable (K:VK) (y0:Value) (w:World)
def k3:Prop:=nk ann 11 [(0,y0)] w [1,1] Tryz.f24 K
attribute [irreducible] k3
end F24
theorem F24.k3.to (h:(C.ae y0 w fun a b=>
 C.ab 12 a b fun c d=>
 C.ai c d fun f g=>
 C.i y5c 60 #[f] g fun i j=>
 K i j)):F24.k3 K y0 w:=qq h
theorem F24.sh (h:(C.i y5c 45 #[x0] w fun a b=>
 C.bf a b fun c d=>
 C.am c (K (y4w j6 0) d) (F24.k3 K x0 d))):C.i y5c 24 #[x0] w K:=q9 (A:=F24.ann) (args:=[x0]) (qq h)

theorem F45.sh (h:(C.bi y5c .neq 49 (.tmp 3) (.const (.pointer none)) x0 (.pointer none) w fun a b=>
 C.q true a (fun K=>K x0 b) b fun c d=>
 C.q true a (fun K=>C.ae c d K) d fun f g=>
 C.q true a (fun K=>C.ab 12 f g K) g fun i j=>
 C.q true a (fun K=>C.ai i j K) j fun k m=>
 C.q true a (fun K=>C.bi y5c .neq 86 (.tmp 9) (.const (.pointer none)) k (.pointer none) m K) m fun o p=>
 C.a2 (some a) (some o) (some (y5a false)) p fun q r=>
 K q r)):C.i y5c 45 #[x0] w K:=q9 (A:=A0) (args:=[x0]) (qq h)
namespace F46
def ann:Ann:=⟨[(4,[0,5,11,12,13]),(7,[0,5,11,12,13]),(8,[5])],[(3,[0,5,11,12,13])],[],[],none⟩
variable (K:VK) (y0 y5 y11 y12 y13:Value) (w:World)
def k8:Prop:=nk ann 29 [(5,y5)] w [1,1,1] Tryz.f46 K
def l3:Prop:=nl ann 29 [(0,y0),(5,y5),(11,y11),(12,y12),(13,y13)] w [1,1,0,1,0] Tryz.f46 K
def k4:Prop:=nk ann 29 [(0,y0),(5,y5),(11,y11),(12,y12),(13,y13)] w [1,1,0,1,0,0,1,1] Tryz.f46 K
def k7:Prop:=nk ann 29 [(0,y0),(5,y5),(11,y11),(12,y12),(13,y13)] w [1,1,0,1,0,0,1,1,1] Tryz.f46 K
attribute [irreducible] k8 l3 k4 k7
end F46
theorem F46.k8.to (h:(K y5 w)):F46.k8 K y5 w:=qq h
theorem F46.l3.to (h:(C.aj .lss y13 y12 w fun a b=>
 C.am a (F46.k4 K y0 y5 y11 y12 y13 b) (F46.k8 K y5 b))):F46.l3 K y0 y5 y11 y12 y13 w:=by unfold F46.l3 nl;exact qah (qq h)
theorem F46.k4.to (h:(C.bk 2 y11 y13 w fun a b=>
 C.an 2 a b fun c d=>
 C.a3 (.cells #[y4w j6 0,y4w j6 0] 60) d fun f g=>
 C.ak 2 f c g fun i=>
 C.an 2 f i fun j k=>
 C.i y5c 81 #[y0,j] k fun m o=>
 C.a3 (.cells #[y4w j6 0,y4w j6 0,y4w j6 0,y4w j6 0,y4w j6 0] 38) o fun p q=>
 C.ak 5 p m q fun r=>
 C.ab 2 p r fun s t=>
 C.ai s t fun u v=>
 C.bk 2 y5 y13 v fun x y=>
 C.ab 1 x y fun z aa=>
 C.ak 1 z u aa fun ab=>
 F46.k7 K y0 y5 y11 y12 y13 ab)):F46.k4 K y0 y5 y11 y12 y13 w:=qq h
theorem F46.k7.to (h:(C.aj .add y13 (y4w j6 1) w fun a b=>
 F46.l3 K y0 y5 y11 y12 a b)):F46.k7 K y0 y5 y11 y12 y13 w:=qq h
theorem F46.sh (h:(C.i y5c 80 #[x1] w fun a b=>
 C.bl a b fun c d=>
 F46.l3 K x0 a a c (y4w j6 0) d)):C.i y5c 46 #[x0,x1] w K:=q9 (A:=F46.ann) (args:=[x0,x1]) (qq h)
namespace F48
def ann:Ann:=⟨[(5,[1,3,4,18,19]),(7,[1,3,4,18,19]),(8,[1,3,4]),(10,[1,3,4,6]),(11,[1,3,4,6]),(12,[1,3])],[(4,[1,3,4,18,19]),(9,[1,3,4,6])],[],[(11,(.take 0 (.take 3 (.take 1 (.go 2 (.take 4 (.go 5 (.go 6 (.go 7 .fin .fin) .fin) .fin)) .fin)))))],none⟩
variable (K:VK) (y1 y3 y4 y6 y18 y19:Value) (w:World)
def k8:Prop:=nk ann 49 [(1,y1),(3,y3),(4,y4)] w [1,1,1,1] Tryz.f48 K
def l4:Prop:=nl ann 49 [(1,y1),(3,y3),(4,y4),(18,y18),(19,y19)] w [1,1,1,0,1,0] Tryz.f48 K
def k5:Prop:=nk ann 49 [(1,y1),(3,y3),(4,y4),(18,y18),(19,y19)] w [1,1,1,0,1,0,0,1,1] Tryz.f48 K
def k7:Prop:=nk ann 49 [(1,y1),(3,y3),(4,y4),(18,y18),(19,y19)] w [1,1,1,0,1,0,0,1,1,1] Tryz.f48 K
def k12:Prop:=nk ann 49 [(1,y1),(3,y3)] w [1,1,1,1,1] Tryz.f48 K
def l9:Prop:=nl ann 49 [(1,y1),(3,y3),(4,y4),(6,y6)] w [1,1,1,1,0,1,0] Tryz.f48 K
def k11:Prop:=nk ann 49 [(1,y1),(3,y3),(4,y4),(6,y6)] w [1,1,1,1,0,1,0,0,1] Tryz.f48 K
def k10:Prop:=nk ann 49 [(1,y1),(3,y3),(4,y4),(6,y6)] w [1,1,1,1,0,1,0,0,1,1] Tryz.f48 K
attribute [irreducible] k8 l4 k5 k7 k12 l9 k11 k10
end F48
theorem F48.k8.to (h:(F48.l9 K y1 y3 y4 (y4w j6 0) w)):F48.k8 K y1 y3 y4 w:=qq h
theorem F48.l4.to (h:(C.aj .lss y19 y18 w fun a b=>
 C.am a (F48.k5 K y1 y3 y4 y18 y19 b) (F48.k8 K y1 y3 y4 b))):F48.l4 K y1 y3 y4 y18 y19 w:=by unfold F48.l4 nl;exact qah (qq h)
theorem F48.k5.to (h:(C.ai y1 w fun a b=>
 C.ae a b fun c d=>
 C.ab 12 c d fun f g=>
 C.ai f g fun i j=>
 C.i y5c 47 #[i,y19] j fun k m=>
 qbo y5c y4 [k] m fun o p=>
 F48.k7 K y1 y3 y4 y18 y19 p)):F48.k5 K y1 y3 y4 y18 y19 w:=qq h
theorem F48.k7.to (h:(C.aj .add y19 (y4w j6 1) w fun a b=>
 F48.l4 K y1 y3 y4 y18 a b)):F48.k7 K y1 y3 y4 y18 y19 w:=qq h
theorem F48.k12.to (h:(C.ai y3 w fun a b=>
 C.i y5c 86 #[a,(.func (.func 87) #[] #[y1])] b fun c d=>
 C.ai y3 d fun f g=>
 K f g)):F48.k12 K y1 y3 w:=qq h
theorem F48.l9.to (h:(C.ai y3 w fun a b=>
 C.bl a b fun c d=>
 C.aj .lss y6 c d fun f g=>
 C.am f (F48.k11 K y1 y3 y4 y6 g) (F48.k12 K y1 y3 g))):F48.l9 K y1 y3 y4 y6 w:=by unfold F48.l9 nl;exact qah (qq h)
theorem F48.k11.to (h:(C.a9 w fun S a=>
 C.aq S y1 a fun b c=>
 (C.ai y3 c fun d f=>
 (S f∧
 C.bk 1 d y6 f fun g i=>
 (C.ai g i fun j k=>
 (S k∧
 (C.i y5c 50 #[b,j] k fun m o=>
 (S o∧
 (C.cr y4 (qbo y5c y4 [m] o fun p q=>
 (S q∧
 F48.k10 K y1 y3 y4 y6 q)))∧True))∧True))∧True))∧True)):F48.k11 K y1 y3 y4 y6 w:=qq h
theorem F48.k10.to (h:(C.aj .add y6 (y4w j6 1) w fun a b=>
 F48.l9 K y1 y3 y4 a b)):F48.k10 K y1 y3 y4 y6 w:=qq h
theorem F48.sh (h:(C.a3 (.cells (Value.cells x0) 49) w fun a b=>
 C.ai a b fun c d=>
 C.ae c d fun f g=>
 C.ab 12 f g fun i j=>
 C.ai i j fun k m=>
 C.i y5c 83 #[k] m fun o p=>
 C.ay y5c (Instr.buildSlice 54 1 #[(0,o)]) p fun q r=>
 C.a3 (.cells #[.slice none 0 0] 54) r fun s t=>
 C.ak 1 s q t fun u=>
 C.ai a u fun v x=>
 C.ae v x fun y z=>
 C.ab 2 y z fun aa ab=>
 C.ab 1 aa ab fun ac ad=>
 C.ai ac ad fun ae af=>
 F48.l4 K a s (.func (.func 84) #[] #[s]) ae (y4w j6 0) af)):C.i y5c 48 #[x0] w K:=q9 (A:=F48.ann) (args:=[x0]) (qq h)
namespace F50
def ann:Ann:=⟨[(4,[0,1,5,14,15]),(7,[0,1,5,14,15]),(8,[5])],[(3,[0,1,5,14,15])],[],[],none⟩
variable (K:VK) (y0 y1 y5 y14 y15:Value) (w:World)
def k8:Prop:=nk ann 34 [(5,y5)] w [1,1,1] Tryz.f50 K
def l3:Prop:=nl ann 34 [(0,y0),(1,y1),(5,y5),(14,y14),(15,y15)] w [1,1,0,1,0] Tryz.f50 K
def k4:Prop:=nk ann 34 [(0,y0),(1,y1),(5,y5),(14,y14),(15,y15)] w [1,1,0,1,0,0,1,1] Tryz.f50 K
def k7:Prop:=nk ann 34 [(0,y0),(1,y1),(5,y5),(14,y14),(15,y15)] w [1,1,0,1,0,0,1,1,1] Tryz.f50 K
attribute [irreducible] k8 l3 k4 k7
end F50
theorem F50.k8.to (h:(K y5 w)):F50.k8 K y5 w:=qq h
theorem F50.l3.to (h:(C.aj .lss y15 y14 w fun a b=>
 C.am a (F50.k4 K y0 y1 y5 y14 y15 b) (F50.k8 K y5 b))):F50.l3 K y0 y1 y5 y14 y15 w:=by unfold F50.l3 nl;exact qah (qq h)
theorem F50.k4.to (h:(C.ae y0 w fun a b=>
 C.ab 12 a b fun c d=>
 C.ai c d fun f g=>
 C.i y5c 91 #[f,y1,y15] g fun i j=>
 C.a1 0 i j fun k m=>
 C.a1 1 i m fun o p=>
 C.a3 (.cells #[y4w j6 0,y4w j6 0] 60) p fun q r=>
 C.ak 2 q k r fun s=>
 C.an 2 q s fun t u=>
 C.ay y5c (Instr.buildSlice 56 1 #[(0,t)]) u fun v x=>
 C.ay y5c (Builtin.append_ #[56,56] 56 #[y5,v]) x fun y z=>
 F50.k7 K y0 y1 y y14 y15 z)):F50.k4 K y0 y1 y5 y14 y15 w:=qq h
theorem F50.k7.to (h:(C.aj .add y15 (y4w j6 1) w fun a b=>
 F50.l3 K y0 y1 y5 y14 a b)):F50.k7 K y0 y1 y5 y14 y15 w:=qq h
theorem F50.sh (h:(C.ae x0 w fun a b=>
 C.ab 12 a b fun c d=>
 C.ai c d fun f g=>
 C.i y5c 90 #[f,x1] g fun i j=>
 F50.l3 K x0 x1 (.slice none 0 0) i (y4w j6 0) j)):C.i y5c 50 #[x0,x1] w K:=q9 (A:=F50.ann) (args:=[x0,x1]) (qq h)

theorem F54.sh (h:(C.a3 (.cells #[y4w j6 0,y4w j6 0,y4w j6 0,y4w j6 0,y4w j6 0] 38) w fun a b=>
 C.ay y5c (Instr.build 38 #[(0,x0)]) b fun c d=>
 C.ak 5 a c d fun f=>
 C.an 5 a f fun r4 _=>
 K r4 f)):C.i y5c 54 #[x0] w K:=q9 (A:=A0) (args:=[x0]) (qq h)
namespace F55
def ann:Ann:=⟨[(3,[1]),(6,[1,3,20,21]),(9,[1,3,20,21]),(10,[1,3]),(12,[1,3,32,33]),(15,[1,3,32,33]),(16,[1,3]),(18,[])],[(5,[1,3,20,21]),(11,[1,3,32,33])],[],[],none⟩
variable (K:VK) (y1 y3 y20 y21 y32 y33:Value) (w:World)
def k3:Prop:=nk ann 55 [(1,y1)] w [1,1] Tryz.f55 K
def k10:Prop:=nk ann 55 [(1,y1),(3,y3)] w [1,1,1,1] Tryz.f55 K
def l5:Prop:=nl ann 55 [(1,y1),(3,y3),(20,y20),(21,y21)] w [1,1,1,0,1,0] Tryz.f55 K
def k6:Prop:=nk ann 55 [(1,y1),(3,y3),(20,y20),(21,y21)] w [1,1,1,0,1,0,0,1,1] Tryz.f55 K
def k9:Prop:=nk ann 55 [(1,y1),(3,y3),(20,y20),(21,y21)] w [1,1,1,0,1,0,0,1,1,1] Tryz.f55 K
def k16:Prop:=nk ann 55 [(1,y1),(3,y3)] w [1,1,1,1,1] Tryz.f55 K
def l11:Prop:=nl ann 55 [(1,y1),(3,y3),(32,y32),(33,y33)] w [1,1,1,1,0,1,0] Tryz.f55 K
def k12:Prop:=nk ann 55 [(1,y1),(3,y3),(32,y32),(33,y33)] w [1,1,1,1,0,1,0,0,1,1] Tryz.f55 K
def k15:Prop:=nk ann 55 [(1,y1),(3,y3),(32,y32),(33,y33)] w [1,1,1,1,0,1,0,0,1,1,1] Tryz.f55 K
def k18:Prop:=nk ann 55 [] w [1,1,1,1,1,1] Tryz.f55 K
attribute [irreducible] k3 k10 l5 k6 k9 k16 l11 k12 k15 k18
end F55
theorem F55.k3.to (h:(C.ab 0 y1 w fun a b=>
 C.ai a b fun c d=>
 C.i y5c 96 #[c] d fun f g=>
 C.an 7 y1 g fun i j=>
 C.i y5c 97 #[i] j fun k m=>
 F55.l5 K y1 f k (y4w j6 0) m)):F55.k3 K y1 w:=qq h
theorem F55.k10.to (h:(C.an 7 y1 w fun a b=>
 C.i y5c 97 #[a] b fun c d=>
 F55.l11 K y1 y3 c (y4w j6 0) d)):F55.k10 K y1 y3 w:=qq h
theorem F55.l5.to (h:(C.aj .lss y21 (y4w j6 5) w fun a b=>
 C.am a (F55.k6 K y1 y3 y20 y21 b) (F55.k10 K y1 y3 b))):F55.l5 K y1 y3 y20 y21 w:=by unfold F55.l5 nl;exact qah (qq h)
theorem F55.k6.to (h:(C.ay y5c (Instr.index 158 y20 y21) w fun a b=>
 C.aj .lss a (y4w j6 0) b fun c d=>
 C.q false c (fun K=>K a d) d fun f g=>
 C.q false c (fun K=>C.aj .gtr f (y4w j6 255) g K) g fun i j=>
 C.a2 (some c) (some (y5a true)) (some i) j fun k m=>
 C.am k (K (y4w j6 4) m) (F55.k9 K y1 y3 y20 y21 m))):F55.k6 K y1 y3 y20 y21 w:=qq h
theorem F55.k9.to (h:(C.aj .add y21 (y4w j6 1) w fun a b=>
 F55.l5 K y1 y3 y20 a b)):F55.k9 K y1 y3 y20 y21 w:=qq h
theorem F55.k16.to (h:(C.ab 6 y1 w fun a b=>
 C.ai a b fun c d=>
 C.aj .neq c (y4w j6 0) d fun f g=>
 C.q true f (fun K=>K y3 g) g fun i j=>
 C.q true f (fun K=>C.bi y5c .and 3 (.tmp 51) (.const (y4w j6 32)) i (y4w j6 32) j K) j fun k m=>
 C.q true f (fun K=>C.aj .eql k (y4w j6 0) m K) m fun o p=>
 C.a2 (some f) (some o) (some (y5a false)) p fun q r=>
 C.am q (K (y4w j6 16) r) (F55.k18 K r))):F55.k16 K y1 y3 w:=qq h
theorem F55.l11.to (h:(C.aj .lss y33 (y4w j6 5) w fun a b=>
 C.am a (F55.k12 K y1 y3 y32 y33 b) (F55.k16 K y1 y3 b))):F55.l11 K y1 y3 y32 y33 w:=by unfold F55.l11 nl;exact qah (qq h)
theorem F55.k12.to (h:(C.ay y5c (Instr.index 158 y32 y33) w fun a b=>
 C.aj .neq a (y4w j6 0) b fun c d=>
 C.q true c (fun K=>K y3 d) d fun f g=>
 C.q true c (fun K=>K y33 g) g fun i j=>
 C.q true c (fun K=>C.bi y5c .shr 3 (.tmp 40) (.tmp 41) f i j K) j fun k m=>
 C.q true c (fun K=>C.bi y5c .and 3 (.tmp 42) (.const (y4w j6 1)) k (y4w j6 1) m K) m fun o p=>
 C.q true c (fun K=>C.aj .eql o (y4w j6 0) p K) p fun q r=>
 C.a2 (some c) (some q) (some (y5a false)) r fun s t=>
 C.am s (K (y4w j6 16) t) (F55.k15 K y1 y3 y32 y33 t))):F55.k12 K y1 y3 y32 y33 w:=qq h
theorem F55.k15.to (h:(C.aj .add y33 (y4w j6 1) w fun a b=>
 F55.l11 K y1 y3 y32 a b)):F55.k15 K y1 y3 y32 y33 w:=qq h
theorem F55.k18.to (h:(K (y4w j6 0) w)):F55.k18 K w:=qq h
theorem F55.sh (h:(C.a3 (.cells (Value.cells x0) 40) w fun a b=>
 C.ab 0 a b fun c d=>
 C.ai c d fun f g=>
 C.aj .lss f (y4w j6 1) g fun i j=>
 C.q false i (fun K=>C.ab 0 a j K) j fun k m=>
 C.q false i (fun K=>C.ai k m K) m fun o p=>
 C.q false i (fun K=>C.aj .gtr o (y4w j6 17) p K) p fun q r=>
 C.a2 (some i) (some (y5a true)) (some q) r fun s t=>
 C.am s (K (y4w j6 12) t) (F55.k3 K a t))):C.i y5c 55 #[x0] w K:=q9 (A:=F55.ann) (args:=[x0]) (qq h)
namespace F56
def ann:Ann:=⟨[(9,[])],[],[],[(3,(.take 0 (.take 2 (.take 3 (.take 4 (.take 5 (.take 1 (.take 6 (.take 7 (.take 8 .fin)))))))))),(5,(.take 0 (.take 1 (.take 2 (.take 3 (.take 4 (.take 5 (.take 6 (.take 8 (.take 7 (.take 9 (.go 10 (.take 11 (.take 12 .fin)) .fin)))))))))))),(7,(.take 0 (.take 1 (.take 2 (.take 3 (.take 4 (.take 5 (.take 6 (.take 8 (.take 7 (.take 9 (.go 10 (.take 11 (.take 12 (.take 13 .fin))) .fin))))))))))))],none⟩
variable (K:VK) (w:World)
def k9:Prop:=nk ann 45 [] w [1,1] Tryz.f56 K
attribute [irreducible] k9
end F56
theorem F56.k9.to (h:(K (y4w j6 0) w)):F56.k9 K w:=qq h
theorem F56.sh (h:(C.a3 (.cells (Value.cells x1) 40) w fun a b=>
 C.ab 0 a b fun c d=>
 C.ai c d fun f g=>
 C.aj .geq f (y4w j6 16) g fun i j=>
 C.am i (K (y4w j6 0) j) (C.a9 j fun S k=>
 C.ab 1 a k fun m o=>
 C.ae x0 o fun p q=>
 C.ab 2 p q fun r s=>
 C.ab 1 r s fun t u=>
 C.aq S m u fun v x=>
 C.aq S t x fun y z=>
 C.aj .geq v y z fun aa ab=>
 C.am aa (K (y4w j6 4) ab) (C.a9 ab fun S ac=>
 C.ab 0 a ac fun ad ae=>
 C.aq S ad ae fun af ag=>
 C.aj .eql af (y4w j6 1) ag fun ah ai=>
 C.q true ah (fun K=>K x0 ai) ai fun aj ak=>
 C.q true ah (fun K=>C.ae aj ak K) ak fun al am=>
 C.q true ah (fun K=>C.ab 12 al am K) am fun an ao=>
 C.q true ah (fun K=>C.ab 1 a ao K) ao fun ap aq=>
 C.q true ah (fun K=>C.aq S an aq K) aq fun ar au=>
 C.q true ah (fun K=>C.aq S ap au K) au fun av aw=>
 (C.q true ah (fun K=>C.i y5c 53 #[ar,av] aw K) aw fun ax ay=>
 (S ay∧
 C.a2 (some ah) (some ax) (some (y5a false)) ay fun az ba=>
 C.am az (K (y4w j6 9) ba) (C.a9 ba fun S bb=>
 C.ab 0 a bb fun bc bd=>
 C.aq S bc bd fun be bf=>
 C.aj .neq be (y4w j6 1) bf fun bg bh=>
 C.q true bg (fun K=>K x0 bh) bh fun bi bj=>
 C.q true bg (fun K=>C.ae bi bj K) bj fun bk bl=>
 C.q true bg (fun K=>C.ab 12 bk bl K) bl fun bm bn=>
 C.q true bg (fun K=>C.ab 1 a bn K) bn fun bo bp=>
 C.q true bg (fun K=>C.aq S bm bp K) bp fun bq br=>
 C.q true bg (fun K=>C.aq S bo br K) br fun bs bt=>
 (C.q true bg (fun K=>C.i y5c 53 #[bq,bs] bt K) bt fun bu bv=>
 (S bv∧
 C.q true bg (fun K=>C.bf bu bv K) bv fun bw bx=>
 C.a2 (some bg) (some bw) (some (y5a false)) bx fun bz ca=>
 C.am bz (K (y4w j6 14) ca) (F56.k9 K ca)))∧True)))∧True)))):C.i y5c 56 #[x0,x1] w K:=q9 (A:=F56.ann) (args:=[x0,x1]) (qq h)
namespace F57
def ann:Ann:=⟨[(17,[0,4,5,6]),(19,[0,4,5]),(27,[4])],[],[],[(4,(.take 0 (.take 1 (.take 2 (.take 4 (.take 3 (.take 5 (.go 6 .fin .fin)))))))),(6,(.take 0 (.take 1 (.take 2 (.take 4 (.take 3 (.take 5 (.go 6 .fin .fin)))))))),(16,(.take 0 (.take 1 (.take 2 (.take 4 (.take 3 (.take 5 (.go 6 (.take 7 (.take 8 (.take 9 (.go 10 (.go 11 (.take 12 .fin) .fin) .fin)))) (.go 10 (.go 6 (.take 7 (.take 8 (.take 9 (.go 11 (.take 12 .fin) .fin)))) .fin) .fin))))))))),(26,(.take 0 (.take 1 (.take 2 (.take 4 (.take 3 (.take 5 (.go 6 .fin .fin))))))))],none⟩
variable (K:VK) (y0 y4 y5 y6:Value) (w:World)
def k27:Prop:=nk ann 83 [(4,y4)] w [1,1] Tryz.f57 K
def k17:Prop:=nk ann 83 [(0,y0),(4,y4),(5,y5),(6,y6)] w [1,0,1,0,1,1,1,1,1,1,1,1,1,0,1] Tryz.f57 K
def k19:Prop:=nk ann 83 [(0,y0),(4,y4),(5,y5)] w [1,0,1,0,1,1,1,1,1,1,1,1,1,0,1,1] Tryz.f57 K
attribute [irreducible] k27 k17 k19
end F57
theorem F57.k27.to (h:(C.ay y5c (Instr.build 38 #[]) w fun a b=>
 C.ak 5 y4 a b fun c=>
 C.an 5 y4 c fun r3 _=>
 K r3 c)):F57.k27 K y4 w:=qq h
theorem F57.k17.to (h:(C.bf y6 w fun a b=>
 C.am a (C.i y5c 54 #[(y4w j6 4)] b fun c d=>
 C.ak 5 y4 c d fun f=>
 C.an 5 y4 f fun r4 _=>
 K r4 f) (F57.k19 K y0 y4 y5 b))):F57.k17 K y0 y4 y5 y6 w:=qq h
theorem F57.k19.to (h:(C.an 2 y5 w fun a b=>
 C.i y5c 81 #[y0,a] b fun c d=>
 C.ak 5 y4 c d fun f=>
 C.an 5 y4 f fun r4 _=>
 K r4 f)):F57.k19 K y0 y4 y5 w:=qq h
theorem F57.sh (h:(C.a3 (.cells (Value.cells x1) 40) w fun a b=>
 C.a3 (.cells #[y4w j6 0,y4w j6 0,y4w j6 0,y4w j6 0,y4w j6 0] 38) b fun c d=>
 C.ab 0 a d fun f g=>
 C.ai f g fun i j=>
 C.aj .eql i (y4w j6 1) j fun k m=>
 C.am k (C.a9 m fun S o=>
 C.ae x0 o fun p q=>
 C.ab 12 p q fun r s=>
 C.ab 1 a s fun t u=>
 C.aq S r u fun v x=>
 C.aq S t x fun y z=>
 (C.i y5c 98 #[v,y] z fun aa ab=>
 (S ab∧
 F57.k27 K c ab))∧True) (C.aj .eql i (y4w j6 2) m fun ac ad=>
 C.am ac (C.a9 ad fun S ae=>
 C.ae x0 ae fun af ag=>
 C.ab 12 af ag fun ah ai=>
 C.ab 1 a ai fun aj ak=>
 C.aq S ah ak fun al am=>
 C.aq S aj am fun an ao=>
 (C.i y5c 99 #[al,an] ao fun ap aq=>
 (S aq∧
 F57.k27 K c aq))∧True) (C.aj .eql i (y4w j6 3) ad fun ar au=>
 C.am ar (C.an 7 a au fun av aw=>
 C.i y5c 100 #[x0,av] aw fun ax ay=>
 C.ak 5 c ax ay fun az=>
 C.an 5 c az fun r25 _=>
 K r25 az) (C.aj .eql i (y4w j6 4) au fun ba bb=>
 C.am ba (C.am ba (C.an 7 a bb fun bc bd=>
 C.i y5c 101 #[x0,bc] bd fun be bf=>
 C.ak 5 c be bf fun bg=>
 C.an 5 c bg fun r30 _=>
 K r30 bg) (C.aj .eql i (y4w j6 8) bb fun bh bi=>
 C.am bh (C.a9 bi fun S bj=>
 C.ae x0 bj fun bk bl=>
 C.ab 12 bk bl fun bm bn=>
 C.ab 1 a bn fun bo bp=>
 C.aq S bm bp fun bq br=>
 C.aq S bo br fun bs bt=>
 (C.i y5c 102 #[bq,bs] bt fun bu bv=>
 (S bv∧
 C.a1 0 bu bv fun bw bx=>
 C.a1 1 bu bx fun bz ca=>
 (C.a3 (.cells #[y4w j6 0,y4w j6 0] 60) ca fun cb cc=>
 (S cc∧
 (C.ak 2 cb bw cc fun ce=>
 (S ce∧
 F57.k17 K x0 c cb bz ce))∧True))∧True))∧((C.a3 (.cells #[y4w j6 0,y4w j6 0] 60) bt fun cf cg=>
 (S cg∧
 (C.i y5c 102 #[bq,bs] cg fun ch ci=>
 (S ci∧
 C.a1 0 ch ci fun cj ck=>
 C.a1 1 ch ck fun cl cm=>
 (C.ak 2 cf cj cm fun cn=>
 (S cn∧
 F57.k17 K x0 c cf cl cn))∧True))∧True))∧True)) (C.aj .eql i (y4w j6 10) bi fun co cp=>
 C.am co (C.an 7 a cp fun cq cr=>
 C.i y5c 103 #[x0,cq] cr fun cs ct=>
 C.ak 5 c cs ct fun cu=>
 C.an 5 c cu fun r52 _=>
 K r52 cu) (C.aj .eql i (y4w j6 11) cp fun cv cw=>
 C.am cv (C.am cv (C.an 7 a cw fun cx cy=>
 C.i y5c 104 #[x0,cx] cy fun cz da=>
 C.ak 5 c cz da fun db=>
 C.an 5 c db fun r57 _=>
 K r57 db) (C.aj .eql i (y4w j6 14) cw fun dc dd=>
 C.am dc (C.a9 dd fun S de=>
 C.ae x0 de fun df dg=>
 C.ab 12 df dg fun dh di=>
 C.ab 1 a di fun dj dk=>
 C.aq S dh dk fun dl dm=>
 C.aq S dj dm fun dn dp=>
 (C.i y5c 105 #[dl,dn] dp fun dq dr=>
 (S dr∧
 F57.k27 K c dr))∧True) (C.an 7 a dd fun ds dt=>
 C.i y5c 106 #[x0,ds] dt fun du dv=>
 C.ak 5 c du dv fun dw=>
 C.an 5 c dw fun r69 _=>
 K r69 dw))) (C.aj .eql i (y4w j6 12) cw fun dx dy=>
 C.am dx (C.an 7 a dy fun dz ea=>
 C.i y5c 104 #[x0,dz] ea fun eb ec=>
 C.ak 5 c eb ec fun ed=>
 C.an 5 c ed fun r74 _=>
 K r74 ed) (C.aj .eql i (y4w j6 14) dy fun ee ef=>
 C.am ee (C.a9 ef fun S eg=>
 C.ae x0 eg fun eh ei=>
 C.ab 12 eh ei fun ej ek=>
 C.ab 1 a ek fun el em=>
 C.aq S ej em fun en eo=>
 C.aq S el eo fun ep eq=>
 (C.i y5c 105 #[en,ep] eq fun er es=>
 (S es∧
 F57.k27 K c es))∧True) (C.an 7 a ef fun et eu=>
 C.i y5c 106 #[x0,et] eu fun ev ew=>
 C.ak 5 c ev ew fun ex=>
 C.an 5 c ex fun r86 _=>
 K r86 ex))))))) (C.aj .eql i (y4w j6 5) bb fun ey ez=>
 C.am ey (C.am ey (C.an 7 a ez fun fa fb=>
 C.i y5c 101 #[x0,fa] fb fun fc fd=>
 C.ak 5 c fc fd fun fe=>
 C.an 5 c fe fun r91 _=>
 K r91 fe) (C.aj .eql i (y4w j6 8) ez fun ff fg=>
 C.am ff (C.a9 fg fun S fh=>
 C.ae x0 fh fun fi fj=>
 C.ab 12 fi fj fun fk fl=>
 C.ab 1 a fl fun fm fn=>
 C.aq S fk fn fun fo fp=>
 C.aq S fm fp fun fq fr=>
 (C.i y5c 102 #[fo,fq] fr fun fs ft=>
 (S ft∧
 C.a1 0 fs ft fun fu fv=>
 C.a1 1 fs fv fun fw fx=>
 (C.a3 (.cells #[y4w j6 0,y4w j6 0] 60) fx fun fy fz=>
 (S fz∧
 (C.ak 2 fy fu fz fun ga=>
 (S ga∧
 F57.k17 K x0 c fy fw ga))∧True))∧True))∧((C.a3 (.cells #[y4w j6 0,y4w j6 0] 60) fr fun gb gc=>
 (S gc∧
 (C.i y5c 102 #[fo,fq] gc fun gd ge=>
 (S ge∧
 C.a1 0 gd ge fun gf gg=>
 C.a1 1 gd gg fun gh gi=>
 (C.ak 2 gb gf gi fun gj=>
 (S gj∧
 F57.k17 K x0 c gb gh gj))∧True))∧True))∧True)) (C.aj .eql i (y4w j6 10) fg fun gk gl=>
 C.am gk (C.an 7 a gl fun gm gn=>
 C.i y5c 103 #[x0,gm] gn fun go gp=>
 C.ak 5 c go gp fun gq=>
 C.an 5 c gq fun r113 _=>
 K r113 gq) (C.aj .eql i (y4w j6 11) gl fun gr gs=>
 C.am gr (C.am gr (C.an 7 a gs fun gt gu=>
 C.i y5c 104 #[x0,gt] gu fun gv gw=>
 C.ak 5 c gv gw fun gx=>
 C.an 5 c gx fun r118 _=>
 K r118 gx) (C.aj .eql i (y4w j6 14) gs fun gy gz=>
 C.am gy (C.a9 gz fun S ha=>
 C.ae x0 ha fun hb hc=>
 C.ab 12 hb hc fun hd he=>
 C.ab 1 a he fun hf hg=>
 C.aq S hd hg fun hh hi=>
 C.aq S hf hi fun hj hk=>
 (C.i y5c 105 #[hh,hj] hk fun hl hm=>
 (S hm∧
 F57.k27 K c hm))∧True) (C.an 7 a gz fun hn ho=>
 C.i y5c 106 #[x0,hn] ho fun hp hq=>
 C.ak 5 c hp hq fun hr=>
 C.an 5 c hr fun r130 _=>
 K r130 hr))) (C.aj .eql i (y4w j6 12) gs fun hs ht=>
 C.am hs (C.an 7 a ht fun hu hv=>
 C.i y5c 104 #[x0,hu] hv fun hw hx=>
 C.ak 5 c hw hx fun hy=>
 C.an 5 c hy fun r135 _=>
 K r135 hy) (C.aj .eql i (y4w j6 14) ht fun hz ia=>
 C.am hz (C.a9 ia fun S ib=>
 C.ae x0 ib fun ic id=>
 C.ab 12 ic id fun ie ig=>
 C.ab 1 a ig fun ih ii=>
 C.aq S ie ii fun ij ik=>
 C.aq S ih ik fun il im=>
 (C.i y5c 105 #[ij,il] im fun io ip=>
 (S ip∧
 F57.k27 K c ip))∧True) (C.an 7 a ia fun iq ir=>
 C.i y5c 106 #[x0,iq] ir fun it iu=>
 C.ak 5 c it iu fun iv=>
 C.an 5 c iv fun r147 _=>
 K r147 iv))))))) (C.aj .eql i (y4w j6 6) ez fun iw ix=>
 C.am iw (C.am iw (C.an 7 a ix fun iy iz=>
 C.i y5c 101 #[x0,iy] iz fun ja jb=>
 C.ak 5 c ja jb fun jc=>
 C.an 5 c jc fun r152 _=>
 K r152 jc) (C.aj .eql i (y4w j6 8) ix fun jd je=>
 C.am jd (C.a9 je fun S jf=>
 C.ae x0 jf fun jg jh=>
 C.ab 12 jg jh fun ji jj=>
 C.ab 1 a jj fun jk jl=>
 C.aq S ji jl fun jm jn=>
 C.aq S jk jn fun jo jp=>
 (C.i y5c 102 #[jm,jo] jp fun jq jr=>
 (S jr∧
 C.a1 0 jq jr fun js jt=>
 C.a1 1 jq jt fun ju jv=>
 (C.a3 (.cells #[y4w j6 0,y4w j6 0] 60) jv fun jw jx=>
 (S jx∧
 (C.ak 2 jw js jx fun jy=>
 (S jy∧
 F57.k17 K x0 c jw ju jy))∧True))∧True))∧((C.a3 (.cells #[y4w j6 0,y4w j6 0] 60) jp fun jz ka=>
 (S ka∧
 (C.i y5c 102 #[jm,jo] ka fun kb kc=>
 (S kc∧
 C.a1 0 kb kc fun kd ke=>
 C.a1 1 kb ke fun kf kg=>
 (C.ak 2 jz kd kg fun kh=>
 (S kh∧
 F57.k17 K x0 c jz kf kh))∧True))∧True))∧True)) (C.aj .eql i (y4w j6 10) je fun ki kj=>
 C.am ki (C.an 7 a kj fun kk kl=>
 C.i y5c 103 #[x0,kk] kl fun km kn=>
 C.ak 5 c km kn fun ko=>
 C.an 5 c ko fun r174 _=>
 K r174 ko) (C.aj .eql i (y4w j6 11) kj fun kp kq=>
 C.am kp (C.am kp (C.an 7 a kq fun kr ks=>
 C.i y5c 104 #[x0,kr] ks fun kt ku=>
 C.ak 5 c kt ku fun kv=>
 C.an 5 c kv fun r179 _=>
 K r179 kv) (C.aj .eql i (y4w j6 14) kq fun kw kx=>
 C.am kw (C.a9 kx fun S ky=>
 C.ae x0 ky fun kz la=>
 C.ab 12 kz la fun lb lc=>
 C.ab 1 a lc fun ld le=>
 C.aq S lb le fun lf lg=>
 C.aq S ld lg fun lh li=>
 (C.i y5c 105 #[lf,lh] li fun lj lk=>
 (S lk∧
 F57.k27 K c lk))∧True) (C.an 7 a kx fun ll lm=>
 C.i y5c 106 #[x0,ll] lm fun ln lo=>
 C.ak 5 c ln lo fun lp=>
 C.an 5 c lp fun r191 _=>
 K r191 lp))) (C.aj .eql i (y4w j6 12) kq fun lq lr=>
 C.am lq (C.an 7 a lr fun ls lt=>
 C.i y5c 104 #[x0,ls] lt fun lu lv=>
 C.ak 5 c lu lv fun lw=>
 C.an 5 c lw fun r196 _=>
 K r196 lw) (C.aj .eql i (y4w j6 14) lr fun lx ly=>
 C.am lx (C.a9 ly fun S lz=>
 C.ae x0 lz fun ma mb=>
 C.ab 12 ma mb fun mc md=>
 C.ab 1 a md fun me mf=>
 C.aq S mc mf fun mg mh=>
 C.aq S me mh fun mi mj=>
 (C.i y5c 105 #[mg,mi] mj fun mk ml=>
 (S ml∧
 F57.k27 K c ml))∧True) (C.an 7 a ly fun mm mn=>
 C.i y5c 106 #[x0,mm] mn fun mo mp=>
 C.ak 5 c mo mp fun mq=>
 C.an 5 c mq fun r208 _=>
 K r208 mq))))))) (C.aj .eql i (y4w j6 7) ix fun mr ms=>
 C.am mr (C.am mr (C.an 7 a ms fun mt mu=>
 C.i y5c 101 #[x0,mt] mu fun mv mw=>
 C.ak 5 c mv mw fun mx=>
 C.an 5 c mx fun r213 _=>
 K r213 mx) (C.aj .eql i (y4w j6 8) ms fun my mz=>
 C.am my (C.a9 mz fun S na=>
 C.ae x0 na fun nb nc=>
 C.ab 12 nb nc fun nd ne=>
 C.ab 1 a ne fun nf ng=>
 C.aq S nd ng fun nh ni=>
 C.aq S nf ni fun nj nm=>
 (C.i y5c 102 #[nh,nj] nm fun nn no=>
 (S no∧
 C.a1 0 nn no fun np nq=>
 C.a1 1 nn nq fun nr ns=>
 (C.a3 (.cells #[y4w j6 0,y4w j6 0] 60) ns fun nt nu=>
 (S nu∧
 (C.ak 2 nt np nu fun nv=>
 (S nv∧
 F57.k17 K x0 c nt nr nv))∧True))∧True))∧((C.a3 (.cells #[y4w j6 0,y4w j6 0] 60) nm fun nw nx=>
 (S nx∧
 (C.i y5c 102 #[nh,nj] nx fun ny nz=>
 (S nz∧
 C.a1 0 ny nz fun oa ob=>
 C.a1 1 ny ob fun oc od=>
 (C.ak 2 nw oa od fun oe=>
 (S oe∧
 F57.k17 K x0 c nw oc oe))∧True))∧True))∧True)) (C.aj .eql i (y4w j6 10) mz fun og oh=>
 C.am og (C.an 7 a oh fun oi oj=>
 C.i y5c 103 #[x0,oi] oj fun ok ol=>
 C.ak 5 c ok ol fun om=>
 C.an 5 c om fun r235 _=>
 K r235 om) (C.aj .eql i (y4w j6 11) oh fun on oo=>
 C.am on (C.am on (C.an 7 a oo fun op oq=>
 C.i y5c 104 #[x0,op] oq fun os ot=>
 C.ak 5 c os ot fun ou=>
 C.an 5 c ou fun r240 _=>
 K r240 ou) (C.aj .eql i (y4w j6 14) oo fun ov ow=>
 C.am ov (C.a9 ow fun S ox=>
 C.ae x0 ox fun oy oz=>
 C.ab 12 oy oz fun pa pb=>
 C.ab 1 a pb fun pc pd=>
 C.aq S pa pd fun pe pf=>
 C.aq S pc pf fun pg ph=>
 (C.i y5c 105 #[pe,pg] ph fun pi pj=>
 (S pj∧
 F57.k27 K c pj))∧True) (C.an 7 a ow fun pk pl=>
 C.i y5c 106 #[x0,pk] pl fun pm pn=>
 C.ak 5 c pm pn fun po=>
 C.an 5 c po fun r252 _=>
 K r252 po))) (C.aj .eql i (y4w j6 12) oo fun pp pq=>
 C.am pp (C.an 7 a pq fun pr ps=>
 C.i y5c 104 #[x0,pr] ps fun pt pu=>
 C.ak 5 c pt pu fun pv=>
 C.an 5 c pv fun r257 _=>
 K r257 pv) (C.aj .eql i (y4w j6 14) pq fun pw px=>
 C.am pw (C.a9 px fun S py=>
 C.ae x0 py fun pz qa=>
 C.ab 12 pz qa fun qb qc=>
 C.ab 1 a qc fun qd qe=>
 C.aq S qb qe fun qf qg=>
 C.aq S qd qg fun qh qi=>
 (C.i y5c 105 #[qf,qh] qi fun qj qk=>
 (S qk∧
 F57.k27 K c qk))∧True) (C.an 7 a px fun ql qm=>
 C.i y5c 106 #[x0,ql] qm fun qn qo=>
 C.ak 5 c qn qo fun qp=>
 C.an 5 c qp fun r269 _=>
 K r269 qp))))))) (C.aj .eql i (y4w j6 9) ms fun qr qs=>
 C.am qr (C.an 7 a qs fun qt qu=>
 C.i y5c 101 #[x0,qt] qu fun qv qw=>
 C.ak 5 c qv qw fun qx=>
 C.an 5 c qx fun r274 _=>
 K r274 qx) (C.aj .eql i (y4w j6 8) qs fun qy qz=>
 C.am qy (C.a9 qz fun S ra=>
 C.ae x0 ra fun rb rc=>
 C.ab 12 rb rc fun rd re=>
 C.ab 1 a re fun rf rg=>
 C.aq S rd rg fun rh ri=>
 C.aq S rf ri fun rj rk=>
 (C.i y5c 102 #[rh,rj] rk fun rl rm=>
 (S rm∧
 C.a1 0 rl rm fun rn ro=>
 C.a1 1 rl ro fun rp rq=>
 (C.a3 (.cells #[y4w j6 0,y4w j6 0] 60) rq fun rr rs=>
 (S rs∧
 (C.ak 2 rr rn rs fun rt=>
 (S rt∧
 F57.k17 K x0 c rr rp rt))∧True))∧True))∧((C.a3 (.cells #[y4w j6 0,y4w j6 0] 60) rk fun ru rv=>
 (S rv∧
 (C.i y5c 102 #[rh,rj] rv fun rw rx=>
 (S rx∧
 C.a1 0 rw rx fun ry rz=>
 C.a1 1 rw rz fun sa sb=>
 (C.ak 2 ru ry sb fun sc=>
 (S sc∧
 F57.k17 K x0 c ru sa sc))∧True))∧True))∧True)) (C.aj .eql i (y4w j6 10) qz fun sd se=>
 C.am sd (C.an 7 a se fun sf sg=>
 C.i y5c 103 #[x0,sf] sg fun sh si=>
 C.ak 5 c sh si fun sj=>
 C.an 5 c sj fun r296 _=>
 K r296 sj) (C.aj .eql i (y4w j6 11) se fun sk sl=>
 C.am sk (C.am sk (C.an 7 a sl fun sm sn=>
 C.i y5c 104 #[x0,sm] sn fun so sp=>
 C.ak 5 c so sp fun sq=>
 C.an 5 c sq fun r301 _=>
 K r301 sq) (C.aj .eql i (y4w j6 14) sl fun sr ss=>
 C.am sr (C.a9 ss fun S st=>
 C.ae x0 st fun su sv=>
 C.ab 12 su sv fun sw sx=>
 C.ab 1 a sx fun sy sz=>
 C.aq S sw sz fun ta tb=>
 C.aq S sy tb fun tc td=>
 (C.i y5c 105 #[ta,tc] td fun te tf=>
 (S tf∧
 F57.k27 K c tf))∧True) (C.an 7 a ss fun tg th=>
 C.i y5c 106 #[x0,tg] th fun ti tj=>
 C.ak 5 c ti tj fun tk=>
 C.an 5 c tk fun r313 _=>
 K r313 tk))) (C.aj .eql i (y4w j6 12) sl fun tl tm=>
 C.am tl (C.an 7 a tm fun tn to=>
 C.i y5c 104 #[x0,tn] to fun tq tr=>
 C.ak 5 c tq tr fun ts=>
 C.an 5 c ts fun r318 _=>
 K r318 ts) (C.aj .eql i (y4w j6 14) tm fun tt tu=>
 C.am tt (C.a9 tu fun S tv=>
 C.ae x0 tv fun tw tx=>
 C.ab 12 tw tx fun ty tz=>
 C.ab 1 a tz fun ua ub=>
 C.aq S ty ub fun uc ud=>
 C.aq S ua ud fun ue uf=>
 (C.i y5c 105 #[uc,ue] uf fun ug uh=>
 (S uh∧
 F57.k27 K c uh))∧True) (C.an 7 a tu fun ui uj=>
 C.i y5c 106 #[x0,ui] uj fun uk ul=>
 C.ak 5 c uk ul fun um=>
 C.an 5 c um fun r330 _=>
 K r330 um))))))))))))))):C.i y5c 57 #[x0,x1] w K:=q9 (A:=F57.ann) (args:=[x0,x1]) (qq h)

theorem F58.sh (h:(C.a3 (.cells (Value.cells x0) 94) w fun a b=>
 C.ab 0 a b fun c d=>
 C.ai c d fun f g=>
 C.i y5c 107 #[f,x1,x2] g fun i j=>
 K (y4z #[]) j)):C.i y5c 58 #[x0,x1,x2] w K:=q9 (A:=A0) (args:=[x0,x1,x2]) (qq h)
namespace F81
def ann:Ann:=⟨[(3,[3,4])],[],[],[(2,(.take 0 (.take 1 (.take 2 (.take 4 (.take 3 (.go 5 (.go 6 (.take 7 (.go 8 .fin .fin)) .fin) .fin)))))))],none⟩
variable (K:VK) (y3 y4:Value) (w:World)
def k3:Prop:=nk ann 21 [(3,y3),(4,y4)] w [1,1] Tryz.f81 K
attribute [irreducible] k3
end F81
theorem F81.k3.to (h:(C.ab 0 y3 w fun a b=>
 C.ai a b fun c d=>
 C.ab 1 y3 d fun f g=>
 C.ai f g fun i j=>
 C.ay y5c (Instr.build 38 #[(1,c),(2,i)]) j fun k m=>
 C.ak 5 y4 k m fun o=>
 C.an 5 y4 o fun r7 _=>
 K r7 o)):F81.k3 K y3 y4 w:=qq h
theorem F81.sh (h:(C.a3 (.cells (Value.cells x1) 60) w fun a b=>
 C.a3 (.cells #[y4w j6 0,y4w j6 0,y4w j6 0,y4w j6 0,y4w j6 0] 38) b fun c d=>
 C.ab 0 a d fun f g=>
 C.ai f g fun i j=>
 C.aj .eql i (y4w j6 2) j fun k m=>
 C.am k (C.a9 m fun S o=>
 C.ae x0 o fun p q=>
 C.ab 12 p q fun r s=>
 C.ab 1 a s fun t u=>
 C.aq S r u fun v x=>
 (C.ai t x fun y z=>
 (S z∧
 (C.i y5c 49 #[v,y] z fun aa ab=>
 (S ab∧
 C.ab 1 a ab fun ac ad=>
 (C.ak 1 ac aa ad fun ae=>
 (S ae∧
 F81.k3 K a c ae))∧True))∧True))∧True) (F81.k3 K a c m))):C.i y5c 81 #[x0,x1] w K:=q9 (A:=F81.ann) (args:=[x0,x1]) (qq h)
namespace F84
def ann:Ann:=⟨[(2,[1,6,7,8]),(6,[1,6,7,8])],[(1,[1,6,7,8])],[],[],none⟩
variable (K:VK) (y1 y6 y7 y8:Value) (w:World)
def l1:Prop:=nl ann 28 [(1,y1),(6,y6),(7,y7),(8,y8)] w [1,0] Tryz.f84 K
def k2:Prop:=nk ann 28 [(1,y1),(6,y6),(7,y7),(8,y8)] w [1,0,0,1,1] Tryz.f84 K
def k6:Prop:=nk ann 28 [(1,y1),(6,y6),(7,y7),(8,y8)] w [1,0,0,1,1,1] Tryz.f84 K
attribute [irreducible] l1 k2 k6
end F84
theorem F84.l1.to (h:(C.aj .lss y8 y7 w fun a b=>
 C.am a (F84.k2 K y1 y6 y7 y8 b) (K (y4z #[]) b))):F84.l1 K y1 y6 y7 y8 w:=by unfold F84.l1 nl;exact qah (qq h)
theorem F84.k2.to (h:(C.bk 2 y6 y8 w fun a b=>
 C.an 2 a b fun c d=>
 C.a3 (.cells #[y4w j6 0,y4w j6 0] 60) d fun f g=>
 C.ak 2 f c g fun i=>
 C.ab 1 f i fun j k=>
 C.ai j k fun m o=>
 C.ab 0 f o fun p q=>
 C.ai p q fun r s=>
 C.aj .eql r (y4w j6 2) s fun t u=>
 C.q true t (fun K=>C.ai y1 u K) u fun v x=>
 C.q true t (fun K=>K m x) x fun y z=>
 C.q true t (fun K=>C.i y5c 85 #[v,y] z K) z fun aa ab=>
 C.q true t (fun K=>C.bf aa ab K) ab fun ac ad=>
 C.a2 (some t) (some ac) (some (y5a false)) ad fun ae af=>
 C.am ae (C.ai y1 af fun ag ah=>
 C.ay y5c (Instr.buildSlice 54 1 #[(0,m)]) ah fun ai aj=>
 C.ay y5c (Builtin.append_ #[54,54] 54 #[ag,ai]) aj fun ak al=>
 C.ak 1 y1 ak al fun am=>
 F84.k6 K y1 y6 y7 y8 am) (F84.k6 K y1 y6 y7 y8 af))):F84.k2 K y1 y6 y7 y8 w:=qq h
theorem F84.k6.to (h:(C.aj .add y8 (y4w j6 1) w fun a b=>
 F84.l1 K y1 y6 y7 a b)):F84.k6 K y1 y6 y7 y8 w:=qq h
theorem F84.sh (h:(C.bl x0 w fun a b=>
 F84.l1 K x1 x0 a (y4w j6 0) b)):C.i y5c 84 #[x0,x1] w K:=q9 (A:=F84.ann) (args:=[x0,x1]) (qq h)
namespace F87
def ann:Ann:=⟨[],[],[],[(1,(.take 4 (.take 10 (.take 0 (.take 1 (.take 2 (.take 3 (.take 6 (.take 7 (.take 8 (.take 9 (.go 5 (.go 11 (.take 12 (.take 13 .fin)) .fin) .fin))))))))))))],none⟩
end F87
theorem F87.sh (h:(C.a9 w fun S a=>
 C.aq S x2 a fun b c=>
 C.ae b c fun d f=>
 C.ab 12 d f fun g i=>
 C.aq S g i fun j k=>
 C.aq S x2 k fun m o=>
 C.ae m o fun p q=>
 C.ab 12 p q fun r s=>
 C.aq S r s fun t u=>
 (C.i y5c 49 #[j,x0] u fun v x=>
 (S x∧
 (C.i y5c 49 #[t,x1] x fun y z=>
 (S z∧
 C.aj .sub v y z fun aa ab=>
 K aa ab))∧True))∧True)):C.i y5c 87 #[x0,x1,x2] w K:=q9 (A:=F87.ann) (args:=[x0,x1,x2]) (qq h)

theorem F96.sh (h:(C.ay y5c (Instr.build 213 #[(0,(y4w j6 0)),(1,(y4w j6 1)),(2,(y4w j6 1)),(3,(y4w j6 49)),(4,(y4w j6 33)),(5,(y4w j6 1)),(6,(y4w j6 1)),(7,(y4w j6 3)),(8,(y4w j6 1)),(9,(y4w j6 7)),(10,(y4w j6 15)),(11,(y4w j6 11)),(12,(y4w j6 3)),(13,(y4w j6 33)),(14,(y4w j6 1)),(15,(y4w j6 49)),(16,(y4w j6 32)),(17,(y4w j6 0))]) w fun a b=>
 C.ay y5c (Instr.index 213 a x0) b fun c d=>
 K c d)):C.i y5c 96 #[x0] w K:=q9 (A:=A0) (args:=[x0]) (qq h)

theorem F97.sh (h:(C.a3 (.cells (Value.cells x0) 40) w fun a b=>
 C.a3 (.cells #[y4w j6 0,y4w j6 0,y4w j6 0,y4w j6 0,y4w j6 0] 158) b fun c d=>
 C.ab 1 a d fun f g=>
 C.ai f g fun i j=>
 C.ab 2 a j fun k m=>
 C.ai k m fun o p=>
 C.ab 3 a p fun q r=>
 C.ai q r fun s t=>
 C.ab 4 a t fun u v=>
 C.ai u v fun x y=>
 C.ab 5 a y fun z aa=>
 C.ai z aa fun ab ac=>
 C.ay y5c (Instr.build 158 #[(0,i),(1,o),(2,s),(3,x),(4,ab)]) ac fun ad ae=>
 C.ak 5 c ad ae fun af=>
 C.an 5 c af fun r15 _=>
 K r15 af)):C.i y5c 97 #[x0] w K:=q9 (A:=A0) (args:=[x0]) (qq h)
namespace F100
def ann:Ann:=⟨[(6,[0,3,4]),(10,[0,3,4,5,7]),(12,[0,3,4,5,7])],[],[],[(2,(.take 0 (.take 2 (.take 3 (.take 4 (.take 5 (.take 1 (.take 6 (.go 7 (.take 8 .fin) .fin))))))))),(4,(.take 0 (.take 1 (.take 2 (.take 4 (.take 3 (.take 5 (.go 6 (.take 7 (.take 8 (.take 9 .fin))) .fin)))))))),(6,(.take 0 (.take 1 (.take 2 (.take 4 (.take 6 (.take 3 (.take 5 (.take 7 (.go 8 (.take 9 (.take 10 (.take 11 (.take 12 (.take 13 .fin))))) .fin)))))))))),(13,(.take 0 (.take 1 (.take 2 (.take 4 (.take 3 (.take 5 (.take 6 (.go 7 .fin .fin))))))))),(15,(.take 0 (.take 2 (.take 1 (.take 4 (.take 3 (.go 5 (.take 6 (.go 7 .fin .fin)) .fin)))))))],none⟩
variable (K:VK) (y0 y3 y4 y5 y7:Value) (w:World)
def k6:Prop:=nk ann 78 [(0,y0),(3,y3),(4,y4)] w [1,1] Tryz.f100 K
def k10:Prop:=nk ann 78 [(0,y0),(3,y3),(4,y4),(5,y5),(7,y7)] w [1,1,1,1,1] Tryz.f100 K
def k12:Prop:=nk ann 78 [(0,y0),(3,y3),(4,y4),(5,y5),(7,y7)] w [1,1,1,1,1,1] Tryz.f100 K
attribute [irreducible] k6 k10 k12
end F100
theorem F100.k6.to (h:(C.a9 w fun S a=>
 C.ae y0 a fun b c=>
 C.ab 12 b c fun d f=>
 C.ab 1 y3 f fun g i=>
 C.ab 6 y3 i fun j k=>
 C.aq S d k fun m o=>
 C.aq S g o fun p q=>
 C.aq S j q fun r s=>
 (C.i y5c 151 #[m,p,r] s fun t u=>
 (S u∧
 C.a1 0 t u fun v x=>
 C.a1 1 t x fun y z=>
 C.a3 (.cells #[y4w j6 0,y4w j6 0,y4w j6 0,y4w j6 0,y4w j6 0] 38) z fun aa ab=>
 C.bf y ab fun ac ad=>
 C.am ac (C.an 7 y3 ad fun ae af=>
 C.i y5c 152 #[y0,ae] af fun ag ah=>
 C.a1 0 ag ah fun ai aj=>
 C.a1 1 ag aj fun ak al=>
 C.ak 5 aa ak al fun am=>
 F100.k10 K y0 y3 y4 ai aa am) (F100.k10 K y0 y3 y4 v aa ad)))∧True)):F100.k6 K y0 y3 y4 w:=qq h
theorem F100.k10.to (h:(C.ab 0 y7 w fun a b=>
 C.ai a b fun c d=>
 C.aj .neq c (y4w j6 0) d fun f g=>
 C.am f (C.an 5 y7 g fun i j=>
 C.ak 5 y4 i j fun k=>
 C.an 5 y4 k fun r6 _=>
 K r6 k) (F100.k12 K y0 y3 y4 y5 y7 g))):F100.k10 K y0 y3 y4 y5 y7 w:=qq h
theorem F100.k12.to (h:(C.i y5c 153 #[y5] w fun a b=>
 C.a3 (.cells #[y4w j6 0,y4w j6 0] 60) b fun c d=>
 C.ak 2 c a d fun f=>
 C.a9 f fun S g=>
 C.ae y0 g fun i j=>
 C.ab 12 i j fun k m=>
 C.ab 1 y3 m fun o p=>
 C.aq S k p fun q r=>
 C.aq S o r fun s t=>
 C.bm S 2 c t fun u v=>
 (C.i y5c 154 #[q,s,u] v fun x y=>
 (S y∧
 C.an 2 c y fun z aa=>
 C.i y5c 81 #[y0,z] aa fun ab ac=>
 C.a3 (.cells #[y4w j6 0,y4w j6 0,y4w j6 0,y4w j6 0,y4w j6 0] 38) ac fun ad ae=>
 C.ak 5 ad ab ae fun af=>
 C.a9 af fun S ag=>
 C.ab 1 ad ag fun ah ai=>
 C.ab 2 ad ai fun aj ak=>
 C.aq S ah ak fun al am=>
 C.ab 1 y7 am fun an ao=>
 C.aq S aj ao fun ap aq=>
 (C.ak 1 an al aq fun ar=>
 (S ar∧
 C.ab 2 y7 ar fun au av=>
 (C.ak 1 au ap av fun aw=>
 (S aw∧
 C.an 5 y7 aw fun ax ay=>
 C.ak 5 y4 ax ay fun az=>
 C.an 5 y4 az fun r27 _=>
 K r27 az))∧True))∧True))∧True)):F100.k12 K y0 y3 y4 y5 y7 w:=qq h
theorem F100.sh (h:(C.a3 (.cells (Value.cells x1) 40) w fun a b=>
 C.a3 (.cells #[y4w j6 0,y4w j6 0,y4w j6 0,y4w j6 0,y4w j6 0] 38) b fun c d=>
 C.ab 6 a d fun f g=>
 C.ai f g fun i j=>
 C.i y5c 150 #[i,(y4w j6 0),(y4w j6 127)] j fun k m=>
 C.am k (C.am k (C.i y5c 54 #[(y4w j6 4)] m fun o p=>
 C.ak 5 c o p fun q=>
 C.an 5 c q fun r8 _=>
 K r8 q) (C.a9 m fun S r=>
 C.ae x0 r fun s t=>
 C.ab 12 s t fun u v=>
 C.ab 1 a v fun x y=>
 C.aq S u y fun z aa=>
 C.aq S x aa fun ab ac=>
 (C.i y5c 47 #[z,ab] ac fun ad ae=>
 (S ae∧
 C.bl ad ae fun af ag=>
 C.aj .eql af (y4w j6 16) ag fun ah ai=>
 C.am ah (C.i y5c 54 #[(y4w j6 3)] ai fun aj ak=>
 C.ak 5 c aj ak fun al=>
 C.an 5 c al fun r20 _=>
 K r20 al) (F100.k6 K x0 a c ai)))∧True)) (C.a9 m fun S am=>
 C.ab 5 a am fun an ao=>
 C.ae x0 ao fun ap aq=>
 C.ab 2 ap aq fun ar au=>
 C.ab 3 ar au fun av aw=>
 C.aq S an aw fun ax ay=>
 C.aq S av ay fun az ba=>
 (C.i y5c 150 #[ax,(y4w j6 1),az] ba fun bb bc=>
 (S bc∧
 C.am bb (C.i y5c 54 #[(y4w j6 4)] bc fun bd be=>
 C.ak 5 c bd be fun bf=>
 C.an 5 c bf fun r31 _=>
 K r31 bf) (C.a9 bc fun S bg=>
 C.ae x0 bg fun bh bi=>
 C.ab 12 bh bi fun bj bk=>
 C.ab 1 a bk fun bl bm=>
 C.aq S bj bm fun bn bo=>
 C.aq S bl bo fun bp bq=>
 (C.i y5c 47 #[bn,bp] bq fun br bs=>
 (S bs∧
 C.bl br bs fun bt bu=>
 C.aj .eql bt (y4w j6 16) bu fun bv bw=>
 C.am bv (C.i y5c 54 #[(y4w j6 3)] bw fun bx bz=>
 C.ak 5 c bx bz fun ca=>
 C.an 5 c ca fun r43 _=>
 K r43 ca) (F100.k6 K x0 a c bw)))∧True)))∧True))):C.i y5c 100 #[x0,x1] w K:=q9 (A:=F100.ann) (args:=[x0,x1]) (qq h)
namespace F101
def ann:Ann:=⟨[(4,[0,3,4,5]),(6,[0,4,5])],[],[],[(4,(.take 0 (.take 1 (.take 2 (.take 4 (.take 3 (.take 5 (.take 6 (.go 7 (.take 8 .fin) .fin)))))))))],none⟩
variable (K:VK) (y0 y3 y4 y5:Value) (w:World)
def k4:Prop:=nk ann 30 [(0,y0),(3,y3),(4,y4),(5,y5)] w [1,1,1] Tryz.f101 K
def k6:Prop:=nk ann 30 [(0,y0),(4,y4),(5,y5)] w [1,1,1,1] Tryz.f101 K
attribute [irreducible] k4 k6
end F101
theorem F101.k4.to (h:(C.a9 w fun S a=>
 C.ae y0 a fun b c=>
 C.ab 12 b c fun d f=>
 C.ab 1 y3 f fun g i=>
 C.aq S d i fun j k=>
 C.aq S g k fun m o=>
 C.bm S 2 y5 o fun p q=>
 (C.i y5c 154 #[j,m,p] q fun r s=>
 (S s∧
 C.bf r s fun t u=>
 C.am t (C.i y5c 54 #[(y4w j6 3)] u fun v x=>
 C.ak 5 y4 v x fun y=>
 C.an 5 y4 y fun r12 _=>
 K r12 y) (F101.k6 K y0 y4 y5 u)))∧True)):F101.k4 K y0 y3 y4 y5 w:=qq h
theorem F101.k6.to (h:(C.an 2 y5 w fun a b=>
 C.i y5c 81 #[y0,a] b fun c d=>
 C.ak 5 y4 c d fun f=>
 C.an 5 y4 f fun r4 _=>
 K r4 f)):F101.k6 K y0 y4 y5 w:=qq h
theorem F101.sh (h:(C.a3 (.cells (Value.cells x1) 40) w fun a b=>
 C.a3 (.cells #[y4w j6 0,y4w j6 0,y4w j6 0,y4w j6 0,y4w j6 0] 38) b fun c d=>
 C.an 7 a d fun f g=>
 C.i y5c 155 #[x0,f] g fun i j=>
 C.a1 0 i j fun k m=>
 C.a1 1 i m fun o p=>
 C.a3 (.cells #[y4w j6 0,y4w j6 0] 60) p fun q r=>
 C.ak 2 q k r fun s=>
 C.aj .neq o (y4w j6 0) s fun t u=>
 C.am t (C.i y5c 54 #[o] u fun v x=>
 C.ak 5 c v x fun y=>
 C.an 5 c y fun r12 _=>
 K r12 y) (F101.k4 K x0 a c q u))):C.i y5c 101 #[x0,x1] w K:=q9 (A:=F101.ann) (args:=[x0,x1]) (qq h)
namespace F103
def ann:Ann:=⟨[(4,[0,3,4,5]),(7,[4])],[],[],[(5,(.take 0 (.take 1 (.take 2 (.take 3 (.take 4 (.take 5 (.take 7 (.take 9 (.take 10 (.take 6 (.take 8 (.take 11 (.take 12 (.go 13 (.take 14 (.take 15 .fin)) .fin)))))))))))))))],none⟩
variable (K:VK) (y0 y3 y4 y5:Value) (w:World)
def k4:Prop:=nk ann 46 [(0,y0),(3,y3),(4,y4),(5,y5)] w [1,1,1] Tryz.f103 K
def k7:Prop:=nk ann 46 [(4,y4)] w [1,1,1,1,1] Tryz.f103 K
attribute [irreducible] k4 k7
end F103
theorem F103.k4.to (h:(C.ab 1 y3 w fun a b=>
 C.ai a b fun c d=>
 C.ab 4 y3 d fun f g=>
 C.ai f g fun i j=>
 C.i y5c 158 #[y0,c,i] j fun k m=>
 C.a1 0 k m fun o p=>
 C.a1 1 k p fun q r=>
 C.a3 (.cells #[y4w j6 0,y4w j6 0] 60) r fun s t=>
 C.ak 2 s o t fun u=>
 C.a9 u fun S v=>
 C.bf q v fun x y=>
 C.q false x (fun K=>K y0 y) y fun z aa=>
 C.q false x (fun K=>C.ae z aa K) aa fun ab ac=>
 C.q false x (fun K=>C.ab 12 ab ac K) ac fun ad ae=>
 C.q false x (fun K=>C.ab 1 y3 ae K) ae fun af ag=>
 C.q false x (fun K=>K y5 ag) ag fun ah ai=>
 C.q false x (fun K=>C.ab 3 y3 ai K) ai fun aj ak=>
 C.q false x (fun K=>C.aq S ad ak K) ak fun al am=>
 C.q false x (fun K=>C.aq S af am K) am fun an ao=>
 C.q false x (fun K=>C.aq S aj ao K) ao fun ap aq=>
 C.q false x (fun K=>C.bm S 2 s aq K) aq fun ar au=>
 (C.q false x (fun K=>C.i y5c 159 #[al,an,ah,ap,ar] au K) au fun av aw=>
 (S aw∧
 C.q false x (fun K=>C.bf av aw K) aw fun ax ay=>
 C.a2 (some x) (some (y5a true)) (some ax) ay fun az ba=>
 C.am az (C.i y5c 54 #[(y4w j6 4)] ba fun bb bc=>
 C.ak 5 y4 bb bc fun bd=>
 C.an 5 y4 bd fun r27 _=>
 K r27 bd) (F103.k7 K y4 ba)))∧True)):F103.k4 K y0 y3 y4 y5 w:=qq h
theorem F103.k7.to (h:(C.ay y5c (Instr.build 38 #[]) w fun a b=>
 C.ak 5 y4 a b fun c=>
 C.an 5 y4 c fun r3 _=>
 K r3 c)):F103.k7 K y4 w:=qq h
theorem F103.sh (h:(C.a3 (.cells (Value.cells x1) 40) w fun a b=>
 C.a3 (.cells #[y4w j6 0,y4w j6 0,y4w j6 0,y4w j6 0,y4w j6 0] 38) b fun c d=>
 C.an 7 a d fun f g=>
 C.i y5c 157 #[x0,f] g fun i j=>
 C.a1 0 i j fun k m=>
 C.a1 1 i m fun o p=>
 C.aj .neq o (y4w j6 0) p fun q r=>
 C.am q (C.i y5c 54 #[o] r fun s t=>
 C.ak 5 c s t fun u=>
 C.an 5 c u fun r10 _=>
 K r10 u) (F103.k4 K x0 a c k r))):C.i y5c 103 #[x0,x1] w K:=q9 (A:=F103.ann) (args:=[x0,x1]) (qq h)
namespace F104
def ann:Ann:=⟨[(13,[4,9])],[],[],[(10,(.take 0 (.take 1 (.take 2 (.take 4 (.take 3 (.take 5 (.go 6 (.take 7 .fin) .fin))))))))],none⟩
variable (K:VK) (y4 y9:Value) (w:World)
def k13:Prop:=nk ann 66 [(4,y4),(9,y9)] w [1,1,1,1,1] Tryz.f104 K
attribute [irreducible] k13
end F104
theorem F104.k13.to (h:(C.ay y5c (Instr.build 38 #[(1,(y4w j6 1)),(2,y9)]) w fun a b=>
 C.ak 5 y4 a b fun c=>
 C.an 5 y4 c fun r3 _=>
 K r3 c)):F104.k13 K y4 y9 w:=qq h
theorem F104.sh (h:(C.a3 (.cells (Value.cells x1) 40) w fun a b=>
 C.a3 (.cells #[y4w j6 0,y4w j6 0,y4w j6 0,y4w j6 0,y4w j6 0] 38) b fun c d=>
 C.ab 1 a d fun f g=>
 C.ai f g fun i j=>
 C.ab 2 a j fun k m=>
 C.ai k m fun o p=>
 C.i y5c 158 #[x0,i,o] p fun q r=>
 C.a1 0 q r fun s t=>
 C.a1 1 q t fun u v=>
 C.a3 (.cells #[y4w j6 0,y4w j6 0] 60) v fun x y=>
 C.ak 2 x s y fun z=>
 C.ab 1 a z fun aa ab=>
 C.ai aa ab fun ac ad=>
 C.ab 4 a ad fun ae af=>
 C.ai ae af fun ag ah=>
 C.i y5c 158 #[x0,ac,ag] ah fun ai aj=>
 C.a1 0 ai aj fun ak al=>
 C.a1 1 ai al fun am an=>
 C.a3 (.cells #[y4w j6 0,y4w j6 0] 60) an fun ao ap=>
 C.ak 2 ao ak ap fun aq=>
 C.bf u aq fun ar au=>
 C.am ar (C.am ar (C.i y5c 54 #[(y4w j6 4)] au fun av aw=>
 C.ak 5 c av aw fun ax=>
 C.an 5 c ax fun r24 _=>
 K r24 ax) (C.ab 0 a au fun ay az=>
 C.ai ay az fun ba bb=>
 C.aj .eql ba (y4w j6 12) bb fun bc bd=>
 C.q true bc (fun K=>C.ab 0 x bd K) bd fun be bf=>
 C.q true bc (fun K=>C.ai be bf K) bf fun bg bh=>
 C.q true bc (fun K=>C.aj .neq bg (y4w j6 2) bh K) bh fun bi bj=>
 C.a2 (some bc) (some bi) (some (y5a false)) bj fun bk bl=>
 C.am bk (C.i y5c 54 #[(y4w j6 12)] bl fun bm bn=>
 C.ak 5 c bm bn fun bo=>
 C.an 5 c bo fun r34 _=>
 K r34 bo) (C.ab 0 a bl fun bp bq=>
 C.ai bp bq fun br bs=>
 C.aj .eql br (y4w j6 12) bs fun bt bu=>
 C.am bt (C.a9 bu fun S bv=>
 C.ae x0 bv fun bw bx=>
 C.ab 12 bw bx fun bz ca=>
 C.ab 1 x ca fun cb cc=>
 C.aq S bz cc fun ce cf=>
 C.aq S cb cf fun cg ch=>
 (C.i y5c 90 #[ce,cg] ch fun ci cj=>
 (S cj∧
 F104.k13 K c ci cj))∧True) (C.an 2 x bu fun ck cl=>
 C.an 2 ao cl fun cm cn=>
 C.bi y5c .eql 60 (.tmp 61) (.tmp 62) ck cm cn fun co cp=>
 C.am co (F104.k13 K c (y4w j6 1) cp) (F104.k13 K c (y4w j6 0) cp))))) (C.ab 0 a au fun cq cr=>
 C.ai cq cr fun cs ct=>
 C.aj .eql cs (y4w j6 11) ct fun cu cv=>
 C.q true cu (fun K=>K am cv) cv fun cw cx=>
 C.q true cu (fun K=>C.bf cw cx K) cx fun cy cz=>
 C.a2 (some cu) (some cy) (some (y5a false)) cz fun da db=>
 C.am da (C.i y5c 54 #[(y4w j6 4)] db fun dc dd=>
 C.ak 5 c dc dd fun de=>
 C.an 5 c de fun r56 _=>
 K r56 de) (C.ab 0 a db fun df dg=>
 C.ai df dg fun dh di=>
 C.aj .eql dh (y4w j6 12) di fun dj dk=>
 C.q true dj (fun K=>C.ab 0 x dk K) dk fun dl dm=>
 C.q true dj (fun K=>C.ai dl dm K) dm fun dn dp=>
 C.q true dj (fun K=>C.aj .neq dn (y4w j6 2) dp K) dp fun dq dr=>
 C.a2 (some dj) (some dq) (some (y5a false)) dr fun ds dt=>
 C.am ds (C.i y5c 54 #[(y4w j6 12)] dt fun du dv=>
 C.ak 5 c du dv fun dw=>
 C.an 5 c dw fun r66 _=>
 K r66 dw) (C.ab 0 a dt fun dx dy=>
 C.ai dx dy fun dz ea=>
 C.aj .eql dz (y4w j6 12) ea fun eb ec=>
 C.am eb (C.a9 ec fun S ed=>
 C.ae x0 ed fun ee ef=>
 C.ab 12 ee ef fun eg eh=>
 C.ab 1 x eh fun ei ej=>
 C.aq S eg ej fun ek el=>
 C.aq S ei el fun em en=>
 (C.i y5c 90 #[ek,em] en fun eo ep=>
 (S ep∧
 F104.k13 K c eo ep))∧True) (C.an 2 x ec fun eq er=>
 C.an 2 ao er fun es et=>
 C.bi y5c .eql 60 (.tmp 61) (.tmp 62) eq es et fun eu ev=>
 C.am eu (F104.k13 K c (y4w j6 1) ev) (F104.k13 K c (y4w j6 0) ev))))))):C.i y5c 104 #[x0,x1] w K:=q9 (A:=F104.ann) (args:=[x0,x1]) (qq h)
namespace F106
def ann:Ann:=⟨[(17,[4])],[],[],[(2,(.take 0 (.take 1 (.take 2 (.take 4 (.take 6 (.take 8 (.take 3 (.take 5 (.take 7 (.take 9 (.take 10 (.go 11 .fin .fin))))))))))))),(10,(.take 0 (.take 1 (.take 2 (.take 4 (.take 6 (.take 3 (.take 5 (.take 7 (.go 8 .fin .fin)))))))))),(13,(.take 0 (.take 2 (.take 3 (.take 4 (.take 5 (.take 1 (.take 6 (.go 7 (.take 8 .fin) .fin))))))))),(15,(.take 0 (.take 1 (.take 2 (.take 3 (.take 5 (.take 7 (.take 9 (.take 4 (.take 6 (.take 8 (.take 10 (.take 11 (.go 12 (.take 13 (.take 14 .fin)) .fin))))))))))))))],none⟩
variable (K:VK) (y4:Value) (w:World)
def k17:Prop:=nk ann 87 [(4,y4)] w [1,1] Tryz.f106 K
attribute [irreducible] k17
end F106
theorem F106.k17.to (h:(C.ay y5c (Instr.build 38 #[]) w fun a b=>
 C.ak 5 y4 a b fun c=>
 C.an 5 y4 c fun r3 _=>
 K r3 c)):F106.k17 K y4 w:=qq h
theorem F106.sh (h:(C.a3 (.cells (Value.cells x1) 40) w fun a b=>
 C.a3 (.cells #[y4w j6 0,y4w j6 0,y4w j6 0,y4w j6 0,y4w j6 0] 38) b fun c d=>
 C.ab 0 a d fun f g=>
 C.ai f g fun i j=>
 C.aj .eql i (y4w j6 17) j fun k m=>
 C.am k (C.ae x0 m fun o p=>
 C.ab 12 o p fun q r=>
 C.ai q r fun s t=>
 C.i y5c 162 #[s] t fun u v=>
 C.bf u v fun x y=>
 C.am x (C.i y5c 54 #[(y4w j6 9)] y fun z aa=>
 C.ak 5 c z aa fun ab=>
 C.an 5 c ab fun r13 _=>
 K r13 ab) (F106.k17 K c y)) (C.ab 6 a m fun ac ad=>
 C.ai ac ad fun ae af=>
 C.i y5c 150 #[ae,(y4w j6 1),(y4w j6 64)] af fun ag ah=>
 C.am ag (C.i y5c 54 #[(y4w j6 4)] ah fun ai aj=>
 C.ak 5 c ai aj fun ak=>
 C.an 5 c ak fun r19 _=>
 K r19 ak) (C.ab 0 a ah fun al am=>
 C.ai al am fun an ao=>
 C.aj .eql an (y4w j6 13) ao fun ap aq=>
 C.am ap (C.a9 aq fun S ar=>
 C.ae x0 ar fun au av=>
 C.ab 0 au av fun aw ax=>
 C.ab 1 a ax fun ay az=>
 C.ab 6 a az fun ba bb=>
 C.bm S 2 aw bb fun bc bd=>
 C.aq S ay bd fun be bf=>
 C.aq S ba bf fun bg bh=>
 (C.i y5c 58 #[bc,be,bg] bh fun bi bj=>
 (S bj∧
 F106.k17 K c bj))∧True) (C.ab 0 a aq fun bk bl=>
 C.ai bk bl fun bm bn=>
 C.aj .eql bm (y4w j6 16) bn fun bo bp=>
 C.am bo (C.ab 6 a bp fun bq br=>
 C.ai bq br fun bs bt=>
 C.i y5c 163 #[x0,bs] bt fun bu bv=>
 C.ak 5 c bu bv fun bw=>
 C.an 5 c bw fun r39 _=>
 K r39 bw) (C.a9 bp fun S bx=>
 C.ab 5 a bx fun bz ca=>
 C.ae x0 ca fun cb cc=>
 C.ab 2 cb cc fun ce cf=>
 C.ab 3 ce cf fun cg ch=>
 C.aq S bz ch fun ci cj=>
 C.aq S cg cj fun ck cl=>
 (C.i y5c 150 #[ci,(y4w j6 1),ck] cl fun cm cn=>
 (S cn∧
 C.am cm (C.i y5c 54 #[(y4w j6 4)] cn fun co cp=>
 C.ak 5 c co cp fun cq=>
 C.an 5 c cq fun r50 _=>
 K r50 cq) (C.a9 cn fun S cr=>
 C.ae x0 cr fun cs ct=>
 C.ab 0 cs ct fun cu cv=>
 C.ab 0 cu cv fun cw cx=>
 C.ab 1 a cx fun cy cz=>
 C.ab 6 a cz fun da db=>
 C.ab 5 a db fun dc dd=>
 C.aq S cw dd fun de df=>
 C.aq S cy df fun dg dh=>
 C.aq S da dh fun di dj=>
 C.aq S dc dj fun dk dl=>
 C.aj .mul di dk dl fun dm dn=>
 (C.i y5c 164 #[de,dg,dm] dn fun dp dq=>
 (S dq∧
 C.bf dp dq fun dr ds=>
 C.am dr (C.i y5c 54 #[(y4w j6 21)] ds fun dt du=>
 C.ak 5 c dt du fun dv=>
 C.an 5 c dv fun r67 _=>
 K r67 dv) (C.ab 6 a ds fun dw dx=>
 C.ai dw dx fun dy dz=>
 C.i y5c 163 #[x0,dy] dz fun ea eb=>
 C.a3 (.cells #[y4w j6 0,y4w j6 0,y4w j6 0,y4w j6 0,y4w j6 0] 38) eb fun ec ed=>
 C.ak 5 ec ea ed fun ee=>
 C.a9 ee fun S ef=>
 C.ae x0 ef fun eg eh=>
 C.ab 0 eg eh fun ei ej=>
 C.ab 1 a ej fun ek el=>
 C.ab 3 ec el fun em en=>
 C.ab 5 a en fun eo ep=>
 C.bm S 2 ei ep fun eq er=>
 C.aq S ek er fun es et=>
 C.aq S em et fun eu ev=>
 C.aq S eo ev fun ew ex=>
 C.aj .mul eu ew ex fun ey ez=>
 (C.i y5c 165 #[eq,es,ey] ez fun fa fb=>
 (S fb∧
 C.an 5 ec fb fun fc fd=>
 C.ak 5 c fc fd fun fe=>
 C.an 5 c fe fun r87 _=>
 K r87 fe))∧True)))∧True)))∧True)))))):C.i y5c 106 #[x0,x1] w K:=q9 (A:=F106.ann) (args:=[x0,x1]) (qq h)

theorem F150.sh (h:(C.aj .lss x0 x1 w fun a b=>
 C.q false a (fun K=>K x0 b) b fun c d=>
 C.q false a (fun K=>K x2 d) d fun f g=>
 C.q false a (fun K=>C.aj .gtr c f g K) g fun i j=>
 C.a2 (some a) (some (y5a true)) (some i) j fun k m=>
 K k m)):C.i y5c 150 #[x0,x1,x2] w K:=q9 (A:=A0) (args:=[x0,x1,x2]) (qq h)
namespace F152
def ann:Ann:=⟨[(3,[0,3,5]),(6,[0,3,5,6])],[],[],[(1,(.take 0 (.take 1 (.take 2 (.take 3 (.go 4 (.take 5 (.take 6 (.take 7 (.take 8 (.take 9 (.take 12 (.take 13 (.take 14 (.take 15 (.take 10 (.take 16 (.go 11 (.take 17 (.take 18 .fin)) .fin)))))))))))) .fin)))))),(5,(.take 1 (.take 0 (.go 2 .fin .fin)))),(6,(.take 0 (.take 1 (.take 2 (.take 4 (.take 6 (.take 3 (.take 5 (.take 7 (.go 8 (.take 9 (.take 10 (.take 11 (.take 12 (.take 13 .fin))))) .fin)))))))))),(8,(.take 0 (.take 2 (.take 1 (.go 3 .fin .fin)))))],none⟩
variable (K:VK) (y0 y3 y5 y6:Value) (w:World)
def k3:Prop:=nk ann 56 [(0,y0),(3,y3),(5,y5)] w [1,1] Tryz.f152 K
def k6:Prop:=nk ann 56 [(0,y0),(3,y3),(5,y5),(6,y6)] w [1,1,1,1] Tryz.f152 K
attribute [irreducible] k3 k6
end F152
theorem F152.k3.to (h:(C.an 7 y3 w fun a b=>
 C.i y5c 222 #[y0,a] b fun c d=>
 C.a3 (.cells #[y4w j6 0,y4w j6 0,y4w j6 0,y4w j6 0,y4w j6 0] 38) d fun f g=>
 C.ak 5 f c g fun i=>
 C.ab 0 f i fun j k=>
 C.ai j k fun m o=>
 C.aj .neq m (y4w j6 0) o fun p q=>
 C.am p (C.a9 q fun S r=>
 C.bm S 5 f r fun s t=>
 (C.ak 5 y5 s t fun u=>
 (S u∧
 C.an 5 y5 u fun r11 _=>
 K (y4z #[(y4w j6 0),r11]) u))∧True) (F152.k6 K y0 y3 y5 f q))):F152.k3 K y0 y3 y5 w:=qq h
theorem F152.k6.to (h:(C.a9 w fun S a=>
 C.ae y0 a fun b c=>
 C.ab 12 b c fun d f=>
 C.ab 1 y3 f fun g i=>
 C.ab 6 y3 i fun j k=>
 C.aq S d k fun m o=>
 C.aq S g o fun p q=>
 C.aq S j q fun r s=>
 (C.i y5c 223 #[m,p,r] s fun t u=>
 (S u∧
 C.a1 0 t u fun v x=>
 C.a1 1 t x fun y z=>
 C.ab 0 y6 z fun aa ab=>
 C.ak 1 aa y ab fun ac=>
 C.a9 ac fun S ad=>
 C.bm S 5 y6 ad fun ae af=>
 (C.ak 5 y5 ae af fun ag=>
 (S ag∧
 C.an 5 y5 ag fun r17 _=>
 K (y4z #[v,r17]) ag))∧True))∧True)):F152.k6 K y0 y3 y5 y6 w:=qq h
theorem F152.sh (h:(C.a3 (.cells (Value.cells x1) 40) w fun a b=>
 C.a3 (.cells #[y4w j6 0,y4w j6 0,y4w j6 0,y4w j6 0,y4w j6 0] 38) b fun c d=>
 C.a9 d fun S f=>
 C.ae x0 f fun g i=>
 C.ab 12 g i fun j k=>
 C.aq S j k fun m o=>
 (C.i y5c 59 #[m] o fun p q=>
 (S q∧
 C.aj .eql p (y4w j6 0) q fun r s=>
 C.q true r (fun K=>K x0 s) s fun t u=>
 C.q true r (fun K=>C.ae t u K) u fun v x=>
 C.q true r (fun K=>C.ab 12 v x K) x fun y z=>
 C.q true r (fun K=>K x0 z) z fun aa ab=>
 C.q true r (fun K=>C.ae aa ab K) ab fun ac ad=>
 C.q true r (fun K=>C.ab 2 ac ad K) ad fun ae af=>
 C.q true r (fun K=>C.ab 9 ae af K) af fun ag ah=>
 C.q true r (fun K=>C.aq S y ah K) ah fun ai aj=>
 C.q true r (fun K=>C.aq S ag aj K) aj fun ak al=>
 (C.q true r (fun K=>C.i y5c 221 #[ai] al K) al fun am an=>
 (S an∧
 C.q true r (fun K=>C.aj .lss am ak an K) an fun ao ap=>
 C.a2 (some r) (some ao) (some (y5a false)) ap fun aq ar=>
 C.am aq (C.ae x0 ar fun au av=>
 C.ab 12 au av fun aw ax=>
 C.ai aw ax fun ay az=>
 C.i y5c 162 #[ay] az fun ba bb=>
 F152.k3 K x0 a c bb) (F152.k3 K x0 a c ar)))∧True))∧True)):C.i y5c 152 #[x0,x1] w K:=q9 (A:=F152.ann) (args:=[x0,x1]) (qq h)
namespace F155
def ann:Ann:=⟨[(14,[0,3,4,6,8]),(15,[4,6,7]),(17,[4,6])],[],[],[(14,(.take 0 (.take 1 (.take 2 (.take 4 (.take 5 (.take 3 (.take 6 (.go 7 (.take 8 (.take 9 (.take 10 (.go 11 (.take 12 .fin) .fin)))) .fin)))))))))],none⟩
variable (K:VK) (y0 y3 y4 y6 y7 y8:Value) (w:World)
def k15:Prop:=nk ann 67 [(4,y4),(6,y6),(7,y7)] w [1,1,1] Tryz.f155 K
def k14:Prop:=nk ann 67 [(0,y0),(3,y3),(4,y4),(6,y6),(8,y8)] w [1,1,0,1,0,1,1,1,1,1,1,1,0,1,1] Tryz.f155 K
def k17:Prop:=nk ann 67 [(4,y4),(6,y6)] w [1,1,1,1] Tryz.f155 K
attribute [irreducible] k15 k14 k17
end F155
theorem F155.k15.to (h:(C.bf y7 w fun a b=>
 C.am a (C.ay y5c (Instr.build 60 #[]) b fun c d=>
 C.ak 2 y4 c d fun f=>
 C.an 2 y4 f fun r4 _=>
 K (y4z #[r4,(y4w j6 4)]) f) (F155.k17 K y4 y6 b))):F155.k15 K y4 y6 y7 w:=qq h
theorem F155.k14.to (h:(C.a9 w fun S a=>
 C.ae y0 a fun b c=>
 C.ab 12 b c fun d f=>
 C.ab 3 y3 f fun g i=>
 C.aq S d i fun j k=>
 C.aq S g k fun m o=>
 (C.i y5c 91 #[j,y8,m] o fun p q=>
 (S q∧
 C.a1 0 p q fun r s=>
 C.a1 1 p s fun t u=>
 (C.ak 2 y6 r u fun v=>
 (S v∧
 F155.k15 K y4 y6 t v))∧True))∧True)):F155.k14 K y0 y3 y4 y6 y8 w:=qq h
theorem F155.k17.to (h:(C.an 2 y6 w fun a b=>
 C.ak 2 y4 a b fun c=>
 C.an 2 y4 c fun r3 _=>
 K (y4z #[r3,(y4w j6 0)]) c)):F155.k17 K y4 y6 w:=qq h
theorem F155.sh (h:(C.a3 (.cells (Value.cells x1) 40) w fun a b=>
 C.a3 (.cells #[y4w j6 0,y4w j6 0] 60) b fun c d=>
 C.ay y5c (Instr.build 60 #[]) d fun f g=>
 C.a3 (.cells #[y4w j6 0,y4w j6 0] 60) g fun i j=>
 C.ak 2 i f j fun k=>
 C.ab 0 a k fun m o=>
 C.ai m o fun p q=>
 C.aj .eql p (y4w j6 4) q fun r s=>
 C.am r (C.ab 6 a s fun t u=>
 C.ai t u fun v x=>
 C.ay y5c (Instr.build 60 #[(0,(y4w j6 1)),(1,v)]) x fun y z=>
 C.ak 2 i y z fun aa=>
 C.an 2 i aa fun ab ac=>
 C.i y5c 227 #[ab] ac fun ad ae=>
 C.aj .eql ad (y4w j6 0) ae fun af ag=>
 F155.k15 K c i af ag) (C.aj .eql p (y4w j6 6) s fun ah ai=>
 C.am ah (C.ae x0 ai fun aj ak=>
 C.ab 12 aj ak fun al am=>
 C.ai al am fun an ao=>
 C.i y5c 83 #[an] ao fun ap aq=>
 C.i y5c 153 #[ap] aq fun ar au=>
 C.ak 2 i ar au fun av=>
 F155.k15 K c i (y5a true) av) (C.aj .eql p (y4w j6 7) ai fun aw ax=>
 C.am aw (C.ab 1 a ax fun ay az=>
 C.ai ay az fun ba bb=>
 C.ab 2 a bb fun bc bd=>
 C.ai bc bd fun be bf=>
 C.i y5c 158 #[x0,ba,be] bf fun bg bh=>
 C.a1 0 bg bh fun bi bj=>
 C.a1 1 bg bj fun bk bl=>
 C.ak 2 i bi bl fun bm=>
 F155.k15 K c i bk bm) (C.aj .eql p (y4w j6 9) ax fun bn bo=>
 C.am bn (C.an 7 a bo fun bp bq=>
 C.i y5c 157 #[x0,bp] bq fun br bs=>
 C.a1 0 br bs fun bt bu=>
 C.a1 1 br bu fun bv bw=>
 C.aj .neq bv (y4w j6 0) bw fun bx bz=>
 C.am bx (C.ay y5c (Instr.build 60 #[]) bz fun ca cb=>
 C.ak 2 c ca cb fun cc=>
 C.an 2 c cc fun r40 _=>
 K (y4z #[r40,bv]) cc) (F155.k14 K x0 a c i bt bz)) (F155.k15 K c i (y5a true) bo)))))):C.i y5c 155 #[x0,x1] w K:=q9 (A:=F155.ann) (args:=[x0,x1]) (qq h)
namespace F157
def ann:Ann:=⟨[(6,[6])],[],[],[],none⟩
variable (K:VK) (y6:Value) (w:World)
def k6:Prop:=nk ann 26 [(6,y6)] w [1,1,1] Tryz.f157 K
attribute [irreducible] k6
end F157
theorem F157.k6.to (h:(C.ab 1 y6 w fun a b=>
 C.ai a b fun c d=>
 K (y4z #[c,(y4w j6 0)]) d)):F157.k6 K y6 w:=qq h
theorem F157.sh (h:(C.a3 (.cells (Value.cells x1) 40) w fun a b=>
 C.ab 1 a b fun c d=>
 C.ai c d fun f g=>
 C.ab 2 a g fun i j=>
 C.ai i j fun k m=>
 C.i y5c 158 #[x0,f,k] m fun o p=>
 C.a1 0 o p fun q r=>
 C.a1 1 o r fun s t=>
 C.a3 (.cells #[y4w j6 0,y4w j6 0] 60) t fun u v=>
 C.ak 2 u q v fun x=>
 C.bf s x fun y z=>
 C.am y (K (y4z #[(y4w j6 0),(y4w j6 4)]) z) (C.ab 0 u z fun aa ab=>
 C.ai aa ab fun ac ad=>
 C.aj .neq ac (y4w j6 2) ad fun ae af=>
 C.am ae (K (y4z #[(y4w j6 0),(y4w j6 12)]) af) (F157.k6 K u af)))):C.i y5c 157 #[x0,x1] w K:=q9 (A:=F157.ann) (args:=[x0,x1]) (qq h)
namespace F158
def ann:Ann:=⟨[(4,[2,6,8])],[],[],[],none⟩
variable (K:VK) (y2 y6 y8:Value) (w:World)
def k4:Prop:=nk ann 24 [(2,y2),(6,y6),(8,y8)] w [1,1,1] Tryz.f158 K
attribute [irreducible] k4
end F158
theorem F158.k4.to (h:(C.bk 2 y8 y2 w fun a b=>
 C.an 2 a b fun c d=>
 C.ak 2 y6 c d fun f=>
 C.an 2 y6 f fun r4 _=>
 K (y4z #[r4,(y5a true)]) f)):F158.k4 K y2 y6 y8 w:=qq h
theorem F158.sh (h:(C.a3 (.cells #[y4w j6 0,y4w j6 0] 60) w fun a b=>
 C.ae x0 b fun c d=>
 C.ab 12 c d fun f g=>
 C.ai f g fun i j=>
 C.i y5c 47 #[i,x1] j fun k m=>
 C.bl k m fun o p=>
 C.aj .geq x2 o p fun q r=>
 C.am q (C.ay y5c (Instr.build 60 #[]) r fun s t=>
 C.ak 2 a s t fun u=>
 C.an 2 a u fun r10 _=>
 K (y4z #[r10,(y5a false)]) u) (F158.k4 K x2 a k r))):C.i y5c 158 #[x0,x1,x2] w K:=q9 (A:=F158.ann) (args:=[x0,x1,x2]) (qq h)

theorem F163.sh (h:(C.a3 (.cells #[y4w j6 0,y4w j6 0,y4w j6 0,y4w j6 0,y4w j6 0] 38) w fun a b=>
 C.i y5c 234 #[x0,x1] b fun c d=>
 C.ae x0 d fun f g=>
 C.ab 0 f g fun i j=>
 C.ab 1 i j fun k m=>
 C.ai k m fun o p=>
 C.i y5c 235 #[o,c] p fun q r=>
 C.ay y5c (Instr.build 38 #[(3,c)]) r fun s t=>
 C.ak 5 a s t fun u=>
 C.an 5 a u fun r10 _=>
 K r10 u)):C.i y5c 163 #[x0,x1] w K:=q9 (A:=A0) (args:=[x0,x1]) (qq h)

theorem F165.sh (h:(C.a3 (.cells (Value.cells x0) 94) w fun a b=>
 C.ab 0 a b fun c d=>
 C.ai c d fun f g=>
 C.i y5c 237 #[f,x1,x2] g fun i j=>
 K (y4z #[]) j)):C.i y5c 165 #[x0,x1,x2] w K:=q9 (A:=A0) (args:=[x0,x1,x2]) (qq h)
namespace F222
def ann:Ann:=⟨[(4,[0,3,4]),(8,[0,3,4,6,7])],[],[],[(4,(.take 0 (.take 1 (.take 2 (.take 3 (.take 6 (.take 7 (.take 8 (.take 9 (.take 4 (.take 10 (.go 5 (.take 11 (.take 12 .fin)) .fin)))))))))))),(6,(.take 0 (.take 1 (.take 2 (.take 3 (.take 5 (.take 7 (.take 8 (.take 4 (.take 6 (.take 9 (.take 10 (.go 11 (.take 12 .fin) .fin))))))))))))),(10,(.take 0 (.take 1 (.take 2 (.take 4 (.take 6 (.take 7 (.take 3 (.take 5 (.take 8 (.take 9 (.go 10 .fin .fin))))))))))))],none⟩
variable (K:VK) (y0 y3 y4 y6 y7:Value) (w:World)
def k4:Prop:=nk ann 78 [(0,y0),(3,y3),(4,y4)] w [1,1] Tryz.f222 K
def k8:Prop:=nk ann 78 [(0,y0),(3,y3),(4,y4),(6,y6),(7,y7)] w [1,1,1,1,1] Tryz.f222 K
attribute [irreducible] k4 k8
end F222
theorem F222.k4.to (h:(C.a9 w fun S a=>
 C.ae y0 a fun b c=>
 C.ab 0 b c fun d f=>
 C.ab 1 d f fun g i=>
 C.ae y0 i fun j k=>
 C.ab 2 j k fun m o=>
 C.ab 6 m o fun p q=>
 C.aq S g q fun r s=>
 C.aq S p s fun t u=>
 (C.i y5c 274 #[r] u fun v x=>
 (S x∧
 ∃y,(∀w',S w'→(builtin .min #[3,3] 3 #[false,false] #[v,t]).run y5c w' = .ok (.value y) w')∧(C.ae y0 x fun z aa=>
 C.ab 2 z aa fun ab ac=>
 C.ab 6 ab ac fun ad ae=>
 C.ai ad ae fun af ag=>
 C.aj .sub af y ag fun ah ai=>
 C.a9 ai fun S aj=>
 C.ae y0 aj fun ak al=>
 C.ab 0 ak al fun am an=>
 C.ab 0 am an fun ao ap=>
 C.ab 1 y3 ap fun aq ar=>
 C.ab 5 y3 ar fun au av=>
 C.aq S ao av fun aw ax=>
 C.aq S aq ax fun ay az=>
 C.aq S au az fun ba bb=>
 C.aj .mul ah ba bb fun bc bd=>
 (C.i y5c 164 #[aw,ay,bc] bd fun be bf=>
 (S bf∧
 C.bf be bf fun bg bh=>
 C.am bg (C.i y5c 54 #[(y4w j6 21)] bh fun bi bj=>
 C.ak 5 y4 bi bj fun bk=>
 C.an 5 y4 bk fun r31 _=>
 K r31 bk) (F222.k8 K y0 y3 y4 y ah bh)))∧True)))∧True)):F222.k4 K y0 y3 y4 w:=qq h
theorem F222.k8.to (h:(C.ae y0 w fun a b=>
 C.ab 0 a b fun c d=>
 C.ab 1 c d fun f g=>
 C.ai f g fun i j=>
 C.i y5c 275 #[i,y6] j fun k m=>
 C.i y5c 234 #[y0,y7] m fun o p=>
 C.a9 p fun S q=>
 C.ae y0 q fun r s=>
 C.ab 0 r s fun t u=>
 C.ab 1 y3 u fun v x=>
 C.ab 5 y3 x fun y z=>
 C.bm S 2 t z fun aa ab=>
 C.aq S v ab fun ac ad=>
 C.aq S y ad fun ae af=>
 C.aj .mul o ae af fun ag ah=>
 (C.i y5c 165 #[aa,ac,ag] ah fun ai aj=>
 (S aj∧
 C.ay y5c (Instr.build 38 #[(3,o),(4,y6)]) aj fun ak al=>
 C.ak 5 y4 ak al fun am=>
 C.an 5 y4 am fun r19 _=>
 K r19 am))∧True)):F222.k8 K y0 y3 y4 y6 y7 w:=qq h
theorem F222.sh (h:(C.a3 (.cells (Value.cells x1) 40) w fun a b=>
 C.a3 (.cells #[y4w j6 0,y4w j6 0,y4w j6 0,y4w j6 0,y4w j6 0] 38) b fun c d=>
 C.ae x0 d fun f g=>
 C.ab 12 f g fun i j=>
 C.ai i j fun k m=>
 C.i y5c 59 #[k] m fun o p=>
 C.aj .neq o (y4w j6 3) p fun q r=>
 C.q true q (fun K=>K o r) r fun s t=>
 C.q true q (fun K=>C.aj .neq s (y4w j6 5) t K) t fun u v=>
 C.a2 (some q) (some u) (some (y5a false)) v fun x y=>
 C.am x (C.ay y5c (Instr.build 38 #[]) y fun z aa=>
 C.ak 5 c z aa fun ab=>
 C.an 5 c ab fun r13 _=>
 K r13 ab) (F222.k4 K x0 a c y))):C.i y5c 222 #[x0,x1] w K:=q9 (A:=F222.ann) (args:=[x0,x1]) (qq h)
namespace F234
def ann:Ann:=⟨[(3,[0,1,6,7]),(6,[0,1,6,7]),(7,[1])],[(2,[0,1,6,7])],[],[],none⟩
variable (K:VK) (y0 y1 y6 y7:Value) (w:World)
def k7:Prop:=nk ann 19 [(1,y1)] w [1,1] Tryz.f234 K
def l2:Prop:=nl ann 19 [(0,y0),(1,y1),(6,y6),(7,y7)] w [1,0,1,0] Tryz.f234 K
def k3:Prop:=nk ann 19 [(0,y0),(1,y1),(6,y6),(7,y7)] w [1,0,1,0,0,1,1] Tryz.f234 K
def k6:Prop:=nk ann 19 [(0,y0),(1,y1),(6,y6),(7,y7)] w [1,0,1,0,0,1,1,1] Tryz.f234 K
attribute [irreducible] k7 l2 k3 k6
end F234
theorem F234.k7.to (h:(K y1 w)):F234.k7 K y1 w:=qq h
theorem F234.l2.to (h:(C.aj .lss y7 y6 w fun a b=>
 C.am a (F234.k3 K y0 y1 y6 y7 b) (F234.k7 K y1 b))):F234.l2 K y0 y1 y6 y7 w:=by unfold F234.l2 nl;exact qah (qq h)
theorem F234.k3.to (h:(C.ae y0 w fun a b=>
 C.ab 12 a b fun c d=>
 C.ai c d fun f g=>
 C.i y5c 280 #[f] g fun i j=>
 C.bf i j fun k m=>
 C.am k (K y7 m) (F234.k6 K y0 y1 y6 y7 m))):F234.k3 K y0 y1 y6 y7 w:=qq h
theorem F234.k6.to (h:(C.aj .add y7 (y4w j6 1) w fun a b=>
 F234.l2 K y0 y1 y6 a b)):F234.k6 K y0 y1 y6 y7 w:=qq h
theorem F234.sh (h:(F234.l2 K x0 x1 x1 (y4w j6 0) w)):C.i y5c 234 #[x0,x1] w K:=q9 (A:=F234.ann) (args:=[x0,x1]) (qq h)
end
end Go.Proofs.YtcakfaakbpdklaaGreatDoorV
namespace Go.Proofs.YtcakfaakbpdklaaGreatDoorV
open Go Go.Proofs Go.RowKit
open Go.Proofs.Tryz renaming prog→y5c
open Go.IntKind renaming i64→j6
open Go.Value renaming int→y4w,tuple→y4z,bool→y5a
structure Mad where
 Q:Kad
 ma:Nat
 lg:Nat
 bb:Nat
 bn:Nat
def Mad.fix (A:Mad):List Nat:=[A.ma,A.lg,A.bb,A.bn]
def Mad.low (A:Mad):List Nat:=A.Q.fix ++ (A.Q.H.fix ++ A.Q.H.D.all)
structure Mad.Ok (A:Mad):Prop where
 nd:A.fix.Nodup
 dj:∀x∈A.fix,x∉A.low
 lo:∀x∈A.fix,x<A.Q.H.N
structure Gw where
 m:Mv
 S:Nat→Value
def qnj (T:Nat) (S:Nat→Value):List Nat:=(List.range T).flatMap fun t=>qaa (S t)
theorem qdu {T:Nat} {S:Nat→Value} {x:Nat}:x∈qnj T S↔∃t,t<T∧x∈qaa (S t):=by simp[qnj]
def Gw.all (T:Nat) (g:Gw):List Nat:=g.m.all ++ qnj T g.S
def Mad.S (A:Mad) (T:Nat) (g:Gw):List Nat:=A.fix ++ (A.Q.fix ++ (A.Q.H.fix ++ (A.Q.H.D.all.tail ++ g.all T)))
def Mad.all (A:Mad) (T:Nat) (g:Gw):List Nat:=A.fix ++ (A.low ++ g.all T)
structure MTo (A:Mad) (T:Nat) (g:Gw) (w:World) (g':Gw) (w':World):Prop where
 fr:Fr (A.S T g) w w'
 gr:∀x∈g'.all T,x∈g.all T∨w.heap.size≤x
section
variable {A:Mad} {T:Nat} {g g' g'':Gw}
theorem MTo.refl (A:Mad) (T:Nat) (g:Gw) (w:World):MTo A T g w g w:=⟨Fr.refl _ _,fun x hx => .inl hx⟩
theorem MTo.w {a b:World} (h:Fr [] a b):MTo A T g a g b:=⟨h.w,fun x hx => .inl hx⟩
theorem MTo.trans {w w' w'':World} (h:MTo A T g w g' w') (k:MTo A T g' w' g'' w''):MTo A T g w g'' w'':=
 ⟨h.fr.then k.fr fun x hx=>by
  simp only[Mad.S,y3q] at hx ⊢
  rcases hx with c | c | c | c | c
  ·exact .inl (.inl c)
  ·exact .inl (.inr (.inl c))
  ·exact .inl (.inr (.inr (.inl c)))
  ·exact .inl (.inr (.inr (.inr (.inl c))))
  ·rcases h.gr x c with d | d
   ·exact .inl (.inr (.inr (.inr (.inr d))))
   ·exact .inr d,fun x hx=>by
  rcases k.gr x hx with c | c
  ·exact h.gr x c
  ·have:=h.fr.size;exact .inr (by omega)⟩
theorem MTo.c {m':Mv} {a b:World} (h:CTo A.Q g.m a m' b):MTo A T g a { g with m:=m' } b:=
 ⟨h.fr.mono fun x hx=>by
  simp only[Kad.S,y3q] at hx
  simp only[Mad.S,Gw.all,y3q]
  rcases hx with c | c | c | c
  ·exact .inr (.inl c)
  ·exact .inr (.inr (.inl c))
  ·exact .inr (.inr (.inr (.inl c)))
  ·exact .inr (.inr (.inr (.inr (.inl c)))),fun x hx=>by
  simp only[Gw.all,y3q] at hx ⊢
  rcases hx with c | c
  ·rcases h.gr x c with d | d
   ·exact .inl (.inl d)
   ·exact .inr d
  ·exact .inl (.inr c)⟩
theorem MTo.b {a b:World} (h:Fr [A.bn] a b):MTo A T g a g b:=⟨h.mono fun x hx=>by simp only[y2d] at hx;simp[Mad.S,Mad.fix,hx],fun x hx => .inl hx⟩
theorem MTo.l {t:Nat} {s:Value} {a b:World} (ht:t<T) (h:LNx a b A.bb t g.S s):MTo A T g a { g with S:=upd g.S t s } b:=
 ⟨h.fr.mono fun x hx=>by
  simp only[y4b] at hx
  simp only[Mad.S,Mad.fix,Gw.all,y3q,y4b]
  rcases hx with c | c
  ·exact .inl (.inr (.inr (.inl c)))
  ·exact .inr (.inr (.inr (.inr (.inr (qdu.2 ⟨t,ht,c⟩))))),fun x hx=>by
  simp only[Gw.all,y3q] at hx ⊢
  rcases hx with c | c
  ·exact .inl (.inl c)
  ·obtain⟨u,hu,c⟩:=qdu.1 c
   by_cases e:u=t
   ·subst e
    simp only[upd] at c
    exact .inr (h.new x c)
   ·simp only[upd,if_neg e] at c
    exact .inl (.inr (qdu.2 ⟨u,hu,c⟩))⟩
end
structure Cf.Fine (cf:Cf):Prop where
 th:1≤cf.threads∧cf.threads≤8
 wi:1≤cf.window∧cf.window≤64
 mo:0≤cf.most∧cf.most≤cf.window
 qu:1≤cf.quantum∧cf.quantum≤64
 ca:0≤cf.cap∧cf.cap≤65535
 ta:0≤cf.tax∧cf.tax≤64
def cfV (cf:Cf):List Value:=[y4w j6 cf.pages,y4w j6 cf.threads,y4w j6 cf.window,y4w j6 cf.quantum,y4w j6 cf.target,y4w j6 cf.cap,y4w j6 cf.tax,y4w j6 cf.chunk,y4w j6 cf.stack,y4w j6 cf.trigger]
def maB (A:Mad) (cf:Cf):Obj := .cells #[.pointer (some ⟨A.lg,0,none⟩),.pointer (some ⟨A.bn,0,none⟩),y4w j6 cf.pages,y4w j6 cf.threads,y4w j6 cf.window,y4w j6 cf.quantum,y4w j6 cf.target,y4w j6 cf.cap,y4w j6 cf.tax,y4w j6 cf.chunk,y4w j6 cf.stack,y4w j6 cf.trigger,.pointer (some ⟨A.Q.co,0,none⟩)] 96 (0,0)
structure qaf (A:Mad) (g:Gw) (cf:Cf) (B:Int) (w:World) (x:Ma):Prop where
 ok:A.Ok
 fine:cf.Fine
 co:qai A.Q g.m cf w x.co
 blk:w.heap[A.ma]?=some (maB A cf)
 led:Led w A.lg A.bb cf.threads.toNat cf.window cf.most g.S x.lg
 bnk:w.heap[A.bn]?=some (bk x.bi x.bo x.bl true cf.cap)
 bin:qo2 B x.bi x.bo x.bl cf.cap
 l64:∀t,(x.lg t).length≤64
 hs:∀y∈qnj cf.threads.toNat g.S,A.Q.H.N≤y
 rl:x.co.r.l.length=cf.threads.toNat
section
variable {A:Mad} {g:Gw} {cf:Cf} {B:Int} {w w':World} {x:Ma}
theorem qaf.keep {S:List Nat} (h:qaf A g cf B w x) (hf:Fr S w w') (ha:∀y∈A.all cf.threads.toNat g,y∉S):qaf A g cf B w' x:=by
 refine⟨h.ok,h.fine,h.co.keep hf (fun y hy=>ha y ?_),hf.at_ h.blk (ha _ (by simp[Mad.all,Mad.fix])),h.led.keep hf (ha _ (by simp[Mad.all,Mad.fix])) (ha _ (by simp[Mad.all,Mad.fix])) (fun t ht y hy=>ha y ?_),hf.at_ h.bnk (ha _ (by simp[Mad.all,Mad.fix])),h.bin,h.l64,h.hs,h.rl⟩
 ·simp only[Kad.all,y3q] at hy
  simp only[Mad.all,Mad.low,Gw.all,y3q]
  rcases hy with d | d | d | d
  ·exact .inr (.inl (.inl d))
  ·exact .inr (.inl (.inr (.inl d)))
  ·exact .inr (.inl (.inr (.inr d)))
  ·exact .inr (.inr (.inl d))
 ·simp only[Mad.all,Gw.all,y3q]
  exact .inr (.inr (.inr (qdu.2 ⟨t,ht,hy⟩)))
theorem qaf.keep0 (h:qaf A g cf B w x) (hf:Fr [] w w'):qaf A g cf B w' x:=h.keep hf (by simp)
theorem qaf.setC {m':Mv} {c':Co} (h:qaf A g cf B w x) (hf:CTo A.Q g.m w m' w') (hc:qai A.Q m' cf w' c') (hl:c'.r.l.length=x.co.r.l.length):qaf A { g with m:=m' } cf B w' { x with co:=c' }:=by
 obtain⟨cs,b1,b2⟩:=h.led.bk
 have sub:∀y∈A.Q.S g.m,y∈A.low∨y∈g.m.all:=fun y hy=>by
  simp only[Kad.S,y3q] at hy
  simp only[Mad.low,y3q]
  rcases hy with d | d | d | d
  ·exact .inl (.inl d)
  ·exact .inl (.inr (.inl d))
  ·exact .inl (.inr (.inr (List.mem_of_mem_tail d)))
  ·exact .inr d
 have hi:∀y∈g.m.all,A.Q.H.N≤y:=fun y hy=>by
  simp only[Mv.all,y3q] at hy
  rcases hy with d | d | d
  ·exact h.co.hp.hi y d
  ·exact h.co.hv y d
  ·exact h.co.ht y d
 have nf:∀y∈A.fix,y∉A.Q.S g.m:=fun y hy e=>by
  rcases sub y e with d | d
  ·exact h.ok.dj y hy d
  ·have h1:=h.ok.lo y hy;have h2:=hi y d;omega
 have ns:∀t,t<cf.threads.toNat→∀y∈qaa (g.S t),y∉A.Q.S g.m:=fun t ht y hy e=>by
  rcases sub y e with d | d
  ·have h1:=h.co.low (x:=y) d
   have h2:=h.hs y (qdu.2 ⟨t,ht,hy⟩);omega
  ·have ho:=h.led.own t ht
   simp only[Mv.all,y3q] at d
   rcases d with d | d | d
   ·exact ho.ne h.co.hp.gy.stk.own (by decide) y hy d
   ·exact h.co.fb.fam.ne ho (by decide) y d hy
   ·exact h.co.th.ne ho (by decide) y d hy
 exact⟨h.ok,h.fine,hc,hf.fr.at_ h.blk (nf _ (by simp[Mad.fix])),h.led.keep hf.fr (nf _ (by simp[Mad.fix])) (nf _ (by simp[Mad.fix])) ns,hf.fr.at_ h.bnk (nf _ (by simp[Mad.fix])),h.bin,h.l64,h.hs,hl.trans h.rl⟩
theorem qaf.nfC (h:qaf A g cf B w x) {y:Nat} (hy:y∈A.fix∨∃t,t<cf.threads.toNat∧y∈qaa (g.S t)):y∉A.Q.all g.m:=fun e=>by
 have e':y∈A.low∨y∈g.m.all:=by
  simp only[Kad.all,y3q] at e
  simp only[Mad.low,y3q]
  rcases e with d | d | d | d
  ·exact .inl (.inl d)
  ·exact .inl (.inr (.inl d))
  ·exact .inl (.inr (.inr d))
  ·exact .inr d
 have hi:∀y∈g.m.all,A.Q.H.N≤y:=fun y hy=>by
  simp only[Mv.all,y3q] at hy
  rcases hy with d | d | d
  ·exact h.co.hp.hi y d
  ·exact h.co.hv y d
  ·exact h.co.ht y d
 rcases hy with hy | ⟨t,ht,hy⟩
 ·rcases e' with d | d
  ·exact h.ok.dj y hy d
  ·have h1:=h.ok.lo y hy;have h2:=hi y d;omega
 ·rcases e' with d | d
  ·have h1:=h.co.low (x:=y) d
   have h2:=h.hs y (qdu.2 ⟨t,ht,hy⟩);omega
  ·have ho:=h.led.own t ht
   simp only[Mv.all,y3q] at d
   rcases d with d | d | d
   ·exact ho.ne h.co.hp.gy.stk.own (by decide) y hy d
   ·exact h.co.fb.fam.ne ho (by decide) y d hy
   ·exact h.co.th.ne ho (by decide) y d hy
theorem qaf.setB {B' bi bo bl:Int} (h:qaf A g cf B w x) (hf:Fr [A.bn] w w') (hb:w'.heap[A.bn]?=some (bk bi bo bl true cf.cap)) (hk:qo2 B' bi bo bl cf.cap):qaf A g cf B' w' { x with bi:=bi,bo:=bo,bl:=bl }:=by
 have nd:=h.ok.nd
 simp only[Mad.fix,y3s,y4b,y3i,or_false,not_or] at nd
 have lt:=h.ok.lo
 exact⟨h.ok,h.fine,h.co.keep hf (fun y hy e=>by simp only[y2d] at e;subst e;exact h.nfC (.inl (by simp[Mad.fix])) hy),hf.at_ h.blk (by simp only[y2d];exact nd.1.2.2),h.led.keep hf (by simp only[y2d];exact nd.2.1.2) (by simp only[y2d];exact nd.2.2.1) (fun t ht y hy e=>by
  simp only[y2d] at e;subst e
  exact (h.led.own t ht).nb h.bnk (by decide) hy),hb,hk,h.l64,h.hs,h.rl⟩
theorem qaf.setL {t:Nat} {s:Value} {l:List Bool} (h:qaf A g cf B w x) (ht:t<cf.threads.toNat) (hf:LNx w w' A.bb t g.S s) (hl:Led w' A.lg A.bb cf.threads.toNat cf.window cf.most (upd g.S t s) (upd x.lg t l)) (h64:l.length≤64):qaf A { g with S:=upd g.S t s } cf B w' { x with lg:=upd x.lg t l }:=by
 have nd:=h.ok.nd
 simp only[Mad.fix,y3s,y4b,y3i,or_false,not_or] at nd
 have ho:=h.led.own t ht
 refine⟨h.ok,h.fine,h.co.keep hf.fr (fun y hy e=>?_),hf.fr.at_ h.blk ?_,hl,hf.fr.at_ h.bnk ?_,h.bin,fun u=>?_,fun y hy=>?_,h.rl⟩
 ·simp only[y4b] at e
  rcases e with e | e
  ·subst e;exact h.nfC (.inl (by simp[Mad.fix])) hy
  ·exact h.nfC (.inr ⟨t,ht,e⟩) hy
 ·simp only[y4b,not_or];exact⟨nd.1.2.1,ho.nb h.blk (by decide)⟩
 ·simp only[y4b,not_or];exact⟨fun e=>nd.2.2.1 e.symm,ho.nb h.bnk (by decide)⟩
 ·show (upd x.lg t l u).length≤64
  by_cases e:u=t
  ·simp only[upd,if_pos e];exact h64
  ·simp only[upd,if_neg e];exact h.l64 u
 ·obtain⟨u,hu,c⟩:=qdu.1 hy
  by_cases e:u=t
  ·subst e
   simp only[upd] at c
   have:=hf.new y c
   have:=h.co.hp.le
   omega
  ·simp only[upd,if_neg e] at c
   exact h.hs y (qdu.2 ⟨u,hu,c⟩)
end
end Go.Proofs.YtcakfaakbpdklaaGreatDoorV
