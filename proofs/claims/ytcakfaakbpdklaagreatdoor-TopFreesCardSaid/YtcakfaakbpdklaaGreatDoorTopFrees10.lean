/- Part 10 of what the law needs: own lemmas, in the order in which they build. -/
import Derived.Test.YtcakfaakbpdklaaGreatDoorProg
import Derived.Test.YtcakfaakbpdklaaGreatDoorTopFrees09
set_option linter.unusedSimpArgs false
set_option linter.unusedVariables false
set_option maxRecDepth 100000
namespace Go.Proofs.YtcakfaakbpdklaaGreatDoorV
open Go Go.Proofs
open Go.Proofs.Tryz renaming prog→y5c
open Go.IntKind renaming i64→j6
open Go.Value renaming int→y4w,pointer→y4x,tuple→y4z,bool→y5a
noncomputable section
variable {K:VK} {w:World} {x0 x1 x2 x3 x4 y0 y1 y2 y3 y4 y5 y6 y7 y8 y9 y11 y12 y13 y14 y15 y16 y17:Value}

theorem F77.sh (h:(C.i y5c 66 #[x2,(y4w j6 1),(y4w j6 64)] w fun a b=>
 C.i y5c 66 #[x3,(y4w j6 1),(y4w j6 16)] b fun c d=>
 C.ay y5c (Instr.build 188 #[(0,x0),(1,x1),(2,a),(3,c),(4,(y4w j6 (-1)))]) d fun f g=>
 C.a3 (.cells (Value.cells f) 188) g fun i j=>
 K i j)):C.i y5c 77 #[x0,x1,x2,x3] w K:=q9 (A:=A0) (args:=[x0,x1,x2,x3]) (qq h)

theorem F217.sh (h:(C.i y5c 269 #[x0] w fun a b=>
 C.bf a b fun c d=>
 C.q false c (fun K=>K x0 d) d fun f g=>
 C.q false c (fun K=>C.ae f g K) g fun i j=>
 C.q false c (fun K=>C.ab 1 i j K) j fun k m=>
 C.q false c (fun K=>C.ai k m K) m fun o p=>
 C.q false c (fun K=>C.i y5c 270 #[o] p K) p fun q r=>
 C.q false c (fun K=>C.aj .eql q (y4w j6 0) r K) r fun s t=>
 C.q false c (fun K=>K s t) t fun u v=>
 C.q true u (fun K=>K x0 v) v fun x y=>
 C.q true u (fun K=>C.ae x y K) y fun z aa=>
 C.q true u (fun K=>C.ab 4 z aa K) aa fun ab ac=>
 C.q true u (fun K=>C.ai ab ac K) ac fun ad ae=>
 C.q true u (fun K=>C.aj .eql ad (y4w j6 (-1)) ae K) ae fun af ag=>
 C.q false c (fun K=>C.a2 (some u) (some af) (some (y5a false)) ag K) ag fun ah ai=>
 C.q false c (fun K=>K ah ai) ai fun aj ak=>
 C.q true aj (fun K=>K x0 ak) ak fun al am=>
 C.q true aj (fun K=>C.ae al am K) am fun an ao=>
 C.q true aj (fun K=>C.ab 1 an ao K) ao fun ap aq=>
 C.q true aj (fun K=>C.ai ap aq K) aq fun ar au=>
 C.q true aj (fun K=>C.i y5c 271 #[ar] au K) au fun av aw=>
 C.q true aj (fun K=>C.bf av aw K) aw fun ax ay=>
 C.q false c (fun K=>C.a2 (some aj) (some ax) (some (y5a false)) ay K) ay fun az ba=>
 C.a2 (some c) (some (y5a true)) (some az) ba fun bb bc=>
 K bb bc)):C.i y5c 217 #[x0] w K:=q9 (A:=A0) (args:=[x0]) (qq h)

theorem F269.sh (h:(C.bi y5c .neq 126 (.tmp 3) (.const (y4x none)) x0 (y4x none) w fun a b=>
 C.q true a (fun K=>K x0 b) b fun c d=>
 C.q true a (fun K=>C.ae c d K) d fun f g=>
 C.q true a (fun K=>C.ab 2 f g K) g fun i j=>
 C.q true a (fun K=>C.ai i j K) j fun k m=>
 C.q true a (fun K=>C.aj .gtr k (y4w j6 0) m K) m fun o p=>
 C.a2 (some a) (some o) (some (y5a false)) p fun q r=>
 K q r)):C.i y5c 269 #[x0] w K:=q9 (A:=A0) (args:=[x0]) (qq h)
namespace F303
def ann:Ann:=⟨[(3,[0]),(10,[0])],[],[],[],none⟩
variable (K:VK) (y0:Value) (w:World)
def k3:Prop:=nk ann 36 [(0,y0)] w [1,1] Tryz.f303 K
def k10:Prop:=nk ann 36 [(0,y0)] w [1,1,1,1] Tryz.f303 K
attribute [irreducible] k3 k10
end F303
theorem F303.k3.to (h:(C.ae y0 w fun a b=>
 C.ab 1 a b fun c d=>
 C.ai c d fun f g=>
 C.i y5c 321 #[f] g fun i j=>
 C.a1 0 i j fun k m=>
 C.a1 1 i m fun o p=>
 C.a3 (.cells #[y4w j6 0,y4w j6 0] 310) p fun q r=>
 C.ak 2 q k r fun s=>
 C.am o (C.an 2 q s fun t u=>
 C.i y5c 322 #[y0,t] u fun v x=>
 K (y5a true) x) (C.ae y0 s fun y z=>
 C.ab 4 y z fun aa ab=>
 C.ai aa ab fun ac ad=>
 C.aj .eql ac (y4w j6 (-1)) ad fun ae af=>
 C.am ae (C.ae y0 af fun ag ah=>
 C.ab 1 ag ah fun ai aj=>
 C.ai ai aj fun ak al=>
 C.i y5c 323 #[ak] al fun am an=>
 C.ae y0 an fun ao ap=>
 C.ab 4 ao ap fun aq ar=>
 C.ak 1 aq (y4w j6 0) ar fun au=>
 F303.k10 K y0 au) (F303.k10 K y0 af)))):F303.k3 K y0 w:=qq h
theorem F303.k10.to (h:(C.i y5c 324 #[y0] w fun a b=>
 K (y5a true) b)):F303.k10 K y0 w:=qq h
theorem F303.sh (h:(C.i y5c 217 #[x0] w fun a b=>
 C.am a (K (y5a false) b) (F303.k3 K x0 b))):C.i y5c 303 #[x0] w K:=q9 (A:=F303.ann) (args:=[x0]) (qq h)
namespace F322
def ann:Ann:=⟨[(3,[0,3,4]),(6,[0,3,5])],[],[],[(1,(.take 0 (.take 1 (.take 2 (.take 4 (.take 3 (.take 5 (.go 6 (.take 7 .fin) .fin)))))))),(3,(.take 0 (.take 2 (.take 3 (.take 4 (.take 7 (.take 1 (.take 5 (.take 6 (.take 8 (.take 9 .fin))))))))))),(5,(.take 0 (.take 1 (.take 2 (.take 4 (.take 6 (.take 3 (.take 5 (.take 7 (.go 8 .fin .fin))))))))))],none⟩
variable (K:VK) (y0 y3 y4 y5:Value) (w:World)
def k3:Prop:=nk ann 50 [(0,y0),(3,y3),(4,y4)] w [1,1,1] Tryz.f322 K
def k6:Prop:=nk ann 50 [(0,y0),(3,y3),(5,y5)] w [1,1,1,1,1] Tryz.f322 K
attribute [irreducible] k3 k6
end F322
theorem F322.k3.to (h:(C.a9 w fun S a=>
 C.ab 1 y3 a fun b c=>
 C.ae y0 c fun d f=>
 C.ab 3 d f fun g i=>
 C.aq S b i fun j k=>
 C.aq S g k fun m o=>
 C.aj .add j m o fun p q=>
 ∃r,(∀w',S w'→(builtin .min #[3,3] 3 #[false,false] #[p,y4]).run y5c w' = .ok (.value r) w')∧(C.aj .lss r y4 q fun s t=>
 C.am s (C.a9 t fun S u=>
 C.ae y0 u fun v x=>
 C.ab 1 v x fun y z=>
 C.ab 0 y3 z fun aa ab=>
 C.aq S y ab fun ac ad=>
 C.aq S aa ad fun ae af=>
 ∃ag,(∀w',S w'→(Instr.build 310 #[(0,ae),(1,r)]).run y5c w' = .ok ag w')∧((C.i y5c 261 #[ac,ag] af fun ah ai=>
 (S ai∧
 F322.k6 K y0 y3 r ai))∧True)) (F322.k6 K y0 y3 r t)))):F322.k3 K y0 y3 y4 w:=qq h
theorem F322.k6.to (h:(C.ab 0 y3 w fun a b=>
 C.ai a b fun c d=>
 C.ab 1 y3 d fun f g=>
 C.ai f g fun i j=>
 C.i y5c 335 #[y0,c,i,y5] j fun k m=>
 K (y4z #[]) m)):F322.k6 K y0 y3 y5 w:=qq h
theorem F322.sh (h:(C.a3 (.cells (Value.cells x1) 310) w fun a b=>
 C.a9 b fun S c=>
 C.ae x0 c fun d f=>
 C.ab 0 d f fun g i=>
 C.ab 0 a i fun j k=>
 C.aq S g k fun m o=>
 C.aq S j o fun p q=>
 (C.i y5c 128 #[m,p] q fun r s=>
 (S s∧
 C.ab 1 a s fun t u=>
 C.ai t u fun v x=>
 C.aj .lss v (y4w j6 0) x fun y z=>
 C.q false y (fun K=>C.ab 1 a z K) z fun aa ab=>
 C.q false y (fun K=>C.ai aa ab K) ab fun ac ad=>
 C.q false y (fun K=>K r ad) ad fun ae af=>
 C.q false y (fun K=>C.aj .geq ac ae af K) af fun ag ah=>
 C.a2 (some y) (some (y5a true)) (some ag) ah fun ai aj=>
 C.am ai (K (y4z #[]) aj) (F322.k3 K x0 a r aj)))∧True)):C.i y5c 322 #[x0,x1] w K:=q9 (A:=F322.ann) (args:=[x0,x1]) (qq h)
namespace F324
def ann:Ann:=⟨[(2,[0,12,13,14]),(5,[0,12,13,14]),(6,[0])],[(1,[0,12,13,14])],[],[(0,(.take 0 (.take 1 (.take 2 (.take 4 (.take 5 (.take 6 (.take 10 (.take 3 (.take 7 (.go 8 (.take 9 .fin) .fin))))))))))),(7,(.take 0 (.take 1 (.take 2 (.take 4 (.take 5 (.take 6 (.take 3 (.take 7 (.take 8 .fin))))))))))],none⟩
variable (K:VK) (y0 y12 y13 y14:Value) (w:World)
def k6:Prop:=nk ann 53 [(0,y0)] w [1] Tryz.f324 K
def l1:Prop:=nl ann 53 [(0,y0),(12,y12),(13,y13),(14,y14)] w [0,1,0] Tryz.f324 K
def k2:Prop:=nk ann 53 [(0,y0),(12,y12),(13,y13),(14,y14)] w [0,1,0,0,1,1] Tryz.f324 K
def k5:Prop:=nk ann 53 [(0,y0),(12,y12),(13,y13),(14,y14)] w [0,1,0,0,1,1,1] Tryz.f324 K
attribute [irreducible] k6 l1 k2 k5
end F324
theorem F324.k6.to (h:(C.ae y0 w fun a b=>
 C.ab 4 a b fun c d=>
 C.ai c d fun f g=>
 C.aj .add f (y4w j6 1) g fun i j=>
 C.ae y0 j fun k m=>
 C.ab 4 k m fun o p=>
 C.ak 1 o i p fun q=>
 C.a9 q fun S r=>
 C.ae y0 r fun s t=>
 C.ab 4 s t fun u v=>
 C.ae y0 v fun x y=>
 C.ab 2 x y fun z aa=>
 C.aq S u aa fun ab ac=>
 C.aq S z ac fun ad ae=>
 C.aj .eql ab ad ae fun af ag=>
 C.am af (C.ae y0 ag fun ah ai=>
 C.ab 4 ah ai fun aj ak=>
 C.ak 1 aj (y4w j6 (-1)) ak fun al=>
 K (y4z #[]) al) (K (y4z #[]) ag))):F324.k6 K y0 w:=qq h
theorem F324.l1.to (h:(C.aj .lss y14 y13 w fun a b=>
 C.am a (F324.k2 K y0 y12 y13 y14 b) (F324.k6 K y0 b))):F324.l1 K y0 y12 y13 y14 w:=by unfold F324.l1 nl;exact qah (qq h)
theorem F324.k2.to (h:(C.bk 1 y12 y14 w fun a b=>
 C.ai a b fun c d=>
 C.ae y0 d fun f g=>
 C.ab 1 f g fun i j=>
 C.ai i j fun k m=>
 C.i y5c 230 #[k,c] m fun o p=>
 C.am o (C.ae y0 p fun q r=>
 C.ab 0 q r fun s t=>
 C.ai s t fun u v=>
 C.i y5c 128 #[u,c] v fun x y=>
 C.i y5c 335 #[y0,c,(y4w j6 0),x] y fun z aa=>
 F324.k5 K y0 y12 y13 y14 aa) (F324.k5 K y0 y12 y13 y14 p))):F324.k2 K y0 y12 y13 y14 w:=qq h
theorem F324.k5.to (h:(C.aj .add y14 (y4w j6 1) w fun a b=>
 F324.l1 K y0 y12 y13 a b)):F324.k5 K y0 y12 y13 y14 w:=qq h
theorem F324.sh (h:(C.a9 w fun S a=>
 C.ae x0 a fun b c=>
 C.ab 0 b c fun d f=>
 C.ae x0 f fun g i=>
 C.ab 4 g i fun j k=>
 C.aq S d k fun m o=>
 C.aq S j o fun p q=>
 (C.i y5c 325 #[m,p] q fun r s=>
 (S s∧
 C.bl r s fun t u=>
 F324.l1 K x0 r t (y4w j6 0) u))∧True)):C.i y5c 324 #[x0] w K:=q9 (A:=F324.ann) (args:=[x0]) (qq h)
namespace F335
def ann:Ann:=⟨[(2,[0,1,3,8]),(3,[0,1,3,8])],[(1,[0,1,3,8])],[],[(5,(.take 0 (.take 1 (.take 2 (.take 4 (.take 3 (.take 5 (.go 6 .fin .fin))))))))],none⟩
variable (K:VK) (y0 y1 y3 y8:Value) (w:World)
def l1:Prop:=nl ann 37 [(0,y0),(1,y1),(3,y3),(8,y8)] w [1,0] Tryz.f335 K
def k3:Prop:=nk ann 37 [(0,y0),(1,y1),(3,y3),(8,y8)] w [1,0,0,1] Tryz.f335 K
def k2:Prop:=nk ann 37 [(0,y0),(1,y1),(3,y3),(8,y8)] w [1,0,0,1,1] Tryz.f335 K
attribute [irreducible] l1 k3 k2
end F335
theorem F335.l1.to (h:(C.aj .lss y8 y3 w fun a b=>
 C.am a (F335.k3 K y0 y1 y3 y8 b) (K (y4z #[]) b))):F335.l1 K y0 y1 y3 y8 w:=by unfold F335.l1 nl;exact qah (qq h)
theorem F335.k3.to (h:(C.ae y0 w fun a b=>
 C.ab 0 a b fun c d=>
 C.ai c d fun f g=>
 C.i y5c 129 #[f,y1,y8] g fun i j=>
 C.a1 0 i j fun k m=>
 C.a1 1 i m fun o p=>
 C.a3 (.cells #[y4w j6 0,y4w j6 0] 60) p fun q r=>
 C.ak 2 q k r fun s=>
 C.ab 0 q s fun t u=>
 C.ai t u fun v x=>
 C.aj .eql v (y4w j6 2) x fun y z=>
 C.am y (C.a9 z fun S aa=>
 C.ae y0 aa fun ab ac=>
 C.ab 1 ab ac fun ad ae=>
 C.ab 1 q ae fun af ag=>
 C.aq S ad ag fun ah ai=>
 C.aq S af ai fun aj ak=>
 (C.i y5c 210 #[ah,aj] ak fun al am=>
 (S am∧
 F335.k2 K y0 y1 y3 y8 am))∧True) (F335.k2 K y0 y1 y3 y8 z))):F335.k3 K y0 y1 y3 y8 w:=qq h
theorem F335.k2.to (h:(C.aj .add y8 (y4w j6 1) w fun a b=>
 F335.l1 K y0 y1 y3 a b)):F335.k2 K y0 y1 y3 y8 w:=qq h
theorem F335.sh (h:(F335.l1 K x0 x1 x3 x2 w)):C.i y5c 335 #[x0,x1,x2,x3] w K:=q9 (A:=F335.ann) (args:=[x0,x1,x2,x3]) (qq h)

theorem F78.sh (h:(C.i y5c 66 #[x2,(y4w j6 1),(y4w j6 64)] w fun a b=>
 C.ay y5c (Instr.build 190 #[(0,x0),(1,x1),(2,a),(3,a)]) b fun c d=>
 C.a3 (.cells (Value.cells c) 190) d fun f g=>
 K f g)):C.i y5c 78 #[x0,x1,x2] w K:=q9 (A:=A0) (args:=[x0,x1,x2]) (qq h)

theorem F218.sh (h:(C.bi y5c .neq 127 (.tmp 2) (.const (y4x none)) x0 (y4x none) w fun a b=>
 C.am a (C.ae x0 b fun c d=>
 C.ab 3 c d fun f g=>
 C.ak 1 f (y4w j6 0) g fun i=>
 C.ae x0 i fun j k=>
 C.ab 4 j k fun m o=>
 C.ak 1 m (y4w j6 0) o fun p=>
 K (y4z #[]) p) (K (y4z #[]) b))):C.i y5c 218 #[x0] w K:=q9 (A:=A0) (args:=[x0]) (qq h)
namespace F220
def ann:Ann:=⟨[(3,[0])],[],[],[],none⟩
variable (K:VK) (y0:Value) (w:World)
def k3:Prop:=nk ann 9 [(0,y0)] w [1,1] Tryz.f220 K
attribute [irreducible] k3
end F220
theorem F220.k3.to (h:(C.ae y0 w fun a b=>
 C.ab 3 a b fun c d=>
 C.ai c d fun f g=>
 K f g)):F220.k3 K y0 w:=qq h
theorem F220.sh (h:(C.bi y5c .eql 127 (.tmp 3) (.const (y4x none)) x0 (y4x none) w fun a b=>
 C.am a (K (y4w j6 0) b) (F220.k3 K x0 b))):C.i y5c 220 #[x0] w K:=q9 (A:=F220.ann) (args:=[x0]) (qq h)
namespace F304
def ann:Ann:=⟨[(3,[0]),(5,[0,15,16,17]),(8,[0,15,16,17]),(9,[0])],[(4,[0,15,16,17])],[],[(3,(.take 0 (.take 1 (.take 2 (.take 4 (.take 5 (.take 6 (.take 10 (.take 3 (.take 7 (.go 8 (.take 9 .fin) .fin))))))))))),(9,(.take 0 (.take 1 (.take 2 (.take 4 (.take 5 (.take 6 (.take 3 (.take 7 (.go 8 .fin .fin))))))))))],none⟩
variable (K:VK) (y0 y15 y16 y17:Value) (w:World)
def k3:Prop:=nk ann 60 [(0,y0)] w [1,1] Tryz.f304 K
def k9:Prop:=nk ann 60 [(0,y0)] w [1,1,1] Tryz.f304 K
def l4:Prop:=nl ann 60 [(0,y0),(15,y15),(16,y16),(17,y17)] w [1,1,0,1,0] Tryz.f304 K
def k5:Prop:=nk ann 60 [(0,y0),(15,y15),(16,y16),(17,y17)] w [1,1,0,1,0,0,1,1] Tryz.f304 K
def k8:Prop:=nk ann 60 [(0,y0),(15,y15),(16,y16),(17,y17)] w [1,1,0,1,0,0,1,1,1] Tryz.f304 K
attribute [irreducible] k3 k9 l4 k5 k8
end F304
theorem F304.k3.to (h:(C.a9 w fun S a=>
 C.ae y0 a fun b c=>
 C.ab 0 b c fun d f=>
 C.ae y0 f fun g i=>
 C.ab 3 g i fun j k=>
 C.aq S d k fun m o=>
 C.aq S j o fun p q=>
 (C.i y5c 325 #[m,p] q fun r s=>
 (S s∧
 C.bl r s fun t u=>
 F304.l4 K y0 r t (y4w j6 0) u))∧True)):F304.k3 K y0 w:=qq h
theorem F304.k9.to (h:(C.a9 w fun S a=>
 C.ae y0 a fun b c=>
 C.ab 0 b c fun d f=>
 C.ae y0 f fun g i=>
 C.ab 3 g i fun j k=>
 C.aq S d k fun m o=>
 C.aq S j o fun p q=>
 (C.i y5c 328 #[m,p] q fun r s=>
 (S s∧
 C.ae y0 s fun t u=>
 C.ab 3 t u fun v x=>
 C.ai v x fun y z=>
 C.aj .add y (y4w j6 1) z fun aa ab=>
 C.ae y0 ab fun ac ad=>
 C.ab 3 ac ad fun ae af=>
 C.ak 1 ae aa af fun ag=>
 K (y5a true) ag))∧True)):F304.k9 K y0 w:=qq h
theorem F304.l4.to (h:(C.aj .lss y17 y16 w fun a b=>
 C.am a (F304.k5 K y0 y15 y16 y17 b) (F304.k9 K y0 b))):F304.l4 K y0 y15 y16 y17 w:=by unfold F304.l4 nl;exact qah (qq h)
theorem F304.k5.to (h:(C.bk 1 y15 y17 w fun a b=>
 C.ai a b fun c d=>
 C.ae y0 d fun f g=>
 C.ab 1 f g fun i j=>
 C.ai i j fun k m=>
 C.i y5c 326 #[k,c] m fun o p=>
 C.bf o p fun q r=>
 C.q true q (fun K=>K y0 r) r fun s t=>
 C.q true q (fun K=>C.ae s t K) t fun u v=>
 C.q true q (fun K=>C.ab 0 u v K) v fun x y=>
 C.q true q (fun K=>C.ai x y K) y fun z aa=>
 C.q true q (fun K=>K c aa) aa fun ab ac=>
 C.q true q (fun K=>C.i y5c 327 #[z,ab] ac K) ac fun ad ae=>
 C.a2 (some q) (some ad) (some (y5a false)) ae fun af ag=>
 C.am af (C.ae y0 ag fun ah ai=>
 C.ab 4 ah ai fun aj ak=>
 C.ai aj ak fun al am=>
 C.aj .add al (y4w j6 1) am fun an ao=>
 C.ae y0 ao fun ap aq=>
 C.ab 4 ap aq fun ar au=>
 C.ak 1 ar an au fun av=>
 F304.k8 K y0 y15 y16 y17 av) (F304.k8 K y0 y15 y16 y17 ag))):F304.k5 K y0 y15 y16 y17 w:=qq h
theorem F304.k8.to (h:(C.aj .add y17 (y4w j6 1) w fun a b=>
 F304.l4 K y0 y15 y16 a b)):F304.k8 K y0 y15 y16 y17 w:=qq h
theorem F304.sh (h:(C.i y5c 305 #[x0] w fun a b=>
 C.am a (K (y5a false) b) (F304.k3 K x0 b))):C.i y5c 304 #[x0] w K:=q9 (A:=F304.ann) (args:=[x0]) (qq h)
namespace F305
def ann:Ann:=⟨[],[],[],[(1,(.take 0 (.take 1 (.take 2 (.take 3 (.take 4 (.take 5 (.take 7 (.take 8 (.take 9 (.take 6 (.take 10 (.take 11 (.take 12 (.take 13 .fin)))))))))))))))],none⟩
end F305
theorem F305.sh (h:(C.a9 w fun S a=>
 ∃b,(∀w',S w'→((do eqGuard .eql 127 (.tmp 3) (.const (y4x none)) x0 (y4x none);binOp .eql 127 x0 (y4x none):Sem Value)).run y5c w' = .ok b w')∧(C.q false b (fun K=>K x0 a) a fun c d=>
 C.q false b (fun K=>C.ae c d K) d fun f g=>
 C.q false b (fun K=>C.ab 3 f g K) g fun i j=>
 C.q false b (fun K=>K x0 j) j fun k m=>
 C.q false b (fun K=>C.ae k m K) m fun o p=>
 C.q false b (fun K=>C.ab 2 o p K) p fun q r=>
 C.q false b (fun K=>C.aq S i r K) r fun s t=>
 C.q false b (fun K=>C.aq S q t K) t fun u v=>
 C.q false b (fun K=>C.aj .geq s u v K) v fun x y=>
 C.a2 (some b) (some (y5a true)) (some x) y fun z aa=>
 K z aa))):C.i y5c 305 #[x0] w K:=q9 (A:=F305.ann) (args:=[x0]) (qq h)
namespace F47
def ann:Ann:=⟨[(3,[0,1])],[],[],[],none⟩
variable (K:VK) (y0 y1:Value) (w:World)
def k3:Prop:=nk ann 15 [(0,y0),(1,y1)] w [1,1] Tryz.f47 K
attribute [irreducible] k3
end F47
theorem F47.k3.to (h:(C.ae y0 w fun a b=>
 C.ab 16 a b fun c d=>
 C.bs 8 1 c y1 d fun f g=>
 C.i y5c 82 #[f] g fun i j=>
 K i j)):F47.k3 K y0 y1 w:=qq h
theorem F47.sh (h:(C.i y5c 53 #[x0,x1] w fun a b=>
 C.bf a b fun c d=>
 C.am c (K (.slice none 0 0) d) (F47.k3 K x0 x1 d))):C.i y5c 47 #[x0,x1] w K:=q9 (A:=F47.ann) (args:=[x0,x1]) (qq h)
namespace F49
def ann:Ann:=⟨[(3,[0,1])],[],[],[],none⟩
variable (K:VK) (y0 y1:Value) (w:World)
def k3:Prop:=nk ann 15 [(0,y0),(1,y1)] w [1,1] Tryz.f49 K
attribute [irreducible] k3
end F49
theorem F49.k3.to (h:(C.ae y0 w fun a b=>
 C.ab 0 a b fun c d=>
 C.ab 0 c d fun f g=>
 C.ai f g fun i j=>
 C.i y5c 89 #[i,y1] j fun k m=>
 K k m)):F49.k3 K y0 y1 w:=qq h
theorem F49.sh (h:(C.i y5c 88 #[x0] w fun a b=>
 C.bf a b fun c d=>
 C.am c (K (y4w j6 (-1)) d) (F49.k3 K x0 x1 d))):C.i y5c 49 #[x0,x1] w K:=q9 (A:=F49.ann) (args:=[x0,x1]) (qq h)
namespace F51
def ann:Ann:=⟨[(3,[0])],[],[],[],none⟩
variable (K:VK) (y0:Value) (w:World)
def k3:Prop:=nk ann 12 [(0,y0)] w [1,1] Tryz.f51 K
attribute [irreducible] k3
end F51
theorem F51.k3.to (h:(C.ae y0 w fun a b=>
 C.ab 0 a b fun c d=>
 C.ab 0 c d fun f g=>
 C.ai f g fun i j=>
 C.i y5c 92 #[i] j fun k m=>
 K k m)):F51.k3 K y0 w:=qq h
theorem F51.sh (h:(C.i y5c 88 #[x0] w fun a b=>
 C.bf a b fun c d=>
 C.am c (K (.slice none 0 0) d) (F51.k3 K x0 d))):C.i y5c 51 #[x0] w K:=q9 (A:=F51.ann) (args:=[x0]) (qq h)

theorem F53.sh (h:(C.i y5c 88 #[x0] w fun a b=>
 C.q true a (fun K=>K x0 b) b fun c d=>
 C.q true a (fun K=>C.ae c d K) d fun f g=>
 C.q true a (fun K=>C.ab 12 f g K) g fun i j=>
 C.q true a (fun K=>C.ai i j K) j fun k m=>
 C.q true a (fun K=>K x1 m) m fun o p=>
 C.q true a (fun K=>C.i y5c 95 #[k,o] p K) p fun q r=>
 C.a2 (some a) (some q) (some (y5a false)) r fun s t=>
 K s t)):C.i y5c 53 #[x0,x1] w K:=q9 (A:=A0) (args:=[x0,x1]) (qq h)
namespace F59
def ann:Ann:=⟨[(3,[0])],[],[],[],none⟩
variable (K:VK) (y0:Value) (w:World)
def k3:Prop:=nk ann 10 [(0,y0)] w [1,1] Tryz.f59 K
attribute [irreducible] k3
end F59
theorem F59.k3.to (h:(C.ae y0 w fun a b=>
 C.ab 25 a b fun c d=>
 C.ai c d fun f g=>
 K f g)):F59.k3 K y0 w:=qq h
theorem F59.sh (h:(C.i y5c 88 #[x0] w fun a b=>
 C.bf a b fun c d=>
 C.am c (K (y4w j6 0) d) (F59.k3 K x0 d))):C.i y5c 59 #[x0] w K:=q9 (A:=F59.ann) (args:=[x0]) (qq h)
namespace F60
def ann:Ann:=⟨[(3,[0])],[],[],[],none⟩
variable (K:VK) (y0:Value) (w:World)
def k3:Prop:=nk ann 10 [(0,y0)] w [1,1] Tryz.f60 K
attribute [irreducible] k3
end F60
theorem F60.k3.to (h:(C.ae y0 w fun a b=>
 C.ab 26 a b fun c d=>
 C.ai c d fun f g=>
 K f g)):F60.k3 K y0 w:=qq h
theorem F60.sh (h:(C.i y5c 88 #[x0] w fun a b=>
 C.bf a b fun c d=>
 C.am c (K (y4w j6 0) d) (F60.k3 K x0 d))):C.i y5c 60 #[x0] w K:=q9 (A:=F60.ann) (args:=[x0]) (qq h)
namespace F83
def ann:Ann:=⟨[(3,[0])],[],[],[],none⟩
variable (K:VK) (y0:Value) (w:World)
def k3:Prop:=nk ann 10 [(0,y0)] w [1,1] Tryz.f83 K
attribute [irreducible] k3
end F83
theorem F83.k3.to (h:(C.ae y0 w fun a b=>
 C.ab 24 a b fun c d=>
 C.ai c d fun f g=>
 K f g)):F83.k3 K y0 w:=qq h
theorem F83.sh (h:(C.i y5c 88 #[x0] w fun a b=>
 C.bf a b fun c d=>
 C.am c (K (y4w j6 0) d) (F83.k3 K x0 d))):C.i y5c 83 #[x0] w K:=q9 (A:=F83.ann) (args:=[x0]) (qq h)

theorem F88.sh (h:(C.bi y5c .neq 86 (.tmp 3) (.const (y4x none)) x0 (y4x none) w fun a b=>
 C.q true a (fun K=>K x0 b) b fun c d=>
 C.q true a (fun K=>C.ae c d K) d fun f g=>
 C.q true a (fun K=>C.ab 0 f g K) g fun i j=>
 C.q true a (fun K=>C.ab 0 i j K) j fun k m=>
 C.q true a (fun K=>C.ai k m K) m fun o p=>
 C.q true a (fun K=>C.bi y5c .neq 118 (.tmp 10) (.const (y4x none)) o (y4x none) p K) p fun q r=>
 C.a2 (some a) (some q) (some (y5a false)) r fun s t=>
 K s t)):C.i y5c 88 #[x0] w K:=q9 (A:=A0) (args:=[x0]) (qq h)
namespace F90
def ann:Ann:=⟨[(3,[0,1])],[],[],[],none⟩
variable (K:VK) (y0 y1:Value) (w:World)
def k3:Prop:=nk ann 15 [(0,y0),(1,y1)] w [1,1] Tryz.f90 K
attribute [irreducible] k3
end F90
theorem F90.k3.to (h:(C.ae y0 w fun a b=>
 C.ab 0 a b fun c d=>
 C.ab 0 c d fun f g=>
 C.ai f g fun i j=>
 C.i y5c 128 #[i,y1] j fun k m=>
 K k m)):F90.k3 K y0 y1 w:=qq h
theorem F90.sh (h:(C.i y5c 88 #[x0] w fun a b=>
 C.bf a b fun c d=>
 C.am c (K (y4w j6 (-1)) d) (F90.k3 K x0 x1 d))):C.i y5c 90 #[x0,x1] w K:=q9 (A:=F90.ann) (args:=[x0,x1]) (qq h)
namespace F91
def ann:Ann:=⟨[(3,[0,1,2,6])],[],[],[],none⟩
variable (K:VK) (y0 y1 y2 y6:Value) (w:World)
def k3:Prop:=nk ann 22 [(0,y0),(1,y1),(2,y2),(6,y6)] w [1,1] Tryz.f91 K
attribute [irreducible] k3
end F91
theorem F91.k3.to (h:(C.ae y0 w fun a b=>
 C.ab 0 a b fun c d=>
 C.ab 0 c d fun f g=>
 C.ai f g fun i j=>
 C.i y5c 129 #[i,y1,y2] j fun k m=>
 C.a1 0 k m fun o p=>
 C.a1 1 k p fun q r=>
 C.ak 2 y6 o r fun s=>
 C.an 2 y6 s fun r9 _=>
 K (y4z #[r9,q]) s)):F91.k3 K y0 y1 y2 y6 w:=qq h
theorem F91.sh (h:(C.a3 (.cells #[y4w j6 0,y4w j6 0] 60) w fun a b=>
 C.i y5c 88 #[x0] b fun c d=>
 C.bf c d fun f g=>
 C.am f (C.ay y5c (Instr.build 60 #[]) g fun i j=>
 C.ak 2 a i j fun k=>
 C.an 2 a k fun r6 _=>
 K (y4z #[r6,(y5a false)]) k) (F91.k3 K x0 x1 x2 a g))):C.i y5c 91 #[x0,x1,x2] w K:=q9 (A:=F91.ann) (args:=[x0,x1,x2]) (qq h)

theorem F98.sh (h:(C.i y5c 88 #[x0] w fun a b=>
 C.q true a (fun K=>K x0 b) b fun c d=>
 C.q true a (fun K=>C.ae c d K) d fun f g=>
 C.q true a (fun K=>C.ab 12 f g K) g fun i j=>
 C.q true a (fun K=>C.ai i j K) j fun k m=>
 C.q true a (fun K=>K x1 m) m fun o p=>
 C.q true a (fun K=>C.i y5c 142 #[k,o] p K) p fun q r=>
 C.a2 (some a) (some q) (some (y5a false)) r fun s t=>
 K s t)):C.i y5c 98 #[x0,x1] w K:=q9 (A:=A0) (args:=[x0,x1]) (qq h)
namespace F99
def ann:Ann:=⟨[(3,[0,1]),(6,[0,1])],[],[],[],none⟩
variable (K:VK) (y0 y1:Value) (w:World)
def k3:Prop:=nk ann 45 [(0,y0),(1,y1)] w [1,1] Tryz.f99 K
def k6:Prop:=nk ann 45 [(0,y0),(1,y1)] w [1,1,1] Tryz.f99 K
attribute [irreducible] k3 k6
end F99
theorem F99.k3.to (h:(C.ae y0 w fun a b=>
 C.ab 13 a b fun c d=>
 C.ai c d fun f g=>
 C.i y5c 143 #[f,y1] g fun i j=>
 C.i y5c 144 #[y0] j fun k m=>
 C.am k (C.ae y0 m fun o p=>
 C.ab 0 o p fun q r=>
 C.an 2 q r fun s t=>
 C.i y5c 145 #[s,i] t fun u v=>
 F99.k6 K y0 y1 v) (F99.k6 K y0 y1 m))):F99.k3 K y0 y1 w:=qq h
theorem F99.k6.to (h:(C.ae y0 w fun a b=>
 C.ab 16 a b fun c d=>
 C.bs 8 1 c y1 d fun f g=>
 C.i y5c 146 #[f] g fun i j=>
 C.ae y0 j fun k m=>
 C.ab 0 k m fun o p=>
 C.ab 0 o p fun q r=>
 C.ai q r fun s t=>
 C.i y5c 147 #[s,y1] t fun u v=>
 C.ae y0 v fun x y=>
 C.ab 12 x y fun z aa=>
 C.ai z aa fun ab ac=>
 C.i y5c 148 #[ab,y1] ac fun ad ae=>
 C.i y5c 149 #[y0] ae fun af ag=>
 K (y5a true) ag)):F99.k6 K y0 y1 w:=qq h
theorem F99.sh (h:(C.i y5c 53 #[x0,x1] w fun a b=>
 C.bf a b fun c d=>
 C.am c (K (y5a false) d) (F99.k3 K x0 x1 d))):C.i y5c 99 #[x0,x1] w K:=q9 (A:=F99.ann) (args:=[x0,x1]) (qq h)
namespace F102
def ann:Ann:=⟨[(3,[0,1,4])],[],[],[],none⟩
variable (K:VK) (y0 y1 y4:Value) (w:World)
def k3:Prop:=nk ann 19 [(0,y0),(1,y1),(4,y4)] w [1,1] Tryz.f102 K
attribute [irreducible] k3
end F102
theorem F102.k3.to (h:(C.ae y0 w fun a b=>
 C.ab 16 a b fun c d=>
 C.bs 8 1 c y1 d fun f g=>
 C.i y5c 156 #[f] g fun i j=>
 C.a1 0 i j fun k m=>
 C.a1 1 i m fun o p=>
 C.ak 2 y4 k p fun q=>
 C.an 2 y4 q fun r8 _=>
 K (y4z #[r8,o]) q)):F102.k3 K y0 y1 y4 w:=qq h
theorem F102.sh (h:(C.a3 (.cells #[y4w j6 0,y4w j6 0] 60) w fun a b=>
 C.i y5c 53 #[x0,x1] b fun c d=>
 C.bf c d fun f g=>
 C.am f (C.ay y5c (Instr.build 60 #[]) g fun i j=>
 C.ak 2 a i j fun k=>
 C.an 2 a k fun r6 _=>
 K (y4z #[r6,(y5a false)]) k) (F102.k3 K x0 x1 a g))):C.i y5c 102 #[x0,x1] w K:=q9 (A:=F102.ann) (args:=[x0,x1]) (qq h)
namespace F105
def ann:Ann:=⟨[(3,[0,1]),(8,[0])],[],[],[(5,(.take 0 (.take 1 (.take 2 (.take 4 (.take 5 (.take 6 (.take 7 (.take 8 (.take 3 (.go 9 (.go 10 .fin .fin) .fin))))))))))),(7,(.take 0 (.take 1 (.take 2 (.take 4 (.take 5 (.take 6 (.take 8 (.take 3 (.take 7 (.go 9 (.go 10 .fin .fin) .fin)))))))))))],none⟩
variable (K:VK) (y0 y1:Value) (w:World)
def k3:Prop:=nk ann 49 [(0,y0),(1,y1)] w [1,1] Tryz.f105 K
def k8:Prop:=nk ann 49 [(0,y0)] w [1,1,1] Tryz.f105 K
attribute [irreducible] k3 k8
end F105
theorem F105.k3.to (h:(C.ae y0 w fun a b=>
 C.ab 25 a b fun c d=>
 C.ai c d fun f g=>
 C.aj .eql f (y4w j6 2) g fun i j=>
 C.am i (C.a9 j fun S k=>
 C.ae y0 k fun m o=>
 C.ab 0 m o fun p q=>
 C.ae y0 q fun r s=>
 C.ab 16 r s fun t u=>
 C.bs 8 1 t y1 u fun v x=>
 C.bm S 2 p x fun y z=>
 (C.i y5c 161 #[v] z fun aa ab=>
 (S ab∧
 (C.i y5c 145 #[y,aa] ab fun ac ad=>
 (S ad∧
 F105.k8 K y0 ad))∧True))∧True) (C.aj .eql f (y4w j6 4) j fun ae af=>
 C.am ae (C.a9 af fun S ag=>
 C.ae y0 ag fun ah ai=>
 C.ab 0 ah ai fun aj ak=>
 C.ae y0 ak fun al am=>
 C.ab 13 al am fun an ao=>
 C.bm S 2 aj ao fun ap aq=>
 C.aq S an aq fun ar au=>
 (C.i y5c 143 #[ar,y1] au fun av aw=>
 (S aw∧
 (C.i y5c 145 #[ap,av] aw fun ax ay=>
 (S ay∧
 F105.k8 K y0 ay))∧True))∧True) (F105.k8 K y0 af)))):F105.k3 K y0 y1 w:=qq h
theorem F105.k8.to (h:(C.i y5c 149 #[y0] w fun a b=>
 K (y5a true) b)):F105.k8 K y0 w:=qq h
theorem F105.sh (h:(C.i y5c 88 #[x0] w fun a b=>
 C.bf a b fun c d=>
 C.q false c (fun K=>K x0 d) d fun f g=>
 C.q false c (fun K=>C.ae f g K) g fun i j=>
 C.q false c (fun K=>C.ab 12 i j K) j fun k m=>
 C.q false c (fun K=>C.ai k m K) m fun o p=>
 C.q false c (fun K=>K x1 p) p fun q r=>
 C.q false c (fun K=>C.i y5c 160 #[o,q] r K) r fun s t=>
 C.q false c (fun K=>C.bf s t K) t fun u v=>
 C.a2 (some c) (some (y5a true)) (some u) v fun x y=>
 C.am x (K (y5a false) y) (F105.k3 K x0 x1 y))):C.i y5c 105 #[x0,x1] w K:=q9 (A:=F105.ann) (args:=[x0,x1]) (qq h)

theorem F144.sh (h:(C.ae x0 w fun a b=>
 C.ab 25 a b fun c d=>
 C.ai c d fun f g=>
 C.aj .geq f (y4w j6 2) g fun i j=>
 C.q true i (fun K=>K x0 j) j fun k m=>
 C.q true i (fun K=>C.ae k m K) m fun o p=>
 C.q true i (fun K=>C.ab 25 o p K) p fun q r=>
 C.q true i (fun K=>C.ai q r K) r fun s t=>
 C.q true i (fun K=>C.aj .leq s (y4w j6 4) t K) t fun u v=>
 C.a2 (some i) (some u) (some (y5a false)) v fun x y=>
 K x y)):C.i y5c 144 #[x0] w K:=q9 (A:=A0) (args:=[x0]) (qq h)
namespace F145
def ann:Ann:=⟨[(3,[2,6,7,8]),(5,[2,6,7,8])],[(2,[2,6,7,8])],[],[],none⟩
variable (K:VK) (y2 y6 y7 y8:Value) (w:World)
def l2:Prop:=nl ann 17 [(2,y2),(6,y6),(7,y7),(8,y8)] w [1,1,0] Tryz.f145 K
def k3:Prop:=nk ann 17 [(2,y2),(6,y6),(7,y7),(8,y8)] w [1,1,0,0,1,1] Tryz.f145 K
def k5:Prop:=nk ann 17 [(2,y2),(6,y6),(7,y7),(8,y8)] w [1,1,0,0,1,1,1] Tryz.f145 K
attribute [irreducible] l2 k3 k5
end F145
theorem F145.l2.to (h:(C.aj .lss y8 y7 w fun a b=>
 C.am a (F145.k3 K y2 y6 y7 y8 b) (K (y4z #[]) b))):F145.l2 K y2 y6 y7 y8 w:=by unfold F145.l2 nl;exact qah (qq h)
theorem F145.k3.to (h:(C.bk 1 y6 y8 w fun a b=>
 C.ai a b fun c d=>
 C.ab 1 y2 d fun f g=>
 C.ai f g fun i j=>
 C.i y5c 210 #[i,c] j fun k m=>
 F145.k5 K y2 y6 y7 y8 m)):F145.k3 K y2 y6 y7 y8 w:=qq h
theorem F145.k5.to (h:(C.aj .add y8 (y4w j6 1) w fun a b=>
 F145.l2 K y2 y6 y7 a b)):F145.k5 K y2 y6 y7 y8 w:=qq h
theorem F145.sh (h:(C.a3 (.cells (Value.cells x0) 123) w fun a b=>
 C.bl x1 b fun c d=>
 F145.l2 K a x1 c (y4w j6 0) d)):C.i y5c 145 #[x0,x1] w K:=q9 (A:=F145.ann) (args:=[x0,x1]) (qq h)
namespace F149
def ann:Ann:=⟨[(1,[0])],[(0,[0])],[],[(3,(.take 0 (.take 1 (.take 2 (.take 4 (.take 5 (.take 6 (.take 3 (.take 7 (.go 8 (.go 9 .fin .fin) .fin))))))))))],none⟩
variable (K:VK) (y0:Value) (w:World)
def l0:Prop:=nl ann 76 [(0,y0)] w [0] Tryz.f149 K
def k1:Prop:=nk ann 76 [(0,y0)] w [0,0,1] Tryz.f149 K
attribute [irreducible] l0 k1
end F149
theorem F149.l0.to (h:(C.ae y0 w fun a b=>
 C.ab 12 a b fun c d=>
 C.ai c d fun f g=>
 C.i y5c 213 #[f] g fun i j=>
 C.am i (F149.k1 K y0 j) (K (y4z #[]) j))):F149.l0 K y0 w:=by unfold F149.l0 nl;exact qah (qq h)
theorem F149.k1.to (h:(C.ae y0 w fun a b=>
 C.ab 25 a b fun c d=>
 C.ai c d fun f g=>
 C.aj .eql f (y4w j6 1) g fun i j=>
 C.am i (C.ae y0 j fun k m=>
 C.ab 13 k m fun o p=>
 C.ai o p fun q r=>
 C.i y5c 214 #[q] r fun s t=>
 C.a9 t fun S u=>
 C.ae y0 u fun v x=>
 C.ab 0 v x fun y z=>
 C.ae y0 z fun aa ab=>
 C.ab 24 aa ab fun ac ad=>
 C.bm S 2 y ad fun ae af=>
 C.aq S ac af fun ag ah=>
 (C.ay y5c (Instr.buildSlice 54 1 #[(0,ag)]) ah fun ai aj=>
 (S aj∧
 (C.i y5c 145 #[ae,ai] aj fun ak al=>
 (S al∧
 C.i y5c 215 #[y0,(y4w j6 2)] al fun am an=>
 F149.l0 K y0 an))∧True))∧True) (C.ae y0 j fun ao ap=>
 C.ab 25 ao ap fun aq ar=>
 C.ai aq ar fun au av=>
 C.aj .eql au (y4w j6 2) av fun aw ax=>
 C.am aw (C.ae y0 ax fun ay az=>
 C.ab 25 ay az fun ba bb=>
 C.ak 1 ba (y4w j6 3) bb fun bc=>
 F149.l0 K y0 bc) (C.ae y0 ax fun bd be=>
 C.ab 25 bd be fun bf bg=>
 C.ai bf bg fun bh bi=>
 C.aj .eql bh (y4w j6 4) bi fun bj bk=>
 C.q true bj (fun K=>K y0 bk) bk fun bl bm=>
 C.q true bj (fun K=>C.ae bl bm K) bm fun bn bo=>
 C.q true bj (fun K=>C.ab 13 bn bo K) bo fun bp bq=>
 C.q true bj (fun K=>C.ai bp bq K) bq fun br bs=>
 C.q true bj (fun K=>C.i y5c 216 #[br] bs K) bs fun bt bu=>
 C.a2 (some bj) (some bt) (some (y5a false)) bu fun bv bw=>
 C.q true bv (fun K=>K y0 bw) bw fun bx bz=>
 C.q true bv (fun K=>C.ae bx bz K) bz fun ca cb=>
 C.q true bv (fun K=>C.ab 14 ca cb K) cb fun cc ce=>
 C.q true bv (fun K=>C.ai cc ce K) ce fun cf cg=>
 C.q true bv (fun K=>C.i y5c 217 #[cf] cg K) cg fun ch ci=>
 C.a2 (some bv) (some ch) (some (y5a false)) ci fun cj ck=>
 C.am cj (C.ae y0 ck fun cl cm=>
 C.ab 25 cl cm fun cn co=>
 C.ak 1 cn (y4w j6 5) co fun cp=>
 C.ae y0 cp fun cq cr=>
 C.ab 15 cq cr fun cs ct=>
 C.ai cs ct fun cu cv=>
 C.i y5c 218 #[cu] cv fun cw cx=>
 F149.l0 K y0 cx) (C.ae y0 ck fun cy cz=>
 C.ab 25 cy cz fun da db=>
 C.ai da db fun dc dd=>
 C.aj .eql dc (y4w j6 4) dd fun de df=>
 C.am de (C.ae y0 df fun dg dh=>
 C.ab 25 dg dh fun di dj=>
 C.ak 1 di (y4w j6 3) dj fun dk=>
 F149.l0 K y0 dk) (K (y4z #[]) df)))))):F149.k1 K y0 w:=qq h
theorem F149.sh (h:(F149.l0 K x0 w)):C.i y5c 149 #[x0] w K:=q9 (A:=F149.ann) (args:=[x0]) (qq h)
namespace F151
def ann:Ann:=⟨[(3,[0,1,2]),(6,[8,9])],[],[],[(5,(.take 0 (.take 1 (.take 2 (.take 4 (.take 5 (.take 6 (.take 7 (.take 9 (.take 10 (.take 11 (.take 3 (.take 8 (.take 12 (.go 13 (.go 14 .fin .fin) .fin)))))))))))))))],none⟩
variable (K:VK) (y0 y1 y2 y8 y9:Value) (w:World)
def k3:Prop:=nk ann 43 [(0,y0),(1,y1),(2,y2)] w [1,1] Tryz.f151 K
def k6:Prop:=nk ann 43 [(8,y8),(9,y9)] w [1,1,1,1] Tryz.f151 K
attribute [irreducible] k3 k6
end F151
theorem F151.k3.to (h:(C.ae y0 w fun a b=>
 C.ab 0 a b fun c d=>
 C.ab 0 c d fun f g=>
 C.ai f g fun i j=>
 C.i y5c 122 #[i,y1,y2] j fun k m=>
 C.a1 0 k m fun o p=>
 C.a1 1 k p fun q r=>
 C.am q (C.a9 r fun S s=>
 C.ae y0 s fun t u=>
 C.ab 0 t u fun v x=>
 C.ae y0 x fun y z=>
 C.ab 25 y z fun aa ab=>
 C.ae y0 ab fun ac ad=>
 C.ab 15 ac ad fun ae af=>
 C.bm S 2 v af fun ag ah=>
 C.aq S aa ah fun ai aj=>
 C.aq S ae aj fun ak al=>
 (C.i y5c 220 #[ak] al fun am an=>
 (S an∧
 (C.i y5c 219 #[ag,o,ai,am] an fun ao ap=>
 (S ap∧
 F151.k6 K o q ap))∧True))∧True) (F151.k6 K o q r))):F151.k3 K y0 y1 y2 w:=qq h
theorem F151.k6.to (h:(K (y4z #[y8,y9]) w)):F151.k6 K y8 y9 w:=qq h
theorem F151.sh (h:(C.i y5c 53 #[x0,x1] w fun a b=>
 C.bf a b fun c d=>
 C.am c (K (y4z #[(y4w j6 0),(y5a false)]) d) (F151.k3 K x0 x1 x2 d))):C.i y5c 151 #[x0,x1,x2] w K:=q9 (A:=F151.ann) (args:=[x0,x1,x2]) (qq h)
namespace F154
def ann:Ann:=⟨[],[],[],[(1,(.take 0 (.take 1 (.go 2 (.take 3 (.take 4 (.take 5 (.go 6 (.take 7 (.take 8 (.take 9 (.take 10 (.take 11 (.take 12 (.take 13 (.take 14 (.go 15 (.take 16 (.take 17 .fin)) .fin))))))))) .fin)))) .fin))))],none⟩
end F154
theorem F154.sh (h:(C.a3 (.cells (Value.cells x2) 60) w fun a b=>
 C.a9 b fun S c=>
 (C.i y5c 53 #[x0,x1] c fun d f=>
 (S f∧
 C.q true d (fun K=>K x0 f) f fun g i=>
 C.q true d (fun K=>C.bm S 2 a i K) i fun j k=>
 (C.q true d (fun K=>C.i y5c 225 #[g,j] k K) k fun m o=>
 (S o∧
 C.a2 (some d) (some m) (some (y5a false)) o fun p q=>
 C.q true p (fun K=>K x0 q) q fun r s=>
 C.q true p (fun K=>K x1 s) s fun t u=>
 C.q true p (fun K=>C.ae r u K) u fun v x=>
 C.q true p (fun K=>C.ab 16 v x K) x fun y z=>
 C.q true p (fun K=>C.bs 8 1 y t z K) z fun aa ab=>
 C.q true p (fun K=>C.bm S 2 a ab K) ab fun ac ad=>
 (C.q true p (fun K=>C.i y5c 226 #[aa,ac] ad K) ad fun ae af=>
 (S af∧
 C.a2 (some p) (some ae) (some (y5a false)) af fun ag ah=>
 K ag ah))∧True))∧True))∧True)):C.i y5c 154 #[x0,x1,x2] w K:=q9 (A:=F154.ann) (args:=[x0,x1,x2]) (qq h)
namespace F159
def ann:Ann:=⟨[(3,[0,1,2,3,9]),(6,[0,1,2,3,9,11]),(9,[0,2,3,9])],[],[],[(9,(.take 0 (.take 1 (.take 2 (.take 3 (.take 5 (.take 6 (.take 4 (.take 7 (.go 8 (.take 9 .fin) .fin))))))))))],none⟩
variable (K:VK) (y0 y1 y2 y3 y9 y11:Value) (w:World)
def k3:Prop:=nk ann 73 [(0,y0),(1,y1),(2,y2),(3,y3),(9,y9)] w [1,1] Tryz.f159 K
def k6:Prop:=nk ann 73 [(0,y0),(1,y1),(2,y2),(3,y3),(9,y9),(11,y11)] w [1,1,1,1] Tryz.f159 K
def k9:Prop:=nk ann 73 [(0,y0),(2,y2),(3,y3),(9,y9)] w [1,1,1,1,1] Tryz.f159 K
attribute [irreducible] k3 k6 k9
end F159
theorem F159.k3.to (h:(C.ae y0 w fun a b=>
 C.ab 0 a b fun c d=>
 C.ab 0 c d fun f g=>
 C.ai f g fun i j=>
 C.i y5c 129 #[i,y2,y3] j fun k m=>
 C.a1 0 k m fun o p=>
 C.a1 1 k p fun q r=>
 C.a3 (.cells #[y4w j6 0,y4w j6 0] 60) r fun s t=>
 C.ak 2 s o t fun u=>
 C.bf q u fun v x=>
 C.am v (K (y5a false) x) (F159.k6 K y0 y1 y2 y3 y9 s x))):F159.k3 K y0 y1 y2 y3 y9 w:=qq h
theorem F159.k6.to (h:(C.ab 1 y11 w fun a b=>
 C.ai a b fun c d=>
 C.ab 0 y11 d fun f g=>
 C.ai f g fun i j=>
 C.aj .eql i (y4w j6 2) j fun k m=>
 C.q true k (fun K=>K y0 m) m fun o p=>
 C.q true k (fun K=>C.ae o p K) p fun q r=>
 C.q true k (fun K=>C.ab 0 q r K) r fun s t=>
 C.q true k (fun K=>C.ab 1 s t K) t fun u v=>
 C.q true k (fun K=>C.ai u v K) v fun x y=>
 C.q true k (fun K=>K c y) y fun z aa=>
 C.q true k (fun K=>C.i y5c 230 #[x,z] aa K) aa fun ab ac=>
 C.q true k (fun K=>C.bf ab ac K) ac fun ad ae=>
 C.a2 (some k) (some ad) (some (y5a false)) ae fun af ag=>
 C.q true af (fun K=>K y0 ag) ag fun ah ai=>
 C.q true af (fun K=>K y1 ai) ai fun aj ak=>
 C.q true af (fun K=>C.i y5c 231 #[ah,aj] ak K) ak fun al am=>
 C.a2 (some af) (some al) (some (y5a false)) am fun an ao=>
 C.am an (C.ae y0 ao fun ap aq=>
 C.ab 13 ap aq fun ar au=>
 C.ai ar au fun av aw=>
 C.i y5c 232 #[av,y1,c] aw fun ax ay=>
 F159.k9 K y0 y2 y3 y9 ay) (F159.k9 K y0 y2 y3 y9 ao))):F159.k6 K y0 y1 y2 y3 y9 y11 w:=qq h
theorem F159.k9.to (h:(C.a9 w fun S a=>
 C.ae y0 a fun b c=>
 C.ab 0 b c fun d f=>
 C.ab 0 d f fun g i=>
 C.aq S g i fun j k=>
 C.bm S 2 y9 k fun m o=>
 (C.i y5c 233 #[j,y2,y3,m] o fun p q=>
 (S q∧
 K p q))∧True)):F159.k9 K y0 y2 y3 y9 w:=qq h
theorem F159.sh (h:(C.a3 (.cells (Value.cells x4) 60) w fun a b=>
 C.i y5c 53 #[x0,x1] b fun c d=>
 C.bf c d fun f g=>
 C.q false f (fun K=>K x0 g) g fun i j=>
 C.q false f (fun K=>C.an 2 a j K) j fun k m=>
 C.q false f (fun K=>C.i y5c 225 #[i,k] m K) m fun o p=>
 C.q false f (fun K=>C.bf o p K) p fun q r=>
 C.a2 (some f) (some (y5a true)) (some q) r fun s t=>
 C.am s (K (y5a false) t) (F159.k3 K x0 x1 x2 x3 a t))):C.i y5c 159 #[x0,x1,x2,x3,x4] w K:=q9 (A:=F159.ann) (args:=[x0,x1,x2,x3,x4]) (qq h)
namespace F162
def ann:Ann:=⟨[(3,[0])],[],[],[],none⟩
variable (K:VK) (y0:Value) (w:World)
def k3:Prop:=nk ann 20 [(0,y0)] w [1,1] Tryz.f162 K
attribute [irreducible] k3
end F162
theorem F162.k3.to (h:(C.ae y0 w fun a b=>
 C.ab 27 a b fun c d=>
 C.ak 1 c (y4w j6 0) d fun f=>
 C.i y5c 215 #[y0,(y4w j6 1)] f fun g i=>
 C.i y5c 149 #[y0] i fun j k=>
 K (y5a true) k)):F162.k3 K y0 w:=qq h
theorem F162.sh (h:(C.i y5c 88 #[x0] w fun a b=>
 C.bf a b fun c d=>
 C.q false c (fun K=>K x0 d) d fun f g=>
 C.q false c (fun K=>C.ae f g K) g fun i j=>
 C.q false c (fun K=>C.ab 25 i j K) j fun k m=>
 C.q false c (fun K=>C.ai k m K) m fun o p=>
 C.q false c (fun K=>C.aj .neq o (y4w j6 0) p K) p fun q r=>
 C.a2 (some c) (some (y5a true)) (some q) r fun s t=>
 C.am s (K (y5a false) t) (F162.k3 K x0 t))):C.i y5c 162 #[x0] w K:=q9 (A:=F162.ann) (args:=[x0]) (qq h)

theorem F215.sh (h:(C.ae x0 w fun a b=>
 C.ab 25 a b fun c d=>
 C.ak 1 c x1 d fun f=>
 C.ae x0 f fun g i=>
 C.ab 12 g i fun j k=>
 C.ai j k fun m o=>
 C.i y5c 266 #[m] o fun p q=>
 K (y4z #[]) q)):C.i y5c 215 #[x0,x1] w K:=q9 (A:=A0) (args:=[x0,x1]) (qq h)

theorem F219.sh (h:(C.a3 (.cells (Value.cells x0) 123) w fun a b=>
 C.aj .eql x2 (y4w j6 2) b fun c d=>
 C.am c (C.ab 1 a d fun f g=>
 C.ai f g fun i j=>
 C.i y5c 210 #[i,x1] j fun k m=>
 K (y4z #[]) m) (C.aj .eql x2 (y4w j6 3) d fun o p=>
 C.am o (C.am o (C.ab 1 a p fun q r=>
 C.ai q r fun s t=>
 C.i y5c 260 #[s,x1] t fun u v=>
 K (y4z #[]) v) (K (y4z #[]) p)) (C.aj .eql x2 (y4w j6 4) p fun x y=>
 C.am x (C.am x (C.ab 1 a y fun z aa=>
 C.ai z aa fun ab ac=>
 C.i y5c 260 #[ab,x1] ac fun ad ae=>
 K (y4z #[]) ae) (K (y4z #[]) y)) (C.aj .eql x2 (y4w j6 5) y fun af ag=>
 C.q true af (fun K=>K x1 ag) ag fun ah ai=>
 C.q true af (fun K=>C.i y5c 272 #[ah] ai K) ai fun aj ak=>
 C.q true af (fun K=>K x3 ak) ak fun al am=>
 C.q true af (fun K=>C.aj .geq aj al am K) am fun an ao=>
 C.a2 (some af) (some an) (some (y5a false)) ao fun ap aq=>
 C.am ap (C.ab 1 a aq fun ar au=>
 C.ai ar au fun av aw=>
 C.i y5c 260 #[av,x1] aw fun ax ay=>
 K (y4z #[]) ay) (K (y4z #[]) aq)))))):C.i y5c 219 #[x0,x1,x2,x3] w K:=q9 (A:=A0) (args:=[x0,x1,x2,x3]) (qq h)
namespace F221
def ann:Ann:=⟨[(3,[0])],[],[],[],none⟩
variable (K:VK) (y0:Value) (w:World)
def k3:Prop:=nk ann 12 [(0,y0)] w [1,1] Tryz.f221 K
attribute [irreducible] k3
end F221
theorem F221.k3.to (h:(C.ae y0 w fun a b=>
 C.ab 0 a b fun c d=>
 C.ab 0 c d fun f g=>
 C.ai f g fun i j=>
 C.i y5c 273 #[i] j fun k m=>
 K k m)):F221.k3 K y0 w:=qq h
theorem F221.sh (h:(C.i y5c 88 #[x0] w fun a b=>
 C.bf a b fun c d=>
 C.am c (K (y4w j6 0) d) (F221.k3 K x0 d))):C.i y5c 221 #[x0] w K:=q9 (A:=F221.ann) (args:=[x0]) (qq h)
namespace F223
def ann:Ann:=⟨[(5,[0,1,2]),(8,[8,9])],[],[],[(7,(.take 0 (.take 1 (.take 2 (.take 4 (.take 5 (.take 6 (.take 7 (.take 9 (.take 10 (.take 11 (.take 3 (.take 8 (.take 12 (.go 13 (.go 14 .fin .fin) .fin)))))))))))))))],none⟩
variable (K:VK) (y0 y1 y2 y8 y9:Value) (w:World)
def k5:Prop:=nk ann 49 [(0,y0),(1,y1),(2,y2)] w [1,1] Tryz.f223 K
def k8:Prop:=nk ann 49 [(8,y8),(9,y9)] w [1,1,1,1] Tryz.f223 K
attribute [irreducible] k5 k8
end F223
theorem F223.k5.to (h:(C.ae y0 w fun a b=>
 C.ab 0 a b fun c d=>
 C.ab 0 c d fun f g=>
 C.ai f g fun i j=>
 C.i y5c 79 #[i,y1,y2] j fun k m=>
 C.a1 0 k m fun o p=>
 C.a1 1 k p fun q r=>
 C.aj .eql q (y4w j6 0) r fun s t=>
 C.am s (C.a9 t fun S u=>
 C.ae y0 u fun v x=>
 C.ab 0 v x fun y z=>
 C.ae y0 z fun aa ab=>
 C.ab 25 aa ab fun ac ad=>
 C.ae y0 ad fun ae af=>
 C.ab 15 ae af fun ag ah=>
 C.bm S 2 y ah fun ai aj=>
 C.aq S ac aj fun ak al=>
 C.aq S ag al fun am an=>
 (C.i y5c 220 #[am] an fun ao ap=>
 (S ap∧
 (C.i y5c 219 #[ai,o,ak,ao] ap fun aq ar=>
 (S ar∧
 F223.k8 K o q ar))∧True))∧True) (F223.k8 K o q t))):F223.k5 K y0 y1 y2 w:=qq h
theorem F223.k8.to (h:(K (y4z #[y8,y9]) w)):F223.k8 K y8 y9 w:=qq h
theorem F223.sh (h:(C.i y5c 88 #[x0] w fun a b=>
 C.bf a b fun c d=>
 C.am c (K (y4z #[(y4w j6 0),(y4w j6 9)]) d) (C.i y5c 53 #[x0,x1] d fun f g=>
 C.bf f g fun i j=>
 C.am i (K (y4z #[(y4w j6 0),(y4w j6 4)]) j) (F223.k5 K x0 x1 x2 j)))):C.i y5c 223 #[x0,x1,x2] w K:=q9 (A:=F223.ann) (args:=[x0,x1,x2]) (qq h)
namespace F225
def ann:Ann:=⟨[],[],[],[(1,(.take 0 (.go 1 (.take 2 (.take 3 (.take 4 (.take 5 (.take 6 (.take 7 (.take 8 (.take 9 (.take 10 (.take 11 (.take 13 (.take 12 (.take 14 (.go 15 (.take 16 (.take 17 (.take 18 (.take 19 .fin)))) .fin)))))))))))))) .fin)))],none⟩
end F225
theorem F225.sh (h:(C.a3 (.cells (Value.cells x1) 60) w fun a b=>
 C.a9 b fun S c=>
 C.bm S 2 a c fun d f=>
 (C.i y5c 227 #[d] f fun g i=>
 (S i∧
 C.aj .eql g (y4w j6 0) i fun j k=>
 C.q true j (fun K=>C.ab 0 a k K) k fun m o=>
 C.q true j (fun K=>C.aq S m o K) o fun p q=>
 C.q true j (fun K=>C.aj .neq p (y4w j6 2) q K) q fun r s=>
 C.q true j (fun K=>K r s) s fun t u=>
 C.q false t (fun K=>K x0 u) u fun v x=>
 C.q false t (fun K=>C.ae v x K) x fun y z=>
 C.q false t (fun K=>C.ab 0 y z K) z fun aa ab=>
 C.q false t (fun K=>C.ab 0 aa ab K) ab fun ac ad=>
 C.q false t (fun K=>C.ab 1 a ad K) ad fun ae af=>
 C.q false t (fun K=>C.aq S ac af K) af fun ag ah=>
 C.q false t (fun K=>C.aq S ae ah K) ah fun ai aj=>
 (C.q false t (fun K=>C.i y5c 128 #[ag,ai] aj K) aj fun ak al=>
 (S al∧
 C.q false t (fun K=>C.aj .geq ak (y4w j6 0) al K) al fun am an=>
 C.q true j (fun K=>C.a2 (some t) (some (y5a true)) (some am) an K) an fun ao ap=>
 C.a2 (some j) (some ao) (some (y5a false)) ap fun aq ar=>
 K aq ar))∧True))∧True)):C.i y5c 225 #[x0,x1] w K:=q9 (A:=F225.ann) (args:=[x0,x1]) (qq h)
namespace F231
def ann:Ann:=⟨[],[],[],[(1,(.take 0 (.go 1 (.take 2 (.take 3 (.take 4 (.take 5 (.take 6 (.take 7 (.take 8 (.take 9 (.take 10 (.take 11 (.take 13 (.take 15 (.take 16 (.take 17 (.take 12 (.take 18 (.go 14 (.go 19 (.take 20 (.take 21 (.take 22 (.take 23 .fin)))) .fin) .fin))))))))))))))))) .fin)))],none⟩
end F231
theorem F231.sh (h:(C.a9 w fun S a=>
 (C.i y5c 144 #[x0] a fun b c=>
 (S c∧
 C.q false b (fun K=>K x0 c) c fun d f=>
 C.q false b (fun K=>C.ae d f K) f fun g i=>
 C.q false b (fun K=>C.ab 25 g i K) i fun j k=>
 C.q false b (fun K=>C.aq S j k K) k fun m o=>
 C.q false b (fun K=>C.aj .eql m (y4w j6 1) o K) o fun p q=>
 C.q false b (fun K=>K p q) q fun r s=>
 C.q true r (fun K=>K x0 s) s fun t u=>
 C.q true r (fun K=>C.ae t u K) u fun v x=>
 C.q true r (fun K=>C.ab 12 v x K) x fun y z=>
 C.q true r (fun K=>K x1 z) z fun aa ab=>
 C.q true r (fun K=>K x0 ab) ab fun ac ad=>
 C.q true r (fun K=>C.ae ac ad K) ad fun ae af=>
 C.q true r (fun K=>C.ab 12 ae af K) af fun ag ah=>
 C.q true r (fun K=>C.aq S y ah K) ah fun ai aj=>
 C.q true r (fun K=>C.aq S ag aj K) aj fun ak al=>
 (C.q true r (fun K=>C.i y5c 277 #[ai,aa] al K) al fun am an=>
 (S an∧
 (C.q true r (fun K=>C.i y5c 278 #[ak] an K) an fun ao ap=>
 (S ap∧
 C.q true r (fun K=>C.aj .eql am ao ap K) ap fun aq ar=>
 C.q false b (fun K=>C.a2 (some r) (some aq) (some (y5a false)) ar K) ar fun au av=>
 C.a2 (some b) (some (y5a true)) (some au) av fun aw ax=>
 K aw ax))∧True))∧True))∧True)):C.i y5c 231 #[x0,x1] w K:=q9 (A:=F231.ann) (args:=[x0,x1]) (qq h)
namespace F280
def ann:Ann:=⟨[(13,[0,3]),(15,[3])],[],[],[],none⟩
variable (K:VK) (y0 y3:Value) (w:World)
def k13:Prop:=nk ann 50 [(0,y0),(3,y3)] w [1,1,1] Tryz.f280 K
def k15:Prop:=nk ann 50 [(3,y3)] w [1,1,1,1] Tryz.f280 K
attribute [irreducible] k13 k15
end F280
theorem F280.k13.to (h:(C.am y3 (C.ae y0 w fun a b=>
 C.ab 27 a b fun c d=>
 C.ai c d fun f g=>
 C.aj .add f (y4w j6 1) g fun i j=>
 C.ae y0 j fun k m=>
 C.ab 27 k m fun o p=>
 C.ak 1 o i p fun q=>
 F280.k15 K y3 q) (F280.k15 K y3 w))):F280.k13 K y0 y3 w:=qq h
theorem F280.k15.to (h:(K y3 w)):F280.k15 K y3 w:=qq h
theorem F280.sh (h:(C.i y5c 59 #[x0] w fun a b=>
 C.aj .eql a (y4w j6 3) b fun c d=>
 C.am c (C.ae x0 d fun f g=>
 C.ab 14 f g fun i j=>
 C.ai i j fun k m=>
 C.i y5c 303 #[k] m fun o p=>
 C.bf o p fun q r=>
 C.am q (C.i y5c 215 #[x0,(y4w j6 4)] r fun s t=>
 C.i y5c 149 #[x0] t fun u v=>
 F280.k13 K x0 o v) (F280.k13 K x0 o r)) (C.aj .eql a (y4w j6 5) d fun x y=>
 C.am x (C.ae x0 y fun z aa=>
 C.ab 15 z aa fun ab ac=>
 C.ai ab ac fun ad ae=>
 C.i y5c 304 #[ad] ae fun af ag=>
 C.ae x0 ag fun ah ai=>
 C.ab 15 ah ai fun aj ak=>
 C.ai aj ak fun al am=>
 C.i y5c 305 #[al] am fun an ao=>
 C.am an (C.ae x0 ao fun ap aq=>
 C.ab 25 ap aq fun ar au=>
 C.ak 1 ar (y4w j6 0) au fun av=>
 C.ae x0 av fun aw ax=>
 C.ab 26 aw ax fun ay az=>
 C.ai ay az fun ba bb=>
 C.aj .add ba (y4w j6 1) bb fun bc bd=>
 C.ae x0 bd fun be bf=>
 C.ab 26 be bf fun bg bh=>
 C.ak 1 bg bc bh fun bi=>
 F280.k13 K x0 af bi) (F280.k13 K x0 af ao)) (F280.k13 K x0 (y5a false) y)))):C.i y5c 280 #[x0] w K:=q9 (A:=F280.ann) (args:=[x0]) (qq h)
end
end Go.Proofs.YtcakfaakbpdklaaGreatDoorV
namespace Go.Proofs.YtcakfaakbpdklaaGreatDoorV
open Go Go.Proofs Go.RowKit
open Go.Proofs.Tryz renaming prog→y5c
open Go.IntKind renaming i64→j6
open Go.Value renaming int→y4w,pointer→y4x,tuple→y4z,bool→y5a
structure Had where
 D:Sad
 G:Gad
 tr:Nat
 sw:Nat
 N:Nat
def Had.fix (H:Had):List Nat:=[H.tr,H.sw,H.G.gr,H.G.wa,H.G.sk,H.G.mb]
structure Had.Ok (H:Had):Prop where
 nd:H.fix.Nodup
 dj:∀x∈H.fix,x∉H.D.all
 lo:∀x∈H.fix ++ H.D.all,x<H.N
def Had.S (H:Had) (lv:Value):List Nat:=H.tr :: H.sw :: (H.G.S lv ++ H.D.S)
def Had.all (H:Had) (lv:Value):List Nat:=H.fix ++ (H.D.all ++ qaa lv)
structure qas (H:Had) (lv:Value) (cf:Cf) (w:World) (c:Co):Prop where
 ok:H.Ok
 st:qau H.D cf.pages.toNat (cf.threads+1) w c.s
 gy:qbb H.G lv cf.stack w c.g
 tb:w.heap[H.tr]?=some (.cells #[y4x (some ⟨H.D.st,0,none⟩),y4x (some ⟨H.G.gr,0,none⟩),y4w j6 cf.pages,y4w j6 cf.chunk,y4w j6 c.tp] 188 (0,0))
 sb:w.heap[H.sw]?=some (.cells #[y4x (some ⟨H.D.st,0,none⟩),y4x (some ⟨H.G.gr,0,none⟩),y4w j6 cf.pages,y4w j6 c.at_,y4w j6 c.freed] 190 (0,0))
 hi:∀x∈qaa lv,H.N≤x
 le:H.N≤w.heap.size
 pg:1≤cf.pages∧cf.pages≤64
 ck:1≤cf.chunk∧cf.chunk≤16
structure HTo (H:Had) (lv:Value) (w:World) (lv':Value) (w':World):Prop where
 fr:Fr (H.S lv) w w'
 gr:Gr w lv lv'
theorem HTo.refl (H:Had) (lv:Value) (w:World):HTo H lv w lv w:=⟨Fr.refl _ _,Gr.refl _ _⟩
theorem HTo.trans {H:Had} {lv lv' lv'':Value} {w w' w'':World} (h:HTo H lv w lv' w') (k:HTo H lv' w' lv'' w''):HTo H lv w lv'' w'':=
 ⟨h.fr.then k.fr fun x hx=>by
  simp only[Had.S,Gad.S,y4b,y3q] at hx ⊢
  rcases hx with c | c | (c | c | c) | c
  ·simp[c]
  ·simp[c]
  ·simp[c]
  ·simp[c]
  ·rcases h.gr x c with d | d
   ·simp[d]
   ·exact .inr d
  ·simp[c],h.gr.trans k.gr h.fr.size⟩
theorem HTo.w {H:Had} {lv:Value} {a b:World} (h:Fr [] a b):HTo H lv a lv b:=⟨h.w,Gr.refl _ _⟩
section
variable {H:Had} {lv lv':Value} {w w':World}
theorem HTo.d (h:Fr H.D.S w w'):HTo H lv w lv w':=⟨h.mono fun x hx=>by simp[Had.S,hx],Gr.refl _ _⟩
theorem HTo.g (h:GTo H.G lv w lv' w'):HTo H lv w lv' w':=⟨h.fr.mono fun x hx=>by simp[Had.S,hx],h.gr⟩
theorem HTo.t (h:Fr [H.tr] w w'):HTo H lv w lv w':=⟨h.mono fun x hx=>by simp only[y2d] at hx;simp[Had.S,hx],Gr.refl _ _⟩
theorem HTo.s (h:Fr [H.sw] w w'):HTo H lv w lv w':=⟨h.mono fun x hx=>by simp only[y2d] at hx;simp[Had.S,hx],Gr.refl _ _⟩
end
section
variable {K:VK} {w w':World} {H:Had} {lv:Value} {cf:Cf} {c:Co}
theorem qas.keep {S:List Nat} (h:qas H lv cf w c) (hf:Fr S w w') (ha:∀x∈H.all lv,x∉S):qas H lv cf w' c:=
 ⟨h.ok,h.st.keep hf (fun x hx=>ha x (by simp[Had.all,hx])),h.gy.keep hf (fun x hx=>ha x (by
  simp only[Gad.all,Gad.S,y4b] at hx
  rcases hx with d | d | d | d | d <;> simp[Had.all,Had.fix,d])),hf.at_ h.tb (ha _ (by simp[Had.all,Had.fix])),hf.at_ h.sb (ha _ (by simp[Had.all,Had.fix])),h.hi,by have:=hf.size;have:=h.le;omega,h.pg,h.ck⟩
theorem qas.keep0 (h:qas H lv cf w c) (hf:Fr [] w w'):qas H lv cf w' c:=h.keep hf (by simp)
theorem qas.nS (h:qas H lv cf w c) {x:Nat} (hx:x∈H.fix):x∉H.D.S:=fun e=>h.ok.dj x hx (H.D.sub x e)
theorem qas.nl (h:qas H lv cf w c) {x:Nat} (hx:x∈H.fix ++ H.D.all):x∉qaa lv:=fun e=>by
 have h1:=h.ok.lo x hx;have h2:=h.hi x e;omega
theorem qas.setS {s:St} (h:qas H lv cf w c) (hf:Fr H.D.S w w') (hs:qau H.D cf.pages.toNat (cf.threads+1) w' s):qas H lv cf w' { c with s:=s }:=
 ⟨h.ok,hs,h.gy.keep hf (fun x hx=>by
  simp only[Gad.all,Gad.S,y4b] at hx
  rcases hx with d | d | d | d | d
  iterate 4 exact h.nS (by simp[Had.fix,d])
  exact fun e=>h.nl (x:=x) (by simp[H.D.sub x e]) d),hf.at_ h.tb (h.nS (by simp[Had.fix])),hf.at_ h.sb (h.nS (by simp[Had.fix])),h.hi,by have:=hf.size;have:=h.le;omega,h.pg,h.ck⟩
theorem qas.setG {lv':Value} {g:Gy} (h:qas H lv cf w c) (hf:GTo H.G lv w lv' w') (hg:qbb H.G lv' cf.stack w' g):qas H lv' cf w' { c with g:=g }:=by
 have nd:=h.ok.nd
 simp only[Had.fix,y3s,y4b,y3i,or_false,not_or] at nd
 have no:∀x,x∈H.D.all∨x=H.tr∨x=H.sw→x∉H.G.S lv:=fun x hx e=>by
  simp only[Gad.S,y4b] at e
  rcases e with e | e | e
  ·rcases hx with c | c | c
   ·exact h.ok.dj _ (by simp[Had.fix]) (e ▸ c)
   ·rw[c] at e;exact nd.1.2.2.2.1 e
   ·rw[c] at e;exact nd.2.1.2.2.1 e
  ·rcases hx with c | c | c
   ·exact h.ok.dj _ (by simp[Had.fix]) (e ▸ c)
   ·rw[c] at e;exact nd.1.2.2.2.2 e
   ·rw[c] at e;exact nd.2.1.2.2.2 e
  ·exact h.nl (x:=x) (by rcases hx with c | c | c <;> simp[Had.fix,c]) e
 exact⟨h.ok,h.st.keep hf.fr (fun x hx=>no x (.inl hx)),hg,hf.fr.at_ h.tb (no _ (.inr (.inl rfl))),hf.fr.at_ h.sb (no _ (.inr (.inr rfl))),fun x hx=>by
  rcases hf.gr x hx with d | d
  ·exact h.hi x d
  ·have:=h.le;omega,by have:=hf.fr.size;have:=h.le;omega,h.pg,h.ck⟩
theorem qas.setT {tp:Int} (h:qas H lv cf w c) (hf:Fr [H.tr] w w') (hb:w'.heap[H.tr]?=some (.cells #[y4x (some ⟨H.D.st,0,none⟩),y4x (some ⟨H.G.gr,0,none⟩),y4w j6 cf.pages,y4w j6 cf.chunk,y4w j6 tp] 188 (0,0))):qas H lv cf w' { c with tp:=tp }:=by
 have nd:=h.ok.nd
 simp only[Had.fix,y3s,y4b,y3i,or_false,not_or] at nd
 exact⟨h.ok,h.st.keep hf (fun x hx e=>by simp only[y2d] at e;subst e;exact h.ok.dj _ (by simp[Had.fix]) hx),h.gy.keep hf (fun x hx e=>by
  simp only[y2d] at e
  subst e
  simp only[Gad.all,Gad.S,y4b] at hx
  rcases hx with d | d | d | d | d
  ·exact nd.1.2.1 d
  ·exact nd.1.2.2.1 d
  ·exact nd.1.2.2.2.1 d
  ·exact nd.1.2.2.2.2 d
  ·exact h.nl (by simp[Had.fix]) d),hb,hf.at_ h.sb (by simp only[y2d];exact fun e=>nd.1.1 e.symm),h.hi,by have:=hf.size;have:=h.le;omega,h.pg,h.ck⟩
theorem qas.setW {a f:Int} (h:qas H lv cf w c) (hf:Fr [H.sw] w w') (hb:w'.heap[H.sw]?=some (.cells #[y4x (some ⟨H.D.st,0,none⟩),y4x (some ⟨H.G.gr,0,none⟩),y4w j6 cf.pages,y4w j6 a,y4w j6 f] 190 (0,0))):qas H lv cf w' { c with at_:=a,freed:=f }:=by
 have nd:=h.ok.nd
 simp only[Had.fix,y3s,y4b,y3i,or_false,not_or] at nd
 exact⟨h.ok,h.st.keep hf (fun x hx e=>by simp only[y2d] at e;subst e;exact h.ok.dj _ (by simp[Had.fix]) hx),h.gy.keep hf (fun x hx e=>by
  simp only[y2d] at e
  subst e
  simp only[Gad.all,Gad.S,y4b] at hx
  rcases hx with d | d | d | d | d
  ·exact nd.2.1.1 d
  ·exact nd.2.1.2.1 d
  ·exact nd.2.1.2.2.1 d
  ·exact nd.2.1.2.2.2 d
  ·exact h.nl (by simp[Had.fix]) d),hf.at_ h.tb (by simp only[y2d];exact nd.1.1),hb,h.hi,by have:=hf.size;have:=h.le;omega,h.pg,h.ck⟩
theorem qas.lt (h:qas H lv cf w c):∀x∈H.all lv,x<w.heap.size:=fun x hx=>by
 simp only[Had.all,y3q] at hx
 have:=h.le
 rcases hx with d | d | d
 ·have:=h.ok.lo x (by simp[d]);omega
 ·have:=h.ok.lo x (by simp[d]);omega
 ·exact h.gy.stk.own.lt (qam.1 d)
theorem qgg {s:St} (a:Int) : -1≤s.fields a∧s.fields a≤127:=by
 unfold St.fields St.read
 split
 ·unfold qf5
  split
  ·simp only;omega
  ·simp
 ·simp
theorem qpf {a to:Int} (hto:to≤127) {W:World} {lv0:Value} {gf:Gy} (hk:∀lv' w',HTo H lv0 W lv' w'→qas H lv' cf w' { c with g:=gf }→K (y4z #[]) w'):
  ∀(d:Nat) (i:Int) (g:Gy) (lv:Value) (w:World),(to-i).toNat=d→0≤i→HTo H lv0 W lv w→qas H lv cf w { c with g:=g }→qc8 cf c.s a d i g=gf→
   F335.l1 K (y4x (some ⟨H.tr,0,none⟩)) (y4w j6 a) (y4w j6 to) (y4w j6 i) w:=by
 intro d
 induction d with
 | zero=>
  intro i g lv w hd hi ht h he
  refine F335.l1.to ?_
  simp only[zv,show ¬(i<to) by omega]
  simp only[qc8] at he
  subst he
  exact hk lv w ht h
 | succ d ih=>
  intro i g lv w hd hi ht h he
  refine F335.l1.to ?_
  simp only[zv,show i<to by omega]
  rw[qc8] at he
  refine F335.k3.to ?_
  try simp only[zv]
  refine C.ad (v:=y4x (some ⟨H.D.st,0,none⟩)) h.tb rfl (qti h.st fun w1 hf1=>?_)
  have h1:=h.keep0 hf1
  try simp only[zv]
  refine C.av fun x w2 hn2=>C.a0 hn2.at_ rfl qal rfl fun w3 hu3=>?_
  have l2:=hn2.is
  have s1:=hf1.size
  have f2:=hf1.trans hn2.fr
  have f3:Fr [] w w3:=f2.then hu3.fr (by simp;omega)
  have h3:=h.keep0 f3
  have x3:=hu3.at_
  try simp only[zv]
  refine C.ad (v:=y4w j6 (c.s.get a i).1.1) x3 rfl ?_
  have step:∀lv' w',HTo H lv0 W lv' w'→qas H lv' cf w' { c with g:=if (c.s.get a i).1.1=2 then g.shade cf.stack (c.s.get a i).1.2 else g }→F335.k2 K (y4x (some ⟨H.tr,0,none⟩)) (y4w j6 a) (y4w j6 to) (y4w j6 i) w':=fun lv' w' ht' h'=>by
   refine F335.k2.to ?_
   try simp only[C.a6]
   rw[qab (n:=i+1) (by omega)]
   exact ih (i+1) _ lv' w' (by omega) (by omega) ht' h' he
  by_cases z:(c.s.get a i).1.1=2
  ·simp only[zv,eq_self,z]
   refine C.a5 (fun w'=>w'.heap[H.tr]?=some (.cells #[y4x (some ⟨H.D.st,0,none⟩),y4x (some ⟨H.G.gr,0,none⟩),y4w j6 cf.pages,y4w j6 cf.chunk,y4w j6 c.tp] 188 (0,0))∧w'.heap[x]?=some (.cells (V (c.s.get a i).1.1 (c.s.get a i).1.2).cells 60 (0,0))) fun w4 hf4 _=>⟨⟨hf4.at_ h3.tb (by simp),hf4.at_ x3 (by simp)⟩,?_⟩
   have h4:=h3.keep0 hf4
   refine C.ao (v:=y4x (some ⟨H.G.gr,0,none⟩)) (fun w' hw=>⟨_,_,_,hw.1,rfl⟩) (C.ao (v:=y4w j6 (c.s.get a i).1.2) (fun w' hw=>⟨_,_,_,hw.2,rfl⟩) ⟨qm3 h4.gy fun b lv' w5 hf5 h5=>?_,trivial⟩)
   have h5':=h4.setG hf5 h5
   have ht5:=(ht.trans (HTo.w (f3.trans hf4))).trans (HTo.g hf5)
   refine⟨⟨h5'.tb,hf5.fr.at_ (hf4.at_ x3 (by simp)) (fun e=>?_)⟩,step lv' w5 ht5 ?_⟩
   ·have hl:=h.lt x (by
     simp only[Gad.S,y4b] at e
     rcases e with e | e | e <;> simp[Had.all,Had.fix,e])
    have:=hf1.size
    omega
   ·rw[if_pos z];exact h5'
  ·simp only[zv,z]
   refine step lv w3 (ht.trans (HTo.w f3)) ?_
   rw[if_neg z];exact h3
theorem qnv {a i to:Int} (h:qas H lv cf w c) (hi:0≤i) (hto:to≤127) (hk:∀lv' w',HTo H lv w lv' w'→qas H lv' cf w' { c with g:=qc8 cf c.s a (to-i).toNat i c.g }→K (y4z #[]) w'):
  C.i y5c 335 #[y4x (some ⟨H.tr,0,none⟩),y4w j6 a,y4w j6 i,y4w j6 to] w K:=
 F335.sh (qpf hto hk _ i c.g lv w rfl hi (HTo.refl _ _ _) h rfl)
end
section
variable {K:VK} {w w':World} {H:Had} {lv:Value} {cf:Cf} {c:Co}
theorem qas.far {v:Value} {e:TypeId} {sz:Nat} {xs:List (List Value)} (h:qas H lv cf w c) (hv:qad w v e sz xs) (hne:e≠310) (hN:∀g∈qaa v,H.N≤g):∀g∈qaa v,g∉H.S lv:=fun g hg hx=>by
 have hg':=hN g hg
 simp only[Had.S,Gad.S,y4b,y3q] at hx
 have lo:∀x∈H.fix ++ H.D.all,x<H.N:=h.ok.lo
 rcases hx with d | d | (d | d | d) | d
 ·have:=lo g (by simp[Had.fix,d]);omega
 ·have:=lo g (by simp[Had.fix,d]);omega
 ·have:=lo g (by simp[Had.fix,d]);omega
 ·have:=lo g (by simp[Had.fix,d]);omega
 ·exact hv.ne h.gy.stk.own hne g hg d
 ·have:=lo g (by simp[H.D.sub g d]);omega
theorem zf2 (h:qas H lv cf w c) (hk:K (y5a true) w):C.i y5c 269 #[y4x (some ⟨H.tr,0,none⟩)] w K:=by
 have hp:=h.pg
 refine F269.sh ⟨_,qa0 _ _ _ Tryz.underlying126,?_⟩
 try simp only[zv]
 refine C.ad (v:=y4w j6 cf.pages) h.tb rfl ?_
 simp only[zv,show cf.pages>0 by omega]
 exact hk
theorem qu0 (h:qas H lv cf w c) (hk:∀w',Fr [] w w'→K (y5a c.tIdle) w'):C.i y5c 217 #[y4x (some ⟨H.tr,0,none⟩)] w K:=by
 refine F217.sh (zf2 h ?_)
 try simp only[zv]
 refine C.ad (v:=y4x (some ⟨H.G.gr,0,none⟩)) h.tb rfl (qth h.gy fun w1 hf1=>?_)
 have h1:=h.keep0 hf1
 unfold Co.tIdle at hk
 by_cases z:c.g.l=[]
 ·simp only[zv,eq_self,show ((c.g.l.length:Nat):Int)=0 by rw[z];rfl]
  refine C.ad (v:=y4w j6 c.tp) h1.tb rfl ?_
  have e1:c.g.l.isEmpty=true:=by rw[z];rfl
  rw[e1] at hk
  by_cases y:c.tp = -1
  ·simp only[zv,eq_self,y]
   rw[decide_eq_true y] at hk
   refine C.ad (v:=y4x (some ⟨H.G.gr,0,none⟩)) h1.tb rfl (za6 h1.gy fun w2 hf2=>?_)
   have:=hk w2 (hf1.trans hf2)
   simp only[Bool.true_and] at this
   try simp only[C.ap]
   exact this
  ·simp only[zv,y]
   rw[decide_eq_false y] at hk
   exact hk w1 hf1
 ·have e1:c.g.l.isEmpty=false:=by cases hh:c.g.l with | nil=>exact absurd hh z | cons _ _=>rfl
  have:0<c.g.l.length:=List.length_pos_iff.2 z
  simp only[zv,show ¬((c.g.l.length:Nat):Int)=0 by omega]
  rw[e1] at hk
  exact hk w1 hf1
theorem qu4 {W:World} {v:Value} {l:List Int} (hl:l.length≤2048) {lv0:Value} {gf:Gy} (hN:∀g∈qaa v,H.N≤g)
  (hk:∀lv' w',HTo H lv0 W lv' w'→qas H lv' cf w' { c with g:=gf }→F324.k6 K (y4x (some ⟨H.tr,0,none⟩)) w'):
  ∀(d i:Nat) (g:Gy) (lv:Value) (w:World),i+d=l.length→HTo H lv0 W lv w→qas H lv cf w { c with g:=g }→qad w v 3 1 (qag l)→qbr cf c.s (l.drop i) g=gf→
   F324.l1 K (y4x (some ⟨H.tr,0,none⟩)) v (y4w j6 (l.length:Int)) (y4w j6 (i:Int)) w:=by
 intro d
 induction d with
 | zero=>
  intro i g lv w hi ht h hv he
  have e:i=l.length:=by omega
  subst e
  refine F324.l1.to ?_
  simp only[zv,show ¬((l.length:Int)<(l.length:Int)) by omega]
  rw[y3j] at he
  simp only[qbr] at he
  subst he
  exact hk lv w ht h
 | succ d ih=>
  intro i g lv w hi ht h hv he
  have hlt:i<l.length:=by omega
  refine F324.l1.to ?_
  simp only[zv,show (i:Int)<(l.length:Int) by omega]
  rw[y0o hlt,qbr] at he
  have step:∀lv' w',HTo H lv0 W lv' w'→qas H lv' cf w' { c with g:=if g.is l[i] then qc8 cf c.s l[i] (c.s.fields l[i]).toNat 0 g else g }→qad w' v 3 1 (qag l)→
    F324.k5 K (y4x (some ⟨H.tr,0,none⟩)) v (y4w j6 (l.length:Int)) (y4w j6 (i:Int)) w':=fun lv' w' ht' h' hv'=>by
   refine F324.k5.to ?_
   try simp only[C.a6]
   rw[qab (n:=(i:Int)+1) (by omega)]
   exact ih (i+1) _ lv' w' (by omega) ht' h' hv' he
  refine F324.k2.to (C.bx hv.rd hlt fun gg o cs e fz hg hc=>C.ad hg hc ?_)
  try simp only[zv]
  refine C.ad (v:=y4x (some ⟨H.G.gr,0,none⟩)) h.tb rfl (zah h.gy ?_)
  have hfr:=qgg (s:=c.s) l[i]
  cases z:g.is l[i] with
  | false=>
   simp only[C.ac]
   refine step lv w ht ?_ hv
   rw[z];exact h
  | true=>
   simp only[C.ah]
   refine C.ad (v:=y4x (some ⟨H.D.st,0,none⟩)) h.tb rfl (qf1 h.st ?_)
   refine qnv (c:={ c with g:=g }) h (by omega) hfr.2 fun lv' w1 ht1 h1=>?_
   refine step lv' w1 (ht.trans ht1) ?_ (hv.keep' ht1.fr (h.far hv (by decide) hN))
   rw[z]
   have:(c.s.fields l[i]-0).toNat=(c.s.fields l[i]).toNat:=by rw[Int.sub_zero]
   rw[this] at h1
   exact h1
theorem qss (h:qas H lv cf w c) (p:Int):(c.s.inP p).length≤2048:=y4i (y1o _ _) (qhu h.st)
theorem qu3 (h:qas H lv cf w c) (hk:∀lv' w',HTo H lv w lv' w'→qas H lv' cf w' (c.look cf)→K (y4z #[]) w'):
  C.i y5c 324 #[y4x (some ⟨H.tr,0,none⟩)] w K:=by
 refine F324.sh (C.a5 (fun w'=>w'.heap[H.tr]?=some (.cells #[y4x (some ⟨H.D.st,0,none⟩),y4x (some ⟨H.G.gr,0,none⟩),y4w j6 cf.pages,y4w j6 cf.chunk,y4w j6 c.tp] 188 (0,0))) fun w1 hf1 _=>⟨hf1.at_ h.tb (by simp),?_⟩)
 have h1:=h.keep0 hf1
 try simp only[zv]
 refine C.ao (v:=y4x (some ⟨H.D.st,0,none⟩)) (fun w' hw=>⟨_,_,_,hw,rfl⟩) (C.ao (v:=y4w j6 c.tp) (fun w' hw=>⟨_,_,_,hw,rfl⟩) ⟨zdo h1.st fun v w2 hf2 hn2 hv2=>⟨hf2.at_ h1.tb (by simp),?_⟩,trivial⟩)
 have h2:=h1.keep0 hf2
 have hl:=qss h c.tp
 refine C.bg hv2.rd ?_
 rw[qak]
 have hN:∀g∈qaa v,H.N≤g:=fun g hg=>by have:=hn2.blk g hg;have:=h1.le;omega
 refine qu4 (c:=c) (W:=w) (lv0:=lv) hl hN (fun lv' w3 ht3 h3=>?_) (c.s.inP c.tp).length 0 c.g lv w2 (by omega) (HTo.w (hf1.trans hf2)) h2 hv2 rfl
 refine F324.k6.to ?_
 try simp only[zv]
 refine C.ad (v:=y4w j6 c.tp) h3.tb rfl ?_
 try simp only[C.a6]
 refine C.bb h3.tb rfl rfl (by simp) fun w4 hu4=>C.a5 (fun w'=>w'.heap[H.tr]?=some (.cells #[y4x (some ⟨H.D.st,0,none⟩),y4x (some ⟨H.G.gr,0,none⟩),y4w j6 cf.pages,y4w j6 cf.chunk,y4w j6 (w64 (c.tp+1))] 188 (0,0))) fun w5 hf5 _=>⟨hf5.at_ hu4.at_ (by simp),?_⟩
 have h4:=h3.setT hu4.fr hu4.at_
 have h5:=h4.keep0 hf5
 have ht5:=(ht3.trans (HTo.t hu4.fr)).trans (HTo.w hf5)
 refine C.ao (v:=y4w j6 (w64 (c.tp+1))) (fun w' hw=>⟨_,_,_,hw,rfl⟩) (C.ao (v:=y4w j6 cf.pages) (fun w' hw=>⟨_,_,_,hw,rfl⟩) ?_)
 unfold Co.look at hk
 by_cases z:w64 (c.tp+1)=cf.pages
 ·simp only[zv,eq_self,z]
  rw[if_pos z] at hk
  refine C.bb h5.tb rfl rfl (by simp) fun w6 hu6=>?_
  exact hk lv' w6 (ht5.trans (HTo.t hu6.fr)) (h5.setT hu6.fr hu6.at_)
 ·simp only[zv,z]
  rw[if_neg z] at hk
  exact hk lv' w5 ht5 h5
theorem za1 {e:Int × Int} (h:qas H lv cf w c) (hk:∀lv' w',HTo H lv w lv' w'→qas H lv' cf w' (c.entry cf e)→K (y4z #[]) w'):
  C.i y5c 322 #[y4x (some ⟨H.tr,0,none⟩),qcq e] w K:=by
 have hfr:=qgg (s:=c.s) e.1
 have hck:=h.ck
 refine F322.sh (C.av fun x w1 hn=>?_)
 have ln:=hn.is
 have nx:∀lv',(∀g∈H.S lv',g<w.heap.size∨w.heap.size<g)→x∉H.S lv':=fun lv' hh hx=>by have:=hh x hx;omega
 have nx0:x∉H.all lv:=fun hx=>by have:=h.lt x hx;omega
 have sub:∀y∈H.S lv,y∈H.all lv:=fun y hy=>by
  simp only[Had.S,Gad.S,y4b,y3q] at hy
  rcases hy with d | d | (d | d | d) | d
  ·simp[Had.all,Had.fix,d]
  ·simp[Had.all,Had.fix,d]
  ·simp[Had.all,Had.fix,d]
  ·simp[Had.all,Had.fix,d]
  ·simp[Had.all,d]
  ·simp[Had.all,H.D.sub y d]
 refine C.a5 (fun w'=>w'.heap[H.tr]?=some (.cells #[y4x (some ⟨H.D.st,0,none⟩),y4x (some ⟨H.G.gr,0,none⟩),y4w j6 cf.pages,y4w j6 cf.chunk,y4w j6 c.tp] 188 (0,0))∧w'.heap[x]?=some (.cells (qcq e).cells 310 (0,0))) fun w2 hf2 _=>⟨⟨hf2.at_ (hn.fr.at_ h.tb (by simp)) (by simp),hf2.at_ hn.at_ (by simp)⟩,?_⟩
 have f2:=hn.fr.trans hf2
 have h2:=h.keep0 f2
 have x2:=hf2.at_ hn.at_ (by simp)
 try simp only[zv]
 refine C.ao (v:=y4x (some ⟨H.D.st,0,none⟩)) (fun w' hw=>⟨_,_,_,hw.1,rfl⟩) (C.ao (v:=y4w j6 e.1) (fun w' hw=>⟨_,_,_,hw.2,rfl⟩) ⟨qf1 h2.st ⟨⟨h2.tb,x2⟩,?_⟩,trivial⟩)
 unfold Co.entry at hk
 simp only at hk
 refine C.ad (v:=y4w j6 e.2) x2 rfl ?_
 by_cases z1:e.2<0
 ·rw[if_pos (.inl z1)] at hk
  simp only[zv,z1]
  exact hk lv w2 (HTo.w f2) h2
 simp only[zv,z1]
 refine C.ad (v:=y4w j6 e.2) x2 rfl ?_
 by_cases z2:c.s.fields e.1≤e.2
 ·rw[if_pos (.inr z2)] at hk
  simp only[zv,show e.2≥c.s.fields e.1 from z2]
  exact hk lv w2 (HTo.w f2) h2
 rw[if_neg (by omega)] at hk
 simp only[zv,show ¬(e.2≥c.s.fields e.1) from z2]
 refine F322.k3.to (C.a5 (fun w'=>w'.heap[H.tr]?=some (.cells #[y4x (some ⟨H.D.st,0,none⟩),y4x (some ⟨H.G.gr,0,none⟩),y4w j6 cf.pages,y4w j6 cf.chunk,y4w j6 c.tp] 188 (0,0))∧w'.heap[x]?=some (.cells (qcq e).cells 310 (0,0))) fun w3 hf3 _=>⟨⟨hf3.at_ h2.tb (by simp),hf3.at_ x2 (by simp)⟩,?_⟩)
 have f3:=f2.trans hf3
 have h3:=h2.keep0 hf3
 have x3:=hf3.at_ x2 (by simp)
 try simp only[zv]
 refine C.ao (v:=y4w j6 e.2) (fun w' hw=>⟨_,_,_,hw.2,rfl⟩) (C.ao (v:=y4w j6 cf.chunk) (fun w' hw=>⟨_,_,_,hw.1,rfl⟩) ?_)
 try simp only[C.a6]
 refine⟨_,fun w' _=>qf8 _ _ _ _ _ _,?_⟩
 have ew:w64 (e.2+cf.chunk)=e.2+cf.chunk:=qab (by omega)
 have ew':IntKind.i64.wrap (e.2+cf.chunk)=e.2+cf.chunk:=qab (by omega)
 rw[ew] at hk
 rw[ew']
 generalize hto:min (e.2+cf.chunk) (c.s.fields e.1)=to at hk ⊢
 have to1:to≤127:=by omega
 have fin:∀lv4 w4 g4,HTo H lv w lv4 w4→qas H lv4 cf w4 { c with g:=g4 }→w4.heap[x]?=some (.cells (qcq e).cells 310 (0,0))→
   (∀lv' w',HTo H lv w lv' w'→qas H lv' cf w' { c with g:=qc8 cf c.s e.1 (to-e.2).toNat e.2 g4 }→K (y4z #[]) w')→
   F322.k6 K (y4x (some ⟨H.tr,0,none⟩)) (y4x (some ⟨x,0,none⟩)) (y4w j6 to) w4:=fun lv4 w4 g4 ht4 h4 x4 hk=>by
  refine F322.k6.to ?_
  try simp only[zv]
  refine C.ad (v:=y4w j6 e.1) x4 rfl ?_
  refine C.ad (v:=y4w j6 e.2) x4 rfl ?_
  exact qnv (c:={ c with g:=g4 }) h4 (by omega) to1 fun lv' w' ht' h'=>hk lv' w' (ht4.trans ht') h'
 by_cases z3:to<c.s.fields e.1
 ·simp only[zv,z3]
  rw[if_pos z3] at hk
  refine C.a5 (fun w'=>w'.heap[H.tr]?=some (.cells #[y4x (some ⟨H.D.st,0,none⟩),y4x (some ⟨H.G.gr,0,none⟩),y4w j6 cf.pages,y4w j6 cf.chunk,y4w j6 c.tp] 188 (0,0))∧w'.heap[x]?=some (.cells (qcq e).cells 310 (0,0))) fun w4 hf4 _=>⟨⟨hf4.at_ h3.tb (by simp),hf4.at_ x3 (by simp)⟩,?_⟩
  have h4:=h3.keep0 hf4
  refine C.ao (v:=y4x (some ⟨H.G.gr,0,none⟩)) (fun w' hw=>⟨_,_,_,hw.1,rfl⟩) (C.ao (v:=y4w j6 e.1) (fun w' hw=>⟨_,_,_,hw.2,rfl⟩) ⟨qcq (e.1,to),fun w' _=>by kernel_rfl,?_⟩)
  refine⟨qr4 (e:=(e.1,to)) h4.gy fun b lv' w5 hf5 h5=>?_,trivial⟩
  have h5':=h4.setG hf5 h5
  have x5:=hf5.fr.at_ (hf4.at_ x3 (by simp)) (fun ee=>nx0 (sub x (by simp[Had.S,ee])))
  exact⟨⟨h5'.tb,x5⟩,fin lv' w5 _ ((HTo.w (f3.trans hf4)).trans (HTo.g hf5)) h5' x5 hk⟩
 ·simp only[zv,z3]
  rw[if_neg z3] at hk
  exact fin lv w3 c.g (HTo.w f3) h3 x3 hk
end
section
variable {K:VK} {w w':World} {H:Had} {lv:Value} {cf:Cf} {c:Co}
theorem Had.subS (H:Had) (lv:Value):∀y∈H.S lv,y∈H.all lv:=fun y hy=>by
 simp only[Had.S,Gad.S,y4b,y3q] at hy
 rcases hy with d | d | (d | d | d) | d
 ·simp[Had.all,Had.fix,d]
 ·simp[Had.all,Had.fix,d]
 ·simp[Had.all,Had.fix,d]
 ·simp[Had.all,Had.fix,d]
 ·simp[Had.all,d]
 ·simp[Had.all,H.D.sub y d]
theorem zbu (h:qas H lv cf w c) (hk:∀lv' w',HTo H lv w lv' w'→qas H lv' cf w' (c.tUnit cf).1→K (y5a (c.tUnit cf).2) w'):
  C.i y5c 303 #[y4x (some ⟨H.tr,0,none⟩)] w K:=by
 refine F303.sh (qu0 h fun w1 hf1=>?_)
 have h1:=h.keep0 hf1
 unfold Co.tUnit at hk
 cases z:c.tIdle with
 | true=>
  rw[z] at hk
  simp only[if_true] at hk
  simp only[C.ah]
  exact hk lv w1 (HTo.w hf1) h1
 | false=>
  rw[z] at hk
  simp only[y2b,if_false] at hk
  simp only[C.ac]
  refine F303.k3.to ?_
  try simp only[zv]
  refine C.ad (v:=y4x (some ⟨H.G.gr,0,none⟩)) h1.tb rfl (za5 h1.gy (fun hl w2 hf2=>?_) fun e he lv' w2 hf2 h2=>?_)
  ·have hg:c.g.l.getLast?=none:=by rw[hl];rfl
   rw[hg] at hk
   simp only at hk
   have h2:=h1.keep0 hf2
   try simp only[zv]
   refine C.av fun x w3 hn3=>C.a0 hn3.at_ rfl (qdi (e:=(0,0))) rfl fun w4 hu4=>?_
   have l3:=hn3.is
   have f4:Fr [] w2 w4:=hn3.fr.then hu4.fr (by simp;omega)
   have h4:=h2.keep0 f4
   have ht4:HTo H lv w lv w4:=HTo.w ((hf1.trans hf2).trans f4)
   refine C.ad (v:=y4w j6 c.tp) h4.tb rfl ?_
   by_cases y:c.tp = -1
   ·simp only[zv,eq_self,y]
    rw[if_pos y] at hk
    refine C.ad (v:=y4x (some ⟨H.G.gr,0,none⟩)) h4.tb rfl (quy h4.gy fun w5 hf5 h5=>?_)
    have h5':=h4.setG hf5 h5
    refine C.bb h5'.tb rfl rfl (by simp) fun w6 hu6=>?_
    have h6:=h5'.setT hu6.fr hu6.at_
    refine F303.k10.to (qu3 h6 fun lv' w7 ht7 h7=>?_)
    exact hk lv' w7 (((ht4.trans (HTo.g hf5)).trans (HTo.t hu6.fr)).trans ht7) h7
   ·simp only[zv,y]
    rw[if_neg y] at hk
    refine F303.k10.to (qu3 h4 fun lv' w7 ht7 h7=>?_)
    exact hk lv' w7 (ht4.trans ht7) h7
  ·rw[he] at hk
   simp only at hk
   have h2':=h1.setG hf2 h2
   have ht2:HTo H lv w lv' w2:=(HTo.w hf1).trans (HTo.g hf2)
   try simp only[zv]
   refine C.av fun x w3 hn3=>C.a0 hn3.at_ rfl (qdi (e:=e)) rfl fun w4 hu4=>?_
   have l3:=hn3.is
   have f4:Fr [] w2 w4:=hn3.fr.then hu4.fr (by simp;omega)
   have h4:=h2'.keep0 f4
   refine C.ax hu4.at_ rfl (za1 h4 fun lv'' w5 ht5 h5=>?_)
   exact hk lv'' w5 ((ht2.trans (HTo.w f4)).trans ht5) h5
theorem zbt (h:qas H lv cf w c) (hk:∀w',HTo H lv w lv w'→qas H lv cf w' { c with at_:=0,freed:=0 }→K (y4z #[]) w'):C.i y5c 218 #[y4x (some ⟨H.sw,0,none⟩)] w K:=by
 refine F218.sh ⟨_,qa0 _ _ _ Tryz.underlying127,?_⟩
 try simp only[zv]
 refine C.bb h.sb rfl rfl (by simp) fun w1 hu1=>?_
 have h1:=h.setW (a:=0) (f:=c.freed) hu1.fr hu1.at_
 refine C.bb h1.sb rfl rfl (by simp) fun w2 hu2=>?_
 exact hk w2 ((HTo.s hu1.fr).trans (HTo.s hu2.fr)) (h1.setW (a:=0) (f:=0) hu2.fr hu2.at_)
theorem zdc (h:qas H lv cf w c) (hk:K (y4w j6 c.at_) w):C.i y5c 220 #[y4x (some ⟨H.sw,0,none⟩)] w K:=by
 refine F220.sh ⟨_,qan _ _ _ Tryz.underlying127,?_⟩
 try simp only[C.ac]
 refine F220.k3.to ?_
 try simp only[zv]
 exact C.ad (v:=y4w j6 c.at_) h.sb rfl hk
theorem qut (h:qas H lv cf w c) (hk:∀w',Fr [] w w'→K (y5a (decide (cf.pages≤c.at_))) w'):C.i y5c 305 #[y4x (some ⟨H.sw,0,none⟩)] w K:=by
 refine F305.sh (C.a5 (fun w'=>w'.heap[H.sw]?=some (.cells #[y4x (some ⟨H.D.st,0,none⟩),y4x (some ⟨H.G.gr,0,none⟩),y4w j6 cf.pages,y4w j6 c.at_,y4w j6 c.freed] 190 (0,0))) fun w1 hf1 _=>⟨hf1.at_ h.sb (by simp),⟨_,fun w' _=>qan _ _ _ Tryz.underlying127,?_⟩⟩)
 try simp only[zv]
 refine C.ao (v:=y4w j6 c.at_) (fun w' hw=>⟨_,_,_,hw,rfl⟩) ?_
 refine C.ao (v:=y4w j6 cf.pages) (fun w' hw=>⟨_,_,_,hw,rfl⟩) ?_
 have:=hk w1 hf1
 try simp only[C.ba]
 exact this
theorem qtn {W:World} {v:Value} {l:List Int} (hl:l.length≤2048) {lv0:Value} {cf':Co} (hN:∀g∈qaa v,H.N≤g)
  (hk:∀lv' w',HTo H lv0 W lv' w'→qas H lv' cf w' cf'→F304.k9 K (y4x (some ⟨H.sw,0,none⟩)) w'):
  ∀(d i:Nat) (c:Co) (lv:Value) (w:World),i+d=l.length→HTo H lv0 W lv w→qas H lv cf w c→qad w v 3 1 (qag l)→c.sweepAll (l.drop i)=cf'→
   F304.l4 K (y4x (some ⟨H.sw,0,none⟩)) v (y4w j6 (l.length:Int)) (y4w j6 (i:Int)) w:=by
 intro d
 induction d with
 | zero=>
  intro i c lv w hi ht h hv he
  have e:i=l.length:=by omega
  subst e
  refine F304.l4.to ?_
  simp only[zv,show ¬((l.length:Int)<(l.length:Int)) by omega]
  rw[y3j] at he
  simp only[Co.sweepAll] at he
  subst he
  exact hk lv w ht h
 | succ d ih=>
  intro i c lv w hi ht h hv he
  have hlt:i<l.length:=by omega
  refine F304.l4.to ?_
  simp only[zv,show (i:Int)<(l.length:Int) by omega]
  rw[y0o hlt,Co.sweepAll] at he
  have step:∀w',HTo H lv w lv w'→qas H lv cf w' (c.sweepOne l[i])→
    F304.k8 K (y4x (some ⟨H.sw,0,none⟩)) v (y4w j6 (l.length:Int)) (y4w j6 (i:Int)) w':=fun w' ht' h'=>by
   refine F304.k8.to ?_
   try simp only[C.a6]
   rw[qab (n:=(i:Int)+1) (by omega)]
   exact ih (i+1) _ lv w' (by omega) (ht.trans ht') h' (hv.keep' ht'.fr (h.far hv (by decide) hN)) he
  refine F304.k5.to (C.bx hv.rd hlt fun gg o cs e fz hg hc=>C.ad hg hc ?_)
  try simp only[zv]
  refine C.ad (v:=y4x (some ⟨H.G.gr,0,none⟩)) h.sb rfl (qxx h.gy fun w1 hf1 h1=>?_)
  have h1':=h.setG (GTo.m hf1) h1
  have ht1:HTo H lv w lv w1:=HTo.g (GTo.m hf1)
  unfold Co.sweepOne at step
  cases z:c.g.is l[i] with
  | true=>
   rw[z] at step
   simp only[if_true] at step
   simp only[zv]
   exact step w1 ht1 h1'
  | false=>
   have ec:c.g.clear l[i]=c.g:=by unfold Gy.clear;rw[z];rfl
   rw[ec] at h1'
   rw[z] at step
   simp only[y2b,if_false] at step
   simp only[zv]
   refine C.ad (v:=y4x (some ⟨H.D.st,0,none⟩)) h1'.sb rfl (zbp h1'.st fun w2 hf2 h2=>?_)
   have h2':=h1'.setS hf2 h2
   have ht2:=ht1.trans (HTo.d hf2)
   cases y:(c.s.c.give l[i]).2 with
   | false=>
    simp only[y,y2b,if_false] at step
    simp only[C.ac]
    exact step w2 ht2 h2'
   | true=>
    simp only[y,if_true] at step
    simp only[C.ah]
    refine C.ad (v:=y4w j6 c.freed) h2'.sb rfl ?_
    try simp only[C.a6]
    refine C.bb h2'.sb rfl rfl (by simp) fun w3 hu3=>?_
    exact step w3 (ht2.trans (HTo.s hu3.fr)) (h2'.setW (a:=c.at_) (f:=w64 (c.freed+1)) hu3.fr hu3.at_)
theorem zbx (h:qas H lv cf w c) (hk:∀lv' w',HTo H lv w lv' w'→qas H lv' cf w' (c.wUnit cf).1→K (y5a (c.wUnit cf).2) w'):
  C.i y5c 304 #[y4x (some ⟨H.sw,0,none⟩)] w K:=by
 refine F304.sh (qut h fun w1 hf1=>?_)
 have h1:=h.keep0 hf1
 unfold Co.wUnit at hk
 by_cases z:cf.pages≤c.at_
 ·rw[if_pos z] at hk
  simp only[zv,z]
  exact hk lv w1 (HTo.w hf1) h1
 rw[if_neg z] at hk
 simp only at hk
 simp only[zv,z]
 refine F304.k3.to (C.a5 (fun w'=>w'.heap[H.sw]?=some (.cells #[y4x (some ⟨H.D.st,0,none⟩),y4x (some ⟨H.G.gr,0,none⟩),y4w j6 cf.pages,y4w j6 c.at_,y4w j6 c.freed] 190 (0,0))) fun w2 hf2 _=>⟨hf2.at_ h1.sb (by simp),?_⟩)
 have h2:=h1.keep0 hf2
 try simp only[zv]
 refine C.ao (v:=y4x (some ⟨H.D.st,0,none⟩)) (fun w' hw=>⟨_,_,_,hw,rfl⟩) (C.ao (v:=y4w j6 c.at_) (fun w' hw=>⟨_,_,_,hw,rfl⟩) ⟨zdo h2.st fun v w3 hf3 hn3 hv3=>⟨hf3.at_ h2.sb (by simp),?_⟩,trivial⟩)
 have h3:=h2.keep0 hf3
 have hl:=qss h c.at_
 refine C.bg hv3.rd ?_
 rw[qak]
 have hN:∀g∈qaa v,H.N≤g:=fun g hg=>by have:=hn3.blk g hg;have:=h2.le;omega
 refine qtn (W:=w) (lv0:=lv) (cf':=c.sweepAll (c.s.inP c.at_)) hl hN (fun lv' w4 ht4 h4=>?_) (c.s.inP c.at_).length 0 c lv w3 (by omega) (HTo.w ((hf1.trans hf2).trans hf3)) h3 hv3 rfl
 generalize c.sweepAll (c.s.inP c.at_)=e at hk h4
 refine F304.k9.to (C.a5 (fun w'=>w'.heap[H.sw]?=some (.cells #[y4x (some ⟨H.D.st,0,none⟩),y4x (some ⟨H.G.gr,0,none⟩),y4w j6 cf.pages,y4w j6 e.at_,y4w j6 e.freed] 190 (0,0))) fun w5 hf5 _=>⟨hf5.at_ h4.sb (by simp),?_⟩)
 have h5:=h4.keep0 hf5
 try simp only[zv]
 refine C.ao (v:=y4x (some ⟨H.D.st,0,none⟩)) (fun w' hw=>⟨_,_,_,hw,rfl⟩) (C.ao (v:=y4w j6 e.at_) (fun w' hw=>⟨_,_,_,hw,rfl⟩) ⟨zed h5.st fun b w6 hf6 h6=>?_,trivial⟩)
 have h6':=h5.setS hf6 h6
 refine⟨h6'.sb,?_⟩
 refine C.ad (v:=y4w j6 e.at_) h6'.sb rfl ?_
 try simp only[C.a6]
 refine C.bb h6'.sb rfl rfl (by simp) fun w7 hu7=>?_
 exact hk lv' w7 (((ht4.trans (HTo.w hf5)).trans (HTo.d hf6)).trans (HTo.s hu7.fr)) (h6'.setW (a:=w64 (e.at_+1)) (f:=e.freed) hu7.fr hu7.at_)
end
end Go.Proofs.YtcakfaakbpdklaaGreatDoorV
