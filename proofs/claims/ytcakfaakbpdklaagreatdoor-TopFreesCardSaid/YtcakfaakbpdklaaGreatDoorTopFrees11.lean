/- Part 11 of what the law needs: own lemmas, in the order in which they build. -/
import Derived.Test.YtcakfaakbpdklaaGreatDoorProg
import Derived.Test.YtcakfaakbpdklaaGreatDoorTopFrees10
set_option linter.unusedSimpArgs false
set_option linter.unusedVariables false
set_option maxRecDepth 100000
namespace Go.Proofs.YtcakfaakbpdklaaGreatDoorV
open Go Go.Proofs
open Go.Proofs.Tryz renaming prog→y5c
open Go.IntKind renaming i64→j6
open Go.Value renaming int→y4w,pointer→y4x,slice→y4y,tuple→y4z,bool→y5a
noncomputable section
variable {K:VK} {w:World} {x0 x1 x2 y0 y1 y2 y3 y4 y5 y7 y8 y9 y10 y11 y12 y13 y14 y15:Value}

theorem F75.sh (h:(C.i y5c 66 #[x0,(y4w j6 0),(y4w j6 8)] w fun a b=>
 C.ay y5c (Instr.makeSlice 181 a a) b fun c d=>
 C.ay y5c (Instr.build 183 #[(0,(y5a true)),(2,c)]) d fun f g=>
 C.a3 (.cells (Value.cells f) 183) g fun i j=>
 K i j)):C.i y5c 75 #[x0] w K:=q9 (A:=A0) (args:=[x0]) (qq h)

theorem F95.sh (h:(C.bi y5c .neq 124 (.tmp 5) (.const (y4x none)) x0 (y4x none) w fun a b=>
 C.q true a (fun K=>K x1 b) b fun c d=>
 C.q true a (fun K=>C.aj .geq c (y4w j6 0) d K) d fun f g=>
 C.a2 (some a) (some f) (some (y5a false)) g fun i j=>
 C.q true i (fun K=>K x1 j) j fun k m=>
 C.q true i (fun K=>K x0 m) m fun o p=>
 C.q true i (fun K=>C.ae o p K) p fun q r=>
 C.q true i (fun K=>C.ab 2 q r K) r fun s t=>
 C.q true i (fun K=>C.ai s t K) t fun u v=>
 C.q true i (fun K=>C.bl u v K) v fun x y=>
 C.q true i (fun K=>C.aj .lss k x y K) y fun z aa=>
 C.a2 (some i) (some z) (some (y5a false)) aa fun ab ac=>
 C.q true ab (fun K=>K x0 ac) ac fun ad ae=>
 C.q true ab (fun K=>C.ae ad ae K) ae fun af ag=>
 C.q true ab (fun K=>C.ab 2 af ag K) ag fun ah ai=>
 C.q true ab (fun K=>C.ai ah ai K) ai fun aj ak=>
 C.q true ab (fun K=>K x1 ak) ak fun al am=>
 C.q true ab (fun K=>C.bk 2 aj al am K) am fun an ao=>
 C.q true ab (fun K=>C.ab 0 an ao K) ao fun ap aq=>
 C.q true ab (fun K=>C.ai ap aq K) aq fun ar au=>
 C.a2 (some ab) (some ar) (some (y5a false)) au fun av aw=>
 K av aw)):C.i y5c 95 #[x0,x1] w K:=q9 (A:=A0) (args:=[x0,x1]) (qq h)
namespace F142
def ann:Ann:=⟨[(3,[0,1])],[],[],[(3,(.take 0 (.take 1 (.take 2 (.take 4 (.take 5 (.take 6 (.take 7 (.take 3 (.take 8 (.take 9 (.take 10 (.go 11 .fin .fin)))))))))))))],none⟩
variable (K:VK) (y0 y1:Value) (w:World)
def k3:Prop:=nk ann 41 [(0,y0),(1,y1)] w [1,1] Tryz.f142 K
attribute [irreducible] k3
end F142
theorem F142.k3.to (h:(C.a9 w fun S a=>
 C.ae y0 a fun b c=>
 C.ab 2 b c fun d f=>
 C.ae y0 f fun g i=>
 C.ab 1 g i fun j k=>
 C.aq S d k fun m o=>
 C.aq S j o fun p q=>
 ∃r,(∀w',S w'→(Instr.build 212 #[(0,(y5a true)),(1,p)]).run y5c w' = .ok r w')∧(C.bk 2 m y1 q fun s t=>
 (C.ak 2 s r t fun u=>
 (S u∧
 K (y5a true) u))∧True))):F142.k3 K y0 y1 w:=qq h
theorem F142.sh (h:(C.bi y5c .eql 124 (.tmp 5) (.const (y4x none)) x0 (y4x none) w fun a b=>
 C.q false a (fun K=>K x1 b) b fun c d=>
 C.q false a (fun K=>C.aj .lss c (y4w j6 0) d K) d fun f g=>
 C.a2 (some a) (some (y5a true)) (some f) g fun i j=>
 C.q false i (fun K=>K x1 j) j fun k m=>
 C.q false i (fun K=>K x0 m) m fun o p=>
 C.q false i (fun K=>C.ae o p K) p fun q r=>
 C.q false i (fun K=>C.ab 2 q r K) r fun s t=>
 C.q false i (fun K=>C.ai s t K) t fun u v=>
 C.q false i (fun K=>C.bl u v K) v fun x y=>
 C.q false i (fun K=>C.aj .geq k x y K) y fun z aa=>
 C.a2 (some i) (some (y5a true)) (some z) aa fun ab ac=>
 C.q false ab (fun K=>K x0 ac) ac fun ad ae=>
 C.q false ab (fun K=>C.ae ad ae K) ae fun af ag=>
 C.q false ab (fun K=>C.ab 2 af ag K) ag fun ah ai=>
 C.q false ab (fun K=>C.ai ah ai K) ai fun aj ak=>
 C.q false ab (fun K=>K x1 ak) ak fun al am=>
 C.q false ab (fun K=>C.bk 2 aj al am K) am fun an ao=>
 C.q false ab (fun K=>C.ab 0 an ao K) ao fun ap aq=>
 C.q false ab (fun K=>C.ai ap aq K) aq fun ar au=>
 C.a2 (some ab) (some (y5a true)) (some ar) au fun av aw=>
 C.am av (K (y5a false) aw) (F142.k3 K x0 x1 aw))):C.i y5c 142 #[x0,x1] w K:=q9 (A:=F142.ann) (args:=[x0,x1]) (qq h)
namespace F148
def ann:Ann:=⟨[(3,[0,1])],[],[],[],none⟩
variable (K:VK) (y0 y1:Value) (w:World)
def k3:Prop:=nk ann 16 [(0,y0),(1,y1)] w [1,1] Tryz.f148 K
attribute [irreducible] k3
end F148
theorem F148.k3.to (h:(C.ae y0 w fun a b=>
 C.ab 2 a b fun c d=>
 C.ai c d fun f g=>
 C.ay y5c (Instr.build 212 #[]) g fun i j=>
 C.bk 2 f y1 j fun k m=>
 C.ak 2 k i m fun o=>
 K (y5a true) o)):F148.k3 K y0 y1 w:=qq h
theorem F148.sh (h:(C.i y5c 95 #[x0,x1] w fun a b=>
 C.bf a b fun c d=>
 C.am c (K (y5a false) d) (F148.k3 K x0 x1 d))):C.i y5c 148 #[x0,x1] w K:=q9 (A:=F148.ann) (args:=[x0,x1]) (qq h)
namespace F160
def ann:Ann:=⟨[(3,[0,1])],[],[],[(1,(.take 0 (.take 1 (.go 2 (.take 3 (.take 4 (.take 5 (.take 6 (.take 7 (.take 9 (.take 13 (.take 14 (.take 15 (.take 8 (.take 10 (.take 11 (.take 16 (.go 12 (.take 17 (.take 18 .fin)) .fin)))))))))))))) .fin)))),(3,(.take 0 (.take 1 (.take 2 (.take 4 (.take 5 (.take 6 (.take 7 (.take 3 (.take 8 (.take 9 (.take 10 (.go 11 .fin .fin)))))))))))))],none⟩
variable (K:VK) (y0 y1:Value) (w:World)
def k3:Prop:=nk ann 35 [(0,y0),(1,y1)] w [1,1] Tryz.f160 K
attribute [irreducible] k3
end F160
theorem F160.k3.to (h:(C.a9 w fun S a=>
 C.ae y0 a fun b c=>
 C.ab 2 b c fun d f=>
 C.ae y0 f fun g i=>
 C.ab 1 g i fun j k=>
 C.aq S d k fun m o=>
 C.aq S j o fun p q=>
 C.bk 2 m y1 q fun r s=>
 C.ab 1 r s fun t u=>
 (C.ak 1 t p u fun v=>
 (S v∧
 K (y5a true) v))∧True)):F160.k3 K y0 y1 w:=qq h
theorem F160.sh (h:(C.a9 w fun S a=>
 (C.i y5c 95 #[x0,x1] a fun b c=>
 (S c∧
 C.bf b c fun d f=>
 C.q false d (fun K=>K x0 f) f fun g i=>
 C.q false d (fun K=>C.ae g i K) i fun j k=>
 C.q false d (fun K=>C.ab 2 j k K) k fun m o=>
 C.q false d (fun K=>K x1 o) o fun p q=>
 C.q false d (fun K=>K x0 q) q fun r s=>
 C.q false d (fun K=>C.ae r s K) s fun t u=>
 C.q false d (fun K=>C.ab 1 t u K) u fun v x=>
 C.q false d (fun K=>C.aq S m x K) x fun y z=>
 C.q false d (fun K=>C.bk 2 y p z K) z fun aa ab=>
 C.q false d (fun K=>C.ab 1 aa ab K) ab fun ac ad=>
 C.q false d (fun K=>C.aq S v ad K) ad fun ae af=>
 (C.q false d (fun K=>C.ai ac af K) af fun ag ah=>
 (S ah∧
 C.q false d (fun K=>C.aj .geq ag ae ah K) ah fun ai aj=>
 C.a2 (some d) (some (y5a true)) (some ai) aj fun ak al=>
 C.am ak (K (y5a false) al) (F160.k3 K x0 x1 al)))∧True))∧True)):C.i y5c 160 #[x0,x1] w K:=q9 (A:=F160.ann) (args:=[x0,x1]) (qq h)

theorem F213.sh (h:(C.i y5c 265 #[x0] w fun a b=>
 C.bl a b fun c d=>
 C.aj .eql c (y4w j6 0) d fun f g=>
 K f g)):C.i y5c 213 #[x0] w K:=q9 (A:=A0) (args:=[x0]) (qq h)

theorem F265.sh (h:(C.a3 (.cells (Value.cells x0) 124) w fun a b=>
 C.ai a b fun c d=>
 C.i y5c 296 #[c,(.func (.func 297) #[] #[a])] d fun f g=>
 K f g)):C.i y5c 265 #[x0] w K:=q9 (A:=A0) (args:=[x0]) (qq h)
namespace F266
def ann:Ann:=⟨[(3,[0])],[],[],[],none⟩
variable (K:VK) (y0:Value) (w:World)
def k3:Prop:=nk ann 23 [(0,y0)] w [1,1] Tryz.f266 K
attribute [irreducible] k3
end F266
theorem F266.k3.to (h:(C.ae y0 w fun a b=>
 C.ab 1 a b fun c d=>
 C.ai c d fun f g=>
 C.aj .add f (y4w j6 1) g fun i j=>
 C.ae y0 j fun k m=>
 C.ab 1 k m fun o p=>
 C.ak 1 o i p fun q=>
 C.ae y0 q fun r s=>
 C.ab 1 r s fun t u=>
 C.ai t u fun v x=>
 K v x)):F266.k3 K y0 w:=qq h
theorem F266.sh (h:(C.bi y5c .eql 124 (.tmp 3) (.const (y4x none)) x0 (y4x none) w fun a b=>
 C.q false a (fun K=>K x0 b) b fun c d=>
 C.q false a (fun K=>C.ae c d K) d fun f g=>
 C.q false a (fun K=>C.ab 0 f g K) g fun i j=>
 C.q false a (fun K=>C.ai i j K) j fun k m=>
 C.q false a (fun K=>C.bf k m K) m fun o p=>
 C.a2 (some a) (some (y5a true)) (some o) p fun q r=>
 C.am q (K (y4w j6 0) r) (F266.k3 K x0 r))):C.i y5c 266 #[x0] w K:=q9 (A:=F266.ann) (args:=[x0]) (qq h)
namespace F277
def ann:Ann:=⟨[(3,[0,1])],[],[],[],none⟩
variable (K:VK) (y0 y1:Value) (w:World)
def k3:Prop:=nk ann 17 [(0,y0),(1,y1)] w [1,1] Tryz.f277 K
attribute [irreducible] k3
end F277
theorem F277.k3.to (h:(C.ae y0 w fun a b=>
 C.ab 2 a b fun c d=>
 C.ai c d fun f g=>
 C.bk 2 f y1 g fun i j=>
 C.ab 1 i j fun k m=>
 C.ai k m fun o p=>
 K o p)):F277.k3 K y0 y1 w:=qq h
theorem F277.sh (h:(C.i y5c 95 #[x0,x1] w fun a b=>
 C.bf a b fun c d=>
 C.am c (K (y4w j6 (-1)) d) (F277.k3 K x0 x1 d))):C.i y5c 277 #[x0,x1] w K:=q9 (A:=F277.ann) (args:=[x0,x1]) (qq h)
namespace F278
def ann:Ann:=⟨[(3,[0])],[],[],[],none⟩
variable (K:VK) (y0:Value) (w:World)
def k3:Prop:=nk ann 9 [(0,y0)] w [1,1] Tryz.f278 K
attribute [irreducible] k3
end F278
theorem F278.k3.to (h:(C.ae y0 w fun a b=>
 C.ab 1 a b fun c d=>
 C.ai c d fun f g=>
 K f g)):F278.k3 K y0 w:=qq h
theorem F278.sh (h:(C.bi y5c .eql 124 (.tmp 3) (.const (y4x none)) x0 (y4x none) w fun a b=>
 C.am a (K (y4w j6 0) b) (F278.k3 K x0 b))):C.i y5c 278 #[x0] w K:=q9 (A:=F278.ann) (args:=[x0]) (qq h)
namespace F296
def ann:Ann:=⟨[(3,[0,1]),(6,[1,5,13,14,15]),(9,[1,5,13,14,15]),(10,[5])],[(5,[1,5,13,14,15])],[],[],none⟩
variable (K:VK) (y0 y1 y5 y13 y14 y15:Value) (w:World)
def k3:Prop:=nk ann 33 [(0,y0),(1,y1)] w [1,1] Tryz.f296 K
def k10:Prop:=nk ann 33 [(5,y5)] w [1,1,1,1] Tryz.f296 K
def l5:Prop:=nl ann 33 [(1,y1),(5,y5),(13,y13),(14,y14),(15,y15)] w [1,1,1,0,1,0] Tryz.f296 K
def k6:Prop:=nk ann 33 [(1,y1),(5,y5),(13,y13),(14,y14),(15,y15)] w [1,1,1,0,1,0,0,1,1] Tryz.f296 K
def k9:Prop:=nk ann 33 [(1,y1),(5,y5),(13,y13),(14,y14),(15,y15)] w [1,1,1,0,1,0,0,1,1,1] Tryz.f296 K
attribute [irreducible] k3 k10 l5 k6 k9
end F296
theorem F296.k3.to (h:(C.ae y0 w fun a b=>
 C.ab 2 a b fun c d=>
 C.ai c d fun f g=>
 C.bl f g fun i j=>
 F296.l5 K y1 (y4y none 0 0) f i (y4w j6 0) j)):F296.k3 K y0 y1 w:=qq h
theorem F296.k10.to (h:(K y5 w)):F296.k10 K y5 w:=qq h
theorem F296.l5.to (h:(C.aj .lss y15 y14 w fun a b=>
 C.am a (F296.k6 K y1 y5 y13 y14 y15 b) (F296.k10 K y5 b))):F296.l5 K y1 y5 y13 y14 y15 w:=by unfold F296.l5 nl;exact qah (qq h)
theorem F296.k6.to (h:(C.bk 2 y13 y15 w fun a b=>
 C.an 2 a b fun c d=>
 C.a3 (.cells #[y5a false,y4w j6 0] 212) d fun f g=>
 C.ak 2 f c g fun i=>
 C.ab 0 f i fun j k=>
 C.ai j k fun m o=>
 C.q true m (fun K=>K y1 o) o fun p q=>
 C.q true m (fun K=>C.an 2 f q K) q fun r s=>
 C.q true m (fun K=>qbo y5c p [r] s K) s fun t u=>
 C.a2 (some m) (some t) (some (y5a false)) u fun v x=>
 C.am v (C.ay y5c (Instr.buildSlice 54 1 #[(0,y15)]) x fun y z=>
 C.ay y5c (Builtin.append_ #[54,54] 54 #[y5,y]) z fun aa ab=>
 F296.k9 K y1 aa y13 y14 y15 ab) (F296.k9 K y1 y5 y13 y14 y15 x))):F296.k6 K y1 y5 y13 y14 y15 w:=qq h
theorem F296.k9.to (h:(C.aj .add y15 (y4w j6 1) w fun a b=>
 F296.l5 K y1 y5 y13 y14 a b)):F296.k9 K y1 y5 y13 y14 y15 w:=qq h
theorem F296.sh (h:(C.bi y5c .eql 124 (.tmp 8) (.const (y4x none)) x0 (y4x none) w fun a b=>
 C.am a (K (y4y none 0 0) b) (F296.k3 K x0 x1 b))):C.i y5c 296 #[x0,x1] w K:=q9 (A:=F296.ann) (args:=[x0,x1]) (qq h)
namespace F297
def ann:Ann:=⟨[],[],[],[(1,(.take 0 (.take 1 (.take 2 (.take 3 (.take 4 (.take 5 (.take 6 (.take 7 .fin)))))))))],none⟩
end F297
theorem F297.sh (h:(C.a3 (.cells (Value.cells x0) 212) w fun a b=>
 C.a9 b fun S c=>
 C.ab 1 a c fun d f=>
 C.aq S d f fun g i=>
 C.aq S x1 i fun j k=>
 C.ae j k fun m o=>
 C.ab 1 m o fun p q=>
 C.aq S p q fun r s=>
 C.aj .lss g r s fun t u=>
 K t u)):C.i y5c 297 #[x0,x1] w K:=q9 (A:=F297.ann) (args:=[x0,x1]) (qq h)

theorem F76.sh (h:(C.i y5c 66 #[x0,(y4w j6 0),(y4w j6 8)] w fun a b=>
 C.ay y5c (Instr.makeSlice 184 a a) b fun c d=>
 C.ay y5c (Instr.build 186 #[(0,(y5a true)),(1,c)]) d fun f g=>
 C.a3 (.cells (Value.cells f) 186) g fun i j=>
 K i j)):C.i y5c 76 #[x0] w K:=q9 (A:=A0) (args:=[x0]) (qq h)
namespace F143
def ann:Ann:=⟨[(4,[5])],[],[],[],none⟩
variable (K:VK) (y5:Value) (w:World)
def k4:Prop:=nk ann 21 [(5,y5)] w [1,1,1] Tryz.f143 K
attribute [irreducible] k4
end F143
theorem F143.k4.to (h:(K y5 w)):F143.k4 K y5 w:=qq h
theorem F143.sh (h:(C.i y5c 209 #[x0,x1] w fun a b=>
 C.a1 0 a b fun c d=>
 C.a1 1 a d fun f g=>
 C.am f (C.ae x0 g fun i j=>
 C.ab 1 i j fun k m=>
 C.ai k m fun o p=>
 C.bk 1 o x1 p fun q r=>
 C.ak 1 q (y4y none 0 0) r fun s=>
 F143.k4 K c s) (F143.k4 K c g))):C.i y5c 143 #[x0,x1] w K:=q9 (A:=F143.ann) (args:=[x0,x1]) (qq h)
namespace F209
def ann:Ann:=⟨[(3,[0,1])],[],[],[],none⟩
variable (K:VK) (y0 y1:Value) (w:World)
def k3:Prop:=nk ann 28 [(0,y0),(1,y1)] w [1,1] Tryz.f209 K
attribute [irreducible] k3
end F209
theorem F209.k3.to (h:(C.ae y0 w fun a b=>
 C.ab 1 a b fun c d=>
 C.ai c d fun f g=>
 C.bk 1 f y1 g fun i j=>
 C.ai i j fun k m=>
 K (y4z #[k,(y5a true)]) m)):F209.k3 K y0 y1 w:=qq h
theorem F209.sh (h:(C.bi y5c .eql 125 (.tmp 6) (.const (y4x none)) x0 (y4x none) w fun a b=>
 C.q false a (fun K=>K x1 b) b fun c d=>
 C.q false a (fun K=>C.aj .lss c (y4w j6 0) d K) d fun f g=>
 C.a2 (some a) (some (y5a true)) (some f) g fun i j=>
 C.q false i (fun K=>K x1 j) j fun k m=>
 C.q false i (fun K=>K x0 m) m fun o p=>
 C.q false i (fun K=>C.ae o p K) p fun q r=>
 C.q false i (fun K=>C.ab 1 q r K) r fun s t=>
 C.q false i (fun K=>C.ai s t K) t fun u v=>
 C.q false i (fun K=>C.bl u v K) v fun x y=>
 C.q false i (fun K=>C.aj .geq k x y K) y fun z aa=>
 C.a2 (some i) (some (y5a true)) (some z) aa fun ab ac=>
 C.am ab (K (y4z #[(y4y none 0 0),(y5a false)]) ac) (F209.k3 K x0 x1 ac))):C.i y5c 209 #[x0,x1] w K:=q9 (A:=F209.ann) (args:=[x0,x1]) (qq h)
namespace F214
def ann:Ann:=⟨[(3,[0]),(6,[0,3,11,12]),(8,[0,3,11,12]),(9,[3])],[(5,[0,3,11,12])],[],[],none⟩
variable (K:VK) (y0 y3 y11 y12:Value) (w:World)
def k3:Prop:=nk ann 23 [(0,y0)] w [1,1] Tryz.f214 K
def k9:Prop:=nk ann 23 [(3,y3)] w [1,1,1,1] Tryz.f214 K
def l5:Prop:=nl ann 23 [(0,y0),(3,y3),(11,y11),(12,y12)] w [1,1,1,0,1,0] Tryz.f214 K
def k6:Prop:=nk ann 23 [(0,y0),(3,y3),(11,y11),(12,y12)] w [1,1,1,0,1,0,0,1,1] Tryz.f214 K
def k8:Prop:=nk ann 23 [(0,y0),(3,y3),(11,y11),(12,y12)] w [1,1,1,0,1,0,0,1,1,1] Tryz.f214 K
attribute [irreducible] k3 k9 l5 k6 k8
end F214
theorem F214.k3.to (h:(C.ae y0 w fun a b=>
 C.ab 1 a b fun c d=>
 C.ai c d fun f g=>
 C.bl f g fun i j=>
 F214.l5 K y0 (y4w j6 0) i (y4w j6 0) j)):F214.k3 K y0 w:=qq h
theorem F214.k9.to (h:(K y3 w)):F214.k9 K y3 w:=qq h
theorem F214.l5.to (h:(C.aj .lss y12 y11 w fun a b=>
 C.am a (F214.k6 K y0 y3 y11 y12 b) (F214.k9 K y3 b))):F214.l5 K y0 y3 y11 y12 w:=by unfold F214.l5 nl;exact qah (qq h)
theorem F214.k6.to (h:(C.i y5c 143 #[y0,y12] w fun a b=>
 C.bl a b fun c d=>
 C.aj .add y3 c d fun f g=>
 F214.k8 K y0 f y11 y12 g)):F214.k6 K y0 y3 y11 y12 w:=qq h
theorem F214.k8.to (h:(C.aj .add y12 (y4w j6 1) w fun a b=>
 F214.l5 K y0 y3 y11 a b)):F214.k8 K y0 y3 y11 y12 w:=qq h
theorem F214.sh (h:(C.bi y5c .eql 125 (.tmp 5) (.const (y4x none)) x0 (y4x none) w fun a b=>
 C.am a (K (y4w j6 0) b) (F214.k3 K x0 b))):C.i y5c 214 #[x0] w K:=q9 (A:=F214.ann) (args:=[x0]) (qq h)

theorem F216.sh (h:(C.bi y5c .eql 125 (.tmp 3) (.const (y4x none)) x0 (y4x none) w fun a b=>
 C.q false a (fun K=>K x0 b) b fun c d=>
 C.q false a (fun K=>C.ae c d K) d fun f g=>
 C.q false a (fun K=>C.ab 1 f g K) g fun i j=>
 C.q false a (fun K=>C.ai i j K) j fun k m=>
 C.q false a (fun K=>C.i y5c 267 #[k,(.func (.func 268) #[] #[])] m K) m fun o p=>
 C.q false a (fun K=>C.bf o p K) p fun q r=>
 C.a2 (some a) (some (y5a true)) (some q) r fun s t=>
 K s t)):C.i y5c 216 #[x0] w K:=q9 (A:=A0) (args:=[x0]) (qq h)
namespace F232
def ann:Ann:=⟨[(4,[0,1,2,7])],[],[],[(4,(.take 0 (.take 1 (.take 2 (.take 4 (.take 5 (.take 6 (.take 3 (.go 7 (.go 8 (.take 9 (.go 10 .fin .fin)) .fin) .fin)))))))))],none⟩
variable (K:VK) (y0 y1 y2 y7:Value) (w:World)
def k4:Prop:=nk ann 37 [(0,y0),(1,y1),(2,y2),(7,y7)] w [1,1,1] Tryz.f232 K
attribute [irreducible] k4
end F232
theorem F232.k4.to (h:(C.a9 w fun S a=>
 C.ae y0 a fun b c=>
 C.ab 1 b c fun d f=>
 C.aq S d f fun g i=>
 (C.ay y5c (Instr.buildSlice 54 1 #[(0,y2)]) i fun j k=>
 (S k∧
 (C.ay y5c (Builtin.append_ #[54,54] 54 #[y7,j]) k fun m o=>
 (S o∧
 C.bk 1 g y1 o fun p q=>
 (C.ak 1 p m q fun r=>
 (S r∧
 K (y5a true) r))∧True))∧True))∧True)):F232.k4 K y0 y1 y2 y7 w:=qq h
theorem F232.sh (h:(C.i y5c 209 #[x0,x1] w fun a b=>
 C.a1 0 a b fun c d=>
 C.a1 1 a d fun f g=>
 C.bf f g fun i j=>
 C.q false i (fun K=>K x2 j) j fun k m=>
 C.q false i (fun K=>C.i y5c 272 #[k] m K) m fun o p=>
 C.q false i (fun K=>C.aj .lss o (y4w j6 0) p K) p fun q r=>
 C.a2 (some i) (some (y5a true)) (some q) r fun s t=>
 C.q false s (fun K=>K c t) t fun u v=>
 C.q false s (fun K=>K x2 v) v fun x y=>
 C.q false s (fun K=>C.i y5c 85 #[u,x] y K) y fun z aa=>
 C.a2 (some s) (some (y5a true)) (some z) aa fun ab ac=>
 C.am ab (K (y5a false) ac) (F232.k4 K x0 x1 x2 c ac))):C.i y5c 232 #[x0,x1,x2] w K:=q9 (A:=F232.ann) (args:=[x0,x1,x2]) (qq h)

theorem F268.sh (h:(C.bl x0 w fun a b=>
 C.aj .gtr a (y4w j6 0) b fun c d=>
 K c d)):C.i y5c 268 #[x0] w K:=q9 (A:=A0) (args:=[x0]) (qq h)
namespace F82
def ann:Ann:=⟨[(3,[0])],[],[],[],none⟩
variable (K:VK) (y0:Value) (w:World)
def k3:Prop:=nk ann 10 [(0,y0)] w [1,1] Tryz.f82 K
attribute [irreducible] k3
end F82
theorem F82.k3.to (h:(C.ae y0 w fun a b=>
 C.ab 0 a b fun c d=>
 C.ai c d fun f g=>
 C.i y5c 80 #[f] g fun i j=>
 K i j)):F82.k3 K y0 w:=qq h
theorem F82.sh (h:(C.bi y5c .eql 194 (.tmp 3) (.const (y4x none)) x0 (y4x none) w fun a b=>
 C.am a (K (y4y none 0 0) b) (F82.k3 K x0 b))):C.i y5c 82 #[x0] w K:=q9 (A:=F82.ann) (args:=[x0]) (qq h)

theorem F146.sh (h:(C.bi y5c .neq 194 (.tmp 2) (.const (y4x none)) x0 (y4x none) w fun a b=>
 C.am a (C.ae x0 b fun c d=>
 C.ab 0 c d fun f g=>
 C.ak 1 f (y4y none 0 0) g fun i=>
 K (y4z #[]) i) (K (y4z #[]) b))):C.i y5c 146 #[x0] w K:=q9 (A:=A0) (args:=[x0]) (qq h)
namespace F156
def ann:Ann:=⟨[(4,[2,4,5])],[],[],[(3,(.take 0 (.take 1 (.take 2 (.take 3 (.take 5 (.take 6 (.take 7 (.go 4 (.go 8 (.take 9 (.take 10 (.take 11 (.take 12 (.take 13 (.go 14 .fin .fin)))))) .fin) (.go 8 (.take 9 (.take 10 (.go 4 (.take 11 (.take 12 (.take 13 (.go 14 .fin .fin)))) .fin))) .fin))))))))))],none⟩
variable (K:VK) (y2 y4 y5:Value) (w:World)
def k4:Prop:=nk ann 31 [(2,y2),(4,y4),(5,y5)] w [1,1,1] Tryz.f156 K
attribute [irreducible] k4
end F156
theorem F156.k4.to (h:(C.an 2 y4 w fun a b=>
 C.ak 2 y2 a b fun c=>
 C.an 2 y2 c fun r3 _=>
 K (y4z #[r3,y5]) c)):F156.k4 K y2 y4 y5 w:=qq h
theorem F156.sh (h:(C.a3 (.cells #[y4w j6 0,y4w j6 0] 60) w fun a b=>
 C.i y5c 229 #[x0] b fun c d=>
 C.aj .sub c (y4w j6 1) d fun f g=>
 C.i y5c 228 #[x0,f] g fun i j=>
 C.a1 0 i j fun k m=>
 C.a1 1 i m fun o p=>
 C.a3 (.cells #[y4w j6 0,y4w j6 0] 60) p fun q r=>
 C.ak 2 q k r fun s=>
 C.am o (C.a9 s fun S t=>
 C.ae x0 t fun u v=>
 C.ab 0 u v fun x y=>
 C.ae x0 y fun z aa=>
 C.ab 0 z aa fun ab ac=>
 (C.ai x ac fun ad ae=>
 (S ae∧
 (C.ai ab ae fun af ag=>
 (S ag∧
 C.bl af ag fun ah ai=>
 C.aj .sub ah (y4w j6 1) ai fun aj ak=>
 ∃al,(∀w',S w'→(Instr.sliceAt 56 ad none (some aj) none).run y5c w' = .ok al w')∧(C.ae x0 ak fun am an=>
 C.ab 0 am an fun ao ap=>
 (C.ak 1 ao al ap fun aq=>
 (S aq∧
 F156.k4 K a q o aq))∧True)))∧True))∧((C.ai ab ac fun ar au=>
 (S au∧
 C.bl ar au fun av aw=>
 C.aj .sub av (y4w j6 1) aw fun ax ay=>
 (C.ai x ay fun az ba=>
 (S ba∧
 ∃bb,(∀w',S w'→(Instr.sliceAt 56 az none (some ax) none).run y5c w' = .ok bb w')∧(C.ae x0 ba fun bc bd=>
 C.ab 0 bc bd fun be bf=>
 (C.ak 1 be bb bf fun bg=>
 (S bg∧
 F156.k4 K a q o bg))∧True)))∧True))∧True)) (F156.k4 K a q o s))):C.i y5c 156 #[x0] w K:=q9 (A:=F156.ann) (args:=[x0]) (qq h)
namespace F161
def ann:Ann:=⟨[(4,[3,8,9,10]),(8,[3,8,9,10]),(9,[3])],[(3,[3,8,9,10])],[],[],none⟩
variable (K:VK) (y3 y8 y9 y10:Value) (w:World)
def k9:Prop:=nk ann 31 [(3,y3)] w [1,1,1] Tryz.f161 K
def l3:Prop:=nl ann 31 [(3,y3),(8,y8),(9,y9),(10,y10)] w [1,1,0,1,0] Tryz.f161 K
def k4:Prop:=nk ann 31 [(3,y3),(8,y8),(9,y9),(10,y10)] w [1,1,0,1,0,0,1,1] Tryz.f161 K
def k8:Prop:=nk ann 31 [(3,y3),(8,y8),(9,y9),(10,y10)] w [1,1,0,1,0,0,1,1,1] Tryz.f161 K
attribute [irreducible] k9 l3 k4 k8
end F161
theorem F161.k9.to (h:(K y3 w)):F161.k9 K y3 w:=qq h
theorem F161.l3.to (h:(C.aj .lss y10 y9 w fun a b=>
 C.am a (F161.k4 K y3 y8 y9 y10 b) (F161.k9 K y3 b))):F161.l3 K y3 y8 y9 y10 w:=by unfold F161.l3 nl;exact qah (qq h)
theorem F161.k4.to (h:(C.bk 2 y8 y10 w fun a b=>
 C.an 2 a b fun c d=>
 C.a3 (.cells #[y4w j6 0,y4w j6 0] 60) d fun f g=>
 C.ak 2 f c g fun i=>
 C.ab 1 f i fun j k=>
 C.ai j k fun m o=>
 C.ab 0 f o fun p q=>
 C.ai p q fun r s=>
 C.aj .eql r (y4w j6 2) s fun t u=>
 C.q true t (fun K=>K y3 u) u fun v x=>
 C.q true t (fun K=>K m x) x fun y z=>
 C.q true t (fun K=>C.i y5c 85 #[v,y] z K) z fun aa ab=>
 C.q true t (fun K=>C.bf aa ab K) ab fun ac ad=>
 C.a2 (some t) (some ac) (some (y5a false)) ad fun ae af=>
 C.am ae (C.ay y5c (Instr.buildSlice 54 1 #[(0,m)]) af fun ag ah=>
 C.ay y5c (Builtin.append_ #[54,54] 54 #[y3,ag]) ah fun ai aj=>
 F161.k8 K ai y8 y9 y10 aj) (F161.k8 K y3 y8 y9 y10 af))):F161.k4 K y3 y8 y9 y10 w:=qq h
theorem F161.k8.to (h:(C.aj .add y10 (y4w j6 1) w fun a b=>
 F161.l3 K y3 y8 y9 a b)):F161.k8 K y3 y8 y9 y10 w:=qq h
theorem F161.sh (h:(C.i y5c 82 #[x0] w fun a b=>
 C.bl a b fun c d=>
 F161.l3 K (y4y none 0 0) a c (y4w j6 0) d)):C.i y5c 161 #[x0] w K:=q9 (A:=F161.ann) (args:=[x0]) (qq h)
namespace F226
def ann:Ann:=⟨[(3,[0,3]),(4,[])],[],[],[(3,(.take 0 (.take 1 (.take 2 (.take 3 (.take 5 (.go 4 (.go 6 (.go 7 (.take 8 (.take 9 (.go 10 .fin .fin))) .fin) .fin) (.go 6 (.go 4 (.go 7 (.take 8 (.take 9 (.go 10 .fin .fin))) .fin) .fin) .fin))))))))],none⟩
variable (K:VK) (y0 y3:Value) (w:World)
def k3:Prop:=nk ann 30 [(0,y0),(3,y3)] w [1,1] Tryz.f226 K
def k4:Prop:=nk ann 30 [] w [1,1,1] Tryz.f226 K
attribute [irreducible] k3 k4
end F226
theorem F226.k3.to (h:(C.a9 w fun S a=>
 C.ae y0 a fun b c=>
 C.ab 0 b c fun d f=>
 C.bm S 2 y3 f fun g i=>
 (C.ai d i fun j k=>
 (S k∧
 (C.ay y5c (Instr.buildSlice 56 1 #[(0,g)]) k fun m o=>
 (S o∧
 (C.ay y5c (Builtin.append_ #[56,56] 56 #[j,m]) o fun p q=>
 (S q∧
 C.ae y0 q fun r s=>
 C.ab 0 r s fun t u=>
 (C.ak 1 t p u fun v=>
 (S v∧
 F226.k4 K v))∧True))∧True))∧True))∧((C.ay y5c (Instr.buildSlice 56 1 #[(0,g)]) i fun x y=>
 (S y∧
 (C.ai d y fun z aa=>
 (S aa∧
 (C.ay y5c (Builtin.append_ #[56,56] 56 #[z,x]) aa fun ab ac=>
 (S ac∧
 C.ae y0 ac fun ad ae=>
 C.ab 0 ad ae fun af ag=>
 (C.ak 1 af ab ag fun ah=>
 (S ah∧
 F226.k4 K ah))∧True))∧True))∧True))∧True))):F226.k3 K y0 y3 w:=qq h
theorem F226.k4.to (h:(K (y5a true) w)):F226.k4 K w:=qq h
theorem F226.sh (h:(C.a3 (.cells (Value.cells x1) 60) w fun a b=>
 C.bi y5c .eql 194 (.tmp 5) (.const (y4x none)) x0 (y4x none) b fun c d=>
 C.q false c (fun K=>C.an 2 a d K) d fun f g=>
 C.q false c (fun K=>C.i y5c 227 #[f] g K) g fun i j=>
 C.q false c (fun K=>C.aj .neq i (y4w j6 0) j K) j fun k m=>
 C.a2 (some c) (some (y5a true)) (some k) m fun o p=>
 C.q false o (fun K=>K x0 p) p fun q r=>
 C.q false o (fun K=>C.ae q r K) r fun s t=>
 C.q false o (fun K=>C.ab 0 s t K) t fun u v=>
 C.q false o (fun K=>C.ai u v K) v fun x y=>
 C.q false o (fun K=>C.bl x y K) y fun z aa=>
 C.q false o (fun K=>C.aj .geq z (y4w j6 16) aa K) aa fun ab ac=>
 C.a2 (some o) (some (y5a true)) (some ab) ac fun ad ae=>
 C.am ad (K (y5a false) ae) (F226.k3 K x0 a ae))):C.i y5c 226 #[x0,x1] w K:=q9 (A:=F226.ann) (args:=[x0,x1]) (qq h)
namespace F228
def ann:Ann:=⟨[(3,[0,1,4])],[],[],[],none⟩
variable (K:VK) (y0 y1 y4:Value) (w:World)
def k3:Prop:=nk ann 22 [(0,y0),(1,y1),(4,y4)] w [1,1] Tryz.f228 K
attribute [irreducible] k3
end F228
theorem F228.k3.to (h:(C.ae y0 w fun a b=>
 C.ab 0 a b fun c d=>
 C.ai c d fun f g=>
 C.bk 2 f y1 g fun i j=>
 C.an 2 i j fun k m=>
 C.ak 2 y4 k m fun o=>
 C.an 2 y4 o fun r7 _=>
 K (y4z #[r7,(y5a true)]) o)):F228.k3 K y0 y1 y4 w:=qq h
theorem F228.sh (h:(C.a3 (.cells #[y4w j6 0,y4w j6 0] 60) w fun a b=>
 C.aj .lss x1 (y4w j6 0) b fun c d=>
 C.q false c (fun K=>K x1 d) d fun f g=>
 C.q false c (fun K=>K x0 g) g fun i j=>
 C.q false c (fun K=>C.i y5c 229 #[i] j K) j fun k m=>
 C.q false c (fun K=>C.aj .geq f k m K) m fun o p=>
 C.a2 (some c) (some (y5a true)) (some o) p fun q r=>
 C.am q (C.ay y5c (Instr.build 60 #[]) r fun s t=>
 C.ak 2 a s t fun u=>
 C.an 2 a u fun r10 _=>
 K (y4z #[r10,(y5a false)]) u) (F228.k3 K x0 x1 a r))):C.i y5c 228 #[x0,x1] w K:=q9 (A:=F228.ann) (args:=[x0,x1]) (qq h)
namespace F229
def ann:Ann:=⟨[(3,[0])],[],[],[],none⟩
variable (K:VK) (y0:Value) (w:World)
def k3:Prop:=nk ann 10 [(0,y0)] w [1,1] Tryz.f229 K
attribute [irreducible] k3
end F229
theorem F229.k3.to (h:(C.ae y0 w fun a b=>
 C.ab 0 a b fun c d=>
 C.ai c d fun f g=>
 C.bl f g fun i j=>
 K i j)):F229.k3 K y0 w:=qq h
theorem F229.sh (h:(C.bi y5c .eql 194 (.tmp 3) (.const (y4x none)) x0 (y4x none) w fun a b=>
 C.am a (K (y4w j6 0) b) (F229.k3 K x0 b))):C.i y5c 229 #[x0] w K:=q9 (A:=F229.ann) (args:=[x0]) (qq h)
end
end Go.Proofs.YtcakfaakbpdklaaGreatDoorV
namespace Go.Proofs.YtcakfaakbpdklaaGreatDoorV
open Go Go.Proofs Go.RowKit
open Go.Proofs.Tryz renaming prog→y5c
open Go.IntKind renaming i64→j6
open Go.Value renaming int→y4w,pointer→y4x,slice→y4y,tuple→y4z,bool→y5a
theorem qgb {f:FuncId} {cap:Array Value} {args:List Value} {w:World} {K:VK} (hb:qb7 y5c f=true) (h:C.i y5c f (args ++ cap.toList).toArray w K):qbo y5c (.func (.func f) #[] cap) args w K:=by
 simp only[qbo,hb,cond_true,y3o]
 exact h
theorem qad.spot {K:VK} {w:World} {v:Value} {e:TypeId} {sz:Nat} {xs:List (List Value)} {k:IntKind} {j:Nat} (ho:qad w v e sz xs) (hj:j<xs.length)
  (hk:∀g o cs,w.heap[g]?=some (.cells cs e (0,0))→qaa v=[g]→o+sz≤cs.size→(∀i,i<sz→cs[o+i]?=xs[j][i]?)→
   (∀(y:List Value) w',y.length=sz→(∀u∈y,u.oneCell'=true)→w'.heap[g]?=some (.cells (qa2 cs.toList o y).toArray e (0,0))→qad w' v e sz (xs.set j y))→K (y4x (some ⟨g,o,none⟩)) w):C.bk sz v (y4w k (j:Int)) w K:=by
 obtain⟨⟨h2,h3⟩,h4⟩:=ho
 rcases h3 with⟨rfl,h3⟩ | ⟨g,cap,cur,rfl,hb,hh,h5,h6,h7,h8⟩
 ·omega
 ·rw[C.ck]
  have hle:(j+1)*sz≤cap*sz:=y1s _ (by omega)
  have hle2:(j+1)*sz≤xs.length*sz:=y1s _ hj
  have hle3:xs.length*sz≤cap*sz:=y1s _ h5
  rw[y4r] at hle hle2
  refine⟨⟨by omega,by omega⟩,?_⟩
  rw[y2t,y4k]
  have ht:(cur.toList.take (xs.length*sz)).length=xs.length*sz:=List.length_take_of_le (by simp;omega)
  refine hk g (j*sz) cur hh (by simp[qaa,Value.ownBlock]) (by omega) (fun i hi=>?_) fun y w' hy h1 hw=>?_
  ·have:=qc4 xs (fun x hx=>(h4 x hx).1) j xs[j] (y0v hj) i hi
   rw[←h8,y2f,if_pos (by omega)] at this
   rw[←this,y1p]
  ·have hsz:(qa2 cur.toList (j*sz) y).length=cur.toList.length:=qfb (by rw[hy];simp;omega)
   refine qad.of_block (n:=xs.length) hw (by simp) h5 (by unfold maxLen at h6;omega) (by rw[List.size_toArray,hsz];simpa using h7) (fun z hz=>?_) ?_
   ·rcases y0r hz with hz | rfl
    ·exact h4 z hz
    ·exact⟨hy,h1⟩
   ·rw[qhr hy xs (fun z hz=>(h4 z hz).1) _ hj, ←h8]
    show (qa2 cur.toList (j*sz) y).take (xs.length*sz)=qa2 (cur.toList.take (xs.length*sz)) (j*sz) y
    generalize hT:cur.toList.take (xs.length*sz)=T at *
    have hc:cur.toList=T ++ cur.toList.drop (xs.length*sz):=by rw[←hT];exact (y1k _ _).symm
    rw[hc,qj1 (by rw[hy,ht];omega)]
    exact List.take_left' (by rw[qfb (by rw[hy,ht];omega),ht])
theorem qj2 {cs:Array Value} {o:Nat} {a x:Value} (h0:cs[o]?=some a) (hn:o+2≤cs.size):(qa2 cs.toList o [a,x]).toArray=cs.setIfInBounds (o+1) x:=by
 apply Array.ext_getElem?
 intro i
 rw[y0e,y1n]
 unfold qa2
 have e1:(cs.toList.take o).length=o:=by rw[y3b];simp;omega
 rw[y1u]
 by_cases b1:i<o+2
 ·rw[if_pos (by rw[y2g,e1];exact b1),y1u,e1]
  by_cases b2:i<o
  ·rw[if_pos b2,y2f,if_pos b2,if_neg (by omega),y1p]
  ·rw[if_neg b2]
   by_cases b3:i=o
   ·subst b3;simp[h0]
   ·have:i=o+1:=by omega
    subst this
    rw[if_pos rfl,if_pos (by omega),show o+1-o=1 by omega]
    rfl
 ·rw[if_neg (by rw[y2g,e1];exact b1),y2h,if_neg (by omega),y2g,e1]
  simp only[y3a,y3n]
  rw[y1p]
  congr 1
  omega
def qg3 (l:List (Bool × Int)):List (List Value):=l.map fun m=>[y5a m.1,y4w j6 m.2]
theorem qin (l:List (Bool × Int)):(qg3 l).length=l.length:=by simp[qg3]
theorem qzj (l:List (Bool × Int)) (j:Nat) (m:Bool × Int):qg3 (l.set j m)=(qg3 l).set j [y5a m.1,y4w j6 m.2]:=by simp[qg3]
structure qbw (re:Nat) (rv:Value) (w:World) (r:Rg):Prop where
 blk:w.heap[re]?=some (.cells #[y5a true,y4w j6 r.ep,rv] 183 (0,0))
 own:qad w rv 212 2 (qg3 r.l)
 le:r.l.length≤8
section
variable {K:VK} {w w':World} {re:Nat} {rv:Value} {r:Rg}
theorem qbw.keep {S:List Nat} (h:qbw re rv w r) (hf:Fr S w w') (h1:re∉S) (h2:∀g∈qaa rv,g∉S):qbw re rv w' r:=⟨hf.at_ h.blk h1,h.own.keep' hf h2,h.le⟩
theorem qbw.keep0 (h:qbw re rv w r) (hf:Fr [] w w'):qbw re rv w' r:=h.keep hf (by simp) (by simp)
theorem qbw.setL {l:List (Bool × Int)} (h:qbw re rv w r) (hf:Fr (qaa rv) w w') (ho:qad w' rv 212 2 (qg3 l)) (hl:l.length=r.l.length):qbw re rv w' { r with l:=l }:=
 ⟨hf.at_ h.blk (h.own.nb h.blk (by decide)),ho,by have:=h.le;simp only;omega⟩
theorem C.b1 {k:IntKind} {j:Nat} (h:qbw re rv w r) (hj:j<r.l.length)
  (hk:∀g o cs,w.heap[g]?=some (.cells cs 212 (0,0))→qaa rv=[g]→o+2≤cs.size→cs[o]?=some (y5a r.l[j].1)→cs[o+1]?=some (y4w j6 r.l[j].2)→
   (∀(m:Bool × Int) w',Fr [g] w w'→w'.heap[g]?=some (.cells (qa2 cs.toList o [y5a m.1,y4w j6 m.2]).toArray 212 (0,0))→qbw re rv w' { r with l:=r.l.set j m })→K (y4x (some ⟨g,o,none⟩)) w):C.bk 2 rv (y4w k (j:Int)) w K:=by
 refine h.own.spot (by rw[qin];exact hj) fun g o cs hg hb ho hc hs=>hk g o cs hg hb ho ?_ ?_ fun m w' hf hw=>h.setL (hb ▸ hf) (by rw[qzj];exact hs _ w' rfl (by simp[Value.oneCell']) hw) (by simp)
 ·have:=hc 0 (by omega);simpa[qg3] using this
 ·have:=hc 1 (by omega);simpa[qg3] using this
theorem zcg {t:Int}:r.live t=true↔0≤t∧t<r.l.length∧(r.l.getD t.toNat (false,0)).1=true:=by
 unfold Rg.live;simp[and_assoc]
theorem ql0 {t:Int} (h:qbw re rv w r) (hk:K (y5a (r.live t)) w):C.i y5c 95 #[y4x (some ⟨re,0,none⟩),y4w j6 t] w K:=by
 refine F95.sh ⟨_,qa0 _ _ _ Tryz.underlying124,?_⟩
 try simp only[zv]
 unfold Rg.live at hk
 by_cases z1:t≥0
 ·simp only[zv,z1]
  refine C.ad (v:=rv) h.blk rfl (C.bg h.own.rd ?_)
  rw[qin]
  rw[decide_eq_true (show 0≤t from z1)] at hk
  by_cases z2:t<(r.l.length:Int)
  ·simp only[zv,z2]
   rw[decide_eq_true z2] at hk
   refine C.ad (v:=rv) h.blk rfl ?_
   obtain⟨j,rfl⟩:=y1b z1
   have hj:j<r.l.length:=by omega
   refine C.b1 h hj fun g o cs hg _ ho c0 c1 _=>?_
   try simp only[C.af]
   refine C.ad (v:=y5a r.l[j].1) hg c0 ?_
   simpa[hj] using hk
  ·simp only[zv,z2]
   rw[decide_eq_false z2] at hk
   simpa using hk
 ·simp only[zv,z1]
  rw[decide_eq_false (show ¬ 0≤t from z1)] at hk
  simpa using hk
theorem qve {t:Int} (h:qbw re rv w r) (hk:∀w',Fr (re :: qaa rv) w w'→qbw re rv w' (r.attach t).1→K (y5a (r.attach t).2) w'):C.i y5c 142 #[y4x (some ⟨re,0,none⟩),y4w j6 t] w K:=by
 refine F142.sh ⟨_,qan _ _ _ Tryz.underlying124,?_⟩
 try simp only[zv]
 unfold Rg.attach at hk
 by_cases z1:t<0
 ·simp only[zv,z1]
  rw[if_neg (by omega)] at hk
  exact hk w (Fr.refl _ _) h
 simp only[zv,z1]
 refine C.ad (v:=rv) h.blk rfl (C.bg h.own.rd ?_)
 rw[qin]
 by_cases z2:t≥(r.l.length:Int)
 ·simp only[zv,z2]
  rw[if_neg (by omega)] at hk
  exact hk w (Fr.refl _ _) h
 simp only[zv,z2]
 refine C.ad (v:=rv) h.blk rfl ?_
 obtain⟨j,rfl⟩:=y1b (show 0≤t by omega)
 have hj:j<r.l.length:=by omega
 have hlive:r.live (j:Int)=r.l[j].1:=by unfold Rg.live;simp[hj]
 refine C.b1 h hj fun g o cs hg _ ho c0 c1 _=>?_
 try simp only[C.af]
 refine C.ad (v:=y5a r.l[j].1) hg c0 ?_
 rw[hlive] at hk
 cases z3:r.l[j].1 with
 | true=>
  rw[z3] at hk
  simp only[not_true_eq_false,and_false,if_false] at hk
  simp only[C.ah]
  exact hk w (Fr.refl _ _) h
 | false=>
  rw[z3] at hk
  rw[if_pos ⟨by omega,by omega,by simp⟩] at hk
  simp only[C.ac]
  refine F142.k3.to (C.a5 (fun w'=>w'.heap[re]?=some (.cells #[y5a true,y4w j6 r.ep,rv] 183 (0,0))) fun w1 hf1 _=>⟨hf1.at_ h.blk (by simp),?_⟩)
  have h1:=h.keep0 hf1
  try simp only[zv]
  refine C.ao (v:=rv) (fun w' hw=>⟨_,_,_,hw,rfl⟩) (C.ao (v:=y4w j6 r.ep) (fun w' hw=>⟨_,_,_,hw,rfl⟩) ⟨.agg #[y5a true,y4w j6 r.ep],fun w' _=>by kernel_rfl,?_⟩)
  refine C.b1 h1 hj fun g o cs hg hb ho c0 c1 hset=>⟨C.cc hg rfl (by simp[Value.cells,Value.oneCell']) ho fun w2 hu=>?_,trivial⟩
  have h2:=hset (true,r.ep) w2 hu.fr hu.at_
  exact⟨h2.blk,hk w2 (hf1.w.trans (hu.fr.mono fun z hz=>by simp only[y2d] at hz;rw[hb];simp[hz])) h2⟩
theorem qkk {t:Int} (h:r.live t=true):∃j:Nat,t=(j:Int)∧∃hj:j<r.l.length,r.l[j].1=true:=by
 obtain⟨h1,h2,h3⟩:=zcg.1 h
 obtain⟨j,rfl⟩:=y1b h1
 have hj:j<r.l.length:=by omega
 exact⟨j,rfl,hj,by simpa[hj] using h3⟩
theorem qvf {t:Int} (h:qbw re rv w r) (hk:∀b w',Fr (re :: qaa rv) w w'→qbw re rv w' (r.detach t)→K (y5a b) w'):C.i y5c 148 #[y4x (some ⟨re,0,none⟩),y4w j6 t] w K:=by
 refine F148.sh (ql0 h ?_)
 unfold Rg.detach at hk
 cases z:r.live t with
 | false=>
  rw[z] at hk
  simp only[y2b,if_false] at hk
  simp only[zv]
  exact hk _ w (Fr.refl _ _) h
 | true=>
  rw[z] at hk
  simp only[if_true] at hk
  obtain⟨j,rfl,hj,hl⟩:=qkk z
  simp only[zv]
  refine F148.k3.to ?_
  try simp only[zv]
  refine C.ad (v:=rv) h.blk rfl (C.a4 (w':=w) (v := .agg #[y5a false,y4w j6 0]) (by kernel_rfl) ?_)
  refine C.b1 h hj fun g o cs hg hb ho c0 c1 hset=>C.cc hg rfl (by simp[Value.cells,Value.oneCell']) ho fun w2 hu=>?_
  exact hk _ w2 (hu.fr.mono fun z hz=>by simp only[y2d] at hz;rw[hb];simp[hz]) (hset (false,0) w2 hu.fr hu.at_)
theorem za2 (h:qbw re rv w r) (hk:K (y4w j6 r.ep) w):C.i y5c 278 #[y4x (some ⟨re,0,none⟩)] w K:=by
 refine F278.sh ⟨_,qan _ _ _ Tryz.underlying124,?_⟩
 try simp only[C.ac]
 refine F278.k3.to ?_
 try simp only[zv]
 exact C.ad (v:=y4w j6 r.ep) h.blk rfl hk
theorem zbm (h:qbw re rv w r) (hk:∀v w',Fr (re :: qaa rv) w w'→qbw re rv w' r.raise→K v w'):C.i y5c 266 #[y4x (some ⟨re,0,none⟩)] w K:=by
 refine F266.sh ⟨_,qan _ _ _ Tryz.underlying124,?_⟩
 try simp only[zv]
 refine C.ad (v:=y5a true) h.blk rfl ?_
 try simp only[zv]
 refine F266.k3.to ?_
 try simp only[zv]
 refine C.ad (v:=y4w j6 r.ep) h.blk rfl ?_
 try simp only[C.a6]
 refine C.bb h.blk rfl rfl (by simp) fun w1 hu=>?_
 refine C.ad (v:=y4w j6 (w64 (r.ep+1))) hu.at_ rfl ?_
 exact hk _ w1 (hu.fr.mono (by simp)) ⟨by simpa[Rg.raise,w64] using hu.at_,h.own.keep' hu.fr (fun g hg e=>by simp only[y2d] at e;subst e;exact h.own.nb h.blk (by decide) hg),h.le⟩
theorem zfz {t:Int} (h:qbw re rv w r) (hk:K (y4w j6 (r.ofT t)) w):C.i y5c 277 #[y4x (some ⟨re,0,none⟩),y4w j6 t] w K:=by
 refine F277.sh (ql0 h ?_)
 unfold Rg.ofT at hk
 cases z:r.live t with
 | false=>
  rw[z] at hk
  simp only[y2b,if_false] at hk
  simp only[zv]
  exact hk
 | true=>
  rw[z] at hk
  simp only[if_true] at hk
  obtain⟨j,rfl,hj,hl⟩:=qkk z
  simp only[zv]
  refine F277.k3.to ?_
  try simp only[zv]
  refine C.ad (v:=rv) h.blk rfl (C.b1 h hj fun g o cs hg hb ho c0 c1 hset=>?_)
  try simp only[C.af]
  refine C.ad (v:=y4w j6 r.l[j].2) hg c1 ?_
  simpa[hj] using hk
theorem qus {t:Int} (h:qbw re rv w r) (hk:∀w',Fr (re :: qaa rv) w w'→qbw re rv w' (r.confirm t).1→K (y5a (r.confirm t).2) w'):C.i y5c 160 #[y4x (some ⟨re,0,none⟩),y4w j6 t] w K:=by
 refine F160.sh (C.a5 (fun w'=>qbw re rv w' r) fun w1 hf1 _=>⟨h.keep0 hf1,?_⟩)
 have h1:=h.keep0 hf1
 refine⟨ql0 h1 ⟨h1,?_⟩,trivial⟩
 unfold Rg.confirm at hk
 cases z:r.live t with
 | false=>
  rw[z] at hk
  simp only[y2b,false_and,if_false] at hk
  simp only[zv]
  exact⟨⟨h1,hk w1 hf1.w h1⟩,trivial⟩
 | true=>
  rw[z] at hk
  obtain⟨j,rfl,hj,hl⟩:=qkk z
  have eo:r.ofT (j:Int)=r.l[j].2:=by unfold Rg.ofT;rw[z];simp[hj]
  rw[eo] at hk
  simp only[zv]
  refine C.ao (v:=rv) (fun w' hw=>⟨_,_,_,hw.blk,rfl⟩) (C.b1 h1 hj fun g o cs hg hb ho c0 c1 hset=>?_)
  try simp only[C.af]
  refine C.ao (v:=y4w j6 r.ep) (fun w' hw=>⟨_,_,_,hw.blk,rfl⟩) ⟨C.ad (v:=y4w j6 r.l[j].2) hg c1 ⟨h1,?_⟩,trivial⟩
  by_cases y:r.l[j].2≥r.ep
  ·simp only[zv,y]
   rw[if_neg (by omega)] at hk
   exact hk w1 hf1.w h1
  ·simp only[zv,y]
   rw[if_pos ⟨rfl,by omega⟩] at hk
   refine F160.k3.to (C.a5 (fun w'=>w'.heap[re]?=some (.cells #[y5a true,y4w j6 r.ep,rv] 183 (0,0))) fun w2 hf2 _=>⟨hf2.at_ h1.blk (by simp),?_⟩)
   have h2:=h1.keep0 hf2
   try simp only[zv]
   refine C.ao (v:=rv) (fun w' hw=>⟨_,_,_,hw,rfl⟩) (C.ao (v:=y4w j6 r.ep) (fun w' hw=>⟨_,_,_,hw,rfl⟩) (C.b1 h2 hj fun g o cs hg hb ho c0 c1 hset=>?_))
   try simp only[C.af]
   refine⟨C.bb hg rfl rfl (by omega) fun w3 hu=>?_,trivial⟩
   have h3:=hset (true,r.ep) w3 hu.fr (by rw[qj2 (by rw[c0,hl]) ho];exact hu.at_)
   exact⟨h3.blk,hk w3 ((hf1.trans hf2).w.trans (hu.fr.mono fun z hz=>by simp only[y2d] at hz;rw[hb];simp[hz])) h3⟩
theorem qoo:qb7 y5c 297=true:=by kernel_rfl
def qzb (r:Rg):List Int:=((List.range r.l.length).filter fun j=>(r.l.getD j (false,0)).1 && decide ((r.l.getD j (false,0)).2<r.ep)).map Int.ofNat
theorem qvp (r:Rg):decide (((qzb r).length:Int)=0)=r.agreed:=by
 rw[y3p]
 simp only[decide_eq_true_eq,qzb,y3t,Rg.agreed,y2x]
 constructor
 ·intro h m hm
  obtain⟨j,hj,rfl⟩:=y1y hm
  have hnil:=List.length_eq_zero_iff.1 (show _=0 by exact_mod_cast h)
  have:=List.filter_eq_nil_iff.1 hnil j (y3x.2 hj)
  simp only[List.getD,y0v hj,y3f] at this
  cases hh:(r.l[j].1 && decide (r.l[j].2<r.ep)) with
  | true=>rw[hh] at this;exact absurd rfl this
  | false=>rfl
 ·intro h
  have:((List.range r.l.length).filter fun j=>(r.l.getD j (false,0)).1 && decide ((r.l.getD j (false,0)).2<r.ep))=[]:=by
   rw[List.filter_eq_nil_iff]
   intro j hj
   have hj:=y3x.1 hj
   have:=h r.l[j] (y3g hj)
   simp only[List.getD,y0v hj,y3f]
   intro hc
   rw[hc] at this
   cases this
  rw[this];rfl
theorem qtp {W:World} {x:Nat} (h0:qbw re rv W r) (hx0:W.heap[x]?=some (.cells #[y4x (some ⟨re,0,none⟩)] 124 (0,0)))
  (hk:∀v w',Fr [] W w'→qad w' v 3 1 (qag (qzb r))→K v w'):
  ∀(d i:Nat) (w:World) (v:Value),i+d=r.l.length→Fr [] W w→qaj W v→qad w v 3 1 (qag (((List.range i).filter fun j=>(r.l.getD j (false,0)).1 && decide ((r.l.getD j (false,0)).2<r.ep)).map Int.ofNat))→
   F296.l5 K (.func (.func 297) #[] #[y4x (some ⟨x,0,none⟩)]) v rv (y4w j6 (r.l.length:Int)) (y4w j6 (i:Int)) w:=by
 have hle:=h0.le
 intro d
 induction d with
 | zero=>
  intro i w v hi hf hn hv
  have e:i=r.l.length:=by omega
  subst e
  refine F296.l5.to ?_
  simp only[zv,show ¬((r.l.length:Int)<(r.l.length:Int)) by omega]
  exact F296.k10.to (hk v w hf hv)
 | succ d ih=>
  intro i w v hi hf hn hv
  have hlt:i<r.l.length:=by omega
  have h:=h0.keep0 hf
  refine F296.l5.to ?_
  simp only[zv,show (i:Int)<(r.l.length:Int) by omega]
  have eg:r.l.getD i (false,0)=r.l[i]:=by simp[List.getD,hlt]
  have step:∀w' v',Fr [] W w'→qaj W v'→qad w' v' 3 1 (qag (((List.range i).filter fun j=>(r.l.getD j (false,0)).1 && decide ((r.l.getD j (false,0)).2<r.ep)).map Int.ofNat ++ if r.l[i].1 && decide (r.l[i].2<r.ep) then[(i:Int)] else[]))→
    F296.k9 K (.func (.func 297) #[] #[y4x (some ⟨x,0,none⟩)]) v' rv (y4w j6 (r.l.length:Int)) (y4w j6 (i:Int)) w':=fun w' v' hf' hn' hv'=>by
   refine F296.k9.to ?_
   try simp only[C.a6]
   rw[qab (n:=(i:Int)+1) (by omega)]
   refine ih (i+1) w' v' (by omega) hf' hn' ?_
   have e1:List.map Int.ofNat ((List.range (i+1)).filter fun j=>(r.l.getD j (false,0)).1 && decide ((r.l.getD j (false,0)).2<r.ep))=((List.range i).filter fun j=>(r.l.getD j (false,0)).1 && decide ((r.l.getD j (false,0)).2<r.ep)).map Int.ofNat ++ if r.l[i].1 && decide (r.l[i].2<r.ep) then[(i:Int)] else[]:=by
    rw[y3u,y2j,y3v]
    congr 1
    rw[List.filter_cons,eg]
    cases r.l[i].1 && decide (r.l[i].2<r.ep) <;> simp
   rw[e1];exact hv'
  have hl2:(((List.range i).filter fun j=>(r.l.getD j (false,0)).1 && decide ((r.l.getD j (false,0)).2<r.ep)).map Int.ofNat).length≤8:=by
   rw[y3t]
   exact y4i (y1o _ _) (by rw[y2v];omega)
  refine F296.k6.to (C.b1 h hlt fun g o cs hg hb ho c0 c1 _=>?_)
  have hcs:(cs.toList.drop o).take 2=[y5a r.l[i].1,y4w j6 r.l[i].2]:=by
   apply y2r
   intro q
   rw[y2f,y2h]
   match q with
   | 0=>simpa using c0
   | 1=>simpa using c1
   | q+2=>rw[if_neg (by omega)];rfl
  refine C.br hg ho hcs (C.av fun y w1 hn1=>C.a0 hn1.at_ rfl (by simp[Value.cells,Value.oneCell']) rfl fun w2 hu2=>?_)
  have l1:=hn1.is
  have f2:Fr [] w w2:=hn1.fr.then hu2.fr (by simp;omega)
  have h2:=h.keep0 f2
  have y2:=hu2.at_
  try simp only[zv]
  refine C.ad (v:=y5a r.l[i].1) y2 rfl ?_
  have hv2:=hv.keep f2 (by simp)
  cases z1:r.l[i].1 with
  | false=>
   simp only[zv]
   refine step w2 v (hf.trans f2) hn ?_
   rw[z1];simpa using hv2
  | true=>
   simp only[zv]
   refine C.br (vs:=[y5a true,y4w j6 r.l[i].2]) y2 (by simp[Value.cells]) (by simp[Value.cells,z1]) (qgb qoo (F297.sh (C.av fun q w3 hn3=>C.a5 (fun w'=>qbw re rv w' r∧w'.heap[q]?=some (.cells #[y5a true,y4w j6 r.l[i].2] 212 (0,0))∧w'.heap[x]?=some (.cells #[y4x (some ⟨re,0,none⟩)] 124 (0,0))) fun w4 hf4 _=>⟨⟨(h2.keep0 hn3.fr).keep0 hf4,hf4.at_ hn3.at_ (by simp),(((hf.trans f2).trans hn3.fr).trans hf4).at_ hx0 (by simp)⟩,?_⟩)))
   have f4:=hn3.fr.trans hf4
   try simp only[zv]
   refine C.ao (v:=y4w j6 r.l[i].2) (fun w' hw=>⟨_,_,_,hw.2.1,rfl⟩) (C.ao (v:=y4x (some ⟨re,0,none⟩)) (fun w' hw=>⟨_,_,_,hw.2.2,rfl⟩) ?_)
   try simp only[zv]
   refine C.ao (v:=y4w j6 r.ep) (fun w' hw=>⟨_,_,_,hw.1.blk,rfl⟩) ?_
   have hv4:=hv2.keep f4 (by simp)
   by_cases z2:r.l[i].2<r.ep
   ·simp only[zv,z2]
    refine C.cu ((hf.trans f2).trans f4) hn hv4 (by omega) fun v' w5 hf5 hn5 ho5 _ _=>step w5 v' hf5 hn5 ?_
    rw[z1];simpa[z2] using ho5
   ·simp only[zv,z2]
    refine step w4 v ((hf.trans f2).trans f4) hn ?_
    rw[z1];simpa[z2] using hv4
theorem qxp (h:qbw re rv w r) (hk:∀w',Fr [] w w'→K (y5a r.agreed) w'):C.i y5c 213 #[y4x (some ⟨re,0,none⟩)] w K:=by
 refine F213.sh (F265.sh (C.av fun x w1 hn=>C.ad (v:=y4x (some ⟨re,0,none⟩)) hn.at_ rfl ?_))
 refine F296.sh ⟨_,qan _ _ _ Tryz.underlying124,?_⟩
 have h1:=h.keep0 hn.fr
 try simp only[zv]
 refine F296.k3.to ?_
 try simp only[zv]
 refine C.ad (v:=rv) h1.blk rfl (C.bg h1.own.rd ?_)
 rw[qin]
 refine qtp (W:=w1) h1 hn.at_ (fun v w2 hf2 hv2=>?_) r.l.length 0 w1 _ (by omega) (Fr.refl _ _) (qaj.nil _) (qad.nil _ _ _)
 refine C.bg hv2.rd ?_
 rw[qak]
 try simp only[C.az]
 rw[qvp]
 exact hk w2 (hn.fr.trans hf2)
end
end Go.Proofs.YtcakfaakbpdklaaGreatDoorV
namespace Go.Proofs.YtcakfaakbpdklaaGreatDoorV
open Go Go.Proofs
open Go.Proofs.Tryz renaming prog→y5c
open Go.IntKind renaming i64→j6
open Go.Value renaming int→y4w,pointer→y4x,slice→y4y,tuple→y4z,bool→y5a
noncomputable section
variable {K:VK} {w:World} {x0 x1 y0 y1 y7 y8:Value}
namespace F298
def ann:Ann:=⟨[(3,[0,1,7,8]),(6,[0,1,7,8]),(7,[])],[(2,[0,1,7,8])],[],[],none⟩
variable (K:VK) (y0 y1 y7 y8:Value) (w:World)
def k7:Prop:=nk ann 19 [] w [1,1] Tryz.f298 K
def l2:Prop:=nl ann 19 [(0,y0),(1,y1),(7,y7),(8,y8)] w [1,0,1,0] Tryz.f298 K
def k3:Prop:=nk ann 19 [(0,y0),(1,y1),(7,y7),(8,y8)] w [1,0,1,0,0,1,1] Tryz.f298 K
def k6:Prop:=nk ann 19 [(0,y0),(1,y1),(7,y7),(8,y8)] w [1,0,1,0,0,1,1,1] Tryz.f298 K
attribute [irreducible] k7 l2 k3 k6
end F298
theorem F298.k7.to (h:(K (y4w j6 (-1)) w)):F298.k7 K w:=qq h
theorem F298.l2.to (h:(C.aj .lss y8 y7 w fun a b=>
 C.am a (F298.k3 K y0 y1 y7 y8 b) (F298.k7 K b))):F298.l2 K y0 y1 y7 y8 w:=by unfold F298.l2 nl;exact qah (qq h)
theorem F298.k3.to (h:(C.bk 1 y0 y8 w fun a b=>
 C.ai a b fun c d=>
 qbo y5c y1 [c] d fun f g=>
 C.am f (K y8 g) (F298.k6 K y0 y1 y7 y8 g))):F298.k3 K y0 y1 y7 y8 w:=qq h
theorem F298.k6.to (h:(C.aj .add y8 (y4w j6 1) w fun a b=>
 F298.l2 K y0 y1 y7 a b)):F298.k6 K y0 y1 y7 y8 w:=qq h
theorem F298.sh (h:(C.bl x0 w fun a b=>
 F298.l2 K x0 x1 a (y4w j6 0) b)):C.i y5c 298 #[x0,x1] w K:=q9 (A:=F298.ann) (args:=[x0,x1]) (qq h)

theorem F267.sh (h:(C.i y5c 298 #[x0,x1] w fun a b=>
 C.aj .geq a (y4w j6 0) b fun c d=>
 K c d)):C.i y5c 267 #[x0,x1] w K:=q9 (A:=A0) (args:=[x0,x1]) (qq h)
namespace F80
def ann:Ann:=⟨[(3,[0])],[],[],[],none⟩
variable (K:VK) (y0:Value) (w:World)
def k3:Prop:=nk ann 8 [(0,y0)] w [1,1] Tryz.f80 K
attribute [irreducible] k3
end F80
theorem F80.k3.to (h:(C.ay y5c (Instr.buildSlice 56 0 #[]) w fun a b=>
 C.ay y5c (Builtin.append_ #[56,56] 56 #[a,y0]) b fun c d=>
 K c d)):F80.k3 K y0 w:=qq h
theorem F80.sh (h:(C.bi y5c .eql 56 (.tmp 3) (.const (y4y none 0 0)) x0 (y4y none 0 0) w fun a b=>
 C.am a (K (y4y none 0 0) b) (F80.k3 K x0 b))):C.i y5c 80 #[x0] w K:=q9 (A:=F80.ann) (args:=[x0]) (qq h)
namespace F240
def ann:Ann:=⟨[(3,[0])],[],[],[],none⟩
variable (K:VK) (y0:Value) (w:World)
def k3:Prop:=nk ann 8 [(0,y0)] w [1,1] Tryz.f240 K
attribute [irreducible] k3
end F240
theorem F240.k3.to (h:(C.ay y5c (Instr.buildSlice 54 0 #[]) w fun a b=>
 C.ay y5c (Builtin.append_ #[54,54] 54 #[a,y0]) b fun c d=>
 K c d)):F240.k3 K y0 w:=qq h
theorem F240.sh (h:(C.bi y5c .eql 54 (.tmp 3) (.const (y4y none 0 0)) x0 (y4y none 0 0) w fun a b=>
 C.am a (K (y4y none 0 0) b) (F240.k3 K x0 b))):C.i y5c 240 #[x0] w K:=q9 (A:=F240.ann) (args:=[x0]) (qq h)
end
end Go.Proofs.YtcakfaakbpdklaaGreatDoorV
namespace Go.Proofs.YtcakfaakbpdklaaGreatDoorV
open Go Go.Proofs Go.RowKit
open Go.Proofs.Tryz renaming prog→y5c
open Go.IntKind renaming i64→j6
open Go.Value renaming int→y4w,pointer→y4x,slice→y4y,tuple→y4z,bool→y5a
theorem qk4 {cs:Array Value} {o:Nat} {x:Value} (hn:o+1≤cs.size):(qa2 cs.toList o [x]).toArray=cs.setIfInBounds o x:=by
 apply Array.ext_getElem?
 intro i
 rw[y0e,y1n]
 unfold qa2
 have e1:(cs.toList.take o).length=o:=by rw[y3b];simp;omega
 rw[y1u]
 by_cases b1:i<o+1
 ·rw[if_pos (by rw[y2g,e1];exact b1),y1u,e1]
  by_cases b2:i<o
  ·rw[if_pos b2,y2f,if_pos b2,if_neg (by omega),y1p]
  ·have:i=o:=by omega
   subst this
   rw[if_neg b2,if_pos rfl,if_pos (by omega),show i-i=0 by omega]
   rfl
 ·rw[if_neg (by rw[y2g,e1];exact b1),y2h,if_neg (by omega),y2g,e1]
  simp only[y3a,y3n]
  rw[y1p]
  congr 1
  omega
def qfn (vs:List Value):List (List Value):=vs.map fun v=>[v]
theorem qg7 (vs:List Value):(qfn vs).length=vs.length:=by simp[qfn]
theorem qq1 (vs:List Value) (j:Nat) (v:Value):qfn (vs.set j v)=(qfn vs).set j [v]:=by simp[qfn]
def qbp (vs:List Value):List Nat:=vs.flatMap qaa
theorem qec {vs:List Value} {x:Nat}:x∈qbp vs↔∃v∈vs,x∈qaa v:=by simp[qbp]
theorem qcf {vs:List Value} {j:Nat} (hj:j<vs.length) {x:Nat} (hx:x∈qaa vs[j]):x∈qbp vs:=qec.2 ⟨_,y3g hj,hx⟩
theorem qdg {vs:List Value} {j:Nat} {v:Value} {x:Nat} (h:x∈qbp (vs.set j v)):x∈qbp vs∨x∈qaa v:=by
 obtain⟨u,hu,hx⟩:=qec.1 h
 rcases y0r hu with c | c
 ·exact .inl (qec.2 ⟨u,c,hx⟩)
 ·exact .inr (c ▸ hx)
structure Fam (w:World) (e:TypeId) (sz:Nat) (vs:List Value) (xs:List (List (List Value))):Prop where
 len:vs.length=xs.length
 row:∀(i:Nat) (h:i<vs.length) (h':i<xs.length),qad w vs[i] e sz xs[i]
 dj:∀(i j:Nat) (h:i<vs.length) (h':j<vs.length),i≠j→∀x∈qaa vs[i],x∉qaa vs[j]
theorem Fam.keep {w w':World} {e:TypeId} {sz:Nat} {vs:List Value} {xs:List (List (List Value))} {S:List Nat} (h:Fam w e sz vs xs) (hf:Fr S w w') (hS:∀x∈qbp vs,x∉S):Fam w' e sz vs xs:=
 ⟨h.len,fun i h1 h2=>(h.row i h1 h2).keep' hf fun g hg=>hS g (qcf h1 hg),h.dj⟩
theorem Fam.lt {w:World} {e:TypeId} {sz:Nat} {vs:List Value} {xs:List (List (List Value))} (h:Fam w e sz vs xs):∀x∈qbp vs,x<w.heap.size:=fun x hx=>by
 obtain⟨v,hv,hx⟩:=qec.1 hx
 obtain⟨i,hi,rfl⟩:=y1y hv
 exact (h.row i hi (by have:=h.len;omega)).lt (qam.1 hx)
theorem Fam.set {w w':World} {e:TypeId} {sz:Nat} {vs:List Value} {xs:List (List (List Value))} {j:Nat} {v:Value} {x:List (List Value)} {S:List Nat} (h:Fam w e sz vs xs) (hj:j<vs.length) (hf:Fr S w w')
  (hS:∀i (h:i<vs.length),i≠j→∀y∈qaa vs[i],y∉S) (ho:qad w' v e sz x) (hg:∀y∈qaa v,y∈qaa vs[j]∨w.heap.size≤y):Fam w' e sz (vs.set j v) (xs.set j x):=by
 have hl:=h.len
 refine⟨by simp[hl],fun i h1 h2=>?_,fun i k h1 h2 hne y hy hy'=>?_⟩
 ·rw[y3d,y3d]
  simp only[y3r] at h1 h2
  split
  ·exact ho
  ·rename_i hne
   exact (h.row i h1 h2).keep' hf (hS i h1 (Ne.symm hne))
 ·simp only[y3r] at h1 h2
  rw[y3d] at hy hy'
  have far:∀(i:Nat) (hi:i<vs.length),i≠j→∀y∈qaa vs[i],y∉qaa v:=fun i hi hij y hy hv=>by
   rcases hg y hv with c | c
   ·exact h.dj i j hi hj hij y hy c
   ·have:=(h.row i hi (by omega)).lt (qam.1 hy);omega
  split at hy
  ·rename_i e1
   subst e1
   split at hy'
   ·rename_i e2;exact hne e2
   ·rename_i e2;exact far k h2 (Ne.symm e2) y hy' hy
  ·rename_i e1
   split at hy'
   ·exact far i h1 (Ne.symm e1) y hy hy'
   ·exact h.dj i k h1 h2 hne y hy hy'
structure qbv (bu:Nat) (bv:Value) (vs:List Value) (w:World) (b:List (List Int)):Prop where
 blk:w.heap[bu]?=some (.cells #[y5a true,bv] 186 (0,0))
 own:qad w bv 54 1 (qfn vs)
 fam:Fam w 3 1 vs (b.map qag)
 le:b.length≤8
 fit:∀l∈b,l.Nodup∧∀a∈l,0≤a∧a<2048
structure FTo (bv:Value) (vs:List Value) (w:World) (vs':List Value) (w':World):Prop where
 fr:Fr (qaa bv ++ qbp vs) w w'
 gr:∀x∈qbp vs',x∈qbp vs∨w.heap.size≤x
theorem FTo.refl (bv:Value) (vs:List Value) (w:World):FTo bv vs w vs w:=⟨Fr.refl _ _,fun x hx => .inl hx⟩
theorem FTo.trans {bv:Value} {vs vs' vs'':List Value} {w w' w'':World} (h:FTo bv vs w vs' w') (k:FTo bv vs' w' vs'' w''):FTo bv vs w vs'' w'':=
 ⟨h.fr.then k.fr fun x hx=>by
  rw[y3q] at hx ⊢
  rcases hx with c | c
  ·exact .inl (.inl c)
  ·rcases h.gr x c with d | d
   ·exact .inl (.inr d)
   ·exact .inr d,fun x hx=>by
  rcases k.gr x hx with c | c
  ·exact h.gr x c
  ·have:=h.fr.size;exact .inr (by omega)⟩
section
variable {K:VK} {w w':World} {bu:Nat} {bv:Value} {vs:List Value} {b:List (List Int)}
theorem qbv.keep {S:List Nat} (h:qbv bu bv vs w b) (hf:Fr S w w') (h1:bu∉S) (h2:∀x∈qaa bv,x∉S) (h3:∀x∈qbp vs,x∉S):qbv bu bv vs w' b:=⟨hf.at_ h.blk h1,h.own.keep' hf h2,h.fam.keep hf h3,h.le,h.fit⟩
theorem qbv.keep0 (h:qbv bu bv vs w b) (hf:Fr [] w w'):qbv bu bv vs w' b:=h.keep hf (by simp) (by simp) (by simp)
theorem qbv.len (h:qbv bu bv vs w b):vs.length=b.length:=by have:=h.fam.len;simpa using this
theorem qbv.few (h:qbv bu bv vs w b) {l:List Int} (hl:l∈b):l.length≤2048:=qjr 2048 l (h.fit l hl).1 (h.fit l hl).2
theorem qbv.at_ (h:qbv bu bv vs w b) {j:Nat} (hj:j<b.length) (hj':j<vs.length):qad w vs[j] 3 1 (qag b[j]):=by
 have:=h.fam.row j hj' (by simpa using hj)
 simpa using this
theorem C.cq {k:IntKind} {j:Nat} (h:qbv bu bv vs w b) (hj:j<vs.length)
  (hk:∀g o cs,w.heap[g]?=some (.cells cs 54 (0,0))→qaa bv=[g]→o+1≤cs.size→cs[o]?=some vs[j]→
   (∀(v:Value) w',v.oneCell'=true→w'.heap[g]?=some (.cells (cs.setIfInBounds o v) 54 (0,0))→qad w' bv 54 1 (qfn (vs.set j v)))→K (y4x (some ⟨g,o,none⟩)) w):C.bk 1 bv (y4w k (j:Int)) w K:=by
 refine h.own.spot (by rw[qg7];exact hj) fun g o cs hg hb ho hc hs=>hk g o cs hg hb ho ?_ fun v w' hv hw=>?_
 ·have:=hc 0 (by omega);simpa[qfn] using this
 ·rw[qq1]
  exact hs [v] w' rfl (by simpa using hv) (by rw[qk4 ho];exact hw)
theorem ze3 {t:Int} (h:qbv bu bv vs w b) (h1:∀(j:Nat) (hj:j<vs.length),t=(j:Int)→K (y4z #[vs[j],y5a true]) w) (h2:¬(0≤t∧t<b.length)→K (y4z #[y4y none 0 0,y5a false]) w):
  C.i y5c 209 #[y4x (some ⟨bu,0,none⟩),y4w j6 t] w K:=by
 have hl:=h.len
 refine F209.sh ⟨_,qan _ _ _ Tryz.underlying125,?_⟩
 try simp only[zv]
 by_cases z1:t<0
 ·simp only[zv,z1]
  exact h2 (by omega)
 simp only[zv,z1]
 refine C.ad (v:=bv) h.blk rfl (C.bg h.own.rd ?_)
 rw[qg7]
 by_cases z2:t≥(vs.length:Int)
 ·simp only[zv,z2]
  exact h2 (by omega)
 simp only[zv,z2]
 refine F209.k3.to ?_
 try simp only[zv]
 obtain⟨j,rfl⟩:=y1b (show 0≤t by omega)
 have hj:j<vs.length:=by omega
 refine C.ad (v:=bv) h.blk rfl (C.cq h hj fun g o cs hg _ ho hc _=>C.ad hg hc ?_)
 exact h1 j hj rfl
theorem qbv.set {j:Nat} {v:Value} {l:List Int} {S:List Nat} {w1:World} (h:qbv bu bv vs w b) (hj:j<vs.length) (hf:Fr S w w1) (hS:∀x∈S,x∈qaa vs[j]∨w.heap.size≤x) (ho:qad w1 v 3 1 (qag l)) (hg:∀y∈qaa v,y∈qaa vs[j]∨w.heap.size≤y)
  (hw:Fr (qaa bv) w1 w') (hb:qad w' bv 54 1 (qfn (vs.set j v))) (hl:l.Nodup∧∀a∈l,0≤a∧a<2048):qbv bu bv (vs.set j v) w' (b.set j l):=by
 have hlen:=h.len
 have nb:bu∉S:=fun e=>by
  rcases hS bu e with c | c
  ·exact (h.at_ (j:=j) (by omega) hj).nb h.blk (by decide) c
  ·have:=qac h.blk;omega
 have h1:Fam w1 3 1 (vs.set j v) ((b.map qag).set j (qag l)):=h.fam.set hj hf (fun i hi hij y hy e=>by
  rcases hS y e with c | c
  ·exact h.fam.dj i j hi hj hij y hy c
  ·have:=h.fam.lt y (qcf hi hy);omega) ho hg
 have e1:(b.map qag).set j (qag l)=(b.set j l).map qag:=by simp
 refine⟨hw.at_ (hf.at_ h.blk nb) (h.own.nb h.blk (by decide)),hb,?_,by simp[h.le],fun x hx=>?_⟩
 ·rw[←e1]
  refine h1.keep hw fun x hx e=>?_
  have hlt:=h.own.lt (qam.1 e)
  rcases qdg hx with c | c
  ·obtain⟨u,hu,hx⟩:=qec.1 c
   obtain⟨i,hi,rfl⟩:=y1y hu
   exact (h.at_ (j:=i) (by omega) hi).ne h.own (by decide) x hx e
  ·rcases hg x c with d | d
   ·exact (h.at_ (j:=j) (by omega) hj).ne h.own (by decide) x d e
   ·omega
 ·rcases y0r hx with c | c
  ·exact h.fit x c
  ·exact c ▸ hl
theorem qm4 {t:Int} (h:qbv bu bv vs w b) (hk:∀v vs' w',FTo bv vs w vs' w'→qbv bu bv vs' w' (qb3 b t)→qad w' v 3 1 (qag (fOf b t))→(∀x∈qaa v,x∈qbp vs)→K v w'):
  C.i y5c 143 #[y4x (some ⟨bu,0,none⟩),y4w j6 t] w K:=by
 have hl:=h.len
 refine F143.sh (ze3 h (fun j hj e=>?_) fun hn=>?_)
 ·subst e
  try simp only[zv]
  have eo:fOf b (j:Int)=b[j]'(by omega):=by
   unfold fOf;rw[if_pos (by omega)];simp[List.getD,show j<b.length by omega]
  have et:qb3 b (j:Int)=b.set j []:=by unfold qb3;rw[if_pos (by omega)];simp
  rw[et,eo] at hk
  refine C.ad (v:=bv) h.blk rfl (C.cq h hj fun g o cs hg hb ho hc hs=>C.bb hg rfl rfl (by omega) fun w1 hu=>?_)
  have hown:=h.at_ (j:=j) (by omega) hj
  have hw:=hs (y4y none 0 0) w1 rfl hu.at_
  have hf1:Fr (qaa bv) w w1:=hb ▸ hu.fr
  have h1:=h.set (S:=[]) (v:=y4y none 0 0) (l:=[]) hj (Fr.refl _ w) (by simp) (qad.nil _ _ _) (by simp[qaa,Value.ownBlock]) hf1 hw (by simp)
  refine F143.k4.to (hk _ _ w1 ⟨hf1.mono fun x hx=>by simp[hx],fun x hx=>?_⟩ h1 (hown.keep' hf1 fun x hx=>hown.ne h.own (by decide) x hx) fun x hx=>qcf hj hx)
  rcases qdg hx with c | c
  ·exact .inl c
  ·simp[qaa,Value.ownBlock] at c
 ·try simp only[zv]
  have et:qb3 b t=b:=by unfold qb3;rw[if_neg hn]
  have eo:fOf b t=[]:=by
   unfold fOf
   by_cases c:0≤t
   ·rw[if_pos c];simp[List.getD,show ¬t.toNat<b.length by omega]
   ·rw[if_neg c]
  rw[et,eo] at hk
  exact F143.k4.to (hk _ vs w (FTo.refl _ _ _) h (qad.nil _ _ _) (by simp[qaa,Value.ownBlock]))
theorem qtd {W:World} {vs0:List Value} {b':List (List Int)} (hk:∀n vs' w',FTo bv vs0 W vs' w'→qbv bu bv vs' w' b'→K (y4w j6 n) w'):
  ∀(d i:Nat) (n:Int) (w:World) (vs:List Value) (b:List (List Int)),i+d=b.length→FTo bv vs0 W vs w→qbv bu bv vs w b→(b.take i).map (fun _=>[]) ++ (b.drop i).map (fun _=>[])=b'→(∀l∈b.take i,l=[])→
   F214.l5 K (y4x (some ⟨bu,0,none⟩)) (y4w j6 n) (y4w j6 (b.length:Int)) (y4w j6 (i:Int)) w:=by
 intro d
 induction d with
 | zero=>
  intro i n w vs b hi ht h he hz
  have e:i=b.length:=by omega
  subst e
  refine F214.l5.to ?_
  simp only[zv,show ¬((b.length:Int)<(b.length:Int)) by omega]
  rw[y2z] at hz he
  have:b=b':=by
   rw[y3j] at he
   simp only[y4o,y3m] at he
   rw[←he]
   conv=>lhs;rw[←List.map_id b]
   exact List.map_congr_left fun l hl=>by rw[hz l hl];rfl
  subst this
  exact F214.k9.to (hk n vs w ht h)
 | succ d ih=>
  intro i n w vs b hi ht h he hz
  have hlt:i<b.length:=by omega
  refine F214.l5.to ?_
  have hle:=h.le
  simp only[zv,show (i:Int)<(b.length:Int) by omega]
  refine F214.k6.to (qm4 h fun v vs' w1 ht1 h1 hv1 hb1=>C.bg hv1.rd ?_)
  try simp only[C.a6]
  refine F214.k8.to ?_
  try simp only[C.a6]
  rw[qab (n:=(i:Int)+1) (by omega)]
  have et:qb3 b (i:Int)=b.set i []:=by unfold qb3;rw[if_pos (by omega)];simp
  rw[et] at h1
  have el:(b.set i []).length=b.length:=by simp
  rw[←el]
  refine ih (i+1) _ w1 vs' (b.set i []) (by omega) (ht.trans ht1) h1 ?_ fun l hl=>?_
  ·rw[←he, ←y3v, ←y3v,y1k,y1k]
   apply y2r
   intro q
   simp only[y2q,y2u]
   split
   ·rename_i e1;subst e1;simp[hlt]
   ·rfl
  ·obtain⟨q,hq,rfl⟩:=y1y hl
   rw[List.getElem_take,y3d]
   split
   ·rfl
   ·rename_i hne
    rw[y3b] at hq
    refine hz _ ?_
    have hqi:q<i:=by omega
    have:(b.take i)[q]'(by rw[y3b];omega)=b[q]'(by omega):=List.getElem_take
    rw[←this]
    exact y3g _
theorem qxs (h:qbv bu bv vs w b) (hk:∀n vs' w',FTo bv vs w vs' w'→qbv bu bv vs' w' (b.map fun _=>[])→K (y4w j6 n) w'):
  C.i y5c 214 #[y4x (some ⟨bu,0,none⟩)] w K:=by
 refine F214.sh ⟨_,qan _ _ _ Tryz.underlying125,?_⟩
 try simp only[C.ac]
 refine F214.k3.to ?_
 try simp only[zv]
 refine C.ad (v:=bv) h.blk rfl (C.bg h.own.rd ?_)
 rw[qg7,h.len]
 exact qtd (W:=w) (vs0:=vs) hk b.length 0 0 w vs b (by omega) (FTo.refl _ _ _) h (by simp) (by simp)
theorem qpp:qb7 y5c 268=true:=by kernel_rfl
theorem qrf (h:qbv bu bv vs w b) (h1:∀(j:Nat),qea b=false→K (y4w j6 (j:Int)) w) (h2:qea b=true→K (y4w j6 (-1)) w):
  ∀(d i:Nat),i+d=b.length→(∀l∈b.take i,l=[])→
   F298.l2 K bv (.func (.func 268) #[] #[]) (y4w j6 (b.length:Int)) (y4w j6 (i:Int)) w:=by
 have hl:=h.len
 intro d
 induction d with
 | zero=>
  intro i hi hz
  have e:i=b.length:=by omega
  subst e
  refine F298.l2.to ?_
  simp only[zv,show ¬((b.length:Int)<(b.length:Int)) by omega]
  refine F298.k7.to (h2 ?_)
  rw[y2z] at hz
  unfold qea
  rw[y2x]
  intro l hl
  rw[hz l hl];rfl
 | succ d ih=>
  intro i hi hz
  have hlt:i<b.length:=by omega
  have hle:=h.le
  refine F298.l2.to ?_
  simp only[zv,show (i:Int)<(b.length:Int) by omega]
  refine F298.k3.to (C.cq h (by omega) fun g o cs hg _ ho hc _=>C.ad hg hc (qgb qpp (F268.sh (C.bg (h.at_ hlt (by omega)).rd ?_))))
  rw[qak]
  by_cases z:b[i].length>0
  ·simp only[zv,show ((b[i].length:Nat):Int)>0 by omega]
   refine h1 i ?_
   unfold qea
   cases hh:b.all (fun l=>l.isEmpty) with
   | false=>rfl
   | true=>
    have:=y2x.1 hh b[i] (y3g hlt)
    rw[List.isEmpty_iff] at this
    rw[this] at z;simp at z
  ·simp only[zv,show ¬((b[i].length:Nat):Int)>0 by omega]
   refine F298.k6.to ?_
   try simp only[C.a6]
   rw[qab (n:=(i:Int)+1) (by omega)]
   refine ih (i+1) (by omega) fun l hl=>?_
   rw[y2o,y3q] at hl
   rcases hl with c | c
   ·exact hz l c
   ·rw[y0v hlt] at c
    simp only[y2e,y2d] at c
    rw[c]
    exact y0d (by omega)
theorem za0 (h:qbv bu bv vs w b) (hk:K (y5a (qea b)) w):C.i y5c 216 #[y4x (some ⟨bu,0,none⟩)] w K:=by
 refine F216.sh ⟨_,qan _ _ _ Tryz.underlying125,?_⟩
 try simp only[zv]
 refine C.ad (v:=bv) h.blk rfl (F267.sh (F298.sh (C.bg h.own.rd ?_)))
 rw[qg7,h.len]
 refine qrf h (fun j he=>?_) (fun he=>?_) b.length 0 (by omega) (by simp)
 ·simp only[zv,show (j:Int)≥0 by omega]
  rw[he] at hk;exact hk
 ·simp only[zv,show ¬((-1:Int)≥0) by omega]
  rw[he] at hk;exact hk
theorem qy2 {a:Int}:0≤qap a↔0≤a∧a<2048:=by
 unfold qap
 split
 ·rename_i h;constructor <;> intro <;> omega
 ·rename_i h;constructor <;> intro <;> omega
theorem zde {t a:Int} (h:qbv bu bv vs w b) (hk:∀c vs' w',FTo bv vs w vs' w'→qbv bu bv vs' w' (qe7 b t a)→K (y5a c) w'):
  C.i y5c 232 #[y4x (some ⟨bu,0,none⟩),y4w j6 t,y4w j6 a] w K:=by
 have hl:=h.len
 refine F232.sh (ze3 h (fun j hj e=>?_) fun hn=>?_)
 ·subst e
  try simp only[zv]
  have hjb:j<b.length:=by omega
  have eo:fOf b (j:Int)=b[j]:=by
   unfold fOf;rw[if_pos (by omega)];simp[List.getD,hjb]
  have hown:=h.at_ hjb hj
  refine qfe ?_
  unfold qe7 at hk
  rw[eo] at hk
  by_cases z1:qap a<0
  ·simp only[zv,z1]
   rw[if_neg (by omega)] at hk
   exact hk false vs w (FTo.refl _ _ _) h
  simp only[zv,z1]
  refine qh8 hown.rd ?_
  by_cases z2:a∈b[j]
  ·simp only[zv,z2]
   rw[if_neg (fun c=>c.2.2.2 z2)] at hk
   exact hk false vs w (FTo.refl _ _ _) h
  simp only[zv,z2]
  rw[if_pos ⟨by omega,by omega,by omega,z2⟩] at hk
  simp only[y2t] at hk
  have hfew:=h.few (y3g hjb)
  have ha:=qy2.1 (show 0≤qap a by omega)
  refine F232.k4.to (C.a5 (fun w'=>w'.heap[bu]?=some (.cells #[y5a true,bv] 186 (0,0))) fun w1 hf1 _=>⟨hf1.at_ h.blk (by simp),?_⟩)
  have h1:=h.keep0 hf1
  have own1:=hown.keep hf1 (by simp)
  try simp only[zv]
  refine C.ao (v:=bv) (fun w' hw=>⟨_,_,_,hw,rfl⟩) ⟨C.a4 (bsI a) ?_,trivial⟩
  have hw:=New.mk' w1 (.cells #[y4w j6 a] 3)
  have h2:=h1.keep0 hw.fr
  refine⟨h2.blk,C.ci (W0:=qia _) (ys:=[[y4w j6 a]]) (z:=y4w j6 0) (sz:=1) (bytes:=8) Tryz.underlying54 (by kernel_rfl) rfl (by decide) (qhz _) (qg5 _ _) (own1.keep hw.fr (by simp)) (RdS.of_block hw.at_ rfl (by simp) (by simp) (by simp) (by simp)) (qp8 (l:=[a])) (by rw[qak];simp;omega) (by rw[qak];simp;omega) fun v' w3 _ _ o3 f3 g3=>?_,trivial⟩
  have f2:=hf1.trans hw.fr
  have s2:=f2.size
  have nb:bu∉qaa vs[j]:=hown.nb h.blk (by decide)
  refine⟨f3.at_ h2.blk nb,?_⟩
  have b3:qad w3 bv 54 1 (qfn vs):=h2.own.keep' f3 fun x hx=>h.own.ne hown (by decide) x hx
  have hg3:∀y∈qaa v',y∈qaa vs[j]∨w.heap.size≤y:=fun y hy=>by
   rcases g3 y hy with c | c
   ·exact .inl c
   ·exact .inr (by omega)
  refine b3.spot (by rw[qg7];exact hj) fun g o cs hg hb ho hc hs=>⟨C.bb hg o3.one.2 o3.one.1 (by omega) fun w4 hu=>?_,trivial⟩
  have own4:qad w4 bv 54 1 (qfn (vs.set j v')):=by
   rw[qq1]
   exact hs [v'] w4 rfl (by simpa using o3.one.1) (by rw[qk4 ho];exact hu.at_)
  have f03:Fr (qaa vs[j]) w w3:=f2.w.trans f3
  have f4:Fr (qaa bv) w3 w4:=hb ▸ hu.fr
  have nd:(b[j] ++ [a]).Nodup∧∀x∈b[j] ++ [a],0≤x∧x<2048:=by
   have:=h.fit b[j] (y3g hjb)
   constructor
   ·rw[y2w]
    refine⟨this.1,by simp,fun x hx y hy=>?_⟩
    simp only[y2d] at hy
    subst hy
    exact fun e=>z2 (e ▸ hx)
   ·intro x hx
    rw[y3q,y2d] at hx
    rcases hx with c | c
    ·exact this.2 x c
    ·subst c;exact ha
  have h4:=h.set (S:=qaa vs[j]) (v:=v') (l:=b[j] ++ [a]) hj f03 (fun x hx => .inl hx) (by rw[qle];exact o3) hg3 f4 own4 nd
  refine⟨h4.blk,hk true _ w4 ⟨(f03.mono fun x hx=>List.mem_append_right _ (qcf hj hx)).trans (f4.mono fun x hx=>List.mem_append_left _ hx),fun x hx=>?_⟩ h4⟩
  rcases qdg hx with c | c
  ·exact .inl c
  ·rcases hg3 x c with d | d
   ·exact .inl (qcf hj d)
   ·exact .inr d
 ·try simp only[zv]
  have et:qe7 b t a=b:=by unfold qe7;rw[if_neg (fun c=>hn ⟨c.1,c.2.1⟩)]
  rw[et] at hk
  exact hk false vs w (FTo.refl _ _ _) h
end
def vaC (l:List V2):List (List Value):=l.map fun v=>[y4w j6 v.1,y4w j6 v.2]
theorem qa9 (l:List V2):(vaC l).length=l.length:=by simp[vaC]
theorem qta (l k:List V2):vaC (l ++ k)=vaC l ++ vaC k:=by simp[vaC]
theorem qtb {l:List V2}:∀y∈vaC l,∀u∈y,u.oneCell'=true:=by
 intro y hy u hu
 simp only[vaC,y4l] at hy
 obtain⟨x,_,rfl⟩:=hy
 simp only[y4b,y3i,or_false] at hu
 rcases hu with rfl | rfl <;> rfl
structure qcd (w:World) (b o:Nat) (T:TypeId) (cs:Array Value) (tv:Value) (l:List V2):Prop where
 blk:w.heap[b]?=some (.cells cs T (0,0))
 val:cs[o]?=some tv
 own:qad w tv 60 2 (vaC l)
 ne:T≠60
 le:l.length≤16
section
variable {K:VK} {w w':World} {b o:Nat} {T:TypeId} {cs:Array Value} {tv:Value} {l:List V2}
theorem qcd.keep {S:List Nat} (h:qcd w b o T cs tv l) (hf:Fr S w w') (h1:b∉S) (h2:∀x∈qaa tv,x∉S):qcd w' b o T cs tv l:=⟨hf.at_ h.blk h1,h.val,h.own.keep' hf h2,h.ne,h.le⟩
theorem qcd.keep0 (h:qcd w b o T cs tv l) (hf:Fr [] w w'):qcd w' b o T cs tv l:=h.keep hf (by simp) (by simp)
theorem qcd.lt (h:qcd w b o T cs tv l):o<cs.size:=(y0g.1 h.val).1
theorem zgv:(Instr.buildSlice 56 0 #[]).run y5c w = .ok (y4y (some ⟨w.heap.size,0,none⟩) 0 0) (w.alloc (.cells #[] 60)):=by kernel_rfl
theorem qyl (v:V2):(Instr.buildSlice 56 1 #[(0,.agg #[y4w j6 v.1,y4w j6 v.2])]).run y5c w = .ok (y4y (some ⟨w.heap.size,0,none⟩) 1 1) (w.alloc (.cells #[y4w j6 v.1,y4w j6 v.2] 60)):=by kernel_rfl
theorem qo5 {v:Value} {l:List V2} (hv:RdS w v 2 (vaC l)) (hl:l.length*16≤140737488355328) (h:∀v' w',Fr [] w w'→qad w' v' 60 2 (vaC l)→qaj w v'→K v' w'):C.i y5c 80 #[v] w K:=by
 have hv':=hv
 obtain⟨A,c,rfl,h1,h2,h3⟩:=hv
 refine F80.sh ⟨_,qgv (e:=60) _ _ _ _ _ Tryz.underlying56,?_⟩
 cases A with
 | none=>
  have:l=[]:=by
   cases l with
   | nil=>rfl
   | cons x l=>obtain⟨g,o,cs,e,fz,hA,_⟩:=h3 (by simp[vaC]);cases hA
  subst this
  simp only[Option.isNone_none,C.ah]
  exact h _ w (Fr.refl _ _) (qad.nil w 60 2) (qaj.nil w)
 | some a=>
  simp only[Option.isNone_some,C.ac]
  refine F80.k3.to (C.a4 zgv ?_)
  have hn:=New.mk' w (.cells #[] 60)
  refine C.b7 (xs:=[]) (e:=60) (sz:=2) (bytes:=16) (z := .agg #[y4w j6 0,y4w j6 0]) Tryz.underlying56 (by kernel_rfl) rfl (by decide) (qad.of_block hn.at_ rfl (by simp) (by simp) rfl (by simp) (by simp)) (hv'.keep hn.fr) qtb (by rw[qa9];simp;omega) (by rw[qa9];simp;omega) fun v' w' ho hf hb _=>?_
  refine h v' w' (hn.fr.then hf fun x hx=>?_) (by simpa using ho) fun g hg=>?_
  ·rw[qam] at hx
   simp only[Value.ownBlock,y2k] at hx
   exact .inr (by omega)
  ·rcases hb with hb | ⟨g',hb,hle⟩
   ·rw[hb] at hg
    simp only[Value.ownBlock,y2k] at hg
    omega
   ·rw[hg] at hb
    simp only[y2k] at hb
    have:=hn.fr.size
    omega
theorem qvg (h:qcd w b o T cs tv l) (hk:K (y4w j6 (l.length:Int)) w):C.i y5c 229 #[y4x (some ⟨b,o,none⟩)] w K:=by
 refine F229.sh ⟨_,qan _ _ _ Tryz.underlying194,?_⟩
 try simp only[C.ac]
 refine F229.k3.to ?_
 try simp only[zv]
 refine C.ad (v:=tv) h.blk (by simpa using h.val) (C.bg h.own.rd ?_)
 rw[qa9];exact hk
theorem qvd (h:qcd w b o T cs tv l) (hk:∀v' w',Fr [] w w'→qad w' v' 60 2 (vaC l)→qaj w v'→K v' w'):C.i y5c 82 #[y4x (some ⟨b,o,none⟩)] w K:=by
 have hle:=h.le
 refine F82.sh ⟨_,qan _ _ _ Tryz.underlying194,?_⟩
 try simp only[C.ac]
 refine F82.k3.to ?_
 try simp only[zv]
 exact C.ad (v:=tv) h.blk (by simpa using h.val) (qo5 h.own.rd (by omega) hk)
theorem C.cl {k:IntKind} {i:Nat} {v:Value} (h:RdS w v 2 (vaC l)) (hi:i<l.length) (hk:∀g o cs e fz,w.heap[g]?=some (.cells cs e fz)→(cs.toList.drop o).take 2=[y4w j6 l[i].1,y4w j6 l[i].2]→o+2≤cs.size→K (y4x (some ⟨g,o,none⟩)) w):
  C.bk 2 v (y4w k (i:Int)) w K:=by
 refine C.bw h (by omega) (x:=[y4w j6 l[i].1,y4w j6 l[i].2]) (by rw[y2t];simp[vaC,hi]) fun g o cs e fz hg _ hc=>?_
 have c0:=hc 0 (by omega)
 have c1:=hc 1 (by omega)
 simp only[y4j,y0z,y0y] at c0 c1
 have hs:o+1<cs.size:=(y0g.1 c1).1
 refine hk g o cs e fz hg ?_ (by omega)
 apply y2r
 intro j
 rw[y2f,y2h]
 match j with
 | 0=>simpa using c0
 | 1=>simpa using c1
 | j+2=>rw[if_neg (by omega)];rfl
theorem zdy {i:Int} (h:qcd w b o T cs tv l) (h1:∀(j:Nat) (hj:j<l.length),i=(j:Int)→∀w',Fr [] w w'→K (y4z #[V l[j].1 l[j].2,y5a true]) w') (h2:¬(0≤i∧i<l.length)→∀w',Fr [] w w'→K (y4z #[V 0 0,y5a false]) w'):
  C.i y5c 228 #[y4x (some ⟨b,o,none⟩),y4w j6 i] w K:=by
 refine F228.sh (C.av fun x w1 hn=>?_)
 have ln:=hn.is
 have h':=h.keep0 hn.fr
 have no:∀w',Fr [] w w'→Fr [] w w':=fun _ h=>h
 try simp only[C.au]
 have bad:¬(0≤i∧i<l.length)→C.ay y5c (Instr.build 60 #[]) w1 fun x14 w8=>C.ak 2 (y4x (some ⟨x,0,none⟩)) x14 w8 fun w9=>C.an 2 (y4x (some ⟨x,0,none⟩)) w9 fun r10 _=>K (y4z #[r10,y5a false]) w9:=fun hn'=>
  C.a4 qdn (C.a0 hn.at_ rfl qal rfl fun w3 hu=>C.ax hu.at_ rfl (h2 hn' w3 (hn.fr.then hu.fr (by simp;omega))))
 by_cases z1:i<0
 ·simp only[zv,z1]
  exact bad (by omega)
 simp only[zv,z1]
 refine qvg h' ?_
 by_cases z2:i≥(l.length:Int)
 ·simp only[zv,z2]
  exact bad (by omega)
 simp only[zv,z2]
 obtain⟨j,rfl⟩:=y1b (show 0≤i by omega)
 have hj:j<l.length:=by omega
 refine F228.k3.to ?_
 try simp only[zv]
 refine C.ad (v:=tv) h'.blk (by simpa using h.val) (C.cl h'.own.rd hj fun g o' cs' e fz hg hcs ho=>C.br hg (by omega) hcs ?_)
 exact C.a0 (x:=V l[j].1 l[j].2) hn.at_ rfl qal rfl fun w3 hu=>C.ax hu.at_ rfl (h1 j hj rfl w3 (hn.fr.then hu.fr (by simp;omega)))
theorem qcd.store {w1:World} {tv':Value} {l':List V2} {F:World→Prop} (hb:w1.heap[b]?=some (.cells cs T (0,0))) (ho:o<cs.size) (hne:T≠60) (hown:qad w1 tv' 60 2 (vaC l')) (hle:l'.length≤16)
  (hk:∀w',Fr [b] w1 w'→qcd w' b o T (cs.setIfInBounds o tv') tv' l'→F w'):C.ak 1 (y4x (some ⟨b,o,none⟩)) tv' w1 F:=
 C.bb hb hown.one.2 hown.one.1 ho fun w' hu=>hk w' hu.fr ⟨hu.at_,by simp[ho],hown.keep' hu.fr (fun g hg e=>by
  simp only[y2d] at e;subst e;exact hown.nb hb (Ne.symm hne) hg),hne,hle⟩
theorem qx5 (h:qcd w b o T cs tv l) (hk:∀w',Fr [b] w w'→qcd w' b o T (cs.setIfInBounds o (y4y none 0 0)) (y4y none 0 0) []→K (y4z #[]) w'):C.i y5c 146 #[y4x (some ⟨b,o,none⟩)] w K:=by
 refine F146.sh ⟨_,qa0 _ _ _ Tryz.underlying194,?_⟩
 try simp only[zv]
 exact qcd.store h.blk h.lt h.ne (qad.nil _ _ _) (by simp) hk
theorem zbl {v:V2} (h:qcd w b o T cs tv l)
  (h1:(vOk v=true∧l.length<16)→∀tv' w',Fr (b :: qaa tv) w w'→qcd w' b o T (cs.setIfInBounds o tv') tv' (l ++ [v])→(∀x∈qaa tv',x∈qaa tv∨w.heap.size≤x)→K (y5a true) w')
  (h2:¬(vOk v=true∧l.length<16)→∀w',Fr [] w w'→K (y5a false) w'):
  C.i y5c 226 #[y4x (some ⟨b,o,none⟩),V v.1 v.2] w K:=by
 have hv:vOk v=decide (chk v.1 v.2=0):=rfl
 refine F226.sh (C.av fun x w1 hn=>⟨_,qan _ _ _ Tryz.underlying194,?_⟩)
 have ln:=hn.is
 try simp only[zv]
 refine C.ax hn.at_ rfl (qfd v.1 v.2 fun w2 hf2=>?_)
 have f2:=hn.fr.trans hf2
 have h2':=h.keep0 f2
 have x2:=hf2.at_ hn.at_ (by simp)
 try simp only[C.bh]
 by_cases z1:chk v.1 v.2=0
 ·simp only[zv,eq_self,z1,ne_eq,not_true_eq_false]
  refine C.ad (v:=tv) h2'.blk (by simpa using h.val) (C.bg h2'.own.rd ?_)
  rw[qa9]
  by_cases z2:(l.length:Int)≥16
  ·simp only[zv,z2]
   exact h2 (fun c=>by omega) w2 f2
  ·simp only[zv,z2]
   have hlt:l.length<16:=by omega
   have hok:vOk v=true∧l.length<16:=⟨by simpa[hv] using z1,hlt⟩
   have hb:=qac h.blk
   have nx:x∉b :: qaa tv:=fun e=>by
    simp only[y4b] at e
    rcases e with e | e
    ·omega
    ·have:=h.own.lt (qam.1 e);omega
   have hxb:x≠b:=fun e=>nx (by simp[e])
   refine F226.k3.to (C.a5 (fun w'=>w'.heap[x]?=some (.cells #[y4w j6 v.1,y4w j6 v.2] 60 (0,0))) fun w3 hf3 _=>⟨hf3.at_ x2 (by simp),?_⟩)
   have f3:=f2.trans hf3
   have h3:=h.keep0 f3
   have x3:=hf3.at_ x2 (by simp)
   try simp only[zv]
   refine C.bn (vs:=[y4w j6 v.1,y4w j6 v.2]) (fun w' hw=>⟨_,_,_,hw,by simp,rfl⟩) ?_
   have nb:=h.own.nb h.blk (Ne.symm h.ne)
   have fin:∀w4 tv' w5,Fr [] w w4→qad w5 tv' 60 2 (vaC l ++ [[y4w j6 v.1,y4w j6 v.2]])→Fr (qaa tv) w4 w5→(∀g∈qaa tv',g∈qaa tv∨w4.heap.size≤g)→w4.heap[b]?=some (.cells cs T (0,0))→w4.heap[x]?=some (.cells #[y4w j6 v.1,y4w j6 v.2] 60 (0,0))→
     w5.heap[x]?=some (.cells #[y4w j6 v.1,y4w j6 v.2] 60 (0,0))∧C.ak 1 (y4x (some ⟨b,o,none⟩)) tv' w5 fun w6=>(w6.heap[x]?=some (.cells #[y4w j6 v.1,y4w j6 v.2] 60 (0,0))∧F226.k4 K w6):=by
    intro w4 tv' w5 f4 o5 f5 g5 b4 x4
    have x5:=f5.at_ x4 (fun e=>nx (by simp[e]))
    refine⟨x5,qcd.store (l':=l ++ [v]) (f5.at_ b4 nb) h.lt h.ne (by rw[qta];exact o5) (by simp;omega) fun w6 f6 h6=>⟨f6.at_ x5 (by simpa using hxb),F226.k4.to (h1 hok tv' w6 ?_ h6 fun g hg=>?_)⟩⟩
    ·exact (f4.w.trans (f5.mono fun z hz=>by simp[hz])).trans (f6.mono fun z hz=>by simp only[y2d] at hz;simp[hz])
    ·rcases g5 g hg with c | c
     ·exact .inl c
     ·have:=f4.size;exact .inr (by omega)
   have bld:∀w4,Fr [] w w4→w4.heap[x]?=some (.cells #[y4w j6 v.1,y4w j6 v.2] 60 (0,0))→∀(F:VK),(∀tv' w5,qad w5 tv' 60 2 (vaC l ++ [[y4w j6 v.1,y4w j6 v.2]])→Fr (qaa tv) (w4.alloc (.cells #[y4w j6 v.1,y4w j6 v.2] 60)) w5→(∀g∈qaa tv',g∈qaa tv∨(w4.alloc (.cells #[y4w j6 v.1,y4w j6 v.2] 60)).heap.size≤g)→F tv' w5)→
     C.ay y5c (Builtin.append_ #[56,56] 56 #[tv,y4y (some ⟨w4.heap.size,0,none⟩) 1 1]) (w4.alloc (.cells #[y4w j6 v.1,y4w j6 v.2] 60)) F:=by
    intro w4 f4 x4 F hF
    have hw:=New.mk' w4 (.cells #[y4w j6 v.1,y4w j6 v.2] 60)
    refine C.ci (W0:=qia _) (ys:=[[y4w j6 v.1,y4w j6 v.2]]) (z:=V 0 0) (sz:=2) (bytes:=16) Tryz.underlying56 (by kernel_rfl) rfl (by decide) (qhz _) (qg5 _ _) (h.own.keep (f4.trans hw.fr) (by simp)) (RdS.of_block hw.at_ rfl (by simp) (by simp) (by simp) (by simp)) (qtb (l:=[v])) (by rw[qa9];simp;omega) (by rw[qa9];simp;omega) fun v' w' _ _ c d e'=>hF v' w' c d e'
   refine⟨C.ad h3.blk (by simpa using h.val) ⟨x3,C.a4 (qyl v) ?_,trivial⟩,C.a4 (qyl v) ?_,trivial⟩
   ·have hw:=New.mk' w3 (.cells #[y4w j6 v.1,y4w j6 v.2] 60)
    refine⟨hw.fr.at_ x3 (by simp),bld w3 f3 x3 _ fun tv' w5 o5 f5 g5=>?_,trivial⟩
    have:=fin _ tv' w5 (f3.trans hw.fr) o5 f5 g5 (hw.fr.at_ h3.blk (by simp)) (hw.fr.at_ x3 (by simp))
    exact⟨this.1,this.2,trivial⟩
   ·have hw:=New.mk' w3 (.cells #[y4w j6 v.1,y4w j6 v.2] 60)
    refine⟨hw.fr.at_ x3 (by simp),C.ad (hw.fr.at_ h3.blk (by simp)) (by simpa using h.val) ⟨hw.fr.at_ x3 (by simp),bld w3 f3 x3 _ fun tv' w5 o5 f5 g5=>?_,trivial⟩,trivial⟩
    have:=fin _ tv' w5 (f3.trans hw.fr) o5 f5 g5 (hw.fr.at_ h3.blk (by simp)) (hw.fr.at_ x3 (by simp))
    exact⟨this.1,this.2,trivial⟩
 ·simp only[zv,z1,ne_eq,not_false_eq_true]
  exact h2 (fun c=>z1 (by simpa[hv] using c.1)) w2 f2
end
section
variable {K:VK} {w w':World} {b o:Nat} {T:TypeId} {cs:Array Value} {tv:Value} {l:List V2}
theorem zdz (h:qcd w b o T cs tv l)
  (h1:∀v,l.getLast?=some v→∀tv' w',Fr [b] w w'→qcd w' b o T (cs.setIfInBounds o tv') tv' l.dropLast→qaa tv'=qaa tv→K (y4z #[V v.1 v.2,y5a true]) w')
  (h2:l=[]→∀w',Fr [] w w'→K (y4z #[V 0 0,y5a false]) w'):
  C.i y5c 156 #[y4x (some ⟨b,o,none⟩)] w K:=by
 have hle:=h.le
 have hb:=qac h.blk
 refine F156.sh (C.av fun x w1 hn=>?_)
 have l1:=hn.is
 have h':=h.keep0 hn.fr
 refine qvg h' ?_
 try simp only[zv]
 rw[qab (n:=(l.length:Int)-1) (by omega)]
 have x1:=hn.at_
 have tail:∀(v:V2) (c:Bool) y w2,y≠x→w2.heap[x]?=some (.cells #[y4w j6 0,y4w j6 0] 60 (0,0))→w2.heap[y]?=some (.cells (V v.1 v.2).cells 60 (0,0))→(∀w',Fr [x] w2 w'→K (y4z #[V v.1 v.2,y5a c]) w')→
   F156.k4 K (y4x (some ⟨x,0,none⟩)) (y4x (some ⟨y,0,none⟩)) (y5a c) w2:=fun v c y w2 hne hx hy hk=>
  F156.k4.to (C.ax hy rfl (C.a0 (x:=V v.1 v.2) hx rfl qal rfl fun w3 hu=>C.ax hu.at_ rfl (hk w3 hu.fr)))
 refine zdy h' (fun j hj e w2 hf2=>?_) (fun hno w2 hf2=>?_)
 ·have hne:l≠[]:=by intro c;subst c;simp at hj
  have hlast:l.getLast?=some l[j]:=by
   have:j=l.length-1:=by omega
   subst this
   rw[List.getLast?_eq_getElem?,y0v (by omega)]
  try simp only[zv]
  refine C.av fun y w3 hn3=>C.a0 (x:=V l[j].1 l[j].2) hn3.at_ rfl qal rfl fun w4 hu4=>?_
  have l3:=hn3.is
  have s2:=hf2.size
  have sx:=qac hn.at_
  have hyx:y≠x:=by omega
  have f3:=(hn.fr.trans hf2).trans hn3.fr
  have f4:Fr [] w w4:=f3.then hu4.fr (by simp;omega)
  have h4:=h.keep0 f4
  have x4:=hu4.fr.at_ ((hf2.trans hn3.fr).at_ x1 (by simp)) (by simp;omega)
  have y4:=hu4.at_
  refine C.a5 (fun _=>True) fun w5 hf5 _=>⟨trivial,?_⟩
  have h5:=h4.keep0 hf5
  have x5:=hf5.at_ x4 (by simp)
  have y5:=hf5.at_ y4 (by simp)
  obtain⟨A,cp,hA0,hcp,hA⟩:=h5.own.cap
  have hnn:A≠none:=fun e=>by have:=hA e;simp[vaC,hne] at this
  have hsl:∀w',(Instr.sliceAt 56 tv none (some (y4w j6 ((l.length:Int)-1))) none).run y5c w' = .ok (y4y A (l.length-1) cp) w':=fun w'=>by
   rw[hA0]
   have:=qfx (P:=y5c) (w:=w') (t:=56) (e:=60) (sz:=2) A (vaC l).length cp j6 ((l.length:Int)-1) Tryz.underlying56 (by kernel_rfl) (by omega) (by rw[qa9] at hcp;omega)
   rw[this]
   congr 2
   omega
  have o5:=h5.own
  rw[hA0] at o5
  have ot:=o5.take (l.length-1) (by rw[qa9];omega) (fun e=>absurd e hnn)
  have ed:vaC l.dropLast=(vaC l).take (l.length-1):=by simp[vaC,List.dropLast_eq_take]
  rw[←ed] at ot
  have fin:C.ak 1 (y4x (some ⟨b,o,none⟩)) (y4y A (l.length-1) cp) w5 fun w6=>(True∧F156.k4 K (y4x (some ⟨x,0,none⟩)) (y4x (some ⟨y,0,none⟩)) (y5a true) w6):=by
   refine qcd.store (l':=l.dropLast) h5.blk h.lt h.ne ot (by simp;omega) fun w6 f6 h6=>⟨trivial,tail l[j] true y w6 hyx (f6.at_ x5 (by simp;omega)) (f6.at_ y5 (by simp;omega)) fun w7 f7=>?_⟩
   have fb:=qje A (l.length-1) (vaC l).length cp cp
   refine h1 l[j] hlast (y4y A (l.length-1) cp) w7 (((f4.trans hf5).w.trans f6).then f7 (by simp;omega)) (h6.keep f7 (by simp;omega) (fun z hz=>?_)) ?_
   ·rw[fb, ←hA0] at hz
    have:=h.own.lt (qam.1 hz)
    simp;omega
   ·rw[fb, ←hA0]
  have e1:IntKind.i64.wrap ((l.length:Int)-1)=(l.length:Int)-1:=qab (by omega)
  refine⟨C.ad (v:=tv) h5.blk (by simpa using h.val) ⟨trivial,C.ad (v:=tv) h5.blk (by simpa using h.val) ⟨trivial,C.bg h5.own.rd ?_⟩,trivial⟩,C.ad (v:=tv) h5.blk (by simpa using h.val) ⟨trivial,C.bg h5.own.rd ?_⟩,trivial⟩
  ·rw[qa9]
   try simp only[C.bo]
   rw[e1]
   exact⟨_,fun w' _=>hsl w',fin,trivial⟩
  ·rw[qa9]
   try simp only[C.bo]
   rw[e1]
   exact⟨C.ad (v:=tv) h5.blk (by simpa using h.val) ⟨trivial,⟨_,fun w' _=>hsl w',fin,trivial⟩⟩,trivial⟩
 ·have he:l=[]:=y0d (by omega)
  try simp only[zv]
  refine C.av fun y w3 hn3=>C.a0 (x:=V 0 0) hn3.at_ rfl qal rfl fun w4 hu4=>?_
  have l3:=hn3.is
  have s2:=hf2.size
  have sx:=qac hn.at_
  have f4:Fr [] w w4:=((hn.fr.trans hf2).trans hn3.fr).then hu4.fr (by simp;omega)
  have x4:=hu4.fr.at_ ((hf2.trans hn3.fr).at_ x1 (by simp)) (by simp;omega)
  exact tail (0,0) false y w4 (by omega) x4 hu4.at_ fun w5 hf5=>h2 he w5 (f4.then hf5 (by simp;omega))
theorem qk2 (l:List V2) (v:V2):qb4 (l ++ [v])=if v.1=2∧v.2∉qb4 l then qb4 l ++ [v.2] else qb4 l:=by
 unfold qb4;rw[List.foldl_append];rfl
theorem qms:∀(n:Nat) (l:List V2),l.length=n→(qb4 l).length≤n:=by
 intro n
 induction n with
 | zero=>intro l hl;rw[y0d hl];simp[qb4]
 | succ n ih=>
  intro l hl
  have hne:l≠[]:=by intro c;subst c;simp at hl
  rw[←List.dropLast_concat_getLast hne,qk2]
  have:=ih l.dropLast (by simp;omega)
  split
  ·rw[y2g];simp;omega
  ·omega
theorem qvi {W:World} {u:Value} (hl:l.length≤16) (hk:∀v w',Fr [] W w'→qaj W v→qad w' v 3 1 (qag (qb4 l))→K v w'):
  ∀(d i:Nat) (w:World) (v:Value),i+d=l.length→Fr [] W w→qad w u 60 2 (vaC l)→qaj W v→qad w v 3 1 (qag (qb4 (l.take i)))→
   F161.l3 K v u (y4w j6 (l.length:Int)) (y4w j6 (i:Int)) w:=by
 intro d
 induction d with
 | zero=>
  intro i w v hi hf hu hn hv
  have e:i=l.length:=by omega
  subst e
  refine F161.l3.to ?_
  simp only[zv,show ¬((l.length:Int)<(l.length:Int)) by omega]
  rw[y2z] at hv
  exact F161.k9.to (hk v w hf hn hv)
 | succ d ih=>
  intro i w v hi hf hu hn hv
  have hlt:i<l.length:=by omega
  refine F161.l3.to ?_
  simp only[zv,show (i:Int)<(l.length:Int) by omega]
  refine F161.k4.to (C.cl hu.rd hlt fun g o' cs' e fz hg hcs ho=>C.br hg (by omega) hcs ?_)
  refine C.av fun y w1 hn1=>C.a0 (x:=V l[i].1 l[i].2) hn1.at_ rfl qal rfl fun w2 hu2=>?_
  have l1:=hn1.is
  have f2:Fr [] w w2:=hn1.fr.then hu2.fr (by simp;omega)
  have y2:=hu2.at_
  have hv2:=hv.keep f2 (by simp)
  have hu2':=hu.keep f2 (by simp)
  have e1:l.take (i+1)=l.take i ++ [l[i]]:=by rw[y2o,y0v hlt];rfl
  have hlen:=qms i (l.take i) (by rw[y3b];omega)
  have step:∀w' v',Fr [] W w'→qad w' u 60 2 (vaC l)→qaj W v'→qad w' v' 3 1 (qag (qb4 (l.take (i+1))))→F161.k8 K v' u (y4w j6 (l.length:Int)) (y4w j6 (i:Int)) w':=fun w' v' hf' hu' hn' hv'=>by
   refine F161.k8.to ?_
   try simp only[C.a6]
   rw[qab (n:=(i:Int)+1) (by omega)]
   exact ih (i+1) w' v' (by omega) hf' hu' hn' hv'
  rw[e1,qk2] at step
  try simp only[zv]
  refine C.ad (v:=y4w j6 l[i].2) y2 rfl ?_
  refine C.ad (v:=y4w j6 l[i].1) y2 rfl ?_
  by_cases z1:l[i].1=2
  ·simp only[zv,eq_self,z1]
   refine qh8 hv2.rd ?_
   by_cases z2:l[i].2∈qb4 (l.take i)
   ·simp only[zv,z2]
    rw[if_neg (fun c=>c.2 z2)] at step
    exact step w2 v (hf.trans f2) hu2' hn hv2
   ·simp only[zv,z2]
    rw[if_pos ⟨z1,z2⟩] at step
    refine C.cu (hf.trans f2) hn hv2 (by omega) fun v' w3 hf3 hn3 ho3 fr3 _=>step w3 v' hf3 (hu2'.keep' fr3 (fun x hx=>hu2'.ne hv2 (by decide) x hx)) hn3 ho3
  ·simp only[zv,z1]
   rw[if_neg (fun c=>z1 c.1)] at step
   exact step w2 v (hf.trans f2) hu2' hn hv2
theorem zd2 (h:qcd w b o T cs tv l) (hk:∀v w',Fr [] w w'→qaj w v→qad w' v 3 1 (qag (qb4 l))→K v w'):C.i y5c 161 #[y4x (some ⟨b,o,none⟩)] w K:=by
 refine F161.sh (qvd h fun u w1 hf1 hu1 hn1=>C.bg hu1.rd ?_)
 rw[qa9]
 exact qvi (W:=w) h.le hk l.length 0 w1 _ (by omega) hf1 hu1 (qaj.nil _) (qad.nil _ _ _)
end
end Go.Proofs.YtcakfaakbpdklaaGreatDoorV
