/- Part 6 of what the law needs: own lemmas, in the order in which they build. -/
import Derived.Shelf.Spec.TrailingZeros
import Derived.Test.YtcakfaakbpdklaaGreatDoorProg
import Derived.Test.YtcakfaakbpdklaaGreatDoorTopFrees05
set_option linter.unusedSimpArgs false
set_option linter.unusedVariables false
set_option maxRecDepth 100000
namespace Go.Proofs.YtcakfaakbpdklaaGreatDoorV
open Go Go.Proofs
open Go.Proofs.Tryz renaming prog→y5c
noncomputable section
variable {K:VK} {w:World} {x0 x1 x2 x3 y0 y1 y2 y3 y4 y5 y6 y9 y10 y20 y21:Value}

theorem F172.sh (h:(C.i y5c 66 #[x0,(.int .i64 0),(.int .i64 2048)] w fun a b=>
 C.ay y5c (Instr.makeSlice 52 a a) b fun c d=>
 C.ay y5c (Instr.build 295 #[(0,(.bool true)),(1,c)]) d fun f g=>
 C.a3 (.cells (Value.cells f) 295) g fun i j=>
 K i j)):C.i y5c 172 #[x0] w K:=q9 (A:=A0) (args:=[x0]) (qq h)
namespace F179
def ann:Ann:=⟨[(4,[3,9,10,20,21]),(6,[3,9,10,20,21]),(7,[10])],[(3,[3,9,10,20,21])],[],[],none⟩
variable (K:VK) (y3 y9 y10 y20 y21:Value) (w:World)
def k7:Prop:=nk ann 30 [(10,y10)] w [1,1,1] Tryz.f179 K
def l3:Prop:=nl ann 30 [(3,y3),(9,y9),(10,y10),(20,y20),(21,y21)] w [1,1,0,1,0] Tryz.f179 K
def k4:Prop:=nk ann 30 [(3,y3),(9,y9),(10,y10),(20,y20),(21,y21)] w [1,1,0,1,0,0,1,1] Tryz.f179 K
def k6:Prop:=nk ann 30 [(3,y3),(9,y9),(10,y10),(20,y20),(21,y21)] w [1,1,0,1,0,0,1,1,1] Tryz.f179 K
attribute [irreducible] k7 l3 k4 k6
end F179
theorem F179.k7.to (h:(K y10 w)):F179.k7 K y10 w:=qq h
theorem F179.l3.to (h:(C.aj .lss y21 y20 w fun a b=>
 C.am a (F179.k4 K y3 y9 y10 y20 y21 b) (F179.k7 K y10 b))):F179.l3 K y3 y9 y10 y20 y21 w:=by unfold F179.l3 nl;exact qah (qq h)
theorem F179.k4.to (h:(C.bk 1 y9 y21 w fun a b=>
 C.ak 1 a y3 b fun c=>
 F179.k6 K y3 y9 y10 y20 y21 c)):F179.k4 K y3 y9 y10 y20 y21 w:=qq h
theorem F179.k6.to (h:(C.aj .add y21 (.int .i64 1) w fun a b=>
 F179.l3 K y3 y9 y10 y20 a b)):F179.k6 K y3 y9 y10 y20 y21 w:=qq h
theorem F179.sh (h:(C.i y5c 245 #[x0,x1,x2] w fun a b=>
 C.a1 0 a b fun c d=>
 C.a1 1 a d fun f g=>
 C.bl c g fun i j=>
 F179.l3 K x3 c f i (.int .i64 0) j)):C.i y5c 179 #[x0,x1,x2,x3] w K:=q9 (A:=F179.ann) (args:=[x0,x1,x2,x3]) (qq h)
namespace F245
def ann:Ann:=⟨[(3,[0,1,2])],[],[],[],none⟩
variable (K:VK) (y0 y1 y2:Value) (w:World)
def k3:Prop:=nk ann 57 [(0,y0),(1,y1),(2,y2)] w [1,1] Tryz.f245 K
attribute [irreducible] k3
end F245
theorem F245.k3.to (h:(C.ae y0 w fun a b=>
 C.ab 1 a b fun c d=>
 C.ai c d fun f g=>
 C.aj .add y1 y2 g fun i j=>
 C.aj .add y1 y2 j fun k m=>
 C.ay y5c (Instr.sliceAt 52 f (some y1) (some i) (some k)) m fun o p=>
 K (.tuple #[o,(.bool true)]) p)):F245.k3 K y0 y1 y2 w:=qq h
theorem F245.sh (h:(C.bi y5c .eql 238 (.tmp 8) (.const (.pointer none)) x0 (.pointer none) w fun a b=>
 C.q false a (fun K=>K x0 b) b fun c d=>
 C.q false a (fun K=>C.ae c d K) d fun f g=>
 C.q false a (fun K=>C.ab 0 f g K) g fun i j=>
 C.q false a (fun K=>C.ai i j K) j fun k m=>
 C.q false a (fun K=>C.bf k m K) m fun o p=>
 C.a2 (some a) (some (.bool true)) (some o) p fun q r=>
 C.q false q (fun K=>K x1 r) r fun s t=>
 C.q false q (fun K=>C.aj .lss s (.int .i64 0) t K) t fun u v=>
 C.a2 (some q) (some (.bool true)) (some u) v fun x y=>
 C.q false x (fun K=>K x2 y) y fun z aa=>
 C.q false x (fun K=>C.aj .lss z (.int .i64 0) aa K) aa fun ab ac=>
 C.a2 (some x) (some (.bool true)) (some ab) ac fun ad ae=>
 C.q false ad (fun K=>K x1 ae) ae fun af ag=>
 C.q false ad (fun K=>K x0 ag) ag fun ah ai=>
 C.q false ad (fun K=>C.ae ah ai K) ai fun aj ak=>
 C.q false ad (fun K=>C.ab 1 aj ak K) ak fun al am=>
 C.q false ad (fun K=>C.ai al am K) am fun an ao=>
 C.q false ad (fun K=>C.bl an ao K) ao fun ap aq=>
 C.q false ad (fun K=>C.aj .gtr af ap aq K) aq fun ar au=>
 C.a2 (some ad) (some (.bool true)) (some ar) au fun av aw=>
 C.q false av (fun K=>K x2 aw) aw fun ax ay=>
 C.q false av (fun K=>K x0 ay) ay fun az ba=>
 C.q false av (fun K=>C.ae az ba K) ba fun bb bc=>
 C.q false av (fun K=>C.ab 1 bb bc K) bc fun bd be=>
 C.q false av (fun K=>C.ai bd be K) be fun bf bg=>
 C.q false av (fun K=>C.bl bf bg K) bg fun bh bi=>
 C.q false av (fun K=>K x1 bi) bi fun bj bk=>
 C.q false av (fun K=>C.aj .sub bh bj bk K) bk fun bl bm=>
 C.q false av (fun K=>C.aj .gtr ax bl bm K) bm fun bn bo=>
 C.a2 (some av) (some (.bool true)) (some bn) bo fun bp bq=>
 C.am bp (K (.tuple #[(.slice none 0 0),(.bool false)]) bq) (F245.k3 K x0 x1 x2 bq))):C.i y5c 245 #[x0,x1,x2] w K:=q9 (A:=F245.ann) (args:=[x0,x1,x2]) (qq h)

theorem F247.sh (h:(C.i y5c 179 #[x0,x1,(.int .i64 1),x2] w fun a b=>
 K a b)):C.i y5c 247 #[x0,x1,x2] w K:=q9 (A:=A0) (args:=[x0,x1,x2]) (qq h)
namespace F257
def ann:Ann:=⟨[(4,[6])],[],[],[],none⟩
variable (K:VK) (y6:Value) (w:World)
def k4:Prop:=nk ann 19 [(6,y6)] w [1,1,1] Tryz.f257 K
attribute [irreducible] k4
end F257
theorem F257.k4.to (h:(C.bk 1 y6 (.int .i64 0) w fun a b=>
 C.ai a b fun c d=>
 K (.tuple #[c,(.bool true)]) d)):F257.k4 K y6 w:=qq h
theorem F257.sh (h:(C.i y5c 245 #[x0,x1,(.int .i64 1)] w fun a b=>
 C.a1 0 a b fun c d=>
 C.a1 1 a d fun f g=>
 C.bf f g fun i j=>
 C.am i (K (.tuple #[(.int .i64 0),(.bool false)]) j) (F257.k4 K c j))):C.i y5c 257 #[x0,x1] w K:=q9 (A:=F257.ann) (args:=[x0,x1]) (qq h)
namespace F308
def ann:Ann:=⟨[(3,[0])],[],[],[],none⟩
variable (K:VK) (y0:Value) (w:World)
def k3:Prop:=nk ann 10 [(0,y0)] w [1,1] Tryz.f308 K
attribute [irreducible] k3
end F308
theorem F308.k3.to (h:(C.ae y0 w fun a b=>
 C.ab 1 a b fun c d=>
 C.ai c d fun f g=>
 C.bl f g fun i j=>
 K i j)):F308.k3 K y0 w:=qq h
theorem F308.sh (h:(C.bi y5c .eql 238 (.tmp 3) (.const (.pointer none)) x0 (.pointer none) w fun a b=>
 C.am a (K (.int .i64 0) b) (F308.k3 K x0 b))):C.i y5c 308 #[x0] w K:=q9 (A:=F308.ann) (args:=[x0]) (qq h)

theorem F116.sh (h:(C.i y5c 66 #[x0,(.int .i64 0),(.int .i64 2048)] w fun a b=>
 C.ay y5c (Instr.build 255 #[(0,(.bool true)),(1,a)]) b fun c d=>
 C.a3 (.cells (Value.cells c) 255) d fun f g=>
 K f g)):C.i y5c 116 #[x0] w K:=q9 (A:=A0) (args:=[x0]) (qq h)
namespace F178
def ann:Ann:=⟨[(3,[0,1])],[],[],[(3,(.take 0 (.take 1 (.take 3 (.take 4 (.take 7 (.take 11 (.take 12 (.take 2 (.take 5 (.take 8 (.take 9 (.go 6 (.take 10 (.take 13 (.go 14 .fin .fin))) .fin)))))))))))))],none⟩
variable (K:VK) (y0 y1:Value) (w:World)
def k3:Prop:=nk ann 28 [(0,y0),(1,y1)] w [1,1] Tryz.f178 K
attribute [irreducible] k3
end F178
theorem F178.k3.to (h:(C.a9 w fun S a=>
 C.ae y0 a fun b c=>
 C.ab 2 b c fun d f=>
 C.ae y0 f fun g i=>
 C.ab 2 g i fun j k=>
 ∃m,(∀w',S w'→((do eqGuard .quo 3 (.tmp 15) (.const (.int .i64 64)) y1 (.int .i64 64);binOp .quo 3 y1 (.int .i64 64):Sem Value)).run y5c w' = .ok m w')∧(C.bs 32 1 d m k fun o p=>
 ∃q,(∀w',S w'→((do eqGuard .rem 3 (.tmp 21) (.const (.int .i64 64)) y1 (.int .i64 64);binOp .rem 3 y1 (.int .i64 64):Sem Value)).run y5c w' = .ok q w')∧(∃r,(∀w',S w'→((do eqGuard .shl 210 (.const (.int .u64 1)) (.tmp 22) (.int .u64 1) q;binOp .shl 210 (.int .u64 1) q:Sem Value)).run y5c w' = .ok r w')∧((C.ai o p fun s t=>
 (S t∧
 ∃u,(∀w',S w'→((do eqGuard .or 210 (.tmp 20) (.tmp 23) s r;binOp .or 210 s r:Sem Value)).run y5c w' = .ok u w')∧(C.bs 32 1 j m t fun v x=>
 (C.ak 1 v u x fun y=>
 (S y∧
 K (.bool true) y))∧True)))∧True))))):F178.k3 K y0 y1 w:=qq h
theorem F178.sh (h:(C.i y5c 243 #[x0,x1] w fun a b=>
 C.bf a b fun c d=>
 C.q false c (fun K=>K x0 d) d fun f g=>
 C.q false c (fun K=>K x1 g) g fun i j=>
 C.q false c (fun K=>C.i y5c 244 #[f,i] j K) j fun k m=>
 C.a2 (some c) (some (.bool true)) (some k) m fun o p=>
 C.am o (K (.bool false) p) (F178.k3 K x0 x1 p))):C.i y5c 178 #[x0,x1] w K:=q9 (A:=F178.ann) (args:=[x0,x1]) (qq h)
namespace F202
def ann:Ann:=⟨[(4,[0,3,4]),(5,[0,3,4]),(6,[3])],[(3,[0,3,4])],[],[],none⟩
variable (K:VK) (y0 y3 y4:Value) (w:World)
def k6:Prop:=nk ann 18 [(3,y3)] w [1,1,1] Tryz.f202 K
def l3:Prop:=nl ann 18 [(0,y0),(3,y3),(4,y4)] w [1,1,0,1,0] Tryz.f202 K
def k5:Prop:=nk ann 18 [(0,y0),(3,y3),(4,y4)] w [1,1,0,1,0,0,1] Tryz.f202 K
def k4:Prop:=nk ann 18 [(0,y0),(3,y3),(4,y4)] w [1,1,0,1,0,0,1,1] Tryz.f202 K
attribute [irreducible] k6 l3 k5 k4
end F202
theorem F202.k6.to (h:(K y3 w)):F202.k6 K y3 w:=qq h
theorem F202.l3.to (h:(C.aj .geq y4 (.int .i64 0) w fun a b=>
 C.am a (F202.k5 K y0 y3 y4 b) (F202.k6 K y3 b))):F202.l3 K y0 y3 y4 w:=by unfold F202.l3 nl;exact qah (qq h)
theorem F202.k5.to (h:(C.ay y5c (Instr.buildSlice 54 1 #[(0,y4)]) w fun a b=>
 C.ay y5c (Builtin.append_ #[54,54] 54 #[y3,a]) b fun c d=>
 F202.k4 K y0 c y4 d)):F202.k5 K y0 y3 y4 w:=qq h
theorem F202.k4.to (h:(C.aj .add y4 (.int .i64 1) w fun a b=>
 C.i y5c 258 #[y0,a] b fun c d=>
 F202.l3 K y0 y3 c d)):F202.k4 K y0 y3 y4 w:=qq h
theorem F202.sh (h:(C.i y5c 258 #[x0,(.int .i64 0)] w fun a b=>
 F202.l3 K x0 (.slice none 0 0) a b)):C.i y5c 202 #[x0] w K:=q9 (A:=F202.ann) (args:=[x0]) (qq h)

theorem F243.sh (h:(C.bi y5c .neq 177 (.tmp 5) (.const (.pointer none)) x0 (.pointer none) w fun a b=>
 C.q true a (fun K=>K x0 b) b fun c d=>
 C.q true a (fun K=>C.ae c d K) d fun f g=>
 C.q true a (fun K=>C.ab 0 f g K) g fun i j=>
 C.q true a (fun K=>C.ai i j K) j fun k m=>
 C.a2 (some a) (some k) (some (.bool false)) m fun o p=>
 C.q true o (fun K=>K x1 p) p fun q r=>
 C.q true o (fun K=>C.aj .geq q (.int .i64 0) r K) r fun s t=>
 C.a2 (some o) (some s) (some (.bool false)) t fun u v=>
 C.q true u (fun K=>K x1 v) v fun x y=>
 C.q true u (fun K=>K x0 y) y fun z aa=>
 C.q true u (fun K=>C.ae z aa K) aa fun ab ac=>
 C.q true u (fun K=>C.ab 1 ab ac K) ac fun ad ae=>
 C.q true u (fun K=>C.ai ad ae K) ae fun af ag=>
 C.q true u (fun K=>C.aj .lss x af ag K) ag fun ah ai=>
 C.a2 (some u) (some ah) (some (.bool false)) ai fun aj ak=>
 K aj ak)):C.i y5c 243 #[x0,x1] w K:=q9 (A:=A0) (args:=[x0,x1]) (qq h)

theorem F244.sh (h:(C.i y5c 243 #[x0,x1] w fun a b=>
 C.q true a (fun K=>K x0 b) b fun c d=>
 C.q true a (fun K=>K x1 d) d fun f g=>
 C.q true a (fun K=>C.bi y5c .quo 3 (.tmp 10) (.const (.int .i64 64)) f (.int .i64 64) g K) g fun i j=>
 C.q true a (fun K=>C.ae c j K) j fun k m=>
 C.q true a (fun K=>C.ab 2 k m K) m fun o p=>
 C.q true a (fun K=>C.bs 32 1 o i p K) p fun q r=>
 C.q true a (fun K=>C.ai q r K) r fun s t=>
 C.q true a (fun K=>K x1 t) t fun u v=>
 C.q true a (fun K=>C.bi y5c .rem 3 (.tmp 16) (.const (.int .i64 64)) u (.int .i64 64) v K) v fun x y=>
 C.q true a (fun K=>C.bi y5c .shr 210 (.tmp 15) (.tmp 17) s x y K) y fun z aa=>
 C.q true a (fun K=>C.bi y5c .and 210 (.tmp 18) (.const (.int .u64 1)) z (.int .u64 1) aa K) aa fun ab ac=>
 C.q true a (fun K=>C.aj .eql ab (.int .u64 1) ac K) ac fun ad ae=>
 C.a2 (some a) (some ad) (some (.bool false)) ae fun af ag=>
 K af ag)):C.i y5c 244 #[x0,x1] w K:=q9 (A:=A0) (args:=[x0,x1]) (qq h)
namespace F258
def ann:Ann:=⟨[(3,[0,1]),(6,[0,5,6]),(9,[0,6]),(11,[0,6])],[(7,[0,5,6])],[],[],none⟩
variable (K:VK) (y0 y1 y5 y6:Value) (w:World)
def k3:Prop:=nk ann 60 [(0,y0),(1,y1)] w [1,1] Tryz.f258 K
def l7:Prop:=nl ann 60 [(0,y0),(5,y5),(6,y6)] w [1,1,1,1,1,0] Tryz.f258 K
def k6:Prop:=nk ann 60 [(0,y0),(5,y5),(6,y6)] w [1,1,1,1,1,0,0,1] Tryz.f258 K
def k9:Prop:=nk ann 60 [(0,y0),(6,y6)] w [1,1,1,1,1,0,0,0,0,1] Tryz.f258 K
def k11:Prop:=nk ann 60 [(0,y0),(6,y6)] w [1,1,1,1,1,0,0,0,0,1,1] Tryz.f258 K
attribute [irreducible] k3 l7 k6 k9 k11
end F258
theorem F258.k3.to (h:(C.ay y5c (Builtin.max_ #[3,3] 3 #[y1,(.int .i64 0)]) w fun a b=>
 C.bi y5c .quo 3 (.tmp 27) (.const (.int .i64 64)) a (.int .i64 64) b fun c d=>
 C.ae y0 d fun f g=>
 C.ab 2 f g fun i j=>
 C.bs 32 1 i c j fun k m=>
 C.ai k m fun o p=>
 C.bi y5c .rem 3 (.tmp 33) (.const (.int .i64 64)) a (.int .i64 64) p fun q r=>
 C.bi y5c .shr 210 (.tmp 32) (.tmp 34) o q r fun s t=>
 C.bi y5c .rem 3 (.tmp 36) (.const (.int .i64 64)) a (.int .i64 64) t fun u v=>
 C.bi y5c .shl 210 (.tmp 35) (.tmp 37) s u v fun x y=>
 C.bi y5c .quo 3 (.tmp 39) (.const (.int .i64 64)) a (.int .i64 64) y fun z aa=>
 F258.l7 K y0 x z aa)):F258.k3 K y0 y1 w:=qq h
theorem F258.l7.to (h:(C.aj .neq y5 (.int .u64 0) w fun a b=>
 C.am a (C.aj .mul y6 (.int .i64 64) b fun c d=>
 C.i y5c 291 #[y5] d fun f g=>
 C.aj .add c f g fun i j=>
 K i j) (F258.k9 K y0 y6 b))):F258.l7 K y0 y5 y6 w:=by unfold F258.l7 nl;exact qah (qq h)
theorem F258.k6.to (h:(C.aj .add y6 (.int .i64 1) w fun a b=>
 F258.l7 K y0 y5 a b)):F258.k6 K y0 y5 y6 w:=qq h
theorem F258.k9.to (h:(C.aj .add y6 (.int .i64 1) w fun a b=>
 C.aj .eql a (.int .i64 32) b fun c d=>
 C.am c (K (.int .i64 (-1)) d) (F258.k11 K y0 y6 d))):F258.k9 K y0 y6 w:=qq h
theorem F258.k11.to (h:(C.aj .add y6 (.int .i64 1) w fun a b=>
 C.ae y0 b fun c d=>
 C.ab 2 c d fun f g=>
 C.bs 32 1 f a g fun i j=>
 C.ai i j fun k m=>
 F258.k6 K y0 k y6 m)):F258.k11 K y0 y6 w:=qq h
theorem F258.sh (h:(C.bi y5c .eql 177 (.tmp 7) (.const (.pointer none)) x0 (.pointer none) w fun a b=>
 C.q false a (fun K=>K x0 b) b fun c d=>
 C.q false a (fun K=>C.ae c d K) d fun f g=>
 C.q false a (fun K=>C.ab 0 f g K) g fun i j=>
 C.q false a (fun K=>C.ai i j K) j fun k m=>
 C.q false a (fun K=>C.bf k m K) m fun o p=>
 C.a2 (some a) (some (.bool true)) (some o) p fun q r=>
 C.q false q (fun K=>K x1 r) r fun s t=>
 C.q false q (fun K=>K x0 t) t fun u v=>
 C.q false q (fun K=>C.ae u v K) v fun x y=>
 C.q false q (fun K=>C.ab 1 x y K) y fun z aa=>
 C.q false q (fun K=>C.ai z aa K) aa fun ab ac=>
 C.q false q (fun K=>C.aj .geq s ab ac K) ac fun ad ae=>
 C.a2 (some q) (some (.bool true)) (some ad) ae fun af ag=>
 C.am af (K (.int .i64 (-1)) ag) (F258.k3 K x0 x1 ag))):C.i y5c 258 #[x0,x1] w K:=q9 (A:=F258.ann) (args:=[x0,x1]) (qq h)
namespace F337
def ann:Ann:=⟨[(3,[0,1])],[],[],[(3,(.take 0 (.take 1 (.take 3 (.take 4 (.take 7 (.take 11 (.take 12 (.take 2 (.take 5 (.take 8 (.take 9 (.go 6 (.take 10 (.take 13 (.go 14 .fin .fin))) .fin)))))))))))))],none⟩
variable (K:VK) (y0 y1:Value) (w:World)
def k3:Prop:=nk ann 23 [(0,y0),(1,y1)] w [1,1] Tryz.f337 K
attribute [irreducible] k3
end F337
theorem F337.k3.to (h:(C.a9 w fun S a=>
 C.ae y0 a fun b c=>
 C.ab 2 b c fun d f=>
 C.ae y0 f fun g i=>
 C.ab 2 g i fun j k=>
 ∃m,(∀w',S w'→((do eqGuard .quo 3 (.tmp 10) (.const (.int .i64 64)) y1 (.int .i64 64);binOp .quo 3 y1 (.int .i64 64):Sem Value)).run y5c w' = .ok m w')∧(C.bs 32 1 d m k fun o p=>
 ∃q,(∀w',S w'→((do eqGuard .rem 3 (.tmp 16) (.const (.int .i64 64)) y1 (.int .i64 64);binOp .rem 3 y1 (.int .i64 64):Sem Value)).run y5c w' = .ok q w')∧(∃r,(∀w',S w'→((do eqGuard .shl 210 (.const (.int .u64 1)) (.tmp 17) (.int .u64 1) q;binOp .shl 210 (.int .u64 1) q:Sem Value)).run y5c w' = .ok r w')∧((C.ai o p fun s t=>
 (S t∧
 ∃u,(∀w',S w'→((do eqGuard .andNot 210 (.tmp 15) (.tmp 18) s r;binOp .andNot 210 s r:Sem Value)).run y5c w' = .ok u w')∧(C.bs 32 1 j m t fun v x=>
 (C.ak 1 v u x fun y=>
 (S y∧
 K (.bool true) y))∧True)))∧True))))):F337.k3 K y0 y1 w:=qq h
theorem F337.sh (h:(C.i y5c 244 #[x0,x1] w fun a b=>
 C.bf a b fun c d=>
 C.am c (K (.bool false) d) (F337.k3 K x0 x1 d))):C.i y5c 337 #[x0,x1] w K:=q9 (A:=F337.ann) (args:=[x0,x1]) (qq h)
end
end Go.Proofs.YtcakfaakbpdklaaGreatDoorV
namespace Go.Proofs.YtcakfaakbpdklaaGreatDoorV
open Go Go.Proofs Go.RowKit
open Go.Proofs.Tryz renaming prog→y5c
structure qax (w:World) (b:Nat) (mv:Value) (m:List Int):Prop where
 blk:w.heap[b]?=some (.cells #[.bool true,mv] 295 (0,0))
 own:qad w mv 2 1 (qag m)
 le:m.length≤2048
 rng:∀x∈m, -9223372036854775808≤x∧x≤9223372036854775807
theorem qax.keep {S:List Nat} {w w':World} {b:Nat} {mv:Value} {m:List Int} (h:qax w b mv m) (hf:Fr S w w') (hb:b∉S) (hS:∀g∈qaa mv,g∉S):qax w' b mv m:=⟨hf.at_ h.blk hb,h.own.keep' hf hS,h.le,h.rng⟩
theorem qax.keep0 {w w':World} {b:Nat} {mv:Value} {m:List Int} (h:qax w b mv m) (hf:Fr [] w w'):qax w' b mv m:=h.keep hf (by simp) (by simp)
theorem qqz {P:Program} {w:World} {t e:TypeId} {sz:Nat} (A:Option Addr) (n c:Nat) (k k' k2:IntKind) (l h mx:Int) (hu:P.underlying t=some (.slice e)) (hs:qgd P e=some sz) (h0:0≤l) (h1:l≤h) (h2:h≤mx) (h3:mx≤(c:Int)):
  (Instr.sliceAt t (.slice A n c) (some (.int k l)) (some (.int k' h)) (some (.int k2 mx))).run P w = .ok (.slice (if mx.toNat=l.toNat then A else A.map (·.add (l.toNat*sz))) (h.toNat-l.toNat) (mx.toNat-l.toNat)) w:=by
 have hs':(sizeOf e).run P w = .ok sz w:=qb5 hs
 have g1:0≤h:=by omega
 have g2:0≤mx:=by omega
 have g3:¬(max h 0<l):=by omega
 have g4:¬(h<l):=by omega
 have g5:¬(mx<h):=by omega
 have g6:h≤max mx 0:=by omega
 have g7:l≤max h 0:=by omega
 simp[Instr.sliceAt,Instr.slice,underlying,hu,Instr.sliceBounds,Instr.sliceBound,asIntOf,h0,h3,g1,g2,g6,g7,hs']
section
variable {K:VK} {w:World} {b:Nat} {mv:Value} {m:List Int}
theorem qax.nb (h:qax w b mv m):b∉qaa mv:=h.own.nb h.blk (by decide)
theorem zfw (h:qax w b mv m) (hk:K (.int .i64 (m.length:Int)) w):C.i y5c 308 #[.pointer (some ⟨b,0,none⟩)] w K:=by
 refine F308.sh ⟨_,qan _ _ _ Tryz.underlying238,?_⟩
 simp only[C.ac]
 refine F308.k3.to ?_
 simp only[zv]
 refine C.ad (v:=mv) h.blk rfl (C.bg h.own.rd ?_)
 rw[qak]
 exact hk
theorem qw1 {a n:Int} (h:qax w b mv m) (h0:¬mIn m a n→K (.tuple #[.slice none 0 0,.bool false]) w)
  (h1:mIn m a n→∀A c,mv = .slice A m.length c→(A=none→m=[])→K (.tuple #[.slice (if n=0 then A else A.map (·.add a.toNat)) n.toNat n.toNat,.bool true]) w):C.i y5c 245 #[.pointer (some ⟨b,0,none⟩),.int .i64 a,.int .i64 n] w K:=by
 have hle:=h.le
 refine F245.sh ⟨_,qan _ _ _ Tryz.underlying238,?_⟩
 simp only[zv]
 refine C.ad (v := .bool true) h.blk rfl ?_
 simp only[zv]
 unfold mIn at h0 h1
 by_cases c1:a<0
 ·simp only[zv,c1]
  exact h0 (by omega)
 simp only[zv,c1]
 by_cases c2:n<0
 ·simp only[zv,c2]
  exact h0 (by omega)
 simp only[zv,c2]
 refine C.ad (v:=mv) h.blk rfl (C.bg h.own.rd ?_)
 rw[qak]
 by_cases c3:a>(m.length:Int)
 ·simp only[zv,c3]
  exact h0 (by omega)
 simp only[zv,c3]
 refine C.ad (v:=mv) h.blk rfl (C.bg h.own.rd ?_)
 rw[qak]
 simp only[zv]
 rw[qab (n:=(m.length:Int)-a) (by omega)]
 by_cases c4:n>(m.length:Int)-a
 ·simp only[zv,c4]
  exact h0 (by omega)
 simp only[zv,c4]
 refine F245.k3.to ?_
 simp only[zv]
 refine C.ad (v:=mv) h.blk rfl ?_
 rw[qab (n:=a+n) (by omega)]
 obtain⟨A,c,rfl,hc,hA⟩:=h.own.cap
 rw[qak] at hc
 refine C.a4 (qqz (e:=2) (sz:=1) A _ c .i64 .i64 .i64 a (a+n) (a+n) Tryz.underlying52 (by kernel_rfl) (by omega) (by omega) (by omega) (by omega)) ?_
 have:=h1 (by omega) A c (by rw[qak]) (fun e=>by simpa[qag] using hA e)
 rw[y4t,show (a+n).toNat-a.toNat=n.toNat by omega]
 by_cases e:n=0
 ·rw[if_pos e] at this
  rw[if_pos (by omega)]
  exact this
 ·rw[if_neg e] at this
  rw[if_neg (by omega)]
  exact this
theorem qp7 {A:Option Addr} {N c a n j:Nat} {k:IntKind} (hj:j<n) (ha:a+j<N) (h:C.bk 1 (.slice A N c) (.int k ((a+j:Nat):Int)) w K):C.bk 1 (.slice (if (n:Int)=0 then A else A.map (·.add a)) n n) (.int k (j:Int)) w K:=by
 obtain⟨g,len,cap,k',j',e1,e2,h0,h1,hk⟩:=h
 cases e1
 cases e2
 rw[if_neg (by omega)]
 refine⟨g.add a,n,n,k,j,rfl,rfl,by omega,by omega,?_⟩
 have e:(g.add a).add ((j:Int).toNat*1)=g.add (((a+j:Nat):Int).toNat*1):=by
  rw[y2t,y2t,y4t,y4t]
  by_cases c1:a=0 <;> by_cases c2:j=0 <;> simp[Addr.add,y4c,c1,c2]
 rw[e]
 exact hk
theorem qu2 {a:Int} (h:qax w b mv m) (hk:∀ok,K (.tuple #[.int .i64 (qao m a),.bool ok]) w):C.i y5c 257 #[.pointer (some ⟨b,0,none⟩),.int .i64 a] w K:=by
 unfold qao at hk
 refine F257.sh (qw1 h (fun hn=>?_) fun hy A c e hA=>?_)
 ·simp only[zv]
  have:=hk false
  rwa [if_neg hn] at this
 ·have hle:=h.le
  have hy':=hy
  unfold mIn at hy'
  simp only[zv]
  refine F257.k4.to ?_
  have hi:a.toNat<m.length:=by omega
  refine qp7 (N:=m.length) (c:=c) (a:=a.toNat) (n:=1) (j:=0) (by omega) (by omega) ?_
  rw[←e]
  refine C.bx h.own.rd (by omega:a.toNat+0<m.length) fun g o cs e' fz hg hc=>C.ad hg hc ?_
  have:=hk true
  rw[if_pos hy] at this
  rw[qcb hi] at this
  exact this
theorem qwt {a n:Nat} {v:Int} (h:a+n+1≤m.length):(qba m a n v).set (a+n) v=qba m a ((n+1:Nat):Int) v:=by
 unfold qba
 rw[if_pos (by unfold mIn;omega),if_pos (by unfold mIn;omega)]
 simp only[y2t]
 apply y2r
 intro i
 rw[y2u,qkl (by omega),qkl (by omega)]
 by_cases c:a+n=i
 ·subst c
  rw[if_pos rfl,if_pos (by simp;omega),if_pos (by omega)]
 ·rw[if_neg c]
  by_cases d:a≤i∧i<a+n
  ·rw[if_pos d,if_pos (by omega)]
  ·rw[if_neg d,if_neg (by omega)]
theorem quc {a:Nat} {v:Int} (h:a≤m.length):qba m a 0 v=m:=by
 unfold qba
 rw[if_pos (by unfold mIn;omega)]
 simp
theorem qwm (l:List Int) (j:Nat) (n:Int):(qag l).set j [.int .i64 n]=qag (l.set j n):=by simp[qag,List.map_set]
theorem qws {a n v x:Int} (h:x∈qba m a n v):x∈m∨x=v:=by
 unfold qba at h
 split at h
 ·rcases y3q.1 h with h | h
  ·rcases y3q.1 h with h | h
   ·exact .inl (y1t h)
   ·exact .inr (y0w h)
  ·exact .inl (List.mem_of_mem_drop h)
 ·exact .inl h
theorem qjo {a:Int} (h:qax w b mv m) : -9223372036854775808≤qao m a∧qao m a≤9223372036854775807:=by
 unfold qao
 split
 ·rename_i hm
  unfold mIn at hm
  rw[qcb (by omega)]
  exact h.rng _ (y3g _)
 ·omega
theorem qwd {W:World} {a n:Nat} {v:Int} {A:Option Addr} {c:Nat} {ok:Value} (hW:qax W b mv m) (e:mv = .slice A m.length c) (hn:a+n≤m.length) (hv : -9223372036854775808≤v∧v≤9223372036854775807)
  (h:∀w',Fr (qaa mv) W w'→qax w' b mv (qba m a n v)→K ok w'):
  ∀(d j:Nat) (w:World),n=j+d→Fr (qaa mv) W w→qax w b mv (qba m a j v)→
   F179.l3 K (.int .i64 v) (.slice (if (n:Int)=0 then A else A.map (·.add a)) n n) ok (.int .i64 (n:Int)) (.int .i64 (j:Int)) w:=by
 have hle:=hW.le
 intro d
 induction d with
 | zero=>
  intro j w hd hf hM
  refine F179.l3.to ?_
  simp only[zv,show ¬((j:Int)<(n:Int)) by omega]
  rw[show j=n by omega] at hM
  exact F179.k7.to (h w hf hM)
 | succ d ih=>
  intro j w hd hf hM
  refine F179.l3.to ?_
  simp only[zv,show ((j:Int)<(n:Int)) by omega]
  refine F179.k4.to (qp7 (N:=m.length) (c:=c) (by omega) (by omega) ?_)
  rw[←e]
  have hl:=qbs m a j v
  refine C.bz (x := .int .i64 v) hM.own (by omega) (by rw[qak,hl];omega) rfl (by intro u hu;simp[Value.cells] at hu;subst hu;rfl) fun w1 ho1 hf1 _=>?_
  rw[y2t] at ho1
  have ho1:qad w1 mv 2 1 (qag (qba m a ((j+1:Nat):Int) v)):=by
   rw[←qwt (by omega), ←qwm]
   exact ho1
  refine F179.k6.to ?_
  simp only[C.a6]
  rw[qab (n:=(j:Int)+1) (by omega),show (j:Int)+1=((j+1:Nat):Int) by omega]
  have hs:∀g,mv.ownBlock=some g→g∈qaa mv:=fun g hg=>qam.2 hg
  exact ih (j+1) w1 (by omega) (hf.trans (hf1.mono fun x hx=>hx)) ⟨hf1.at_ hM.blk hM.nb,ho1,by rw[qbs];exact hle,fun x hx=>by
   rcases qws hx with h1 | h1
   ·exact hW.rng x h1
   ·rw[h1];exact hv⟩
theorem qly {a n v:Int} (h:qax w b mv m) (hv : -9223372036854775808≤v∧v≤9223372036854775807) (hk:∀w',Fr (qaa mv) w w'→qax w' b mv (qba m a n v)→K (.bool (decide (mIn m a n))) w'):C.i y5c 179 #[.pointer (some ⟨b,0,none⟩),.int .i64 a,.int .i64 n,.int .i64 v] w K:=by
 refine F179.sh (qw1 h (fun hn=>?_) fun hy A c e hA=>?_)
 ·simp only[zv]
  refine F179.l3.to ?_
  simp only[zv,show ¬((0:Int)<((0:Nat):Int)) by omega]
  refine F179.k7.to ?_
  have:=hk w (Fr.refl _ _) (by unfold qba;rw[if_neg hn];exact h)
  rwa [decide_eq_false hn] at this
 ·have hy':=hy
  unfold mIn at hy'
  obtain⟨a,rfl⟩:=y1b hy'.1
  obtain⟨n,rfl⟩:=y1b hy'.2.1
  simp only[zv,y2t]
  refine qwd (a:=a) (n:=n) h e (by omega) hv (fun w' hf hM=>?_) n 0 w (by omega) (Fr.refl _ _) (by rw[show ((0:Nat):Int)=0 from rfl,quc (by omega)];exact h)
  have:=hk w' hf hM
  rwa [decide_eq_true hy] at this
theorem qsh {a v:Int} (h:qax w b mv m) (hv : -9223372036854775808≤v∧v≤9223372036854775807) (hk:∀w',Fr (qaa mv) w w'→qax w' b mv (qb9 m a v)→K (.bool (decide (mIn m a 1))) w'):C.i y5c 247 #[.pointer (some ⟨b,0,none⟩),.int .i64 a,.int .i64 v] w K:=
 F247.sh (qly h hv hk)
end
end Go.Proofs.YtcakfaakbpdklaaGreatDoorV
namespace Go.Proofs.YtcakfaakbpdklaaGreatDoorV
open Go Go.Proofs
open Go.Proofs.Tryz renaming prog→y5c
noncomputable section
variable {K:VK} {w:World} {x0 x1 x2 x3 x4 y0 y1 y4 y5 y6 y7 y8 y9 y10 y11 y12 y13 y34 y35:Value}
namespace F248
def ann:Ann:=⟨[(4,[7,9,11]),(7,[7,9,13])],[],[],[(7,(.take 0 (.take 2 (.take 3 (.take 1 (.take 7 (.take 4 (.take 5 (.take 6 (.go 8 (.take 9 .fin) .fin))))))))))],none⟩
variable (K:VK) (y7 y9 y11 y13:Value) (w:World)
def k4:Prop:=nk ann 53 [(7,y7),(9,y9),(11,y11)] w [1,1,1] Tryz.f248 K
def k7:Prop:=nk ann 53 [(7,y7),(9,y9),(13,y13)] w [1,1,1,1,1] Tryz.f248 K
attribute [irreducible] k4 k7
end F248
theorem F248.k4.to (h:(C.an 4 y11 w fun a b=>
 C.ab 0 y7 b fun c d=>
 C.ai c d fun f g=>
 C.i y5c 288 #[a,f] g fun i j=>
 C.a1 0 i j fun k m=>
 C.a1 1 i m fun o p=>
 C.bf o p fun q r=>
 C.am q (C.ay y5c (Instr.build 241 #[]) r fun s t=>
 C.ak 2 y9 s t fun u=>
 C.an 2 y9 u fun r10 _=>
 K (.tuple #[(.int .i64 0),r10,(.bool false)]) u) (F248.k7 K y7 y9 k r))):F248.k4 K y7 y9 y11 w:=qq h
theorem F248.k7.to (h:(C.a9 w fun S a=>
 C.ab 0 y7 a fun b c=>
 C.ab 1 y7 c fun d f=>
 C.aq S b f fun g i=>
 C.aq S d i fun j k=>
 C.aj .sub j (.int .i64 1) k fun m o=>
 ∃p,(∀w',S w'→(Instr.build 241 #[(0,y13),(1,m)]).run y5c w' = .ok p w')∧((C.ak 2 y9 p o fun q=>
 (S q∧
 C.an 2 y9 q fun r9 _=>
 K (.tuple #[g,r9,(.bool true)]) q))∧True))):F248.k7 K y7 y9 y13 w:=qq h
theorem F248.sh (h:(C.a3 (.cells (Value.cells x3) 241) w fun a b=>
 C.a3 (.cells #[.int .i64 0,.int .i64 0] 241) b fun c d=>
 C.i y5c 286 #[x0,x1,x2] d fun f g=>
 C.a1 0 f g fun i j=>
 C.a1 1 f j fun k m=>
 C.a3 (.cells #[.pointer none,.int .i64 0,.int .i64 0,.int .i64 0] 319) m fun o p=>
 C.ak 4 o i p fun q=>
 C.bf k q fun r s=>
 C.q false r (fun K=>C.ab 1 a s K) s fun t u=>
 C.q false r (fun K=>C.ai t u K) u fun v x=>
 C.q false r (fun K=>C.aj .lss v (.int .i64 1) x K) x fun y z=>
 C.a2 (some r) (some (.bool true)) (some y) z fun aa ab=>
 C.q false aa (fun K=>C.an 4 o ab K) ab fun ac ad=>
 C.q false aa (fun K=>C.ab 0 a ad K) ad fun ae af=>
 C.q false aa (fun K=>C.ai ae af K) af fun ag ah=>
 C.q false aa (fun K=>C.i y5c 287 #[ac,ag] ah K) ah fun ai aj=>
 C.q false aa (fun K=>C.bf ai aj K) aj fun ak al=>
 C.a2 (some aa) (some (.bool true)) (some ak) al fun am an=>
 C.am am (C.ay y5c (Instr.build 241 #[]) an fun ao ap=>
 C.ak 2 c ao ap fun aq=>
 C.an 2 c aq fun r21 _=>
 K (.tuple #[(.int .i64 0),r21,(.bool false)]) aq) (F248.k4 K a c o an))):C.i y5c 248 #[x0,x1,x2,x3] w K:=q9 (A:=F248.ann) (args:=[x0,x1,x2,x3]) (qq h)
namespace F253
def ann:Ann:=⟨[(4,[0,1,6,8]),(8,[6,8,34,35]),(10,[6,8,34,35]),(11,[6,8])],[(7,[6,8,34,35])],[],[],none⟩
variable (K:VK) (y0 y1 y6 y8 y34 y35:Value) (w:World)
def k4:Prop:=nk ann 47 [(0,y0),(1,y1),(6,y6),(8,y8)] w [1,1,1] Tryz.f253 K
def k11:Prop:=nk ann 47 [(6,y6),(8,y8)] w [1,1,1,1,1,1] Tryz.f253 K
def l7:Prop:=nl ann 47 [(6,y6),(8,y8),(34,y34),(35,y35)] w [1,1,1,1,1,0,1,0] Tryz.f253 K
def k8:Prop:=nk ann 47 [(6,y6),(8,y8),(34,y34),(35,y35)] w [1,1,1,1,1,0,1,0,0,1,1] Tryz.f253 K
def k10:Prop:=nk ann 47 [(6,y6),(8,y8),(34,y34),(35,y35)] w [1,1,1,1,1,0,1,0,0,1,1,1] Tryz.f253 K
attribute [irreducible] k4 k11 l7 k8 k10
end F253
theorem F253.k4.to (h:(C.i y5c 177 #[y1,(.int .i64 1)] w fun a b=>
 C.a1 0 a b fun c d=>
 C.a1 1 a d fun f g=>
 C.a1 2 a g fun i j=>
 C.i y5c 179 #[y0,c,(.int .i64 32),(.int .i64 0)] j fun k m=>
 C.ab 3 y8 m fun o p=>
 C.ai o p fun q r=>
 F253.l7 K y6 y8 q (.int .i64 0) r)):F253.k4 K y0 y1 y6 y8 w:=qq h
theorem F253.k11.to (h:(C.ab 3 y8 w fun a b=>
 C.ai a b fun c d=>
 C.ay y5c (Instr.build 241 #[(0,(.int .i64 0)),(1,c)]) d fun f g=>
 C.ak 2 y6 f g fun i=>
 C.an 2 y6 i fun r5 _=>
 K (.tuple #[r5,(.bool true)]) i)):F253.k11 K y6 y8 w:=qq h
theorem F253.l7.to (h:(C.aj .lss y35 y34 w fun a b=>
 C.am a (F253.k8 K y6 y8 y34 y35 b) (F253.k11 K y6 y8 b))):F253.l7 K y6 y8 y34 y35 w:=by unfold F253.l7 nl;exact qah (qq h)
theorem F253.k8.to (h:(C.an 4 y8 w fun a b=>
 C.aj .add y35 (.int .i64 1) b fun c d=>
 C.i y5c 289 #[a,y35,c] d fun f g=>
 F253.k10 K y6 y8 y34 y35 g)):F253.k8 K y6 y8 y34 y35 w:=qq h
theorem F253.k10.to (h:(C.aj .add y35 (.int .i64 1) w fun a b=>
 F253.l7 K y6 y8 y34 a b)):F253.k10 K y6 y8 y34 y35 w:=qq h
theorem F253.sh (h:(C.a3 (.cells #[.int .i64 0,.int .i64 0] 241) w fun a b=>
 C.i y5c 286 #[x0,x1,x2] b fun c d=>
 C.a1 0 c d fun f g=>
 C.a1 1 c g fun i j=>
 C.a3 (.cells #[.pointer none,.int .i64 0,.int .i64 0,.int .i64 0] 319) j fun k m=>
 C.ak 4 k f m fun o=>
 C.bf i o fun p q=>
 C.am p (C.ay y5c (Instr.build 241 #[]) q fun r s=>
 C.ak 2 a r s fun t=>
 C.an 2 a t fun r10 _=>
 K (.tuple #[r10,(.bool false)]) t) (F253.k4 K x0 x1 a k q))):C.i y5c 253 #[x0,x1,x2] w K:=q9 (A:=F253.ann) (args:=[x0,x1,x2]) (qq h)
namespace F286
def ann:Ann:=⟨[],[],[],[(3,(.take 1 (.take 2 (.take 3 (.take 0 (.take 4 (.take 5 (.take 6 (.take 7 (.take 8 (.take 9 (.go 10 (.take 11 (.take 12 (.go 13 (.take 14 .fin) .fin))) .fin))))))))))))],none⟩
end F286
theorem F286.sh (h:(C.a3 (.cells #[.pointer none,.int .i64 0,.int .i64 0,.int .i64 0] 319) w fun a b=>
 C.i y5c 263 #[x2] b fun c d=>
 C.ay y5c (Instr.build 319 #[(0,x0),(1,x1),(2,x2),(3,c)]) d fun f g=>
 C.a3 (.cells #[.pointer none,.int .i64 0,.int .i64 0,.int .i64 0] 319) g fun i j=>
 C.ak 4 i f j fun k=>
 C.i y5c 177 #[x1,(.int .i64 1)] k fun m o=>
 C.a1 0 m o fun p q=>
 C.a1 1 m q fun r s=>
 C.a1 2 m s fun t u=>
 C.a9 u fun S v=>
 C.q true t (fun K=>C.ab 3 i v K) v fun x y=>
 C.bm S 4 i y fun z aa=>
 C.q true t (fun K=>C.aq S x aa K) aa fun ab ac=>
 C.q true t (fun K=>C.aj .gtr ab (.int .i64 0) ac K) ac fun ad ae=>
 C.a2 (some t) (some ad) (some (.bool false)) ae fun af ag=>
 C.q true af (fun K=>K r ag) ag fun ah ai=>
 C.q true af (fun K=>K x0 ai) ai fun aj ak=>
 (C.q true af (fun K=>C.i y5c 308 #[aj] ak K) ak fun al am=>
 (S am∧
 C.q true af (fun K=>C.aj .lss ah al am K) am fun an ao=>
 C.a2 (some af) (some an) (some (.bool false)) ao fun ap aq=>
 (C.ak 4 a z aq fun ar=>
 (S ar∧
 C.an 4 a ar fun r22 _=>
 K (.tuple #[r22,ap]) ar))∧True))∧True)):C.i y5c 286 #[x0,x1,x2] w K:=q9 (A:=F286.ann) (args:=[x0,x1,x2]) (qq h)

theorem F287.sh (h:(C.a3 (.cells (Value.cells x0) 319) w fun a b=>
 C.aj .geq x1 (.int .i64 0) b fun c d=>
 C.q true c (fun K=>K x1 d) d fun f g=>
 C.q true c (fun K=>C.ab 3 a g K) g fun i j=>
 C.q true c (fun K=>C.ai i j K) j fun k m=>
 C.q true c (fun K=>C.aj .lss f k m K) m fun o p=>
 C.a2 (some c) (some o) (some (.bool false)) p fun q r=>
 K q r)):C.i y5c 287 #[x0,x1] w K:=q9 (A:=A0) (args:=[x0,x1]) (qq h)
namespace F288
def ann:Ann:=⟨[(5,[8])],[],[],[],none⟩
variable (K:VK) (y8:Value) (w:World)
def k5:Prop:=nk ann 37 [(8,y8)] w [1,1,1,1] Tryz.f288 K
attribute [irreducible] k5
end F288
theorem F288.k5.to (h:(C.aj .sub (.int .i64 (-1)) y8 w fun a b=>
 K (.tuple #[a,(.bool true)]) b)):F288.k5 K y8 w:=qq h
theorem F288.sh (h:(C.a3 (.cells (Value.cells x0) 319) w fun a b=>
 C.ab 1 a b fun c d=>
 C.ai c d fun f g=>
 C.ab 2 a g fun i j=>
 C.ai i j fun k m=>
 C.i y5c 249 #[f,k,x1] m fun o p=>
 C.a1 0 o p fun q r=>
 C.a1 1 o r fun s t=>
 C.ab 0 a t fun u v=>
 C.ai u v fun x y=>
 C.i y5c 257 #[x,q] y fun z aa=>
 C.a1 0 z aa fun ab ac=>
 C.a1 1 z ac fun ad ae=>
 C.aj .geq ab (.int .i64 0) ae fun af ag=>
 C.q false af (fun K=>K ab ag) ag fun ah ai=>
 C.q false af (fun K=>C.ab 3 a ai K) ai fun aj ak=>
 C.q false af (fun K=>C.ai aj ak K) ak fun al am=>
 C.q false af (fun K=>C.aj .sub (.int .i64 (-1)) al am K) am fun an ao=>
 C.q false af (fun K=>C.aj .lss ah an ao K) ao fun ap aq=>
 C.a2 (some af) (some (.bool true)) (some ap) aq fun ar au=>
 C.am ar (K (.tuple #[(.int .i64 0),(.bool false)]) au) (F288.k5 K ab au))):C.i y5c 288 #[x0,x1] w K:=q9 (A:=F288.ann) (args:=[x0,x1]) (qq h)

theorem F289.sh (h:(C.a3 (.cells (Value.cells x0) 319) w fun a b=>
 C.ab 1 a b fun c d=>
 C.ai c d fun f g=>
 C.ab 2 a g fun i j=>
 C.ai i j fun k m=>
 C.i y5c 249 #[f,k,x1] m fun o p=>
 C.a1 0 o p fun q r=>
 C.a1 1 o r fun s t=>
 C.ab 0 a t fun u v=>
 C.ai u v fun x y=>
 C.aj .sub (.int .i64 (-1)) x2 y fun z aa=>
 C.i y5c 247 #[x,q,z] aa fun ab ac=>
 K (.tuple #[]) ac)):C.i y5c 289 #[x0,x1,x2] w K:=q9 (A:=A0) (args:=[x0,x1,x2]) (qq h)
namespace F344
def ann:Ann:=⟨[(4,[4,8,10,12])],[],[],[],none⟩
variable (K:VK) (y4 y8 y10 y12:Value) (w:World)
def k4:Prop:=nk ann 64 [(4,y4),(8,y8),(10,y10),(12,y12)] w [1,1,1] Tryz.f344 K
attribute [irreducible] k4
end F344
theorem F344.k4.to (h:(C.an 4 y12 w fun a b=>
 C.ab 0 y8 b fun c d=>
 C.ai c d fun f g=>
 C.i y5c 289 #[a,y4,f] g fun i j=>
 C.ab 1 y8 j fun k m=>
 C.ai k m fun o p=>
 C.aj .add o (.int .i64 1) p fun q r=>
 C.ay y5c (Instr.build 241 #[(0,y4),(1,q)]) r fun s t=>
 C.ak 2 y10 s t fun u=>
 C.an 2 y10 u fun r10 _=>
 K (.tuple #[r10,(.bool true)]) u)):F344.k4 K y4 y8 y10 y12 w:=qq h
theorem F344.sh (h:(C.a3 (.cells (Value.cells x3) 241) w fun a b=>
 C.a3 (.cells #[.int .i64 0,.int .i64 0] 241) b fun c d=>
 C.i y5c 286 #[x0,x1,x2] d fun f g=>
 C.a1 0 f g fun i j=>
 C.a1 1 f j fun k m=>
 C.a3 (.cells #[.pointer none,.int .i64 0,.int .i64 0,.int .i64 0] 319) m fun o p=>
 C.ak 4 o i p fun q=>
 C.bf k q fun r s=>
 C.q false r (fun K=>C.an 4 o s K) s fun t u=>
 C.q false r (fun K=>K x4 u) u fun v x=>
 C.q false r (fun K=>C.i y5c 287 #[t,v] x K) x fun y z=>
 C.q false r (fun K=>C.bf y z K) z fun aa ab=>
 C.a2 (some r) (some (.bool true)) (some aa) ab fun ac ad=>
 C.q false ac (fun K=>C.ab 1 a ad K) ad fun ae af=>
 C.q false ac (fun K=>C.ai ae af K) af fun ag ah=>
 C.q false ac (fun K=>C.aj .lss ag (.int .i64 0) ah K) ah fun ai aj=>
 C.a2 (some ac) (some (.bool true)) (some ai) aj fun ak al=>
 C.q false ak (fun K=>C.ab 1 a al K) al fun am an=>
 C.q false ak (fun K=>C.ai am an K) an fun ao ap=>
 C.q false ak (fun K=>C.ab 3 o ap K) ap fun aq ar=>
 C.q false ak (fun K=>C.ai aq ar K) ar fun au av=>
 C.q false ak (fun K=>C.aj .geq ao au av K) av fun aw ax=>
 C.a2 (some ak) (some (.bool true)) (some aw) ax fun ay az=>
 C.q false ay (fun K=>C.ab 0 a az K) az fun ba bb=>
 C.q false ay (fun K=>C.ai ba bb K) bb fun bc bd=>
 C.q false ay (fun K=>C.aj .lss bc (.int .i64 0) bd K) bd fun be bf=>
 C.a2 (some ay) (some (.bool true)) (some be) bf fun bg bh=>
 C.q false bg (fun K=>C.ab 0 a bh K) bh fun bi bj=>
 C.q false bg (fun K=>C.ai bi bj K) bj fun bk bl=>
 C.q false bg (fun K=>C.ab 3 o bl K) bl fun bm bn=>
 C.q false bg (fun K=>C.ai bm bn K) bn fun bo bp=>
 C.q false bg (fun K=>C.aj .gtr bk bo bp K) bp fun bq br=>
 C.a2 (some bg) (some (.bool true)) (some bq) br fun bs bt=>
 C.am bs (C.ay y5c (Instr.build 241 #[]) bt fun bu bv=>
 C.ak 2 c bu bv fun bw=>
 C.an 2 c bw fun r36 _=>
 K (.tuple #[r36,(.bool false)]) bw) (F344.k4 K x4 a c o bt))):C.i y5c 344 #[x0,x1,x2,x3,x4] w K:=q9 (A:=F344.ann) (args:=[x0,x1,x2,x3,x4]) (qq h)

theorem F112.sh (h:(C.i y5c 170 #[x0] w fun a b=>
 C.i y5c 171 #[a] b fun c d=>
 C.bl c d fun f g=>
 C.aj .mul f (.int .i64 32) g fun i j=>
 C.ay y5c (Instr.build 237 #[(0,a)]) j fun k m=>
 C.i y5c 172 #[i] m fun o p=>
 C.i y5c 116 #[i] p fun q r=>
 C.ay y5c (Instr.build 244 #[(0,k),(1,o),(3,q)]) r fun s t=>
 C.a3 (.cells (Value.cells s) 244) t fun u v=>
 K u v)):C.i y5c 112 #[x0] w K:=q9 (A:=A0) (args:=[x0]) (qq h)
namespace F114
def ann:Ann:=⟨[(3,[0])],[],[],[],none⟩
variable (K:VK) (y0:Value) (w:World)
def k3:Prop:=nk ann 11 [(0,y0)] w [1,1] Tryz.f114 K
attribute [irreducible] k3
end F114
theorem F114.k3.to (h:(C.ae y0 w fun a b=>
 C.ab 0 a b fun c d=>
 C.an 1 c d fun f g=>
 C.i y5c 174 #[f] g fun i j=>
 K i j)):F114.k3 K y0 w:=qq h
theorem F114.sh (h:(C.i y5c 173 #[x0] w fun a b=>
 C.bf a b fun c d=>
 C.am c (K (.int .i64 0) d) (F114.k3 K x0 d))):C.i y5c 114 #[x0] w K:=q9 (A:=F114.ann) (args:=[x0]) (qq h)
namespace F119
def ann:Ann:=⟨[(3,[0,1]),(6,[0,1,6])],[],[],[],none⟩
variable (K:VK) (y0 y1 y6:Value) (w:World)
def k3:Prop:=nk ann 48 [(0,y0),(1,y1)] w [1,1] Tryz.f119 K
def k6:Prop:=nk ann 48 [(0,y0),(1,y1),(6,y6)] w [1,1,1,1] Tryz.f119 K
attribute [irreducible] k3 k6
end F119
theorem F119.k3.to (h:(C.ae y0 w fun a b=>
 C.ab 0 a b fun c d=>
 C.ab 0 c d fun f g=>
 C.ai f g fun i j=>
 C.i y5c 176 #[i,y1] j fun k m=>
 C.a1 0 k m fun o p=>
 C.a1 1 k p fun q r=>
 C.bf q r fun s t=>
 C.am s (K (.tuple #[(.int .i64 0),(.bool false)]) t) (F119.k6 K y0 y1 o t))):F119.k3 K y0 y1 w:=qq h
theorem F119.k6.to (h:(C.i y5c 177 #[y6,y1] w fun a b=>
 C.a1 0 a b fun c d=>
 C.a1 1 a d fun f g=>
 C.a1 2 a g fun i j=>
 C.ae y0 j fun k m=>
 C.ab 130 k m fun o p=>
 C.ai o p fun q r=>
 C.i y5c 178 #[q,c] r fun s t=>
 C.ae y0 t fun u v=>
 C.ab 1 u v fun x y=>
 C.ai x y fun z aa=>
 C.aj .mul y1 (.int .i64 32) aa fun ab ac=>
 C.i y5c 179 #[z,c,ab,(.int .i64 0)] ac fun ad ae=>
 K (.tuple #[c,(.bool true)]) ae)):F119.k6 K y0 y1 y6 w:=qq h
theorem F119.sh (h:(C.i y5c 173 #[x0] w fun a b=>
 C.bf a b fun c d=>
 C.am c (K (.tuple #[(.int .i64 0),(.bool false)]) d) (F119.k3 K x0 x1 d))):C.i y5c 119 #[x0,x1] w K:=q9 (A:=F119.ann) (args:=[x0,x1]) (qq h)
namespace F130
def ann:Ann:=⟨[(3,[0])],[],[],[],none⟩
variable (K:VK) (y0:Value) (w:World)
def k3:Prop:=nk ann 11 [(0,y0)] w [1,1] Tryz.f130 K
attribute [irreducible] k3
end F130
theorem F130.k3.to (h:(C.ae y0 w fun a b=>
 C.ab 130 a b fun c d=>
 C.ai c d fun f g=>
 C.i y5c 202 #[f] g fun i j=>
 K i j)):F130.k3 K y0 w:=qq h
theorem F130.sh (h:(C.i y5c 173 #[x0] w fun a b=>
 C.bf a b fun c d=>
 C.am c (K (.slice none 0 0) d) (F130.k3 K x0 d))):C.i y5c 130 #[x0] w K:=q9 (A:=F130.ann) (args:=[x0]) (qq h)

theorem F173.sh (h:(C.bi y5c .neq 166 (.tmp 3) (.const (.pointer none)) x0 (.pointer none) w fun a b=>
 C.q true a (fun K=>K x0 b) b fun c d=>
 C.q true a (fun K=>C.ae c d K) d fun f g=>
 C.q true a (fun K=>C.ab 1 f g K) g fun i j=>
 C.q true a (fun K=>C.ai i j K) j fun k m=>
 C.q true a (fun K=>C.bi y5c .neq 238 (.tmp 9) (.const (.pointer none)) k (.pointer none) m K) m fun o p=>
 C.a2 (some a) (some o) (some (.bool false)) p fun q r=>
 K q r)):C.i y5c 173 #[x0] w K:=q9 (A:=A0) (args:=[x0]) (qq h)

theorem F174.sh (h:(C.a3 (.cells (Value.cells x0) 237) w fun a b=>
 C.ab 0 a b fun c d=>
 C.ai c d fun f g=>
 C.i y5c 241 #[f] g fun i j=>
 K i j)):C.i y5c 174 #[x0] w K:=q9 (A:=A0) (args:=[x0]) (qq h)

theorem F181.sh (h:(C.i y5c 246 #[x0,x1] w fun a b=>
 C.aj .geq a (.int .i64 0) b fun c d=>
 C.q true c (fun K=>K x0 d) d fun f g=>
 C.q true c (fun K=>C.ae f g K) g fun i j=>
 C.q true c (fun K=>C.ab 1 i j K) j fun k m=>
 C.q true c (fun K=>C.ai k m K) m fun o p=>
 C.q true c (fun K=>K x1 p) p fun q r=>
 C.q true c (fun K=>K x2 r) r fun s t=>
 C.q true c (fun K=>C.i y5c 247 #[o,q,s] t K) t fun u v=>
 C.a2 (some c) (some u) (some (.bool false)) v fun x y=>
 K x y)):C.i y5c 181 #[x0,x1,x2] w K:=q9 (A:=A0) (args:=[x0,x1,x2]) (qq h)
namespace F183
def ann:Ann:=⟨[(3,[0,1]),(5,[0,1,6,7,8])],[],[],[(4,(.take 0 (.take 1 (.take 2 (.take 4 (.take 5 (.take 6 (.take 7 (.take 8 (.take 9 (.take 10 (.take 3 (.take 11 (.go 12 (.take 13 (.take 14 (.take 15 (.take 16 (.go 17 (.take 18 (.go 19 (.take 20 .fin) .fin)) .fin))))) (.go 17 (.go 12 (.take 13 (.take 14 (.take 15 (.take 16 (.take 18 (.go 19 (.take 20 .fin) .fin)))))) .fin) .fin))))))))))))))),(6,(.take 0 (.take 1 (.take 3 (.take 4 (.take 2 (.take 5 (.go 6 .fin .fin)))))))),(8,(.take 0 (.take 1 (.take 2 (.take 4 (.take 5 (.take 3 (.go 6 (.go 7 .fin .fin) .fin))))))))],none⟩
variable (K:VK) (y0 y1 y6 y7 y8:Value) (w:World)
def k3:Prop:=nk ann 64 [(0,y0),(1,y1)] w [1,1] Tryz.f183 K
def k5:Prop:=nk ann 64 [(0,y0),(1,y1),(6,y6),(7,y7),(8,y8)] w [1,1,1,1] Tryz.f183 K
attribute [irreducible] k3 k5
end F183
theorem F183.k3.to (h:(C.i y5c 186 #[y0,y1] w fun a b=>
 C.a9 b fun S c=>
 C.ae y0 c fun d f=>
 C.ab 1 d f fun g i=>
 C.ae y0 i fun j k=>
 C.ab 2 j k fun m o=>
 C.bs 64 2 m y1 o fun p q=>
 C.aq S g q fun r s=>
 C.bm S 2 p s fun t u=>
 (C.i y5c 248 #[r,y1,a,t] u fun v x=>
 (S x∧
 C.a1 0 v x fun y z=>
 C.a1 1 v z fun aa ab=>
 C.a1 2 v ab fun ac ad=>
 (C.a3 (.cells #[.int .i64 0,.int .i64 0] 241) ad fun ae af=>
 (S af∧
 (C.ak 2 ae aa af fun ag=>
 (S ag∧
 F183.k5 K y0 y1 a y ae ag))∧True))∧True))∧((C.a3 (.cells #[.int .i64 0,.int .i64 0] 241) u fun ah ai=>
 (S ai∧
 (C.i y5c 248 #[r,y1,a,t] ai fun aj ak=>
 (S ak∧
 C.a1 0 aj ak fun al am=>
 C.a1 1 aj am fun an ao=>
 C.a1 2 aj ao fun ap aq=>
 (C.ak 2 ah an aq fun ar=>
 (S ar∧
 F183.k5 K y0 y1 a al ah ar))∧True))∧True))∧True))):F183.k3 K y0 y1 w:=qq h
theorem F183.k5.to (h:(C.i y5c 249 #[y1,y6,y7] w fun a b=>
 C.a1 0 a b fun c d=>
 C.a1 1 a d fun f g=>
 C.a9 g fun S i=>
 C.ae y0 i fun j k=>
 C.ab 2 j k fun m o=>
 C.bm S 2 y8 o fun p q=>
 C.bs 64 2 m y1 q fun r s=>
 (C.ak 2 r p s fun t=>
 (S t∧
 C.ae y0 t fun u v=>
 C.ab 130 u v fun x y=>
 C.ai x y fun z aa=>
 C.i y5c 178 #[z,c] aa fun ab ac=>
 C.a9 ac fun S ad=>
 C.ae y0 ad fun ae af=>
 C.ab 1 ae af fun ag ah=>
 C.aq S ag ah fun ai aj=>
 (C.i y5c 175 #[y6] aj fun ak al=>
 (S al∧
 (C.i y5c 179 #[ai,c,ak,(.int .i64 0)] al fun am an=>
 (S an∧
 K (.tuple #[c,(.bool true)]) an))∧True))∧True))∧True)):F183.k5 K y0 y1 y6 y7 y8 w:=qq h
theorem F183.sh (h:(C.i y5c 187 #[x0,x1] w fun a b=>
 C.aj .eql a (.int .i64 0) b fun c d=>
 C.am c (K (.tuple #[(.int .i64 0),(.bool false)]) d) (F183.k3 K x0 x1 d))):C.i y5c 183 #[x0,x1] w K:=q9 (A:=F183.ann) (args:=[x0,x1]) (qq h)
namespace F186
def ann:Ann:=⟨[(3,[0,1])],[],[],[],none⟩
variable (K:VK) (y0 y1:Value) (w:World)
def k3:Prop:=nk ann 14 [(0,y0),(1,y1)] w [1,1] Tryz.f186 K
attribute [irreducible] k3
end F186
theorem F186.k3.to (h:(C.ae y0 w fun a b=>
 C.ab 0 a b fun c d=>
 C.an 1 c d fun f g=>
 C.i y5c 250 #[f,y1] g fun i j=>
 K i j)):F186.k3 K y0 y1 w:=qq h
theorem F186.sh (h:(C.i y5c 173 #[x0] w fun a b=>
 C.bf a b fun c d=>
 C.am c (K (.int .i64 (-1)) d) (F186.k3 K x0 x1 d))):C.i y5c 186 #[x0,x1] w K:=q9 (A:=F186.ann) (args:=[x0,x1]) (qq h)
namespace F187
def ann:Ann:=⟨[(3,[0,1])],[],[],[],none⟩
variable (K:VK) (y0 y1:Value) (w:World)
def k3:Prop:=nk ann 16 [(0,y0),(1,y1)] w [1,1] Tryz.f187 K
attribute [irreducible] k3
end F187
theorem F187.k3.to (h:(C.ae y0 w fun a b=>
 C.ab 2 a b fun c d=>
 C.bs 64 2 c y1 d fun f g=>
 C.ab 1 f g fun i j=>
 C.ai i j fun k m=>
 K k m)):F187.k3 K y0 y1 w:=qq h
theorem F187.sh (h:(C.i y5c 251 #[x0,x1] w fun a b=>
 C.bf a b fun c d=>
 C.am c (K (.int .i64 0) d) (F187.k3 K x0 x1 d))):C.i y5c 187 #[x0,x1] w K:=q9 (A:=F187.ann) (args:=[x0,x1]) (qq h)
namespace F188
def ann:Ann:=⟨[(3,[0,1]),(6,[6,7])],[],[],[(5,(.take 0 (.take 1 (.take 2 (.take 3 (.take 4 (.take 6 (.take 7 (.take 12 (.take 13 (.go 5 (.go 8 (.take 9 (.take 10 (.take 11 (.take 14 (.go 15 .fin .fin))))) .fin) .fin)))))))))))],none⟩
variable (K:VK) (y0 y1 y6 y7:Value) (w:World)
def k3:Prop:=nk ann 39 [(0,y0),(1,y1)] w [1,1] Tryz.f188 K
def k6:Prop:=nk ann 39 [(6,y6),(7,y7)] w [1,1,1,1] Tryz.f188 K
attribute [irreducible] k3 k6
end F188
theorem F188.k3.to (h:(C.ae y0 w fun a b=>
 C.ab 0 a b fun c d=>
 C.ab 0 c d fun f g=>
 C.ai f g fun i j=>
 C.i y5c 252 #[i,y1] j fun k m=>
 C.a1 0 k m fun o p=>
 C.a1 1 k p fun q r=>
 C.am q (C.a9 r fun S s=>
 C.ae y0 s fun t u=>
 C.ab 1 t u fun v x=>
 C.ae y0 x fun y z=>
 C.ab 2 y z fun aa ab=>
 (C.ai v ab fun ac ad=>
 (S ad∧
 (C.i y5c 253 #[ac,o,y1] ad fun ae af=>
 (S af∧
 C.a1 0 ae af fun ag ah=>
 C.a1 1 ae ah fun ai aj=>
 C.bs 64 2 aa o aj fun ak al=>
 (C.ak 2 ak ag al fun am=>
 (S am∧
 F188.k6 K o q am))∧True))∧True))∧True) (F188.k6 K o q r))):F188.k3 K y0 y1 w:=qq h
theorem F188.k6.to (h:(K (.tuple #[y6,y7]) w)):F188.k6 K y6 y7 w:=qq h
theorem F188.sh (h:(C.i y5c 173 #[x0] w fun a b=>
 C.bf a b fun c d=>
 C.am c (K (.tuple #[(.int .i64 0),(.bool false)]) d) (F188.k3 K x0 x1 d))):C.i y5c 188 #[x0,x1] w K:=q9 (A:=F188.ann) (args:=[x0,x1]) (qq h)

theorem F197.sh (h:(C.i y5c 173 #[x0] w fun a b=>
 C.q true a (fun K=>K x0 b) b fun c d=>
 C.q true a (fun K=>C.ae c d K) d fun f g=>
 C.q true a (fun K=>C.ab 130 f g K) g fun i j=>
 C.q true a (fun K=>C.ai i j K) j fun k m=>
 C.q true a (fun K=>K x1 m) m fun o p=>
 C.q true a (fun K=>C.i y5c 244 #[k,o] p K) p fun q r=>
 C.a2 (some a) (some q) (some (.bool false)) r fun s t=>
 K s t)):C.i y5c 197 #[x0,x1] w K:=q9 (A:=A0) (args:=[x0,x1]) (qq h)
namespace F198
def ann:Ann:=⟨[(3,[0,1])],[],[],[],none⟩
variable (K:VK) (y0 y1:Value) (w:World)
def k3:Prop:=nk ann 17 [(0,y0),(1,y1)] w [1,1] Tryz.f198 K
attribute [irreducible] k3
end F198
theorem F198.k3.to (h:(C.ae y0 w fun a b=>
 C.ab 1 a b fun c d=>
 C.ai c d fun f g=>
 C.i y5c 257 #[f,y1] g fun i j=>
 C.a1 0 i j fun k m=>
 C.a1 1 i m fun o p=>
 K (.tuple #[k,o]) p)):F198.k3 K y0 y1 w:=qq h
theorem F198.sh (h:(C.i y5c 173 #[x0] w fun a b=>
 C.bf a b fun c d=>
 C.am c (K (.tuple #[(.int .i64 0),(.bool false)]) d) (F198.k3 K x0 x1 d))):C.i y5c 198 #[x0,x1] w K:=q9 (A:=F198.ann) (args:=[x0,x1]) (qq h)
namespace F212
def ann:Ann:=⟨[(3,[0,1])],[],[],[],none⟩
variable (K:VK) (y0 y1:Value) (w:World)
def k3:Prop:=nk ann 26 [(0,y0),(1,y1)] w [1,1] Tryz.f212 K
attribute [irreducible] k3
end F212
theorem F212.k3.to (h:(C.ae y0 w fun a b=>
 C.ab 0 a b fun c d=>
 C.ab 0 c d fun f g=>
 C.ai f g fun i j=>
 C.i y5c 264 #[i,y1] j fun k m=>
 K (.bool true) m)):F212.k3 K y0 y1 w:=qq h
theorem F212.sh (h:(C.i y5c 251 #[x0,x1] w fun a b=>
 C.bf a b fun c d=>
 C.q false c (fun K=>K x0 d) d fun f g=>
 C.q false c (fun K=>K x1 g) g fun i j=>
 C.q false c (fun K=>C.i y5c 187 #[f,i] j K) j fun k m=>
 C.q false c (fun K=>K x0 m) m fun o p=>
 C.q false c (fun K=>K x1 p) p fun q r=>
 C.q false c (fun K=>C.i y5c 186 #[o,q] r K) r fun s t=>
 C.q false c (fun K=>C.i y5c 263 #[s] t K) t fun u v=>
 C.q false c (fun K=>C.aj .lss k u v K) v fun x y=>
 C.a2 (some c) (some (.bool true)) (some x) y fun z aa=>
 C.am z (K (.bool false) aa) (F212.k3 K x0 x1 aa))):C.i y5c 212 #[x0,x1] w K:=q9 (A:=F212.ann) (args:=[x0,x1]) (qq h)
namespace F246
def ann:Ann:=⟨[(3,[0,1]),(8,[0,6]),(10,[6])],[],[],[],none⟩
variable (K:VK) (y0 y1 y6:Value) (w:World)
def k3:Prop:=nk ann 42 [(0,y0),(1,y1)] w [1,1] Tryz.f246 K
def k8:Prop:=nk ann 42 [(0,y0),(6,y6)] w [1,1,1,1,1] Tryz.f246 K
def k10:Prop:=nk ann 42 [(6,y6)] w [1,1,1,1,1,1] Tryz.f246 K
attribute [irreducible] k3 k8 k10
end F246
theorem F246.k3.to (h:(C.i y5c 272 #[y1] w fun a b=>
 C.i y5c 186 #[y0,a] b fun c d=>
 C.i y5c 284 #[c,y1] d fun f g=>
 C.ae y0 g fun i j=>
 C.ab 0 i j fun k m=>
 C.ab 0 k m fun o p=>
 C.ai o p fun q r=>
 C.i y5c 285 #[q,a] r fun s t=>
 C.aj .lss f (.int .i64 0) t fun u v=>
 C.q true u (fun K=>K s v) v fun x y=>
 C.q true u (fun K=>C.aj .geq x (.int .i64 0) y K) y fun z aa=>
 C.a2 (some u) (some z) (some (.bool false)) aa fun ab ac=>
 C.am ab (C.i y5c 177 #[s,(.int .i64 1)] ac fun ad ae=>
 C.a1 0 ad ae fun af ag=>
 C.a1 1 ad ag fun ah ai=>
 C.a1 2 ad ai fun aj ak=>
 F246.k8 K y0 af ak) (F246.k8 K y0 f ac))):F246.k3 K y0 y1 w:=qq h
theorem F246.k8.to (h:(C.i y5c 197 #[y0,y6] w fun a b=>
 C.bf a b fun c d=>
 C.am c (K (.int .i64 (-1)) d) (F246.k10 K y6 d))):F246.k8 K y0 y6 w:=qq h
theorem F246.k10.to (h:(K y6 w)):F246.k10 K y6 w:=qq h
theorem F246.sh (h:(C.i y5c 173 #[x0] w fun a b=>
 C.bf a b fun c d=>
 C.am c (K (.int .i64 (-1)) d) (F246.k3 K x0 x1 d))):C.i y5c 246 #[x0,x1] w K:=q9 (A:=F246.ann) (args:=[x0,x1]) (qq h)

theorem F250.sh (h:(C.a3 (.cells (Value.cells x0) 237) w fun a b=>
 C.ab 0 a b fun c d=>
 C.ai c d fun f g=>
 C.i y5c 283 #[f,x1] g fun i j=>
 K i j)):C.i y5c 250 #[x0,x1] w K:=q9 (A:=A0) (args:=[x0,x1]) (qq h)

theorem F251.sh (h:(C.i y5c 186 #[x0,x1] w fun a b=>
 C.i y5c 175 #[a] b fun c d=>
 C.aj .gtr c (.int .i64 0) d fun f g=>
 K f g)):C.i y5c 251 #[x0,x1] w K:=q9 (A:=A0) (args:=[x0,x1]) (qq h)
namespace F338
def ann:Ann:=⟨[(3,[0,1]),(9,[0,1,5,6]),(11,[])],[],[],[(10,(.take 0 (.take 1 (.take 2 (.take 3 (.take 4 (.take 6 (.take 7 (.take 8 (.take 9 (.take 10 (.take 11 (.take 12 (.take 14 (.take 19 (.take 20 (.go 5 (.go 13 (.go 15 (.take 16 (.take 17 (.take 18 (.take 21 (.go 22 .fin .fin))))) .fin) .fin) (.go 13 (.go 5 (.go 15 (.take 16 (.take 17 (.take 18 (.take 21 (.go 22 .fin .fin))))) .fin) .fin) .fin))))))))))))))))))],none⟩
variable (K:VK) (y0 y1 y5 y6:Value) (w:World)
def k3:Prop:=nk ann 61 [(0,y0),(1,y1)] w [1,1] Tryz.f338 K
def k9:Prop:=nk ann 61 [(0,y0),(1,y1),(5,y5),(6,y6)] w [1,1,1,1,1,1] Tryz.f338 K
def k11:Prop:=nk ann 61 [] w [1,1,1,1,1,1,1,1] Tryz.f338 K
attribute [irreducible] k3 k9 k11
end F338
theorem F338.k3.to (h:(C.ae y0 w fun a b=>
 C.ab 130 a b fun c d=>
 C.ai c d fun f g=>
 C.i y5c 337 #[f,y1] g fun i j=>
 C.i y5c 272 #[y1] j fun k m=>
 C.i y5c 186 #[y0,k] m fun o p=>
 C.aj .eql o (.int .i64 5) p fun q r=>
 C.am q (C.ae y0 r fun s t=>
 C.ab 0 s t fun u v=>
 C.ab 0 u v fun x y=>
 C.ai x y fun z aa=>
 C.i y5c 264 #[z,k] aa fun ab ac=>
 K (.bool true) ac) (F338.k9 K y0 y1 k o r))):F338.k3 K y0 y1 w:=qq h
theorem F338.k9.to (h:(C.i y5c 343 #[y6,y1] w fun a b=>
 C.a1 0 a b fun c d=>
 C.a1 1 a d fun f g=>
 C.a9 g fun S i=>
 C.ae y0 i fun j k=>
 C.ab 1 j k fun m o=>
 C.ae y0 o fun p q=>
 C.ab 2 p q fun r s=>
 C.bs 64 2 r y5 s fun t u=>
 C.ae y0 u fun v x=>
 C.ab 2 v x fun y z=>
 (C.ai m z fun aa ab=>
 (S ab∧
 (C.an 2 t ab fun ac ad=>
 (S ad∧
 (C.i y5c 344 #[aa,y5,y6,ac,c] ad fun ae af=>
 (S af∧
 C.a1 0 ae af fun ag ah=>
 C.a1 1 ae ah fun ai aj=>
 C.bs 64 2 y y5 aj fun ak al=>
 (C.ak 2 ak ag al fun am=>
 (S am∧
 F338.k11 K am))∧True))∧True))∧True))∧((C.an 2 t z fun an ao=>
 (S ao∧
 (C.ai m ao fun ap aq=>
 (S aq∧
 (C.i y5c 344 #[ap,y5,y6,an,c] aq fun ar au=>
 (S au∧
 C.a1 0 ar au fun av aw=>
 C.a1 1 ar aw fun ax ay=>
 C.bs 64 2 y y5 ay fun az ba=>
 (C.ak 2 az av ba fun bb=>
 (S bb∧
 F338.k11 K bb))∧True))∧True))∧True))∧True))):F338.k9 K y0 y1 y5 y6 w:=qq h
theorem F338.k11.to (h:(K (.bool true) w)):F338.k11 K w:=qq h
theorem F338.sh (h:(C.i y5c 197 #[x0,x1] w fun a b=>
 C.bf a b fun c d=>
 C.am c (K (.bool false) d) (F338.k3 K x0 x1 d))):C.i y5c 338 #[x0,x1] w K:=q9 (A:=F338.ann) (args:=[x0,x1]) (qq h)
end
end Go.Proofs.YtcakfaakbpdklaaGreatDoorV
namespace Go.Proofs.YtcakfaakbpdklaaGreatDoorV
open Go Go.Proofs Go.RowKit
open Go.Proofs.Tryz renaming prog→y5c
def clV (b:Nat) (p k:Int):Value := .agg #[.pointer (some ⟨b,0,none⟩),.int .i64 p,.int .i64 k,.int .i64 (qae k)]
def chV (l:Int × Int):Value := .agg #[.int .i64 l.1,.int .i64 l.2]
theorem qf4 {b:Nat} {p k:Int}:∀v∈(clV b p k).cells.toList,v.oneCell'=true:=by
 intro v hv
 simp only[clV,Value.cells,y4b,y3i,or_false] at hv
 rcases hv with rfl | rfl | rfl | rfl <;> rfl
theorem qcv {l:Int × Int}:∀v∈(chV l).cells.toList,v.oneCell'=true:=by
 intro v hv
 simp only[chV,Value.cells,y4b,y3i,or_false] at hv
 rcases hv with rfl | rfl <;> rfl
section
variable {K:VK} {w:World} {b:Nat} {mv:Value} {m:List Int} {p k:Int}
theorem bCl (b:Nat) (p k:Int):(Instr.build 319 #[(0,.pointer (some ⟨b,0,none⟩)),(1,.int .i64 p),(2,.int .i64 k),(3,.int .i64 (qae k))]).run y5c w = .ok (clV b p k) w:=by
 unfold clV
 generalize qae k=n
 kernel_rfl
theorem bCh (a n:Int):(Instr.build 241 #[(0,.int .i64 a),(1,.int .i64 n)]).run y5c w = .ok (chV (a,n)) w:=by kernel_rfl
theorem qyg:(Instr.build 241 #[]).run y5c w = .ok (chV (0,0)) w:=by kernel_rfl
theorem qql (h:qax w b mv m) (hp:0≤p∧p<64) (hk:∀w',Fr [] w w'→K (.tuple #[clV b p k,.bool (decide (qd3 m p k))]) w'):C.i y5c 286 #[.pointer (some ⟨b,0,none⟩),.int .i64 p,.int .i64 k] w K:=by
 have hc:=qct k
 have hle:=h.le
 refine F286.sh (C.av fun x6 w1 hn1=>qm1 (C.a4 (bCl b p k) (C.av fun x8 w2 hn2=>C.a0 (x:=clV b p k) hn2.at_ rfl qf4 rfl fun w3 hu3=>qka hp (by omega) ?_)))
 have i1:=hn1.is;have i2:=hn2.is;have z1:=hn1.sz;have z2:=hn2.sz
 have f3:Fr [] w w3:=(hn1.fr.trans hn2.fr).then hu3.fr fun z hz => .inr (by simp only[y2d] at hz;omega)
 simp only[zv]
 refine C.a5 (fun w'=>w'.heap[x8]?=some (.cells #[.pointer (some ⟨b,0,none⟩),.int .i64 p,.int .i64 k,.int .i64 (qae k)] 319 (0,0))) fun w4 hf4 _=>⟨hf4.at_ hu3.at_ (by simp),?_⟩
 have f4:=f3.trans hf4
 have c8:=hf4.at_ hu3.at_ (by simp)
 have c6:w4.heap[x6]?=some (.cells #[.pointer none,.int .i64 0,.int .i64 0,.int .i64 0] 319 (0,0)):=hf4.at_ (hu3.fr.at_ (hn2.fr.at_ hn1.at_ (by simp)) (by simp;omega)) (by simp)
 simp only[]
 refine C.bn (vs:=[.pointer (some ⟨b,0,none⟩),.int .i64 p,.int .i64 k,.int .i64 (qae k)]) (fun w' hw=>⟨_,_,_,hw,by simp,rfl⟩) (C.ao (v := .int .i64 (qae k)) (fun w' hw=>⟨_,_,_,hw,rfl⟩) ?_)
 have h4:=h.keep0 f4
 have fin:∀ok:Bool,ok=decide (qd3 m p k)→(C.ak 4 (.pointer (some ⟨x6,0,none⟩)) (.agg [Value.pointer (some ⟨b,0,none⟩),.int .i64 p,.int .i64 k,.int .i64 (qae k)].toArray) w4 fun w21=>
   (w21.heap[x8]?=some (.cells #[.pointer (some ⟨b,0,none⟩),.int .i64 p,.int .i64 k,.int .i64 (qae k)] 319 (0,0))∧C.an 4 (.pointer (some ⟨x6,0,none⟩)) w21 fun r22 _=>K (.tuple #[r22,.bool ok]) w21)):=fun ok e=>by
  refine C.a0 (x:=clV b p k) c6 rfl qf4 rfl fun w5 hu5=>⟨hu5.fr.at_ c8 (by simp;omega),C.ax hu5.at_ rfl ?_⟩
  rw[e]
  exact hk w5 (f4.then hu5.fr fun z hz => .inr (by simp only[y2d] at hz;omega))
 by_cases c1:qae k>0
 ·simp only[zv,c1]
  refine⟨zfw h4 ⟨c8,?_⟩,trivial⟩
  simp only[C.au]
  refine⟨fin _ (decide_eq_decide.2 ?_),trivial⟩
  unfold qd3
  omega
 ·simp only[zv,c1]
  refine⟨⟨c8,fin false (decide_eq_false ?_).symm,trivial⟩,trivial⟩
  unfold qd3
  omega
theorem zam {i:Int} (hk:∀w',Fr [] w w'→K (.bool (decide (0≤i∧i<qae k))) w'):C.i y5c 287 #[clV b p k,.int .i64 i] w K:=by
 refine F287.sh (C.av fun x2 w1 hn1=>?_)
 by_cases c:i≥0
 ·simp only[zv,c]
  refine C.ad (v := .int .i64 (qae k)) hn1.at_ rfl ?_
  simp only[C.au]
  have:=hk w1 hn1.fr
  rwa [show decide (0≤i∧i<qae k)=decide (i<qae k) from decide_eq_decide.2 (by omega)] at this
 ·simp only[zv,c]
  have:=hk w1 hn1.fr
  rwa [decide_eq_false (by omega)] at this
theorem ze2 {i:Int} (h:qax w b mv m) (hp:0≤p∧p<64) (hi:0≤i∧i<qae k) (hk:∀w',Fr [] w w'→K (match qkj m p k i with | some x => .tuple #[.int .i64 x,.bool true] | none => .tuple #[.int .i64 0,.bool false]) w'):C.i y5c 288 #[clV b p k,.int .i64 i] w K:=by
 have hc:=qct k
 refine F288.sh (C.av fun x2 w1 hn1=>?_)
 have hb:w1.heap[x2]?=some (.cells #[.pointer (some ⟨b,0,none⟩),.int .i64 p,.int .i64 k,.int .i64 (qae k)] 319 (0,0)):=hn1.at_
 simp only[zv]
 refine C.ad (v := .int .i64 p) hb rfl (C.ad (v := .int .i64 k) hb rfl (qtg hp hi ?_))
 simp only[zv]
 refine C.ad (v := .pointer (some ⟨b,0,none⟩)) hb rfl (qu2 (h.keep0 hn1.fr) fun ok=>?_)
 have hk:=hk w1 hn1.fr
 unfold qkj at hk
 have hx:=qjo (a:=(gAt p k i).1) h
 generalize qao m (gAt p k i).1=x at *
 simp only[zv] at hk ⊢
 by_cases c1:x≥0
 ·simp only[zv,c1]
  rwa [if_pos (.inl c1)] at hk
 simp only[zv,c1]
 refine C.ad (v := .int .i64 (qae k)) hb rfl ?_
 simp only[zv]
 rw[qab (n := -1-qae k) (by omega)]
 by_cases c2:x < -1-qae k
 ·simp only[zv,c2]
  rwa [if_pos (.inr c2)] at hk
 simp only[zv,c2]
 rw[if_neg (by omega)] at hk
 refine F288.k5.to ?_
 simp only[C.bo]
 rw[qab (n := -1-x) (by omega)]
 exact hk
theorem qwp {i x:Int} (h:qax w b mv m) (hp:0≤p∧p<64) (hi:0≤i∧i<qae k) (hx : -1000≤x∧x≤1000) (hk:∀w',Fr (qaa mv) w w'→qax w' b mv (qe8 m p k i x)→K (.tuple #[]) w'):
  C.i y5c 289 #[clV b p k,.int .i64 i,.int .i64 x] w K:=by
 refine F289.sh (C.av fun x2 w1 hn1=>?_)
 have hb:w1.heap[x2]?=some (.cells #[.pointer (some ⟨b,0,none⟩),.int .i64 p,.int .i64 k,.int .i64 (qae k)] 319 (0,0)):=hn1.at_
 simp only[zv]
 refine C.ad (v := .int .i64 p) hb rfl (C.ad (v := .int .i64 k) hb rfl (qtg hp hi ?_))
 simp only[zv]
 refine C.ad (v := .pointer (some ⟨b,0,none⟩)) hb rfl ?_
 rw[qab (n := -1-x) (by omega)]
 exact qsh (h.keep0 hn1.fr) (by omega) fun w2 hf2 h2=>hk w2 (hn1.fr.w.trans hf2) h2
end
section
variable {K:VK} {w:World} {b:Nat} {mv:Value} {m:List Int} {p k:Int}
theorem qmg (m:List Int) (p k:Int):∀n,(qcy m p k n).length=m.length
 | 0=>rfl
 | n+1=>by
  show (qe8 (qcy m p k n) p k n (n+1)).length=_
  unfold qe8
  rw[qc0,qmg m p k n]
theorem qtu {W:World} {x6 x8:Nat} (hlt:∀g∈qaa mv,g<W.heap.size) (hp:0≤p∧p<64) (h8:W.heap.size≤x8) (h6:W.heap.size≤x6) (hne:x6≠x8)
  (hk:∀w',Fr (qaa mv) W w'→qax w' b mv (qcy m p k (qae k).toNat)→w'.heap[x8]?=some (.cells #[.pointer (some ⟨b,0,none⟩),.int .i64 p,.int .i64 k,.int .i64 (qae k)] 319 (0,0))→w'.heap[x6]?=some (.cells #[.int .i64 0,.int .i64 0] 241 (0,0))→F253.k11 K (.pointer (some ⟨x6,0,none⟩)) (.pointer (some ⟨x8,0,none⟩)) w'):
  ∀(d j:Nat) (w:World),(qae k).toNat=j+d→Fr (qaa mv) W w→qax w b mv (qcy m p k j)→w.heap[x8]?=some (.cells #[.pointer (some ⟨b,0,none⟩),.int .i64 p,.int .i64 k,.int .i64 (qae k)] 319 (0,0))→w.heap[x6]?=some (.cells #[.int .i64 0,.int .i64 0] 241 (0,0))→
   F253.l7 K (.pointer (some ⟨x6,0,none⟩)) (.pointer (some ⟨x8,0,none⟩)) (.int .i64 (qae k)) (.int .i64 (j:Int)) w:=by
 have hc:=qct k
 intro d
 induction d with
 | zero=>
  intro j w hd hf hM h8' h6'
  refine F253.l7.to ?_
  simp only[zv,show ¬((j:Int)<qae k) by omega]
  rw[show j=(qae k).toNat by omega] at hM
  exact hk w hf hM h8' h6'
 | succ d ih=>
  intro j w hd hf hM h8' h6'
  refine F253.l7.to ?_
  simp only[zv,show ((j:Int)<qae k) by omega]
  refine F253.k8.to (C.ax h8' rfl ?_)
  simp only[C.a6]
  rw[qab (n:=(j:Int)+1) (by omega)]
  refine qwp (p:=p) (k:=k) (i:=(j:Int)) (x:=(j:Int)+1) hM hp (by omega) (by omega) fun w1 hf1 hM1=>?_
  refine F253.k10.to ?_
  simp only[C.a6]
  rw[qab (n:=(j:Int)+1) (by omega),show (j:Int)+1=((j+1:Nat):Int) by omega]
  exact ih (j+1) w1 (by omega) (hf.trans hf1) hM1 (hf1.at_ h8' fun hg=>by have:=hlt _ hg;omega) (hf1.at_ h6' fun hg=>by have:=hlt _ hg;omega)
theorem zav (h:qax w b mv m) (hp:0≤p∧p<64) (hk:∀w' ok,Fr (qaa mv) w w'→qax w' b mv (qb8 m p k).1→K (.tuple #[chV (qb8 m p k).2,.bool ok]) w'):
  C.i y5c 253 #[.pointer (some ⟨b,0,none⟩),.int .i64 p,.int .i64 k] w K:=by
 have hlt:=h.own.mem_lt
 refine F253.sh (C.av fun x6 w1 hn1=>qql (h.keep0 hn1.fr) hp fun w2 hf2=>?_)
 simp only[zv]
 refine C.av fun x8 w3 hn3=>C.a0 (x:=clV b p k) hn3.at_ rfl qf4 rfl fun w4 hu4=>?_
 have i1:=hn1.is;have z1:=hn1.sz;have s2:=hf2.size;have i3:=hn3.is
 have f14:Fr [] w1 w4:=(hf2.trans hn3.fr).then hu4.fr fun z hz => .inr (by simp only[y2d] at hz;omega)
 have f4:=hn1.fr.trans f14
 have h4:=h.keep0 f4
 have c6:=f14.at_ hn1.at_ (by simp)
 unfold qb8 at hk
 by_cases c:qd3 m p k
 ·rw[if_pos c] at hk
  simp only[zv,c]
  have hc:=qct k
  refine F253.k4.to (qka hp (by omega) ?_)
  try simp only[zv]
  refine qly h4 (by omega) fun w5 hf5 h5=>?_
  have off:∀z,w.heap.size≤z→z∉qaa mv:=fun z hz hg=>by have:=hlt z hg;omega
  have c8:=hf5.at_ hu4.at_ (off x8 (by omega))
  have c6':=hf5.at_ c6 (off x6 (by omega))
  refine C.ad (v := .int .i64 (qae k)) c8 rfl ?_
  have s5:=hf5.size
  have f5:Fr (qaa mv) w w5:=f4.w.trans hf5
  refine qtu (x6:=x6) (x8:=x8) (W:=w) (m:=qba m (p*32) 32 0) hlt hp (by omega) (by omega) (by omega) (fun w6 hf6 h6 c8' c6''=>?_) _ 0 w5 (by rw[y4k]) f5 h5 c8 c6'
  refine F253.k11.to ?_
  simp only[zv]
  refine C.ad (v := .int .i64 (qae k)) c8' rfl (C.a4 (bCh 0 (qae k)) (C.a0 (x:=chV (0,qae k)) c6'' rfl qcv rfl fun w7 hu7=>C.ax hu7.at_ rfl ?_))
  exact hk w7 true (hf6.then hu7.fr fun z hz => .inr (by simp only[y2d] at hz;omega)) (h6.keep hu7.fr (by simp only[y2d];exact fun e=>by have:=qac h.blk;omega) fun g hg e=>by simp only[y2d] at e;have:=hlt g hg;omega)
 ·rw[if_neg c] at hk
  simp only[zv,c]
  refine C.a4 qyg (C.a0 (x:=chV (0,0)) c6 rfl qcv rfl fun w5 hu5=>C.ax hu5.at_ rfl ?_)
  exact hk w5 false (f4.w.then hu5.fr fun z hz => .inr (by simp only[y2d] at hz;omega)) (h4.keep hu5.fr (by simp only[y2d];exact fun e=>by have:=qac h.blk;omega) fun g hg e=>by simp only[y2d] at e;have:=hlt g hg;omega)
theorem qr1 {l:Int × Int} (h:qax w b mv m) (hp:0≤p∧p<64) (hl : -9223372036854775808≤l.2∧l.2≤9223372036854775807) (hk:∀w' ok,Fr [] w w'→K (.tuple #[.int .i64 (qch m p k l).1,chV (qch m p k l).2,.bool ok]) w'):
  C.i y5c 248 #[.pointer (some ⟨b,0,none⟩),.int .i64 p,.int .i64 k,chV l] w K:=by
 obtain⟨l1,l2⟩:=l
 have hc:=qct k
 refine F248.sh (C.av fun x7 w1 hn1=>C.av fun x9 w2 hn2=>qql (h.keep0 (hn1.fr.trans hn2.fr)) hp fun w3 hf3=>?_)
 simp only[zv]
 refine C.av fun x11 w4 hn4=>C.a0 (x:=clV b p k) hn4.at_ rfl qf4 rfl fun w5 hu5=>?_
 have i1:=hn1.is;have z1:=hn1.sz;have i2:=hn2.is;have z2:=hn2.sz;have s3:=hf3.size;have i4:=hn4.is;have z4:=hn4.sz
 have f25:Fr [] w2 w5:=(hf3.trans hn4.fr).then hu5.fr fun z hz => .inr (by simp only[y2d] at hz;omega)
 have f5:Fr [] w w5:=hn1.fr.trans (hn2.fr.trans f25)
 have c7:w5.heap[x7]?=some (.cells #[.int .i64 l1,.int .i64 l2] 241 (0,0)):=f25.at_ (hn2.fr.at_ hn1.at_ (by simp)) (by simp)
 have c9:w5.heap[x9]?=some (.cells #[.int .i64 0,.int .i64 0] 241 (0,0)):=f25.at_ hn2.at_ (by simp)
 have c11:w5.heap[x11]?=some (.cells (clV b p k).cells 319 (0,0)):=hu5.at_
 unfold qch at hk
 have no:∀w6,Fr [] w5 w6→(∀w' ok,Fr [] w w'→K (.tuple #[.int .i64 0,chV (0,0),.bool ok]) w')→C.ay y5c (Instr.build 241 #[]) w6 fun x35_19 w19=>C.ak 2 (.pointer (some ⟨x9,0,none⟩)) x35_19 w19 fun w20=>C.an 2 (.pointer (some ⟨x9,0,none⟩)) w20 fun r21 _=>K (.tuple #[(.int .i64 0),r21,(.bool false)]) w20:=fun w6 hf6 hk=>by
  refine C.a4 qyg (C.a0 (x:=chV (0,0)) (hf6.at_ c9 (by simp)) rfl qcv rfl fun w7 hu7=>C.ax hu7.at_ rfl ?_)
  exact hk w7 false ((f5.trans hf6).then hu7.fr fun z hz => .inr (by simp only[y2d] at hz;omega))
 by_cases o1:qd3 m p k
 ·simp only[zv,o1]
  refine C.ad (v := .int .i64 l2) c7 rfl ?_
  by_cases o2:l2<1
  ·simp only[zv,o2]
   rw[if_neg (by omega)] at hk
   exact no w5 (Fr.refl _ _) hk
  simp only[zv,o2]
  refine C.ax c11 rfl (C.ad (v := .int .i64 l1) c7 rfl (zam (b:=b) (p:=p) (k:=k) fun w6 hf6=>?_))
  by_cases o3:0≤l1∧l1<qae k
  ·simp only[zv,o3,and_self]
   rw[if_pos ⟨o1,by omega,o3.1,o3.2⟩] at hk
   refine F248.k4.to (C.ax (hf6.at_ c11 (by simp)) rfl ?_)
   simp only[zv]
   refine C.ad (v := .int .i64 l1) (hf6.at_ c7 (by simp)) rfl ?_
   refine ze2 (b:=b) (p:=p) (k:=k) (h.keep0 (f5.trans hf6)) hp o3 fun w7 hf7=>?_
   have f67:=hf6.trans hf7
   cases hnx:qkj m p k l1 with
   | none=>
    rw[hnx] at hk
    simp only[zv]
    exact no w7 f67 hk
   | some x=>
    rw[hnx] at hk
    simp only[zv]
    refine F248.k7.to (C.a5 (fun w'=>w'.heap[x7]?=some (.cells #[.int .i64 l1,.int .i64 l2] 241 (0,0))) fun w8 hf8 _=>⟨hf8.at_ (f67.at_ c7 (by simp)) (by simp),?_⟩)
    have f8:=f67.trans hf8
    simp only[zv]
    refine C.ao (v := .int .i64 l1) (fun w' hw=>⟨_,_,_,hw,rfl⟩) (C.ao (v := .int .i64 l2) (fun w' hw=>⟨_,_,_,hw,rfl⟩) ?_)
    simp only[C.bo]
    rw[qab (n:=l2-1) (by simp only at hl;omega)]
    refine⟨_,fun w' _=>bCh x (l2-1),⟨C.a0 (x:=chV (x,l2-1)) (f8.at_ c9 (by simp)) rfl qcv rfl fun w9 hu9=>⟨hu9.fr.at_ (f8.at_ c7 (by simp)) (by simp;omega),C.ax hu9.at_ rfl ?_⟩,trivial⟩⟩
    exact hk w9 true ((f5.trans f8).then hu9.fr fun z hz => .inr (by simp only[y2d] at hz;omega))
  ·simp only[zv,o3]
   rw[if_neg (fun e=>o3 ⟨e.2.2.1,e.2.2.2⟩)] at hk
   exact no w6 hf6 hk
 ·simp only[zv,o1]
  rw[if_neg (fun e=>o1 e.1)] at hk
  exact no w5 (Fr.refl _ _) hk
theorem qrz {l:Int × Int} {i:Int} (h:qax w b mv m) (hp:0≤p∧p<64) (hk:∀w' ok,Fr (qaa mv) w w'→qax w' b mv (qdr m p k l i).1→K (.tuple #[chV (qdr m p k l i).2,.bool ok]) w'):
  C.i y5c 344 #[.pointer (some ⟨b,0,none⟩),.int .i64 p,.int .i64 k,chV l,.int .i64 i] w K:=by
 obtain⟨l1,l2⟩:=l
 have hc:=qct k
 have hlt:=h.own.mem_lt
 refine F344.sh (C.av fun x8 w1 hn1=>C.av fun x10 w2 hn2=>qql (h.keep0 (hn1.fr.trans hn2.fr)) hp fun w3 hf3=>?_)
 simp only[zv]
 refine C.av fun x12 w4 hn4=>C.a0 (x:=clV b p k) hn4.at_ rfl qf4 rfl fun w5 hu5=>?_
 have i1:=hn1.is;have z1:=hn1.sz;have i2:=hn2.is;have z2:=hn2.sz;have s3:=hf3.size;have i4:=hn4.is;have z4:=hn4.sz
 have f25:Fr [] w2 w5:=(hf3.trans hn4.fr).then hu5.fr fun z hz => .inr (by simp only[y2d] at hz;omega)
 have f5:Fr [] w w5:=hn1.fr.trans (hn2.fr.trans f25)
 have c8:w5.heap[x8]?=some (.cells #[.int .i64 l1,.int .i64 l2] 241 (0,0)):=f25.at_ (hn2.fr.at_ hn1.at_ (by simp)) (by simp)
 have c10:w5.heap[x10]?=some (.cells #[.int .i64 0,.int .i64 0] 241 (0,0)):=f25.at_ hn2.at_ (by simp)
 have c12:w5.heap[x12]?=some (.cells #[.pointer (some ⟨b,0,none⟩),.int .i64 p,.int .i64 k,.int .i64 (qae k)] 319 (0,0)):=hu5.at_
 have off:∀z,w.heap.size≤z→z∉qaa mv:=fun z hz hg=>by have:=hlt z hg;omega
 have hbl:=qac h.blk
 unfold qdr at hk
 have no:∀w6,Fr [] w5 w6→(∀w' ok,Fr (qaa mv) w w'→qax w' b mv m→K (.tuple #[chV (0,0),.bool ok]) w')→C.ay y5c (Instr.build 241 #[]) w6 fun x53_34 w34=>C.ak 2 (.pointer (some ⟨x10,0,none⟩)) x53_34 w34 fun w35=>C.an 2 (.pointer (some ⟨x10,0,none⟩)) w35 fun r36 _=>K (.tuple #[r36,(.bool false)]) w35:=fun w6 hf6 hk=>by
  refine C.a4 qyg (C.a0 (x:=chV (0,0)) (hf6.at_ c10 (by simp)) rfl qcv rfl fun w7 hu7=>C.ax hu7.at_ rfl ?_)
  have f7:Fr [] w w7:=(f5.trans hf6).then hu7.fr fun z hz => .inr (by simp only[y2d] at hz;omega)
  exact hk w7 false f7.w (h.keep0 f7)
 by_cases o1:qd3 m p k
 ·simp only[zv,o1]
  refine C.ax c12 rfl (zam (b:=b) (p:=p) (k:=k) fun w6 hf6=>?_)
  have c8':=hf6.at_ c8 (by simp)
  have c12':=hf6.at_ c12 (by simp)
  by_cases o2:0≤i∧i<qae k
  ·simp only[zv,o2,and_self]
   refine C.ad (v := .int .i64 l2) c8' rfl ?_
   by_cases o3:l2<0
   ·simp only[zv,o3]
    rw[if_neg (by simp only;omega)] at hk
    exact no w6 hf6 hk
   simp only[zv,o3]
   refine C.ad (v := .int .i64 l2) c8' rfl (C.ad (v := .int .i64 (qae k)) c12' rfl ?_)
   by_cases o4:l2≥qae k
   ·simp only[zv,o4]
    rw[if_neg (by simp only;omega)] at hk
    exact no w6 hf6 hk
   simp only[zv,o4]
   refine C.ad (v := .int .i64 l1) c8' rfl ?_
   by_cases o5:l1<0
   ·simp only[zv,o5]
    rw[if_neg (by simp only;omega)] at hk
    exact no w6 hf6 hk
   simp only[zv,o5]
   refine C.ad (v := .int .i64 l1) c8' rfl (C.ad (v := .int .i64 (qae k)) c12' rfl ?_)
   by_cases o6:l1>qae k
   ·simp only[zv,o6]
    rw[if_neg (by simp only;omega)] at hk
    exact no w6 hf6 hk
   simp only[zv,o6]
   rw[if_pos ⟨o1,o2.1,o2.2,by simp only;omega,by simp only;omega,by simp only;omega,by simp only;omega⟩] at hk
   refine F344.k4.to (C.ax c12' rfl ?_)
   try simp only[zv]
   refine C.ad (v := .int .i64 l1) c8' rfl (qwp (b:=b) (p:=p) (k:=k) (h.keep0 (f5.trans hf6)) hp o2 (by omega) fun w7 hf7 h7=>?_)
   refine C.ad (v := .int .i64 l2) (hf7.at_ c8' (off _ (by omega))) rfl ?_
   try simp only[C.a6]
   rw[qab (n:=l2+1) (by omega)]
   refine C.a4 (bCh i (l2+1)) (C.a0 (x:=chV (i,l2+1)) (hf7.at_ (hf6.at_ c10 (by simp)) (off _ (by omega))) rfl qcv rfl fun w8 hu8=>C.ax hu8.at_ rfl ?_)
   refine hk w8 true (((f5.trans hf6).w.trans hf7).then hu8.fr fun z hz => .inr (by simp only[y2d] at hz;omega)) (h7.keep hu8.fr (by simp;omega) fun g hg e=>by simp only[y2d] at e;have:=hlt g hg;omega)
  ·simp only[zv,o2]
   rw[if_neg (fun e=>o2 ⟨e.2.1,e.2.2.1⟩)] at hk
   exact no w6 hf6 hk
 ·simp only[zv,o1]
  rw[if_neg (fun e=>o1 e.1)] at hk
  exact no w5 (Fr.refl _ _) hk
end
end Go.Proofs.YtcakfaakbpdklaaGreatDoorV
namespace Go.Proofs.YtcakfaakbpdklaaGreatDoorV
open Go
open Go.Proofs.Tryz renaming prog→y5c
theorem qbz {n:Int} (h:0≤n∧n<18446744073709551616):IntKind.u64.wrap n=n:=by
 unfold IntKind.wrap IntKind.bits IntKind.signed
 simp
 omega
section
variable {P:Program} {w:World} {t:TypeId}
theorem qjb (x y:Operand) (a:Int) (h0:0≤a) (h1:a<18446744073709551616):(do eqGuard .and t x y (.int .u64 a) (.int .u64 4294967295);binOp .and t (.int .u64 a) (.int .u64 4294967295):Sem Value).run P w = .ok (.int .u64 (a % 4294967296)) w:=by
 have hm:(BitVec.ofInt 64 4294967295).toNat=2 ^ 32-1:=by decide
 have key:(BitVec.ofInt 64 a &&& BitVec.ofInt 64 4294967295).toNat=(a % ((2 ^ 64:Nat):Int)).toNat % 2 ^ 32:=by
  rw[BitVec.toNat_and,BitVec.toNat_ofInt,hm,Nat.and_two_pow_sub_one_eq_mod]
 have e:IntKind.u64.wrap ((BitVec.ofInt 64 a &&& BitVec.ofInt 64 4294967295).toNat:Nat)=a % 4294967296:=by
  rw[key,qbz (by omega)]
  omega
 have e':(Op.intBits .and .u64 a 4294967295:Sem Value)=pure (.int .u64 (IntKind.u64.wrap ((BitVec.ofInt 64 a &&& BitVec.ofInt 64 4294967295).toNat:Nat))):=rfl
 simp only[y4g,qat,y2m]
 show (Op.intBits .and .u64 a 4294967295).run P w=_
 rw[e',e]
 rfl
theorem qga (x y:Operand) (a:Int):(do eqGuard .shr t x y (.int .u64 a) (.int .u64 32);binOp .shr t (.int .u64 a) (.int .u64 32):Sem Value).run P w = .ok (.int .u64 (a / 4294967296)) w:=by
 simp only[y4g,qat,y2m]
 show (Op.shift .shr .u64 a .u64 32).run P w=_
 have:a.fdiv 4294967296=a / 4294967296:=by rw[y0j _ (by decide)]
 simp[Op.shift,IntKind.bits,this]
end
end Go.Proofs.YtcakfaakbpdklaaGreatDoorV
namespace Go.Proofs.YtcakfaakbpdklaaGreatDoorV
open Go Go.Proofs Go.RowKit
open Go.Proofs.Tryz renaming prog→y5c
section
variable {P:Program} {w:World} {t:TypeId}
theorem qqy (x y:Operand) (a j:Nat) (hj:j<64):(do eqGuard .shr t x y (.int .u64 (a:Int)) (.int .i64 (j:Int));binOp .shr t (.int .u64 (a:Int)) (.int .i64 (j:Int)):Sem Value).run P w = .ok (.int .u64 ((a / 2 ^ j:Nat):Int)) w:=by
 simp only[y4g,qat,y2m]
 show (Op.shift .shr .u64 a .i64 j).run P w=_
 have h1:¬((j:Int)<0):=by omega
 have h2:min (j:Int).toNat 64=j:=by omega
 have h3:((a:Int)).fdiv (2 ^ j)=((a / 2 ^ j:Nat):Int):=by
  rw[y0j _ (Int.pow_nonneg (by decide))]
  push_cast
  rfl
 simp[]
theorem qlt (x y:Operand) (a j:Nat) (hj:j<64):(do eqGuard .shl t x y (.int .u64 (a:Int)) (.int .i64 (j:Int));binOp .shl t (.int .u64 (a:Int)) (.int .i64 (j:Int)):Sem Value).run P w = .ok (.int .u64 ((a*2 ^ j % 18446744073709551616:Nat):Int)) w:=by
 simp only[y4g,qat,y2m]
 show (Op.shift .shl .u64 a .i64 j).run P w=_
 have h1:¬((j:Int)<0):=by omega
 have h2:min (j:Int).toNat 64=j:=by omega
 have h3:IntKind.u64.wrap ((a:Int)*2 ^ j)=((a*2 ^ j % 18446744073709551616:Nat):Int):=by
  have e:(a:Int)*2 ^ j=((a*2 ^ j:Nat):Int):=by push_cast;rfl
  rw[IntKind.wrap_u64,e]
  generalize a*2 ^ j=z
  omega
 simp[h3]
theorem qe2 {a:Nat} (h:a<2 ^ 64):(BitVec.ofInt 64 (a:Int)).toNat=a:=by
 rw[BitVec.toNat_ofInt]
 have:((a:Int) % ((2 ^ 64:Nat):Int)).toNat=a:=by omega
 exact this
theorem qye (x y:Operand) (a b:Nat) (ha:a<2 ^ 64) (hb:b<2 ^ 64):(do eqGuard .and t x y (.int .u64 (a:Int)) (.int .u64 (b:Int));binOp .and t (.int .u64 (a:Int)) (.int .u64 (b:Int)):Sem Value).run P w = .ok (.int .u64 ((a &&& b:Nat):Int)) w:=by
 have e':(Op.intBits .and .u64 a b:Sem Value)=pure (.int .u64 (IntKind.u64.wrap ((BitVec.ofInt 64 a &&& BitVec.ofInt 64 b).toNat:Nat))):=rfl
 simp only[y4g,qat,y2m]
 show (Op.intBits .and .u64 a b).run P w=_
 have hl:a &&& b<2 ^ 64:=Nat.and_lt_two_pow _ hb
 rw[e',BitVec.toNat_and,qe2 ha,qe2 hb,qbz (by omega)]
 rfl
theorem zck (x y:Operand) (a b:Nat) (ha:a<2 ^ 64) (hb:b<2 ^ 64):(do eqGuard .or t x y (.int .u64 (a:Int)) (.int .u64 (b:Int));binOp .or t (.int .u64 (a:Int)) (.int .u64 (b:Int)):Sem Value).run P w = .ok (.int .u64 ((a ||| b:Nat):Int)) w:=by
 have e':(Op.intBits .or .u64 a b:Sem Value)=pure (.int .u64 (IntKind.u64.wrap ((BitVec.ofInt 64 a ||| BitVec.ofInt 64 b).toNat:Nat))):=rfl
 simp only[y4g,qat,y2m]
 show (Op.intBits .or .u64 a b).run P w=_
 have hl:a ||| b<2 ^ 64:=Nat.or_lt_two_pow ha hb
 rw[e',BitVec.toNat_or,qe2 ha,qe2 hb,qbz (by omega)]
 rfl
theorem qri (x y:Operand) (a b:Nat) (ha:a<2 ^ 64) (hb:b<2 ^ 64):∃r:Nat,r<2 ^ 64∧(∀i,i<64→r.testBit i=(a.testBit i && !b.testBit i))∧∀w,(do eqGuard .andNot t x y (.int .u64 (a:Int)) (.int .u64 (b:Int));binOp .andNot t (.int .u64 (a:Int)) (.int .u64 (b:Int)):Sem Value).run P w = .ok (.int .u64 (r:Int)) w:=by
 refine⟨(BitVec.ofInt 64 a &&& ~~~ BitVec.ofInt 64 b).toNat,BitVec.isLt _,fun i hi=>?_,fun w=>?_⟩
 ·rw[BitVec.testBit_toNat,BitVec.getLsbD_and,BitVec.getLsbD_not, ←BitVec.testBit_toNat, ←BitVec.testBit_toNat,qe2 ha,qe2 hb]
  simp[hi]
 ·have e':(Op.intBits .andNot .u64 a b:Sem Value)=pure (.int .u64 (IntKind.u64.wrap ((BitVec.ofInt 64 a &&& ~~~ BitVec.ofInt 64 b).toNat:Nat))):=rfl
  simp only[y4g,qat,y2m]
  show (Op.intBits .andNot .u64 a b).run P w=_
  have hl:=(BitVec.ofInt 64 (a:Int) &&& ~~~ BitVec.ofInt 64 (b:Int)).isLt
  rw[e',qbz (by omega)]
  rfl
end
structure qbd (w:World) (b:Nat) (n:Int) (s:Bs):Prop where
 blk:∃cs:Array Value,w.heap[b]?=some (.cells cs 255 (0,0))∧cs.size=34∧cs[0]?=some (.bool true)∧cs[1]?=some (.int .i64 n)∧∀k,k<32→∃x:Nat,cs[2+k]?=some (.int .u64 (x:Int))∧x<2 ^ 64∧∀j,j<64→x.testBit j=s (64*k+j)
 rng:0≤n∧n≤2048
 sup:∀i:Nat,s i=true→(i:Int)<n
theorem qbd.keep {S:List Nat} {w w':World} {b:Nat} {n:Int} {s:Bs} (h:qbd w b n s) (hf:Fr S w w') (hb:b∉S):qbd w' b n s:=by
 obtain⟨cs,h1,h2⟩:=h.blk
 exact⟨⟨cs,hf.at_ h1 hb,h2⟩,h.rng,h.sup⟩
theorem C.bq {K:VK} {w:World} {ln n g o:Nat} {k:IntKind} {j:Int} (h0:0≤j) (h1:j<(ln:Int)) (h:K (.pointer (some ⟨g,o+j.toNat*n,none⟩)) w):C.bs ln n (.pointer (some ⟨g,o,none⟩)) (.int k j) w K:=by
 refine⟨⟨g,o,none⟩,k,j,rfl,rfl,h0,h1,?_⟩
 rw[Go.Proofs.YtcakfaakbpdklaaGreatDoorV.add_mk]
 exact h
section
variable {K:VK} {w:World} {b:Nat} {n:Int} {s:Bs}
theorem zex {i:Int} (h:qbd w b n s) (hk:K (.bool (decide (0≤i) && decide (i<n))) w):C.i y5c 243 #[.pointer (some ⟨b,0,none⟩),.int .i64 i] w K:=by
 obtain⟨cs,c1,c2,c3,c4,c5⟩:=h.blk
 refine F243.sh ⟨_,qa0 _ _ _ Tryz.underlying177,?_⟩
 simp only[zv]
 refine C.ad (v := .bool true) c1 c3 ?_
 simp only[zv]
 by_cases h1:i≥0
 ·simp only[zv,h1]
  refine C.ad (v := .int .i64 n) c1 c4 ?_
  simp only[C.au]
  rwa [decide_eq_true h1,Bool.true_and] at hk
 ·simp only[zv,h1]
  rwa [decide_eq_false h1,Bool.false_and] at hk
theorem qou {i:Int} (h:qbd w b n s) (hk:K (.bool (qd0 n s i)) w):C.i y5c 244 #[.pointer (some ⟨b,0,none⟩),.int .i64 i] w K:=by
 obtain⟨cs,c1,c2,c3,c4,c5⟩:=h.blk
 have hn:=h.rng
 refine F244.sh (zex h ?_)
 unfold qd0 at hk
 by_cases hi:0≤i∧i<n
 ·rw[decide_eq_true hi.1,decide_eq_true hi.2] at hk ⊢
  simp only[zv,Bool.and_self,Bool.true_and] at hk ⊢
  refine⟨_,qcl _ _ i 64 (by decide),?_⟩
  rw[y0i hi.1,qab (by omega)]
  refine C.bq (by omega) (by omega) ?_
  obtain⟨x,x1,x2,x3⟩:=c5 (i / 64).toNat (by omega)
  refine C.ad (v := .int .u64 (x:Int)) c1 (by rw[y4t];exact x1) ⟨_,qe3 _ _ i 64 (by decide),?_⟩
  rw[y0k hi.1]
  obtain⟨j,hj⟩:=y1b (show 0≤i % 64 by omega)
  rw[hj]
  refine⟨_,qqy _ _ x j (by omega),⟨_,qye _ _ (x / 2 ^ j) 1 (Nat.lt_of_le_of_lt (Nat.div_le_self _ _) x2) (by decide),?_⟩⟩
  simp only[C.az]
  have e:decide (((x / 2 ^ j &&& 1:Nat):Int)=1)=s i.toNat:=by
   have:=x3 j (by omega)
   rw[show 64*(i / 64).toNat+j=i.toNat by omega] at this
   rw[←this,Nat.testBit_eq_decide_div_mod_eq,Nat.and_one_is_mod]
   exact decide_eq_decide.2 (by omega)
  rw[e]
  exact hk
 ·have e:(decide (0≤i) && decide (i<n))=false:=by
   rw[Bool.and_eq_false_iff]
   simp only[decide_eq_false_iff_not]
   omega
  rw[e] at hk ⊢
  simp only[zv,Bool.false_and] at hk ⊢
  exact hk
end
end Go.Proofs.YtcakfaakbpdklaaGreatDoorV
namespace Go.Proofs.YtcakfaakbpdklaaGreatDoorV
open Go Go.Proofs Go.Shelf
open Go.Proofs.Tryz renaming prog→y5c
def zc0:Go.Shelf.Ren:=⟨fun | 29=>291 | n=>n,fun | 22=>210 | 3=>3 | 4=>4 | 25=>157 | 54=>334 | 0=>0 | 5=>5 | n=>n,fun | 1=>0 | n=>n⟩
theorem tzL:Lays7.n29 y5c zc0:={
 mixed:=by kernel_rfl,
 f29:=Tryz.func291.trans (congrArg some (by kernel_rfl)),
 t0:=Tryz.underlying0,
 a0:=Tryz.isAgg0,
 z0:=Tryz.sizeOf0,
 v0:=Tryz.zeroValue0,
 i0:=by kernel_rfl,
 t3:=Tryz.underlying3,
 a3:=Tryz.isAgg3,
 z3:=Tryz.sizeOf3,
 v3:=Tryz.zeroValue3,
 i3:=by kernel_rfl,
 t4:=Tryz.underlying4,
 a4:=Tryz.isAgg4,
 z4:=Tryz.sizeOf4,
 v4:=Tryz.zeroValue4,
 i4:=by kernel_rfl,
 t5:=Tryz.underlying5,
 a5:=Tryz.isAgg5,
 z5:=Tryz.sizeOf5,
 v5:=Tryz.zeroValue5,
 i5:=by kernel_rfl,
 t22:=Tryz.underlying210,
 a22:=Tryz.isAgg210,
 z22:=Tryz.sizeOf210,
 v22:=Tryz.zeroValue210,
 i22:=by kernel_rfl,
 t25:=Tryz.underlying157,
 a25:=Tryz.isAgg157,
 z25:=Tryz.sizeOf157,
 v25:=Tryz.zeroValue157,
 i25:=by kernel_rfl,
 t54:=Tryz.underlying334,
 a54:=Tryz.isAgg334,
 z54:=Tryz.sizeOf334,
 g1:=by kernel_rfl }
end Go.Proofs.YtcakfaakbpdklaaGreatDoorV
namespace Go.Proofs.YtcakfaakbpdklaaGreatDoorV
open Go Go.Proofs Go.RowKit
open Go.Proofs.Tryz renaming prog→y5c
def TzB (w:World):Prop:=∃cs e fz,w.heap[0]?=some (.cells cs e fz)∧∀j,j<Lib.deBruijn64tab.length→cs[j]?=some (.int .u8 (Lib.deBruijn64tab.getD j 0:Nat))
theorem TzB.keep {S:List Nat} {w w':World} (h:TzB w) (hf:Fr S w w') (h0:0∉S):TzB w':=by
 obtain⟨cs,e,fz,h1,h2⟩:=h
 exact⟨cs,e,fz,hf.at_ h1 h0,h2⟩
theorem qyw {x:Nat} (h0:x≠0) (h:x<2 ^ 64):Lib.ctz 64 x<64∧x.testBit (Lib.ctz 64 x)=true∧∀j,j<Lib.ctz 64 x→x.testBit j=false:=by
 have e:Lib.ctz 64 x=Lib.ctzFrom 64 x:=by unfold Lib.ctz;rw[if_neg h0]
 obtain⟨m,h1,h2⟩:=Lib.ctzFrom_spec 64 x (by omega) h
 rw[e]
 generalize Lib.ctzFrom 64 x=c at *
 subst h1
 refine⟨h2,?_,fun j hj=>?_⟩
 ·rw[y4m,Nat.testBit_mul_two_pow]
  simp
 ·rw[y4m,Nat.testBit_mul_two_pow]
  simp
  omega
section
variable {K:VK} {w:World} {b:Nat} {n:Int} {s:Bs}
theorem zgo {x:Nat} (hT:TzB w) (hx:x<2 ^ 64) (h:K (.int .i64 (Lib.ctz 64 x:Nat)) w):C.i y5c 291 #[.int .u64 (x:Int)] w K:=by
 obtain⟨cs,e,fz,h1,h2⟩:=hT
 refine (Any7.bits_TrailingZeros64 tzL x hx w fun _ j hj=>?_).mono ?_
 ·show w.cell? ⟨0,j,none⟩=_
  rw[qcr h1,h2 j hj]
 ·rintro e w' ⟨rfl,rfl⟩
  exact⟨_,rfl,h⟩
theorem qbd.word {w':World} {cs:Array Value} {i:Nat} {v:Bool} {x:Nat} (h:qbd w b n s) (hb:w.heap[b]?=some (.cells cs 255 (0,0))) (hi:(i:Int)<n) (hx:x<2 ^ 64)
  (hbit:∀j,j<64→x.testBit j=qay s i v (64*(i / 64)+j)) (hu:Upd w b (.cells (cs.setIfInBounds (2+i / 64) (.int .u64 (x:Int))) 255 (0,0)) w'):qbd w' b n (qay s i v):=by
 obtain⟨cs',c1,c2,c3,c4,c5⟩:=h.blk
 rw[hb] at c1
 simp only[y2k,Obj.cells.injEq,and_true] at c1
 subst c1
 have hr:=h.rng
 refine⟨⟨_,hu.at_,by simpa using c2,?_,?_,fun k hk=>?_⟩,hr,fun j hj=>?_⟩
 ·rw[y0c (by omega)];exact c3
 ·rw[y0c (by omega)];exact c4
 ·by_cases e:k=i / 64
  ·subst e
   refine⟨x,?_,hx,hbit⟩
   rw[Array.getElem?_setIfInBounds_self_of_lt (by omega)]
  ·obtain⟨y,y1,y2,y3⟩:=c5 k hk
   refine⟨y,?_,y2,fun j hj=>?_⟩
   ·rw[y0c (by omega)];exact y1
   ·rw[y3 j hj]
    unfold qay
    rw[if_neg (by omega)]
 ·unfold qay at hj
  by_cases e:j=i
  ·subst e;exact hi
  ·rw[if_neg e] at hj;exact h.sup j hj
theorem qvs {i:Nat} {v:Bool} (h:s i=v):qay s i v=s:=by
 funext j
 unfold qay
 by_cases e:j=i
 ·rw[if_pos e,e,h]
 ·rw[if_neg e]
theorem qtc {i:Int} (h:qbd w b n s) (hk:∀w',Fr [b] w w'→qbd w' b n (qjd n s i)→K (.bool (decide (0≤i) && decide (i<n) && !s i.toNat)) w'):C.i y5c 178 #[.pointer (some ⟨b,0,none⟩),.int .i64 i] w K:=by
 obtain⟨cs,c1,c2,c3,c4,c5⟩:=h.blk
 have hn:=h.rng
 refine F178.sh (zex h ?_)
 unfold qjd at hk
 by_cases hi:0≤i∧i<n
 ·rw[if_pos hi,decide_eq_true hi.1,decide_eq_true hi.2] at hk
  rw[decide_eq_true hi.1,decide_eq_true hi.2]
  simp only[zv,Bool.and_self,Bool.true_and] at hk ⊢
  refine qou h ?_
  have hb:qd0 n s i=s i.toNat:=by simp[qd0,hi.1,hi.2]
  rw[hb]
  cases hs:s i.toNat with
  | true=>
   simp only[C.ah]
   have:=hk w (Fr.refl _ _) (by rw[qvs hs];exact h)
   rw[hs] at this
   simpa using this
  | false=>
   simp only[C.ac]
   refine F178.k3.to (C.a5 (fun _=>True) fun w1 hf1 _=>⟨trivial,?_⟩)
   have h1:=h.keep hf1 (by simp)
   have d1:=hf1.at_ c1 (by simp)
   simp only[zv]
   refine⟨_,fun w' _=>qcl _ _ i 64 (by decide),?_⟩
   rw[y0i hi.1,qab (by omega)]
   refine C.bq (by omega) (by omega) ⟨_,fun w' _=>qe3 _ _ i 64 (by decide),?_⟩
   rw[y0k hi.1]
   obtain⟨j,hj⟩:=y1b (show 0≤i % 64 by omega)
   obtain⟨i,rfl⟩:=y1b hi.1
   rw[hj]
   obtain⟨x,x1,x2,x3⟩:=c5 (i / 64) (by omega)
   have ek:((i:Int) / 64).toNat*1=i / 64:=by omega
   have hj64:j<64:=by omega
   have hp:1*2 ^ j % 18446744073709551616=2 ^ j:=by
    have:2 ^ j<2 ^ 64:=y1x (by decide) hj64
    rw[Nat.one_mul,Nat.mod_eq_of_lt this]
   have hp64:2 ^ j<2 ^ 64:=y1x (by decide) hj64
   refine⟨_,fun w' _=>qlt _ _ 1 j hj64,⟨C.ad (v := .int .u64 (x:Int)) d1 (by rw[ek];exact x1) ⟨trivial,?_⟩,trivial⟩⟩
   rw[hp]
   refine⟨_,fun w' _=>zck _ _ x (2 ^ j) x2 hp64,C.bq (by omega) (by omega) ⟨?_,trivial⟩⟩
   refine C.bb d1 rfl rfl (by omega) fun w2 hu=>⟨trivial,?_⟩
   rw[ek] at hu
   have h2:qbd w2 b n (qay s i true):=by
    refine h1.word d1 hi.2 (Nat.or_lt_two_pow x2 hp64) (fun t ht=>?_) hu
    rw[Nat.testBit_or,x3 t ht,Nat.testBit_two_pow]
    unfold qay
    by_cases e:64*(i / 64)+t=i
    ·rw[if_pos e,decide_eq_true (by omega),Bool.or_true]
    ·rw[if_neg e,decide_eq_false (by omega),Bool.or_false]
   rw[y2t] at hk hs
   have:=hk w2 (hf1.w.trans hu.fr) h2
   rw[hs] at this
   exact this
 ·have e:(decide (0≤i) && decide (i<n))=false:=by
   rw[Bool.and_eq_false_iff]
   simp only[decide_eq_false_iff_not]
   omega
  rw[if_neg hi,e] at hk
  rw[e]
  simp only[zv,Bool.false_and] at hk ⊢
  exact hk w (Fr.refl _ _) h
theorem qpd {i:Int} (h:qbd w b n s) (hk:∀w',Fr [b] w w'→qbd w' b n (qlb n s i)→K (.bool (qd0 n s i)) w'):C.i y5c 337 #[.pointer (some ⟨b,0,none⟩),.int .i64 i] w K:=by
 obtain⟨cs,c1,c2,c3,c4,c5⟩:=h.blk
 have hn:=h.rng
 refine F337.sh (qou h ?_)
 unfold qlb at hk
 cases hb:qd0 n s i with
 | false=>
  rw[hb] at hk
  simp only[zv]
  exact hk w (Fr.refl _ _) h
 | true=>
  rw[hb] at hk
  have hi:0≤i∧i<n:=by simp[qd0] at hb;exact hb.1
  simp only[zv]
  refine F337.k3.to (C.a5 (fun _=>True) fun w1 hf1 _=>⟨trivial,?_⟩)
  have h1:=h.keep hf1 (by simp)
  have d1:=hf1.at_ c1 (by simp)
  simp only[zv]
  refine⟨_,fun w' _=>qcl _ _ i 64 (by decide),?_⟩
  rw[y0i hi.1,qab (by omega)]
  refine C.bq (by omega) (by omega) ⟨_,fun w' _=>qe3 _ _ i 64 (by decide),?_⟩
  rw[y0k hi.1]
  obtain⟨j,hj⟩:=y1b (show 0≤i % 64 by omega)
  obtain⟨i,rfl⟩:=y1b hi.1
  rw[hj]
  obtain⟨x,x1,x2,x3⟩:=c5 (i / 64) (by omega)
  have ek:((i:Int) / 64).toNat*1=i / 64:=by omega
  have hj64:j<64:=by omega
  have hp:1*2 ^ j % 18446744073709551616=2 ^ j:=by
   have:2 ^ j<2 ^ 64:=y1x (by decide) hj64
   rw[Nat.one_mul,Nat.mod_eq_of_lt this]
  have hp64:2 ^ j<2 ^ 64:=y1x (by decide) hj64
  refine⟨_,fun w' _=>qlt _ _ 1 j hj64,⟨C.ad (v := .int .u64 (x:Int)) d1 (by rw[ek];exact x1) ⟨trivial,?_⟩,trivial⟩⟩
  rw[hp]
  obtain⟨r,r1,r2,r3⟩:=qri (P:=y5c) (t:=210) (.tmp 15) (.tmp 18) x (2 ^ j) x2 hp64
  refine⟨_,fun w' _=>r3 w',C.bq (by omega) (by omega) ⟨?_,trivial⟩⟩
  refine C.bb d1 rfl rfl (by omega) fun w2 hu=>⟨trivial,?_⟩
  rw[ek] at hu
  have h2:qbd w2 b n (qay s i false):=by
   refine h1.word d1 hi.2 r1 (fun t ht=>?_) hu
   rw[r2 t ht,x3 t ht,Nat.testBit_two_pow]
   unfold qay
   by_cases e:64*(i / 64)+t=i
   ·rw[if_pos e,decide_eq_true (by omega)];simp
   ·rw[if_neg e,decide_eq_false (by omega)];simp
  simp only[if_true,y2t] at hk
  exact hk w2 (hf1.w.trans hu.fr) h2
end
end Go.Proofs.YtcakfaakbpdklaaGreatDoorV
