/- Part 9 of what the law needs: own lemmas, in the order in which they build. -/
import Derived.Test.YtcakfaakbpdklaaGreatDoorProg
import Derived.Test.YtcakfaakbpdklaaGreatDoorTopFrees08
set_option linter.unusedSimpArgs false
set_option linter.unusedVariables false
set_option maxRecDepth 100000
namespace Go.Proofs.YtcakfaakbpdklaaGreatDoorV
open Go Go.Proofs
open Go.Proofs.Tryz renaming prog→y5c
open Go.IntKind renaming i64→j6
open Go.Value renaming int→y4w,pointer→y4x,tuple→y4z,bool→y5a
noncomputable section
variable {K:VK} {w:World} {x0 x1 x2 x3 y0 y1 y2 y5 y6 y8 y9 y10 y11 y12 y13 y16 y17 y18:Value}

theorem F73.sh (h:(C.i y5c 112 #[x0] w fun a b=>
 C.i y5c 113 #[x1] b fun c d=>
 C.ay y5c (Instr.build 171 #[(0,a),(1,c)]) d fun f g=>
 C.a3 (.cells (Value.cells f) 171) g fun i j=>
 C.ae i j fun k m=>
 C.ab 0 k m fun o p=>
 C.ai o p fun q r=>
 C.i y5c 114 #[q] r fun s t=>
 C.ae i t fun u v=>
 C.ab 3 u v fun x y=>
 C.ak 1 x s y fun z=>
 C.ay y5c (Builtin.max_ #[3,3] 3 #[x1,(y4w j6 0)]) z fun aa ab=>
 C.ay y5c (Builtin.min_ #[3,3] 3 #[aa,(y4w j6 9)]) ab fun ac ad=>
 C.ae i ad fun ae af=>
 C.ab 2 ae af fun ag ah=>
 C.ak 1 ag ac ah fun ai=>
 K i ai)):C.i y5c 73 #[x0,x1] w K:=q9 (A:=A0) (args:=[x0,x1]) (qq h)
namespace F79
def ann:Ann:=⟨[(10,[0,2,9]),(11,[0,1,2,8]),(14,[0,1,2,8]),(17,[0,1,2,8,13])],[],[],[(7,(.take 0 (.take 1 (.take 2 (.take 4 (.take 3 (.go 5 (.go 6 (.take 7 (.take 8 (.take 9 (.take 10 (.take 11 .fin))))) .fin) .fin)))))))],none⟩
variable (K:VK) (y0 y1 y2 y8 y9 y13:Value) (w:World)
def k11:Prop:=nk ann 90 [(0,y0),(1,y1),(2,y2),(8,y8)] w [1,1,1] Tryz.f79 K
def k10:Prop:=nk ann 90 [(0,y0),(2,y2),(9,y9)] w [1,1,0,0,1,1,1,1,1,0,1,1] Tryz.f79 K
def k14:Prop:=nk ann 90 [(0,y0),(1,y1),(2,y2),(8,y8)] w [1,1,1,1] Tryz.f79 K
def k17:Prop:=nk ann 90 [(0,y0),(1,y1),(2,y2),(8,y8),(13,y13)] w [1,1,1,1,1,1] Tryz.f79 K
attribute [irreducible] k11 k10 k14 k17
end F79
theorem F79.k11.to (h:(C.i y5c 122 #[y0,y1,y2] w fun a b=>
 C.a1 0 a b fun c d=>
 C.a1 1 a d fun f g=>
 C.am f (K (y4z #[c,(y4w j6 0)]) g) (F79.k14 K y0 y1 y2 y8 g))):F79.k11 K y0 y1 y2 y8 w:=qq h
theorem F79.k10.to (h:(C.i y5c 121 #[y0,y9,y2] w fun a b=>
 K (y4z #[a,(y4w j6 0)]) b)):F79.k10 K y0 y2 y9 w:=qq h
theorem F79.k14.to (h:(C.i y5c 123 #[y0,y8] w fun a b=>
 C.a1 0 a b fun c d=>
 C.a1 1 a d fun f g=>
 C.bf f g fun i j=>
 C.am i (K (y4z #[(y4w j6 0),(y4w j6 10)]) j) (F79.k17 K y0 y1 y2 y8 c j))):F79.k14 K y0 y1 y2 y8 w:=qq h
theorem F79.k17.to (h:(C.ae y0 w fun a b=>
 C.ab 1 a b fun c d=>
 C.ai c d fun f g=>
 C.i y5c 124 #[f,y1,y8,y13] g fun i j=>
 C.i y5c 122 #[y0,y1,y2] j fun k m=>
 C.a1 0 k m fun o p=>
 C.a1 1 k p fun q r=>
 K (y4z #[o,(y4w j6 0)]) r)):F79.k17 K y0 y1 y2 y8 y13 w:=qq h
theorem F79.sh (h:(C.i y5c 117 #[x2] w fun a b=>
 C.i y5c 118 #[x0] b fun c d=>
 C.bf c d fun f g=>
 C.am f (K (y4z #[(y4w j6 0),(y4w j6 9)]) g) (C.aj .eql a (y4w j6 0) g fun i j=>
 C.q false i (fun K=>K x1 j) j fun k m=>
 C.q false i (fun K=>C.aj .lss k (y4w j6 0) m K) m fun o p=>
 C.a2 (some i) (some (y5a true)) (some o) p fun q r=>
 C.q false q (fun K=>K x1 r) r fun s t=>
 C.q false q (fun K=>K x0 t) t fun u v=>
 C.q false q (fun K=>C.ae u v K) v fun x y=>
 C.q false q (fun K=>C.ab 2 x y K) y fun z aa=>
 C.q false q (fun K=>C.ai z aa K) aa fun ab ac=>
 C.q false q (fun K=>C.aj .geq s ab ac K) ac fun ad ae=>
 C.a2 (some q) (some (y5a true)) (some ad) ae fun af ag=>
 C.am af (K (y4z #[(y4w j6 0),(y4w j6 4)]) ag) (C.aj .eql a (y4w j6 5) ag fun ah ai=>
 C.am ah (C.a9 ai fun S aj=>
 C.ae x0 aj fun ak al=>
 C.ab 0 ak al fun am an=>
 C.aq S am an fun ao ap=>
 (C.i y5c 120 #[x2] ap fun aq ar=>
 (S ar∧
 (C.i y5c 119 #[ao,aq] ar fun au av=>
 (S av∧
 C.a1 0 au av fun aw ax=>
 C.a1 1 au ax fun ay az=>
 C.bf ay az fun ba bb=>
 C.am ba (K (y4z #[(y4w j6 0),(y4w j6 10)]) bb) (F79.k10 K x0 x2 aw bb)))∧True))∧True) (F79.k11 K x0 x1 x2 a ai))))):C.i y5c 79 #[x0,x1,x2] w K:=q9 (A:=F79.ann) (args:=[x0,x1,x2]) (qq h)

theorem F89.sh (h:(C.i y5c 127 #[x0,x1] w fun a b=>
 C.a1 0 a b fun c d=>
 C.a1 1 a d fun f g=>
 K c g)):C.i y5c 89 #[x0,x1] w K:=q9 (A:=A0) (args:=[x0,x1]) (qq h)
namespace F92
def ann:Ann:=⟨[(3,[0])],[],[],[],none⟩
variable (K:VK) (y0:Value) (w:World)
def k3:Prop:=nk ann 11 [(0,y0)] w [1,1] Tryz.f92 K
attribute [irreducible] k3
end F92
theorem F92.k3.to (h:(C.ae y0 w fun a b=>
 C.ab 0 a b fun c d=>
 C.ai c d fun f g=>
 C.i y5c 130 #[f] g fun i j=>
 K i j)):F92.k3 K y0 w:=qq h
theorem F92.sh (h:(C.i y5c 118 #[x0] w fun a b=>
 C.bf a b fun c d=>
 C.am c (K (.slice none 0 0) d) (F92.k3 K x0 d))):C.i y5c 92 #[x0] w K:=q9 (A:=F92.ann) (args:=[x0]) (qq h)

theorem F118.sh (h:(C.bi y5c .neq 118 (.tmp 3) (.const (y4x none)) x0 (y4x none) w fun a b=>
 C.q true a (fun K=>K x0 b) b fun c d=>
 C.q true a (fun K=>C.ae c d K) d fun f g=>
 C.q true a (fun K=>C.ab 0 f g K) g fun i j=>
 C.q true a (fun K=>C.ai i j K) j fun k m=>
 C.q true a (fun K=>C.bi y5c .neq 166 (.tmp 9) (.const (y4x none)) k (y4x none) m K) m fun o p=>
 C.a2 (some a) (some o) (some (y5a false)) p fun q r=>
 K q r)):C.i y5c 118 #[x0] w K:=q9 (A:=A0) (args:=[x0]) (qq h)

theorem F121.sh (h:(C.ae x0 w fun a b=>
 C.ab 4 a b fun c d=>
 C.ai c d fun f g=>
 C.i y5c 180 #[f,x2] g fun i j=>
 C.a1 0 i j fun k m=>
 C.a1 1 i m fun o p=>
 C.ae x0 p fun q r=>
 C.ab 0 q r fun s t=>
 C.ai s t fun u v=>
 C.i y5c 181 #[u,x1,k] v fun x y=>
 C.ae x0 y fun z aa=>
 C.ab 4 z aa fun ab ac=>
 C.ai ab ac fun ad ae=>
 C.aj .add ad (y4w j6 1) ae fun af ag=>
 C.ae x0 ag fun ah ai=>
 C.ab 4 ah ai fun aj ak=>
 C.ak 1 aj af ak fun al=>
 K x1 al)):C.i y5c 121 #[x0,x1,x2] w K:=q9 (A:=A0) (args:=[x0,x1,x2]) (qq h)
namespace F122
def ann:Ann:=⟨[(3,[0,1,2]),(6,[0,2,8])],[],[],[(3,(.take 0 (.take 1 (.take 2 (.take 4 (.take 5 (.take 6 (.take 8 (.take 9 (.take 3 (.take 7 (.go 10 (.go 11 (.go 12 (.take 13 (.take 14 (.take 15 (.take 16 (.take 17 .fin))))) .fin) .fin) .fin))))))))))))],none⟩
variable (K:VK) (y0 y1 y2 y8:Value) (w:World)
def k3:Prop:=nk ann 40 [(0,y0),(1,y1),(2,y2)] w [1,1] Tryz.f122 K
def k6:Prop:=nk ann 40 [(0,y0),(2,y2),(8,y8)] w [1,1,1,1] Tryz.f122 K
attribute [irreducible] k3 k6
end F122
theorem F122.k3.to (h:(C.a9 w fun S a=>
 C.ae y0 a fun b c=>
 C.ab 0 b c fun d f=>
 C.ae y0 f fun g i=>
 C.ab 1 g i fun j k=>
 C.aq S d k fun m o=>
 C.aq S j o fun p q=>
 (C.i y5c 117 #[y2] q fun r s=>
 (S s∧
 (C.i y5c 184 #[p,y1,r] s fun t u=>
 (S u∧
 (C.i y5c 183 #[m,t] u fun v x=>
 (S x∧
 C.a1 0 v x fun y z=>
 C.a1 1 v z fun aa ab=>
 C.bf aa ab fun ac ad=>
 C.am ac (K (y4z #[(y4w j6 0),(y5a false)]) ad) (F122.k6 K y0 y2 y ad)))∧True))∧True))∧True)):F122.k3 K y0 y1 y2 w:=qq h
theorem F122.k6.to (h:(C.i y5c 121 #[y0,y8,y2] w fun a b=>
 K (y4z #[a,(y5a true)]) b)):F122.k6 K y0 y2 y8 w:=qq h
theorem F122.sh (h:(C.i y5c 118 #[x0] w fun a b=>
 C.bf a b fun c d=>
 C.q false c (fun K=>K x2 d) d fun f g=>
 C.q false c (fun K=>C.i y5c 182 #[f] g K) g fun i j=>
 C.q false c (fun K=>C.bf i j K) j fun k m=>
 C.a2 (some c) (some (y5a true)) (some k) m fun o p=>
 C.am o (K (y4z #[(y4w j6 0),(y5a false)]) p) (F122.k3 K x0 x1 x2 p))):C.i y5c 122 #[x0,x1,x2] w K:=q9 (A:=F122.ann) (args:=[x0,x1,x2]) (qq h)
namespace F123
def ann:Ann:=⟨[(3,[0,1,12,13]),(7,[0,1,12,13]),(8,[0,1])],[(2,[0,1,12,13])],[],[],none⟩
variable (K:VK) (y0 y1 y12 y13:Value) (w:World)
def k8:Prop:=nk ann 56 [(0,y0),(1,y1)] w [1,1] Tryz.f123 K
def l2:Prop:=nl ann 56 [(0,y0),(1,y1),(12,y12),(13,y13)] w [1,0,1,0] Tryz.f123 K
def k3:Prop:=nk ann 56 [(0,y0),(1,y1),(12,y12),(13,y13)] w [1,0,1,0,0,1,1] Tryz.f123 K
def k7:Prop:=nk ann 56 [(0,y0),(1,y1),(12,y12),(13,y13)] w [1,0,1,0,0,1,1,1] Tryz.f123 K
attribute [irreducible] k8 l2 k3 k7
end F123
theorem F123.k8.to (h:(C.ae y0 w fun a b=>
 C.ab 0 a b fun c d=>
 C.ai c d fun f g=>
 C.i y5c 188 #[f,y1] g fun i j=>
 C.a1 0 i j fun k m=>
 C.a1 1 i m fun o p=>
 K (y4z #[k,o]) p)):F123.k8 K y0 y1 w:=qq h
theorem F123.l2.to (h:(C.aj .lss y13 y12 w fun a b=>
 C.am a (F123.k3 K y0 y1 y12 y13 b) (F123.k8 K y0 y1 b))):F123.l2 K y0 y1 y12 y13 w:=by unfold F123.l2 nl;exact qah (qq h)
theorem F123.k3.to (h:(C.ae y0 w fun a b=>
 C.ab 1 a b fun c d=>
 C.ai c d fun f g=>
 C.i y5c 185 #[f,y13] g fun i j=>
 C.a1 0 i j fun k m=>
 C.a1 1 i m fun o p=>
 C.aj .lss k (y4w j6 0) p fun q r=>
 C.q true q (fun K=>K y0 r) r fun s t=>
 C.q true q (fun K=>C.ae s t K) t fun u v=>
 C.q true q (fun K=>C.ab 0 u v K) v fun x y=>
 C.q true q (fun K=>C.ai x y K) y fun z aa=>
 C.q true q (fun K=>K y13 aa) aa fun ab ac=>
 C.q true q (fun K=>C.i y5c 186 #[z,ab] ac K) ac fun ad ae=>
 C.q true q (fun K=>K y1 ae) ae fun af ag=>
 C.q true q (fun K=>C.aj .eql ad af ag K) ag fun ah ai=>
 C.a2 (some q) (some ah) (some (y5a false)) ai fun aj ak=>
 C.q true aj (fun K=>K y0 ak) ak fun al am=>
 C.q true aj (fun K=>C.ae al am K) am fun an ao=>
 C.q true aj (fun K=>C.ab 0 an ao K) ao fun ap aq=>
 C.q true aj (fun K=>C.ai ap aq K) aq fun ar au=>
 C.q true aj (fun K=>K y13 au) au fun av aw=>
 C.q true aj (fun K=>C.i y5c 187 #[ar,av] aw K) aw fun ax ay=>
 C.q true aj (fun K=>C.aj .gtr ax (y4w j6 0) ay K) ay fun az ba=>
 C.a2 (some aj) (some az) (some (y5a false)) ba fun bb bc=>
 C.am bb (K (y4z #[y13,(y5a true)]) bc) (F123.k7 K y0 y1 y12 y13 bc))):F123.k3 K y0 y1 y12 y13 w:=qq h
theorem F123.k7.to (h:(C.aj .add y13 (y4w j6 1) w fun a b=>
 F123.l2 K y0 y1 y12 a b)):F123.k7 K y0 y1 y12 y13 w:=qq h
theorem F123.sh (h:(C.ae x0 w fun a b=>
 C.ab 3 a b fun c d=>
 C.ai c d fun f g=>
 F123.l2 K x0 x1 f (y4w j6 0) g)):C.i y5c 123 #[x0,x1] w K:=q9 (A:=F123.ann) (args:=[x0,x1]) (qq h)
namespace F127
def ann:Ann:=⟨[(3,[0,1])],[],[],[],none⟩
variable (K:VK) (y0 y1:Value) (w:World)
def k3:Prop:=nk ann 40 [(0,y0),(1,y1)] w [1,1] Tryz.f127 K
attribute [irreducible] k3
end F127
theorem F127.k3.to (h:(C.ae y0 w fun a b=>
 C.ab 0 a b fun c d=>
 C.ai c d fun f g=>
 C.i y5c 198 #[f,y1] g fun i j=>
 C.a1 0 i j fun k m=>
 C.a1 1 i m fun o p=>
 C.i y5c 199 #[k] p fun q r=>
 C.a1 0 q r fun s t=>
 C.a1 1 q t fun u v=>
 C.a1 2 q v fun x y=>
 K (y4z #[s,u]) y)):F127.k3 K y0 y1 w:=qq h
theorem F127.sh (h:(C.i y5c 118 #[x0] w fun a b=>
 C.bf a b fun c d=>
 C.q false c (fun K=>K x0 d) d fun f g=>
 C.q false c (fun K=>C.ae f g K) g fun i j=>
 C.q false c (fun K=>C.ab 0 i j K) j fun k m=>
 C.q false c (fun K=>C.ai k m K) m fun o p=>
 C.q false c (fun K=>K x1 p) p fun q r=>
 C.q false c (fun K=>C.i y5c 197 #[o,q] r K) r fun s t=>
 C.q false c (fun K=>C.bf s t K) t fun u v=>
 C.a2 (some c) (some (y5a true)) (some u) v fun x y=>
 C.am x (K (y4z #[(y4w j6 (-1)),(y4w j6 (-1))]) y) (F127.k3 K x0 x1 y))):C.i y5c 127 #[x0,x1] w K:=q9 (A:=F127.ann) (args:=[x0,x1]) (qq h)

theorem F128.sh (h:(C.i y5c 127 #[x0,x1] w fun a b=>
 C.a1 0 a b fun c d=>
 C.a1 1 a d fun f g=>
 K f g)):C.i y5c 128 #[x0,x1] w K:=q9 (A:=A0) (args:=[x0,x1]) (qq h)
namespace F129
def ann:Ann:=⟨[(3,[0,1,2,6])],[],[],[],none⟩
variable (K:VK) (y0 y1 y2 y6:Value) (w:World)
def k3:Prop:=nk ann 32 [(0,y0),(1,y1),(2,y2),(6,y6)] w [1,1] Tryz.f129 K
attribute [irreducible] k3
end F129
theorem F129.k3.to (h:(C.ae y0 w fun a b=>
 C.ab 0 a b fun c d=>
 C.ai c d fun f g=>
 C.aj .add y1 (y4w j6 1) g fun i j=>
 C.aj .add i y2 j fun k m=>
 C.i y5c 198 #[f,k] m fun o p=>
 C.a1 0 o p fun q r=>
 C.a1 1 o r fun s t=>
 C.i y5c 201 #[q] t fun u v=>
 C.a1 0 u v fun x y=>
 C.a1 1 u y fun z aa=>
 C.ak 2 y6 x aa fun ab=>
 C.an 2 y6 ab fun r13 _=>
 K (y4z #[r13,z]) ab)):F129.k3 K y0 y1 y2 y6 w:=qq h
theorem F129.sh (h:(C.a3 (.cells #[y4w j6 0,y4w j6 0] 60) w fun a b=>
 C.i y5c 200 #[x0,x1,x2] b fun c d=>
 C.bf c d fun f g=>
 C.am f (C.ay y5c (Instr.build 60 #[]) g fun i j=>
 C.ak 2 a i j fun k=>
 C.an 2 a k fun r6 _=>
 K (y4z #[r6,(y5a false)]) k) (F129.k3 K x0 x1 x2 a g))):C.i y5c 129 #[x0,x1,x2] w K:=q9 (A:=F129.ann) (args:=[x0,x1,x2]) (qq h)
namespace F147
def ann:Ann:=⟨[(3,[0,1]),(6,[0,5,16,17,18]),(9,[0,5,16,17,18]),(10,[5])],[(5,[0,5,16,17,18])],[],[],none⟩
variable (K:VK) (y0 y1 y5 y16 y17 y18:Value) (w:World)
def k3:Prop:=nk ann 32 [(0,y0),(1,y1)] w [1,1] Tryz.f147 K
def k10:Prop:=nk ann 32 [(5,y5)] w [1,1,1,1] Tryz.f147 K
def l5:Prop:=nl ann 32 [(0,y0),(5,y5),(16,y16),(17,y17),(18,y18)] w [1,1,1,0,1,0] Tryz.f147 K
def k6:Prop:=nk ann 32 [(0,y0),(5,y5),(16,y16),(17,y17),(18,y18)] w [1,1,1,0,1,0,0,1,1] Tryz.f147 K
def k9:Prop:=nk ann 32 [(0,y0),(5,y5),(16,y16),(17,y17),(18,y18)] w [1,1,1,0,1,0,0,1,1,1] Tryz.f147 K
attribute [irreducible] k3 k10 l5 k6 k9
end F147
theorem F147.k3.to (h:(C.ae y0 w fun a b=>
 C.ab 1 a b fun c d=>
 C.ai c d fun f g=>
 C.i y5c 211 #[f,y1] g fun i j=>
 C.bl i j fun k m=>
 F147.l5 K y0 (y4w j6 0) i k (y4w j6 0) m)):F147.k3 K y0 y1 w:=qq h
theorem F147.k10.to (h:(K y5 w)):F147.k10 K y5 w:=qq h
theorem F147.l5.to (h:(C.aj .lss y18 y17 w fun a b=>
 C.am a (F147.k6 K y0 y5 y16 y17 y18 b) (F147.k10 K y5 b))):F147.l5 K y0 y5 y16 y17 y18 w:=by unfold F147.l5 nl;exact qah (qq h)
theorem F147.k6.to (h:(C.bk 1 y16 y18 w fun a b=>
 C.ai a b fun c d=>
 C.ae y0 d fun f g=>
 C.ab 0 f g fun i j=>
 C.ai i j fun k m=>
 C.i y5c 212 #[k,c] m fun o p=>
 C.am o (C.aj .add y5 (y4w j6 1) p fun q r=>
 F147.k9 K y0 q y16 y17 y18 r) (F147.k9 K y0 y5 y16 y17 y18 p))):F147.k6 K y0 y5 y16 y17 y18 w:=qq h
theorem F147.k9.to (h:(C.aj .add y18 (y4w j6 1) w fun a b=>
 F147.l5 K y0 y5 y16 y17 a b)):F147.k9 K y0 y5 y16 y17 y18 w:=qq h
theorem F147.sh (h:(C.i y5c 118 #[x0] w fun a b=>
 C.bf a b fun c d=>
 C.am c (K (y4w j6 0) d) (F147.k3 K x0 x1 d))):C.i y5c 147 #[x0,x1] w K:=q9 (A:=F147.ann) (args:=[x0,x1]) (qq h)

theorem F182.sh (h:(C.i y5c 117 #[x0] w fun a b=>
 C.i y5c 175 #[a] b fun c d=>
 C.aj .gtr c (y4w j6 0) d fun f g=>
 K f g)):C.i y5c 182 #[x0] w K:=q9 (A:=A0) (args:=[x0]) (qq h)

theorem F200.sh (h:(C.aj .geq x2 (y4w j6 0) w fun a b=>
 C.q true a (fun K=>K x2 b) b fun c d=>
 C.q true a (fun K=>K x0 d) d fun f g=>
 C.q true a (fun K=>K x1 g) g fun i j=>
 C.q true a (fun K=>C.i y5c 128 #[f,i] j K) j fun k m=>
 C.q true a (fun K=>C.aj .lss c k m K) m fun o p=>
 C.a2 (some a) (some o) (some (y5a false)) p fun q r=>
 K q r)):C.i y5c 200 #[x0,x1,x2] w K:=q9 (A:=A0) (args:=[x0,x1,x2]) (qq h)

theorem F233.sh (h:(C.a3 (.cells (Value.cells x3) 60) w fun a b=>
 C.an 2 a b fun c d=>
 C.i y5c 279 #[c] d fun f g=>
 C.a1 0 f g fun i j=>
 C.a1 1 f j fun k m=>
 C.q true k (fun K=>K x0 m) m fun o p=>
 C.q true k (fun K=>K x1 p) p fun q r=>
 C.q true k (fun K=>K x2 r) r fun s t=>
 C.q true k (fun K=>C.i y5c 200 #[o,q,s] t K) t fun u v=>
 C.a2 (some k) (some u) (some (y5a false)) v fun x y=>
 C.q true x (fun K=>K x0 y) y fun z aa=>
 C.q true x (fun K=>C.ae z aa K) aa fun ab ac=>
 C.q true x (fun K=>C.ab 0 ab ac K) ac fun ad ae=>
 C.q true x (fun K=>C.ai ad ae K) ae fun af ag=>
 C.q true x (fun K=>K x1 ag) ag fun ah ai=>
 C.q true x (fun K=>C.aj .add ah (y4w j6 1) ai K) ai fun aj ak=>
 C.q true x (fun K=>K x2 ak) ak fun al am=>
 C.q true x (fun K=>C.aj .add aj al am K) am fun an ao=>
 C.q true x (fun K=>K i ao) ao fun ap aq=>
 C.q true x (fun K=>C.i y5c 181 #[af,an,ap] aq K) aq fun ar au=>
 C.a2 (some x) (some ar) (some (y5a false)) au fun av aw=>
 K av aw)):C.i y5c 233 #[x0,x1,x2,x3] w K:=q9 (A:=A0) (args:=[x0,x1,x2,x3]) (qq h)
namespace F273
def ann:Ann:=⟨[(3,[0])],[],[],[],none⟩
variable (K:VK) (y0:Value) (w:World)
def k3:Prop:=nk ann 11 [(0,y0)] w [1,1] Tryz.f273 K
attribute [irreducible] k3
end F273
theorem F273.k3.to (h:(C.ae y0 w fun a b=>
 C.ab 0 a b fun c d=>
 C.ai c d fun f g=>
 C.i y5c 114 #[f] g fun i j=>
 K i j)):F273.k3 K y0 w:=qq h
theorem F273.sh (h:(C.i y5c 118 #[x0] w fun a b=>
 C.bf a b fun c d=>
 C.am c (K (y4w j6 0) d) (F273.k3 K x0 d))):C.i y5c 273 #[x0] w K:=q9 (A:=F273.ann) (args:=[x0]) (qq h)
namespace F325
def ann:Ann:=⟨[(4,[1,5,9,10,11]),(7,[1,5,9,10,11]),(8,[5])],[(3,[1,5,9,10,11])],[],[],none⟩
variable (K:VK) (y1 y5 y9 y10 y11:Value) (w:World)
def k8:Prop:=nk ann 25 [(5,y5)] w [1,1,1] Tryz.f325 K
def l3:Prop:=nl ann 25 [(1,y1),(5,y5),(9,y9),(10,y10),(11,y11)] w [1,1,0,1,0] Tryz.f325 K
def k4:Prop:=nk ann 25 [(1,y1),(5,y5),(9,y9),(10,y10),(11,y11)] w [1,1,0,1,0,0,1,1] Tryz.f325 K
def k7:Prop:=nk ann 25 [(1,y1),(5,y5),(9,y9),(10,y10),(11,y11)] w [1,1,0,1,0,0,1,1,1] Tryz.f325 K
attribute [irreducible] k8 l3 k4 k7
end F325
theorem F325.k8.to (h:(K y5 w)):F325.k8 K y5 w:=qq h
theorem F325.l3.to (h:(C.aj .lss y11 y10 w fun a b=>
 C.am a (F325.k4 K y1 y5 y9 y10 y11 b) (F325.k8 K y5 b))):F325.l3 K y1 y5 y9 y10 y11 w:=by unfold F325.l3 nl;exact qah (qq h)
theorem F325.k4.to (h:(C.bk 1 y9 y11 w fun a b=>
 C.ai a b fun c d=>
 C.i y5c 272 #[c] d fun f g=>
 C.aj .eql f y1 g fun i j=>
 C.am i (C.ay y5c (Instr.buildSlice 54 1 #[(0,c)]) j fun k m=>
 C.ay y5c (Builtin.append_ #[54,54] 54 #[y5,k]) m fun o p=>
 F325.k7 K y1 o y9 y10 y11 p) (F325.k7 K y1 y5 y9 y10 y11 j))):F325.k4 K y1 y5 y9 y10 y11 w:=qq h
theorem F325.k7.to (h:(C.aj .add y11 (y4w j6 1) w fun a b=>
 F325.l3 K y1 y5 y9 y10 a b)):F325.k7 K y1 y5 y9 y10 y11 w:=qq h
theorem F325.sh (h:(C.i y5c 92 #[x0] w fun a b=>
 C.bl a b fun c d=>
 F325.l3 K x1 (.slice none 0 0) a c (y4w j6 0) d)):C.i y5c 325 #[x0,x1] w K:=q9 (A:=F325.ann) (args:=[x0,x1]) (qq h)

theorem F327.sh (h:(C.i y5c 118 #[x0] w fun a b=>
 C.q true a (fun K=>K x0 b) b fun c d=>
 C.q true a (fun K=>C.ae c d K) d fun f g=>
 C.q true a (fun K=>C.ab 0 f g K) g fun i j=>
 C.q true a (fun K=>C.ai i j K) j fun k m=>
 C.q true a (fun K=>K x1 m) m fun o p=>
 C.q true a (fun K=>C.i y5c 338 #[k,o] p K) p fun q r=>
 C.a2 (some a) (some q) (some (y5a false)) r fun s t=>
 K s t)):C.i y5c 327 #[x0,x1] w K:=q9 (A:=A0) (args:=[x0,x1]) (qq h)

theorem F328.sh (h:(C.i y5c 118 #[x0] w fun a b=>
 C.q true a (fun K=>K x0 b) b fun c d=>
 C.q true a (fun K=>K x1 d) d fun f g=>
 C.q true a (fun K=>C.i y5c 339 #[c,f] g K) g fun i j=>
 C.q true a (fun K=>C.aj .lss i (y4w j6 0) j K) j fun k m=>
 C.a2 (some a) (some k) (some (y5a false)) m fun o p=>
 C.q true o (fun K=>K x0 p) p fun q r=>
 C.q true o (fun K=>C.ae q r K) r fun s t=>
 C.q true o (fun K=>C.ab 0 s t K) t fun u v=>
 C.q true o (fun K=>C.ai u v K) v fun x y=>
 C.q true o (fun K=>K x1 y) y fun z aa=>
 C.q true o (fun K=>C.i y5c 212 #[x,z] aa K) aa fun ab ac=>
 C.a2 (some o) (some ab) (some (y5a false)) ac fun ad ae=>
 K ad ae)):C.i y5c 328 #[x0,x1] w K:=q9 (A:=A0) (args:=[x0,x1]) (qq h)
namespace F339
def ann:Ann:=⟨[(3,[0,1])],[],[],[],none⟩
variable (K:VK) (y0 y1:Value) (w:World)
def k3:Prop:=nk ann 20 [(0,y0),(1,y1)] w [1,1] Tryz.f339 K
attribute [irreducible] k3
end F339
theorem F339.k3.to (h:(C.ae y0 w fun a b=>
 C.ab 1 a b fun c d=>
 C.ai c d fun f g=>
 C.i y5c 185 #[f,y1] g fun i j=>
 C.a1 0 i j fun k m=>
 C.a1 1 i m fun o p=>
 K k p)):F339.k3 K y0 y1 w:=qq h
theorem F339.sh (h:(C.i y5c 118 #[x0] w fun a b=>
 C.bf a b fun c d=>
 C.am c (K (y4w j6 (-1)) d) (F339.k3 K x0 x1 d))):C.i y5c 339 #[x0,x1] w K:=q9 (A:=F339.ann) (args:=[x0,x1]) (qq h)
end
end Go.Proofs.YtcakfaakbpdklaaGreatDoorV
namespace Go.Proofs.YtcakfaakbpdklaaGreatDoorV
open Go Go.Proofs Go.RowKit
open Go.Proofs.Tryz renaming prog→y5c
open Go.IntKind renaming i64→j6
open Go.Value renaming int→y4w,pointer→y4x,tuple→y4z,bool→y5a
structure Sad where
 A:Cad
 st:Nat
 ob:Nat
 om:Nat
def Cad.all (A:Cad):List Nat:=A.cel :: A.tab :: A.mem :: A.tk :: (qaa A.kv ++ qaa A.mv)
def Sad.S (D:Sad):List Nat:=D.st :: D.om :: D.A.S
def Sad.all (D:Sad):List Nat:=0 :: D.st :: D.ob :: D.om :: D.A.all
theorem Cad.sub (A:Cad):∀x∈A.S,x∈A.all:=fun x hx=>by
 simp only[Cad.S,Cad.all,y4b,y3q] at hx ⊢
 rcases hx with h | h | h | h <;> simp[h]
theorem Sad.sub (D:Sad):∀x∈D.S,x∈D.all:=fun x hx=>by
 simp only[Sad.S,Sad.all,y4b] at hx ⊢
 rcases hx with h | h | h
 ·simp[h]
 ·simp[h]
 ·exact .inr (.inr (.inr (.inr (D.A.sub x h))))
structure Sad.Ok (D:Sad):Prop where
 so:D.st≠D.ob
 sm:D.st≠D.om
 om:D.ob≠D.om
 s:D.st∉D.A.all
 o:D.ob∉D.A.all
 m:D.om∉D.A.all
 z:0∉D.st :: D.ob :: D.om :: D.A.all
structure qau (D:Sad) (np:Nat) (nt:Int) (w:World) (s:St):Prop where
 ok:D.Ok
 blk:w.heap[D.st]?=some (.cells #[y4x (some ⟨D.A.cel,0,none⟩),y4x (some ⟨D.ob,0,none⟩),y4w j6 nt,y4w j6 (np:Int),y4w j6 s.made] 171 (0,0))
 cel:qar D.A w s.c
 own:qdl w D.ob D.om nt s.own
 np:np≤64
 tz:TzB w
theorem qar.keepA {S:List Nat} {A:Cad} {w w':World} {c:Ce} (h:qar A w c) (hf:Fr S w w') (ha:∀x∈A.all,x∉S):qar A w' c:=
 h.keep hf (ha _ (by simp[Cad.all])) (ha _ (by simp[Cad.all])) (ha _ (by simp[Cad.all])) (ha _ (by simp[Cad.all])) (fun g hg=>ha g (by simp[Cad.all,hg])) (fun g hg=>ha g (by simp[Cad.all,hg]))
section
variable {K:VK} {w w':World} {D:Sad} {np:Nat} {nt:Int} {s:St}
theorem qau.keep {S:List Nat} (h:qau D np nt w s) (hf:Fr S w w') (ha:∀x∈D.all,x∉S):qau D np nt w' s:=
 ⟨h.ok,hf.at_ h.blk (ha _ (by simp[Sad.all])),h.cel.keepA hf (fun x hx=>ha x (by simp[Sad.all,hx])),h.own.keep hf (ha _ (by simp[Sad.all])) (ha _ (by simp[Sad.all])),h.np,h.tz.keep hf (ha _ (by simp[Sad.all]))⟩
theorem qau.keep0 (h:qau D np nt w s) (hf:Fr [] w w'):qau D np nt w' s:=h.keep hf (by simp)
theorem qau.setCel {c:Ce} (h:qau D np nt w s) (hf:Fr D.A.S w w') (hc:qar D.A w' c):qau D np nt w' { s with c:=c }:=
 ⟨h.ok,hf.at_ h.blk (fun e=>h.ok.s (D.A.sub _ e)),hc,h.own.keep hf (fun e=>h.ok.o (D.A.sub _ e)) (fun e=>h.ok.m (D.A.sub _ e)),h.np,h.tz.keep hf (fun e=>h.ok.z (by simp[D.A.sub _ e]))⟩
theorem qau.setOwn {f:Om} (h:qau D np nt w s) (hf:Fr [D.om] w w') (hc:qdl w' D.ob D.om nt f):qau D np nt w' { s with own:=f }:=
 ⟨h.ok,hf.at_ h.blk (by simp[h.ok.sm]),h.cel.keepA hf (fun x hx e=>by simp only[y2d] at e;subst e;exact h.ok.m hx),hc,h.np,h.tz.keep hf (fun e=>h.ok.z (by simp only[y2d] at e;simp[e]))⟩
theorem Fr.ofA (h:Fr D.A.S w w'):Fr D.S w w':=h.mono fun x hx=>by simp[Sad.S,hx]
theorem Fr.ofM (h:Fr [D.om] w w'):Fr D.S w w':=h.mono fun x hx=>by simp only[y2d] at hx;simp[Sad.S,hx]
theorem Fr.ofS (h:Fr [D.st] w w'):Fr D.S w w':=h.mono fun x hx=>by simp only[y2d] at hx;simp[Sad.S,hx]
theorem qge (h:qau D np nt w s) (hk:K (y5a true) w):C.i y5c 118 #[y4x (some ⟨D.st,0,none⟩)] w K:=by
 refine F118.sh ⟨_,qa0 _ _ _ Tryz.underlying118,?_⟩
 simp only[zv]
 refine C.ad (v:=y4x (some ⟨D.A.cel,0,none⟩)) h.blk rfl ⟨_,qa0 _ _ _ Tryz.underlying166,?_⟩
 simp only[]
 exact hk
theorem qwk (a n:Int):0≤qem a n∧qem a n≤9223372036854775807:=by
 unfold qem;split <;> omega
theorem qrv {a n:Int} (h:qau D np nt w s) (hk:∀w',Fr D.S w w'→qau D np nt w' (s.begin a n)→K (y4w j6 a) w'):
  C.i y5c 121 #[y4x (some ⟨D.st,0,none⟩),y4w j6 a,y4w j6 n] w K:=by
 have hm:=qwk s.made n
 refine F121.sh ?_
 simp only[zv]
 refine C.ad (v:=y4w j6 s.made) h.blk rfl (za7 fun ok=>?_)
 try simp only[zv]
 refine C.ad (v:=y4x (some ⟨D.A.cel,0,none⟩)) h.blk rfl (qo3 h.cel (by omega) fun w1 hf1 h1=>?_)
 have h1:=h.setCel hf1.mv h1
 refine C.ad (v:=y4w j6 s.made) h1.blk rfl ?_
 try simp only[C.a6]
 refine C.bb h1.blk rfl rfl (by simp) fun w2 hu=>?_
 refine hk w2 (hf1.mv.ofA.trans hu.fr.ofS) ⟨h.ok,hu.at_,h1.cel.keepA hu.fr (fun x hx e=>by simp only[y2d] at e;subst e;exact h.ok.s hx),h1.own.keep hu.fr (by simp only[y2d];exact h.ok.so.symm) (by simp only[y2d];exact h.ok.sm.symm),h.np,h1.tz.keep hu.fr (fun e=>h.ok.z (by simp only[y2d] at e;simp[e]))⟩
theorem zbq {n:Int} (hk:K (y5a (decide (csz (cOf n)>0))) w):C.i y5c 182 #[y4w j6 n] w K:=by
 refine F182.sh (qtl (qcn ?_))
 by_cases z:csz (cOf n)>0 <;> simp only[zv,z] at hk ⊢ <;> exact hk
theorem qo6 {t n:Int} (h:qau D np nt w s) (hk:∀w',Fr D.S w w'→qau D np nt w' (s.fast t n).1→K (match (s.fast t n).2 with | some a=>y4z #[y4w j6 a,y5a true] | none=>y4z #[y4w j6 0,y5a false]) w'):
  C.i y5c 122 #[y4x (some ⟨D.st,0,none⟩),y4w j6 t,y4w j6 n] w K:=by
 refine F122.sh (qge h ?_)
 simp only[zv]
 refine zbq ?_
 have hc:=qjg (cOf n)
 unfold St.fast at hk
 by_cases z:csz (cOf n)=0
 ·rw[if_pos z] at hk
  simp only[zv,z,show ¬((0:Int)>0) by omega]
  exact hk w (Fr.refl _ _) h
 rw[if_neg z] at hk
 simp only[zv,show csz (cOf n)>0 by omega]
 refine F122.k3.to (C.a5 (fun w'=>w'.heap[D.st]?=some (.cells #[y4x (some ⟨D.A.cel,0,none⟩),y4x (some ⟨D.ob,0,none⟩),y4w j6 nt,y4w j6 (np:Int),y4w j6 s.made] 171 (0,0))) fun w1 hf1 _=>⟨hf1.at_ h.blk (by simp),?_⟩)
 have h1:=h.keep0 hf1
 simp only[zv]
 refine C.ao (v:=y4x (some ⟨D.A.cel,0,none⟩)) (fun w' hw=>⟨_,_,_,hw,rfl⟩) (C.ao (v:=y4x (some ⟨D.ob,0,none⟩)) (fun w' hw=>⟨_,_,_,hw,rfl⟩) ?_)
 refine⟨qtl ⟨h1.blk,zbe h1.own ⟨h1.blk,zeb h1.cel fun w2 hf2 h2=>⟨hf2.at_ h1.blk (fun e=>h.ok.s (D.A.sub _ e)),?_⟩,trivial⟩,trivial⟩,trivial⟩
 have h2:=h1.setCel hf2 h2
 cases e:(s.c.take (qdw s.own (t,cOf n))).2 with
 | none=>
  simp only[C.ah,C.ap,C.a7,C.a8,y3w]
  have e0:s.c.take (qdw s.own (t,cOf n))=(s.c,none):=by
   unfold Ce.take at e ⊢
   split
   ·rfl
   ·rename_i z;simp[z] at e
  rw[e0] at hk h2
  exact hk w2 (hf1.w.trans hf2.ofA) h2
 | some a=>
  have e0:s.c.take (qdw s.own (t,cOf n))=((s.c.take (qdw s.own (t,cOf n))).1,some a):=by rw[←e]
  rw[e0] at hk
  simp only[C.ac,C.ap,C.a7,C.a8,y4d]
  refine F122.k6.to (qrv h2 fun w3 hf3 h3=>?_)
  exact hk w3 ((hf1.w.trans hf2.ofA).trans hf3) h3
theorem qsd {a:Int} (h:qau D np nt w s) (hk:K (y4z #[y4w j6 (s.read a).1,y4w j6 (s.read a).2]) w):
  C.i y5c 127 #[y4x (some ⟨D.st,0,none⟩),y4w j6 a] w K:=by
 refine F127.sh (qge h ?_)
 simp only[zv]
 refine C.ad (v:=y4x (some ⟨D.A.cel,0,none⟩)) h.blk rfl (qx0 h.cel ?_)
 unfold St.read at hk
 cases e:s.c.isIt a with
 | false=>
  rw[e] at hk
  simp only[zv]
  exact hk
 | true=>
  rw[e] at hk
  simp only[zv]
  refine F127.k3.to ?_
  simp only[zv]
  have hr:=qjo h.cel.mm (a:=a)
  refine C.ad (v:=y4x (some ⟨D.A.cel,0,none⟩)) h.blk rfl (qr0 h.cel fun ok=>?_)
  simp only[zv]
  refine qxy hr fun ok=>?_
  simp only[zv]
  exact hk
theorem qf1 {a:Int} (h:qau D np nt w s) (hk:K (y4w j6 (s.fields a)) w):C.i y5c 128 #[y4x (some ⟨D.st,0,none⟩),y4w j6 a] w K:=by
 refine F128.sh (qsd h ?_)
 simp only[zv]
 exact hk
theorem qvj {a:Int} (h:qau D np nt w s) (hk:K (y4w j6 (s.serial a)) w):C.i y5c 89 #[y4x (some ⟨D.st,0,none⟩),y4w j6 a] w K:=by
 refine F89.sh (qsd h ?_)
 simp only[zv]
 exact hk
theorem quz {a i:Int} (h:qau D np nt w s) (hk:K (y5a (decide (0≤i∧i<s.fields a))) w):C.i y5c 200 #[y4x (some ⟨D.st,0,none⟩),y4w j6 a,y4w j6 i] w K:=by
 refine F200.sh ?_
 by_cases z:i≥0
 ·simp only[zv,z]
  refine qf1 h ?_
  have:decide (0≤i∧i<s.fields a)=decide (i<s.fields a):=by simp[show 0≤i from z]
  rw[this] at hk
  by_cases y:i<s.fields a <;> simp only[zv,y] at hk ⊢ <;> exact hk
 ·simp only[zv,z]
  have:decide (0≤i∧i<s.fields a)=false:=by simp;omega
  rw[this] at hk
  exact hk
theorem qti {a i:Int} (h:qau D np nt w s) (hk:∀w',Fr [] w w'→K (y4z #[V (s.get a i).1.1 (s.get a i).1.2,y5a (s.get a i).2]) w'):
  C.i y5c 129 #[y4x (some ⟨D.st,0,none⟩),y4w j6 a,y4w j6 i] w K:=by
 refine F129.sh (C.av fun r w1 hn=>?_)
 have h1:=h.keep0 hn.fr
 have lr:w.heap.size≤r:=by have:=hn.is;omega
 refine quz h1 ?_
 unfold St.get at hk
 by_cases z:0≤i∧i<s.fields a
 ·rw[if_pos z] at hk
  simp only[C.ap,z]
  rw[show decide (True∧True)=true from rfl]
  simp only[zv]
  refine F129.k3.to ?_
  simp only[zv]
  refine C.ad (v:=y4x (some ⟨D.A.cel,0,none⟩)) h1.blk rfl (qr0 h1.cel fun ok=>?_)
  simp only[zv]
  have hr:=qjo h1.cel.mm (a:=w64 (w64 (a+1)+i))
  have fin:∀(v:V2) (b:Bool) w2,Fr [] w1 w2→(∀w',Fr [] w w'→K (y4z #[V v.1 v.2,y5a b]) w')→C.ak 2 (y4x (some ⟨r,0,none⟩)) (V v.1 v.2) w2 fun w'=>C.an 2 (y4x (some ⟨r,0,none⟩)) w' fun r5 _=>K (y4z #[r5,y5a b]) w':=by
   intro v b w2 hf2 hk
   exact C.a0 (hf2.at_ hn.at_ (by simp)) rfl qal rfl fun w3 hu=>C.ax hu.at_ rfl (hk w3 ((hn.fr.trans hf2).then hu.fr (by simp;omega)))
  refine zd1 _ hr (fun hc w2 hf2=>?_) (fun hc w2 hf2=>?_)
  ·unfold qgm at hk
   rw[show qao s.c.m (w64 (w64 (a+1)+i))=qao s.c.m (IntKind.i64.wrap (IntKind.i64.wrap (a+1)+i)) from rfl,if_pos hc] at hk
   simp only[zv]
   exact fin (_,_) true w2 hf2 hk
  ·unfold qgm at hk
   rw[show qao s.c.m (w64 (w64 (a+1)+i))=qao s.c.m (IntKind.i64.wrap (IntKind.i64.wrap (a+1)+i)) from rfl,if_neg hc] at hk
   simp only[zv]
   exact fin (0,0) false w2 hf2 hk
 ·rw[if_neg z] at hk
  simp only[zv,z]
  refine C.a4 qdn (C.a0 hn.at_ rfl qal rfl fun w3 hu=>C.ax hu.at_ rfl (hk w3 (hn.fr.then hu.fr (by simp;omega))))
end
section
variable {K:VK} {w w':World} {D:Sad} {np:Nat} {nt:Int} {s:St}
theorem zac {v:V2} (h:chk v.1 v.2=0) : -9223372036854775808≤qdh v∧qdh v≤9223372036854775807:=by
 unfold qdh qlq
 rcases qyq h with⟨e,_⟩ | ⟨e,_⟩ | ⟨e,_⟩ <;> rw[e]
 ·simp
 ·simp;omega
 ·simp;omega
theorem zd6 {a i:Int} {v:V2} (h:qau D np nt w s) (hk:∀w',Fr D.S w w'→qau D np nt w' (s.set a i v).1→K (y5a (s.set a i v).2) w'):
  C.i y5c 233 #[y4x (some ⟨D.st,0,none⟩),y4w j6 a,y4w j6 i,V v.1 v.2] w K:=by
 unfold St.set at hk
 refine F233.sh (C.av fun r w1 hn=>C.ax hn.at_ rfl ?_)
 have h1:=h.keep0 hn.fr
 by_cases hc:chk v.1 v.2=0
 ·refine zbk _ _ hc fun w2 hf2=>?_
  have h2:=h1.keep0 hf2
  simp only[zv]
  refine quz h2 ?_
  by_cases z:0≤i∧i<s.fields a
  ·have e1:vOk v=true:=by simpa[vOk] using hc
   rw[if_pos ⟨e1,z⟩] at hk
   simp only[zv,decide_eq_true z]
   refine C.ad (v:=y4x (some ⟨D.A.cel,0,none⟩)) h2.blk rfl ?_
   refine qo3 h2.cel (zac hc) fun w3 hf3 h3=>?_
   have h3:=h2.setCel hf3.mv h3
   have e:(qdh v)=qlq v.1 v.2:=rfl
   exact hk w3 ((hn.fr.trans hf2).w.trans hf3.mv.ofA) h3
  ·rw[if_neg (fun x=>z x.2)] at hk
   simp only[zv,decide_eq_false z]
   exact hk w2 (hn.fr.trans hf2).w h2
 ·refine zdw _ _ hc fun w2 hf2=>?_
  rw[if_neg (fun x=>hc (by simpa[vOk] using x.1))] at hk
  simp only[zv]
  exact hk w2 (hn.fr.trans hf2).w (h1.keep0 hf2)
theorem zbp {a:Int} (h:qau D np nt w s) (hk:∀w',Fr D.S w w'→qau D np nt w' { s with c:=(s.c.give a).1 }→K (y5a (s.c.give a).2) w'):
  C.i y5c 327 #[y4x (some ⟨D.st,0,none⟩),y4w j6 a] w K:=by
 refine F327.sh (qge h ?_)
 simp only[zv]
 refine C.ad (v:=y4x (some ⟨D.A.cel,0,none⟩)) h.blk rfl (zdn h.cel fun w1 hf1 h1=>?_)
 exact hk w1 hf1.ofA (h.setCel hf1 h1)
theorem qnu (h:qau D np nt w s) (hk:∀v w',Fr [] w w'→qaj w v→qad w' v 3 1 (qag s.objects)→K v w'):
  C.i y5c 92 #[y4x (some ⟨D.st,0,none⟩)] w K:=by
 refine F92.sh (qge h ?_)
 simp only[zv]
 refine F92.k3.to ?_
 simp only[zv]
 exact C.ad (v:=y4x (some ⟨D.A.cel,0,none⟩)) h.blk rfl (zdg h.cel h.tz hk)
theorem qhu (h:qau D np nt w s):s.objects.length≤2048:=by
 unfold St.objects qgt
 rw[y3t]
 refine y4i (y1o _ _) ?_
 rw[y2v]
 have:=h.cel.mm.le
 unfold Ce.n
 omega
theorem za8 {W:World} {v:Value} {l:List Int} {p:Int} (hl:l.length≤2048) (hk:∀v' w',Fr [] W w'→qaj W v'→qad w' v' 3 1 (qag (l.filter fun a=>decide (qap a=p)))→K v' w'):
  ∀(d i:Nat) (w:World) (v':Value),i+d=l.length→Fr [] W w→qad w v 3 1 (qag l)→qaj W v'→qad w v' 3 1 (qag ((l.take i).filter fun a=>decide (qap a=p)))→(∀g∈qaa v,g∉qaa v')→
   F325.l3 K (y4w j6 p) v' v (y4w j6 (l.length:Int)) (y4w j6 (i:Int)) w:=by
 intro d
 induction d with
 | zero=>
  intro i w v' hi hf hv hn' hv' hd
  have e:i=l.length:=by omega
  subst e
  refine F325.l3.to ?_
  simp only[zv,show ¬((l.length:Int)<(l.length:Int)) by omega]
  rw[y2z] at hv'
  exact F325.k8.to (hk v' w hf hn' hv')
 | succ d ih=>
  intro i w v' hi hf hv hn' hv' hd
  have hlt:i<l.length:=by omega
  refine F325.l3.to ?_
  simp only[zv,show (i:Int)<(l.length:Int) by omega]
  refine F325.k4.to (C.bx hv.rd hlt fun g o cs e fz hg hc=>C.ad hg hc (qfe ?_))
  have e1:l.take (i+1)=l.take i ++ [l[i]]:=by rw[y2o,y0v hlt];rfl
  have hl2:((l.take i).filter fun a=>decide (qap a=p)).length≤2048:=y4i (y1o _ _) (by rw[y3b];omega)
  by_cases z:qap l[i]=p
  ·simp only[zv,eq_self,z]
   refine C.cx hv' (by omega) fun v1 w1 ho1 hf1 hg1=>?_
   refine F325.k7.to ?_
   simp only[C.a6]
   rw[qab (n:=(i:Int)+1) (by omega)]
   refine ih (i+1) w1 v1 (by omega) (hf.then hf1 fun z hz => .inr (hn'.blk z hz)) (hv.keep' hf1 hd) (qng hn' hf.size hg1) ?_ fun g hg hg'=>?_
   ·rw[e1,y2j]
    simpa[z] using ho1
   ·rcases hg1 g hg' with c | c
    ·exact hd g hg c
    ·have:=hv.lt (qam.1 hg);omega
  ·simp only[zv,z]
   refine F325.k7.to ?_
   simp only[C.a6]
   rw[qab (n:=(i:Int)+1) (by omega)]
   refine ih (i+1) w v' (by omega) hf hv hn' ?_ hd
   rw[e1,y2j]
   simpa[z] using hv'
theorem zdo {p:Int} (h:qau D np nt w s) (hk:∀v w',Fr [] w w'→qaj w v→qad w' v 3 1 (qag (s.inP p))→K v w'):
  C.i y5c 325 #[y4x (some ⟨D.st,0,none⟩),y4w j6 p] w K:=by
 refine F325.sh (qnu h fun v w1 hf1 hn1 hv1=>?_)
 have hl:=qhu h
 refine C.bg hv1.rd ?_
 rw[qak]
 refine za8 (W:=w) (v:=v) hl (fun v' w' hf hn hv=>hk v' w' hf hn hv) s.objects.length 0 w1 _ (by omega) hf1 hv1 (qaj.nil _) (qad.nil _ _ _) (by simp[qaa,Value.ownBlock])
theorem qx8 {p:Int} (h:qau D np nt w s) (hk:∀w',Fr [] w w'→K (y4w j6 (qbt s.own p).1) w'):
  C.i y5c 339 #[y4x (some ⟨D.st,0,none⟩),y4w j6 p] w K:=by
 refine F339.sh (qge h ?_)
 simp only[zv]
 refine F339.k3.to ?_
 simp only[zv]
 refine C.ad (v:=y4x (some ⟨D.ob,0,none⟩)) h.blk rfl (qpb h.own fun w1 hf1=>?_)
 simp only[zv]
 exact hk w1 hf1
theorem zed {p:Int} (h:qau D np nt w s) (hk:∀b w',Fr D.S w w'→qau D np nt w' (s.trim p)→K (y5a b) w'):
  C.i y5c 328 #[y4x (some ⟨D.st,0,none⟩),y4w j6 p] w K:=by
 refine F328.sh (qge h ?_)
 unfold St.trim at hk
 simp only[zv]
 refine qx8 h fun w1 hf1=>?_
 have h1:=h.keep0 hf1
 by_cases z:(qbt s.own p).1<0
 ·rw[if_pos z] at hk
  simp only[zv,z]
  refine C.ad (v:=y4x (some ⟨D.A.cel,0,none⟩)) h1.blk rfl (qrx h1.cel fun w2 hf2 h2=>?_)
  exact hk _ w2 (hf1.w.trans hf2.ofA) (h1.setCel hf2 h2)
 ·rw[if_neg z] at hk
  simp only[zv,z]
  exact hk _ w1 hf1.w h1
end
section
variable {K:VK} {w w':World} {D:Sad} {np:Nat} {nt:Int} {s:St}
theorem qar.lt {A:Cad} {c:Ce} (h:qar A w c):∀x∈A.all,x<w.heap.size:=fun x hx=>by
 obtain⟨cs,c1,_⟩:=h.blk
 obtain⟨ts,t1,_⟩:=h.tk.blk
 simp only[Cad.all,y4b,y3q] at hx
 rcases hx with rfl | rfl | rfl | rfl | hx | hx
 ·exact qac c1
 ·exact qac h.pg.blk
 ·exact qac h.mm.blk
 ·exact qac t1
 ·exact h.pg.own.lt (qam.1 hx)
 ·exact h.mm.own.lt (qam.1 hx)
theorem qdl.lt {b m:Nat} {n:Int} {f:Om} (h:qdl w b m n f):b<w.heap.size∧m<w.heap.size:=by
 obtain⟨_,l,c,h1,_⟩:=h
 exact⟨qac h1.blk,qac h1.map⟩
theorem qau.lt (h:qau D np nt w s):∀x∈D.all,x<w.heap.size:=fun x hx=>by
 simp only[Sad.all,y4b] at hx
 rcases hx with rfl | rfl | rfl | rfl | hx
 ·obtain⟨_,_,_,h0,_⟩:=h.tz;exact qac h0
 ·exact qac h.blk
 ·exact h.own.lt.1
 ·exact h.own.lt.2
 ·exact h.cel.lt x hx
theorem qau.ltS (h:qau D np nt w s):∀x∈D.S,x<w.heap.size:=fun x hx=>h.lt x (by
 have:=D.sub x hx;exact this)
theorem qvc {W:World} {v:Value} {l:List Int} (hl:l.length≤2048) (hW:∀x∈D.S,x<W.heap.size) (hn:qaj W v) {s1:St} (hk:∀n w',Fr D.S W w'→qau D np nt w' s1→K (y4w j6 n) w'):
  ∀(d i:Nat) (w:World) (n:Int) (s:St),i+d=l.length→Fr D.S W w→qau D np nt w s→qad w v 3 1 (qag l)→s.dropAll (l.drop i)=s1→
   F147.l5 K (y4x (some ⟨D.st,0,none⟩)) (y4w j6 n) v (y4w j6 (l.length:Int)) (y4w j6 (i:Int)) w:=by
 intro d
 induction d with
 | zero=>
  intro i w n s hi hf h hv he
  have e:i=l.length:=by omega
  subst e
  refine F147.l5.to ?_
  simp only[zv,show ¬((l.length:Int)<(l.length:Int)) by omega]
  rw[y3j] at he
  simp only[St.dropAll] at he
  subst he
  exact F147.k10.to (hk n w hf h)
 | succ d ih=>
  intro i w n s hi hf h hv he
  have hlt:i<l.length:=by omega
  refine F147.l5.to ?_
  simp only[zv,show (i:Int)<(l.length:Int) by omega]
  rw[y0o hlt,St.dropAll] at he
  refine F147.k6.to (C.bx hv.rd hlt fun g o cs e fz hg hc=>C.ad hg hc ?_)
  simp only[zv]
  refine C.ad (v:=y4x (some ⟨D.A.cel,0,none⟩)) h.blk rfl (qrx h.cel fun w1 hf1 h1=>?_)
  have h1:=h.setCel hf1 h1
  have hv1:=hv.keep' hf1 fun g hg hg'=>by have:=hn.blk g hg;have:=hW g (by simp[Sad.S,hg']);omega
  cases hb:(s.c.drop l[i]).2 <;> simp only[zv] <;> refine F147.k9.to ?_ <;> simp only[C.a6] <;> rw[qab (n:=(i:Int)+1) (by omega)] <;>
   exact ih (i+1) w1 _ _ (by omega) (hf.trans hf1.ofA) h1 hv1 he
theorem qy4 (f:Om) (t:Int):(qd5 f t).length≤4:=by
 unfold qd5
 exact y4i (List.length_filterMap_le _ _) (by simp)
theorem zdx {t:Int} (h:qau D np nt w s) (hk:∀n w',Fr D.S w w'→qau D np nt w' (s.quit t)→K (y4w j6 n) w'):
  C.i y5c 147 #[y4x (some ⟨D.st,0,none⟩),y4w j6 t] w K:=by
 refine F147.sh (qge h ?_)
 simp only[zv]
 refine F147.k3.to ?_
 simp only[zv]
 refine C.ad (v:=y4x (some ⟨D.ob,0,none⟩)) h.blk rfl (zbd h.own fun v w1 hf1 h1 hn hv=>?_)
 have h1:=h.setOwn hf1 h1
 have hl:((qd5 s.own t).mergeSort fun x y=>decide (x≤y)).length≤2048:=by rw[List.length_mergeSort];have:=qy4 s.own t;omega
 refine C.bg hv.rd ?_
 rw[qak]
 exact qvc (W:=w) hl h.ltS hn (s1:=s.quit t) hk ((qd5 s.own t).mergeSort fun x y=>decide (x≤y)).length 0 w1 0 _ (by omega) hf1.ofM h1 hv rfl
theorem qu9 {W:World} {k:Int} (h0:qau D np nt W s) (hk1:∀p w',s.openAt k np 0=some p→Fr [] W w'→K (y4z #[y4w j6 (p:Int),y5a true]) w')
  (hk2:s.openAt k np 0=none→∀w',Fr [] W w'→F123.k8 K (y4x (some ⟨D.st,0,none⟩)) (y4w j6 k) w'):
  ∀(d p:Nat) (w:World),p+d=np→Fr [] W w→s.openAt k np 0=s.openAt k d p→
   F123.l2 K (y4x (some ⟨D.st,0,none⟩)) (y4w j6 k) (y4w j6 (np:Int)) (y4w j6 (p:Int)) w:=by
 have hnp:=h0.np
 intro d
 induction d with
 | zero=>
  intro p w hp hf he
  refine F123.l2.to ?_
  simp only[zv,show ¬((p:Int)<(np:Int)) by omega]
  exact hk2 he w hf
 | succ d ih=>
  intro p w hp hf he
  have h:=h0.keep0 hf
  refine F123.l2.to ?_
  simp only[zv,show (p:Int)<(np:Int) by omega]
  refine F123.k3.to ?_
  simp only[zv]
  have he':s.openAt k (d+1) p=if (qbt s.own p).1<0∧kAt s.c.ks p=k∧0<s.c.left p then some p else s.openAt k d (p+1):=rfl
  rw[he'] at he
  have next:∀w',Fr [] W w'→¬((qbt s.own p).1<0∧kAt s.c.ks p=k∧0<s.c.left p)→F123.k7 K (y4x (some ⟨D.st,0,none⟩)) (y4w j6 k) (y4w j6 (np:Int)) (y4w j6 (p:Int)) w':=fun w' hf' hn=>by
   rw[if_neg hn] at he
   refine F123.k7.to ?_
   simp only[C.a6]
   rw[qab (n:=(p:Int)+1) (by omega)]
   exact ih (p+1) w' (by omega) hf' he
  refine C.ad (v:=y4x (some ⟨D.ob,0,none⟩)) h.blk rfl (qpb h.own fun w1 hf1=>?_)
  have h1:=h.keep0 hf1
  simp only[zv]
  by_cases z:(qbt s.own p).1<0
  ·simp only[zv,z]
   refine C.ad (v:=y4x (some ⟨D.A.cel,0,none⟩)) h1.blk rfl (qgn h1.cel fun w2 hf2=>?_)
   have h2:=h1.keep0 hf2
   by_cases y:kAt s.c.ks p=k
   ·simp only[zv,eq_self,y]
    refine C.ad (v:=y4x (some ⟨D.A.cel,0,none⟩)) h2.blk rfl (qo8 h2.cel fun w3 hf3=>?_)
    by_cases x:s.c.left p>0
    ·simp only[zv,x]
     rw[if_pos ⟨z,y,x⟩] at he
     exact hk1 p w3 he (((hf.trans hf1).trans hf2).trans hf3)
    ·simp only[zv,x]
     exact next w3 (((hf.trans hf1).trans hf2).trans hf3) fun hc=>x hc.2.2
   ·simp only[zv,y]
    exact next w2 ((hf.trans hf1).trans hf2) fun hc=>y hc.2.1
  ·simp only[zv,z]
   exact next w1 (hf.trans hf1) fun hc=>z hc.1
theorem zbf {k:Int} (h:qau D np nt w s) (hk:∀w',Fr D.S w w'→qau D np nt w' (s.openP np k).1→K (match (s.openP np k).2 with | some p=>y4z #[y4w j6 p,y5a true] | none=>y4z #[y4w j6 0,y5a false]) w'):
  C.i y5c 123 #[y4x (some ⟨D.st,0,none⟩),y4w j6 k] w K:=by
 refine F123.sh ?_
 simp only[zv]
 unfold St.openP at hk
 refine C.ad (v:=y4w j6 (np:Int)) h.blk rfl (qu9 h (fun p w1 he hf1=>?_) (fun he w1 hf1=>?_) np 0 w (by omega) (Fr.refl _ _) rfl)
 ·rw[he] at hk
  exact hk w1 hf1.w (h.keep0 hf1)
 ·rw[he] at hk
  have h1:=h.keep0 hf1
  refine F123.k8.to ?_
  simp only[zv]
  refine C.ad (v:=y4x (some ⟨D.A.cel,0,none⟩)) h1.blk rfl (zaw h1.cel fun w2 hf2 h2=>?_)
  have hk:=hk w2 (hf1.w.trans hf2.ofA) (h1.setCel hf2 h2)
  cases e:(s.c.carve k).2 with
  | none=>simp only[e,C.a7,C.a8] at hk ⊢;exact hk
  | some p=>simp only[e,C.a7,C.a8] at hk ⊢;exact hk
theorem qv0 (n:Int):qcu n≤64:=by
 unfold qcu
 by_cases h:cOf n=5
 ·rw[if_pos h]
  unfold cOf at h
  by_cases c:n<0∨n>127
  ·rw[if_pos c] at h;omega
  ·omega
 ·rw[if_neg h];omega
theorem qse {t n:Int} (h:qau D np nt w s) (hk:∀w',Fr D.S w w'→qau D np nt w' (s.slow np nt t n).1→K (y4z #[y4w j6 (s.slow np nt t n).2.1,y4w j6 (s.slow np nt t n).2.2]) w'):
  C.i y5c 79 #[y4x (some ⟨D.st,0,none⟩),y4w j6 t,y4w j6 n] w K:=by
 refine F79.sh (qtl (qge h ?_))
 simp only[zv]
 unfold St.slow at hk
 simp only at hk
 by_cases z1:cOf n=0
 ·rw[if_pos (.inl z1)] at hk
  simp only[zv,eq_self,z1]
  exact hk w (Fr.refl _ _) h
 by_cases z2:t<0
 ·rw[if_pos (.inr (.inl z2))] at hk
  simp only[zv,z1,z2]
  exact hk w (Fr.refl _ _) h
 simp only[zv,z1,z2]
 refine C.ad (v:=y4w j6 nt) h.blk rfl ?_
 by_cases z3:nt≤t
 ·rw[if_pos (.inr (.inr z3))] at hk
  simp only[zv,show t≥nt from z3]
  exact hk w (Fr.refl _ _) h
 rw[if_neg (by omega)] at hk
 simp only[zv,show ¬(t≥nt) from z3]
 by_cases k5:cOf n=5
 ·rw[if_pos k5] at hk
  simp only[zv,eq_self,k5]
  refine C.a5 (fun w'=>w'.heap[D.st]?=some (.cells #[y4x (some ⟨D.A.cel,0,none⟩),y4x (some ⟨D.ob,0,none⟩),y4w j6 nt,y4w j6 (np:Int),y4w j6 s.made] 171 (0,0))) fun w1 hf1 _=>⟨hf1.at_ h.blk (by simp),?_⟩
  have h1:=h.keep0 hf1
  simp only[]
  refine C.ao (v:=y4x (some ⟨D.A.cel,0,none⟩)) (fun w' hw=>⟨_,_,_,hw,rfl⟩) ⟨zbh ⟨h1.blk,za9 h1.cel (qv0 n) fun w2 hf2 h2=>⟨hf2.at_ h1.blk (fun e=>h.ok.s (D.A.sub _ e)),?_⟩,trivial⟩,trivial⟩
  have h2:=h1.setCel hf2 h2
  cases e:(s.c.large (qcu n)).2 with
  | none=>
   have e0:s.c.large (qcu n)=(s.c,none):=by
    unfold Ce.large at e ⊢
    split at e
    ·rfl
    ·simp at e
   rw[e0] at hk h2
   simp only[C.ah,C.ap,C.a7,C.a8,y3w]
   exact hk w2 (hf1.w.trans hf2.ofA) h2
  | some a=>
   have e0:s.c.large (qcu n)=((s.c.large (qcu n)).1,some a):=by rw[←e]
   rw[e0] at hk
   simp only[C.ac,C.ap,C.a7,C.a8,y4d]
   refine F79.k10.to (qrv h2 fun w3 hf3 h3=>?_)
   exact hk w3 ((hf1.w.trans hf2.ofA).trans hf3) h3
 rw[if_neg k5] at hk
 simp only[zv,k5]
 refine F79.k11.to (qo6 h fun w1 hf1 h1=>?_)
 cases e:(s.fast t n).2 with
 | some a=>
  have e0:s.fast t n=((s.fast t n).1,some a):=by rw[←e]
  rw[e0] at hk
  simp only[C.ah,C.a7,C.a8]
  exact hk w1 hf1 h1
 | none=>
  have e0:s.fast t n=(s,none):=by
   unfold St.fast at e ⊢
   split at e
   ·rename_i y;rw[if_pos y]
   ·rename_i y
    rw[if_neg y]
    split at e
    ·rfl
    ·simp at e
  rw[e0] at hk h1
  simp only[C.ac,C.a7,C.a8]
  refine F79.k14.to (zbf h1 fun w2 hf2 h2=>?_)
  cases ep:(s.openP np (cOf n)).2 with
  | none=>
   have ep0:s.openP np (cOf n)=((s.openP np (cOf n)).1,none):=by rw[←ep]
   have ep1:(s.openP np (cOf n)).1=s:=by
    unfold St.openP at ep ⊢
    split at ep
    ·simp at ep
    ·simp only[Option.map_eq_none_iff] at ep
     simp only
     have:(s.c.carve (cOf n)).1=s.c:=by
      unfold Ce.carve at ep ⊢
      split at ep
      ·rfl
      ·simp at ep
     rw[this]
   rw[ep0] at hk
   rw[ep1] at h2
   simp only[C.ah,C.ap,C.a7,C.a8,y3w]
   exact hk w2 (hf1.trans hf2) h2
  | some p=>
   have ep0:s.openP np (cOf n)=((s.openP np (cOf n)).1,some p):=by rw[←ep]
   rw[ep0] at hk
   simp only[C.ac,C.ap,C.a7,C.a8,y4d]
   generalize (s.openP np (cOf n)).1=s' at hk h2
   refine F79.k17.to ?_
   simp only[zv]
   have fin:∀s2 w3,Fr D.S w w3→qau D np nt w3 s2→(∀w',Fr D.S w w'→qau D np nt w' (s2.fast t n).1→K (y4z #[y4w j6 ((s2.fast t n).2.getD 0),y4w j6 0]) w')→
     C.i y5c 122 #[y4x (some ⟨D.st,0,none⟩),y4w j6 t,y4w j6 n] w3 fun x86_5 w5=>C.a1 0 x86_5 w5 fun x87_6 w6=>C.a1 1 x86_5 w6 fun x88_7 w7=>K (y4z #[x87_6,(y4w j6 0)]) w7:=fun s2 w3 hf3 h3 hk=>by
    refine qo6 h3 fun w4 hf4 h4=>?_
    have hk:=hk w4 (hf3.trans hf4) h4
    cases e:(s2.fast t n).2 with
    | none=>simp only[e,Option.getD_none,C.a7,C.a8] at hk ⊢;exact hk
    | some a=>simp only[e,y3f,C.a7,C.a8] at hk ⊢;exact hk
   refine C.ad (v:=y4x (some ⟨D.ob,0,none⟩)) h2.blk rfl (zds h2.own (fun hno w3 hf3=>?_) fun hye w3 hf3 h3=>?_)
   ·simp only[if_neg (show ¬qnh nt s'.own t (cOf n) p from hno)] at hk
    exact fin s' w3 ((hf1.trans hf2).trans hf3.w) (h2.keep0 hf3) hk
   ·simp only[if_pos (show qnh nt s'.own t (cOf n) p from hye)] at hk
    exact fin _ w3 ((hf1.trans hf2).trans hf3.ofM) (h2.setOwn hf3 h3) hk
end
end Go.Proofs.YtcakfaakbpdklaaGreatDoorV
namespace Go.Proofs.YtcakfaakbpdklaaGreatDoorV
open Go Go.Proofs
open Go.Proofs.Tryz renaming prog→y5c
open Go.IntKind renaming i64→j6
open Go.Value renaming int→y4w,pointer→y4x,tuple→y4z,bool→y5a
noncomputable section
variable {K:VK} {w:World} {x0 x1 y0 y1 y2 y3 y4 y5:Value}

theorem F115.sh (h:(C.i y5c 66 #[x0,(y4w j6 1),(y4w j6 256)] w fun a b=>
 C.ay y5c (Instr.build 252 #[(1,a)]) b fun c d=>
 C.a3 (.cells (Value.cells c) 252) d fun f g=>
 K f g)):C.i y5c 115 #[x0] w K:=q9 (A:=A0) (args:=[x0]) (qq h)
namespace F309
def ann:Ann:=⟨[(6,[0,3])],[],[],[(3,(.take 0 (.take 1 (.take 2 (.take 3 (.take 6 (.take 7 (.take 8 (.take 4 (.take 5 (.take 9 (.take 10 (.take 11 .fin))))))))))))),(6,(.take 0 (.take 1 (.take 2 (.take 3 (.go 4 .fin .fin))))))],none⟩
variable (K:VK) (y0 y3:Value) (w:World)
def k6:Prop:=nk ann 35 [(0,y0),(3,y3)] w [1,1] Tryz.f309 K
attribute [irreducible] k6
end F309
theorem F309.k6.to (h:(C.a9 w fun S a=>
 C.ae y0 a fun b c=>
 C.ab 0 b c fun d f=>
 C.bm S 2 y3 f fun g i=>
 (C.i y5c 329 #[d,g] i fun j k=>
 (S k∧
 K (y5a true) k))∧True)):F309.k6 K y0 y3 w:=qq h
theorem F309.sh (h:(C.a3 (.cells (Value.cells x1) 310) w fun a b=>
 C.bi y5c .eql 173 (.tmp 6) (.const (y4x none)) x0 (y4x none) b fun c d=>
 C.q false c (fun K=>K x0 d) d fun f g=>
 C.q false c (fun K=>C.ae f g K) g fun i j=>
 C.q false c (fun K=>C.ab 1 i j K) j fun k m=>
 C.q false c (fun K=>C.ai k m K) m fun o p=>
 C.q false c (fun K=>C.aj .eql o (y4w j6 0) p K) p fun q r=>
 C.a2 (some c) (some (y5a true)) (some q) r fun s t=>
 C.am s (K (y5a false) t) (C.a9 t fun S u=>
 C.ae x0 u fun v x=>
 C.ab 0 v x fun y z=>
 C.ab 0 y z fun aa ab=>
 C.ae x0 ab fun ac ad=>
 C.ab 1 ac ad fun ae af=>
 C.aq S aa af fun ag ah=>
 C.bl ag ah fun ai aj=>
 C.aq S ae aj fun ak al=>
 C.aj .eql ai ak al fun am an=>
 C.am am (C.ae x0 an fun ao ap=>
 C.ab 2 ao ap fun aq ar=>
 C.ak 1 aq (y5a true) ar fun au=>
 K (y5a false) au) (F309.k6 K x0 a an)))):C.i y5c 309 #[x0,x1] w K:=q9 (A:=F309.ann) (args:=[x0,x1]) (qq h)
namespace F319
def ann:Ann:=⟨[(3,[0])],[],[],[],none⟩
variable (K:VK) (y0:Value) (w:World)
def k3:Prop:=nk ann 11 [(0,y0)] w [1,1] Tryz.f319 K
attribute [irreducible] k3
end F319
theorem F319.k3.to (h:(C.ae y0 w fun a b=>
 C.ab 0 a b fun c d=>
 C.ab 0 c d fun f g=>
 C.ai f g fun i j=>
 C.bl i j fun k m=>
 K k m)):F319.k3 K y0 w:=qq h
theorem F319.sh (h:(C.bi y5c .eql 173 (.tmp 3) (.const (y4x none)) x0 (y4x none) w fun a b=>
 C.am a (K (y4w j6 0) b) (F319.k3 K x0 b))):C.i y5c 319 #[x0] w K:=q9 (A:=F319.ann) (args:=[x0]) (qq h)

theorem F320.sh (h:(C.bi y5c .neq 173 (.tmp 3) (.const (y4x none)) x0 (y4x none) w fun a b=>
 C.q true a (fun K=>K x0 b) b fun c d=>
 C.q true a (fun K=>C.ae c d K) d fun f g=>
 C.q true a (fun K=>C.ab 2 f g K) g fun i j=>
 C.q true a (fun K=>C.ai i j K) j fun k m=>
 C.a2 (some a) (some k) (some (y5a false)) m fun o p=>
 K o p)):C.i y5c 320 #[x0] w K:=q9 (A:=A0) (args:=[x0]) (qq h)
namespace F329
def ann:Ann:=⟨[],[],[],[(1,(.take 0 (.take 1 (.take 2 (.take 3 (.take 5 (.go 4 (.go 6 (.go 7 (.take 8 (.take 9 (.go 10 .fin .fin))) .fin) .fin) (.go 6 (.go 4 (.go 7 (.take 8 (.take 9 (.go 10 .fin .fin))) .fin) .fin) .fin))))))))],none⟩
end F329
theorem F329.sh (h:(C.a3 (.cells (Value.cells x1) 310) w fun a b=>
 C.a9 b fun S c=>
 C.ae x0 c fun d f=>
 C.ab 0 d f fun g i=>
 C.bm S 2 a i fun j k=>
 (C.ai g k fun m o=>
 (S o∧
 (C.ay y5c (Instr.buildSlice 248 1 #[(0,j)]) o fun p q=>
 (S q∧
 (C.ay y5c (Builtin.append_ #[248,248] 248 #[m,p]) q fun r s=>
 (S s∧
 C.ae x0 s fun t u=>
 C.ab 0 t u fun v x=>
 (C.ak 1 v r x fun y=>
 (S y∧
 K (y4z #[]) y))∧True))∧True))∧True))∧((C.ay y5c (Instr.buildSlice 248 1 #[(0,j)]) k fun z aa=>
 (S aa∧
 (C.ai g aa fun ab ac=>
 (S ac∧
 (C.ay y5c (Builtin.append_ #[248,248] 248 #[ab,z]) ac fun ad ae=>
 (S ae∧
 C.ae x0 ae fun af ag=>
 C.ab 0 af ag fun ah ai=>
 (C.ak 1 ah ad ai fun aj=>
 (S aj∧
 K (y4z #[]) aj))∧True))∧True))∧True))∧True))):C.i y5c 329 #[x0,x1] w K:=q9 (A:=F329.ann) (args:=[x0,x1]) (qq h)
namespace F341
def ann:Ann:=⟨[(3,[0,2])],[],[],[],none⟩
variable (K:VK) (y0 y2:Value) (w:World)
def k3:Prop:=nk ann 13 [(0,y0),(2,y2)] w [1,1] Tryz.f341 K
attribute [irreducible] k3
end F341
theorem F341.k3.to (h:(C.ae y0 w fun a b=>
 C.ab 0 a b fun c d=>
 C.i y5c 345 #[c] d fun f g=>
 C.a1 0 f g fun i j=>
 C.a1 1 f j fun k m=>
 C.ak 2 y2 i m fun o=>
 C.an 2 y2 o fun r7 _=>
 K (y4z #[r7,k]) o)):F341.k3 K y0 y2 w:=qq h
theorem F341.sh (h:(C.a3 (.cells #[y4w j6 0,y4w j6 0] 310) w fun a b=>
 C.bi y5c .eql 173 (.tmp 4) (.const (y4x none)) x0 (y4x none) b fun c d=>
 C.am c (C.ay y5c (Instr.build 310 #[]) d fun f g=>
 C.ak 2 a f g fun i=>
 C.an 2 a i fun r5 _=>
 K (y4z #[r5,(y5a false)]) i) (F341.k3 K x0 a d))):C.i y5c 341 #[x0] w K:=q9 (A:=F341.ann) (args:=[x0]) (qq h)
namespace F342
def ann:Ann:=⟨[(4,[3])],[],[],[],none⟩
variable (K:VK) (y3:Value) (w:World)
def k4:Prop:=nk ann 11 [(3,y3)] w [1,1,1] Tryz.f342 K
attribute [irreducible] k4
end F342
theorem F342.k4.to (h:(K y3 w)):F342.k4 K y3 w:=qq h
theorem F342.sh (h:(C.i y5c 320 #[x0] w fun a b=>
 C.am a (C.ae x0 b fun c d=>
 C.ab 2 c d fun f g=>
 C.ak 1 f (y5a false) g fun i=>
 F342.k4 K a i) (F342.k4 K a b))):C.i y5c 342 #[x0] w K:=q9 (A:=F342.ann) (args:=[x0]) (qq h)
namespace F345
def ann:Ann:=⟨[(5,[0,2,4,5])],[],[],[],none⟩
variable (K:VK) (y0 y2 y4 y5:Value) (w:World)
def k5:Prop:=nk ann 33 [(0,y0),(2,y2),(4,y4),(5,y5)] w [1,1,1,1] Tryz.f345 K
attribute [irreducible] k5
end F345
theorem F345.k5.to (h:(C.ae y0 w fun a b=>
 C.ab 0 a b fun c d=>
 C.ai c d fun f g=>
 C.aj .sub y5 (y4w j6 1) g fun i j=>
 C.bk 2 f i j fun k m=>
 C.an 2 k m fun o p=>
 C.ak 2 y4 o p fun q=>
 C.ae y0 q fun r s=>
 C.ab 0 r s fun t u=>
 C.ai t u fun v x=>
 C.aj .sub y5 (y4w j6 1) x fun y z=>
 C.ay y5c (Instr.sliceAt 248 v none (some y) none) z fun aa ab=>
 C.ae y0 ab fun ac ad=>
 C.ab 0 ac ad fun ae af=>
 C.ak 1 ae aa af fun ag=>
 C.an 2 y4 ag fun ah ai=>
 C.ak 2 y2 ah ai fun aj=>
 C.an 2 y2 aj fun r18 _=>
 K (y4z #[r18,(y5a true)]) aj)):F345.k5 K y0 y2 y4 y5 w:=qq h
theorem F345.sh (h:(C.a3 (.cells #[y4w j6 0,y4w j6 0] 310) w fun a b=>
 C.a3 (.cells #[y4w j6 0,y4w j6 0] 310) b fun c d=>
 C.ae x0 d fun f g=>
 C.ab 0 f g fun i j=>
 C.ai i j fun k m=>
 C.bl k m fun o p=>
 C.aj .eql o (y4w j6 0) p fun q r=>
 C.am q (C.an 2 c r fun s t=>
 C.ak 2 a s t fun u=>
 C.an 2 a u fun r10 _=>
 K (y4z #[r10,(y5a false)]) u) (F345.k5 K x0 a c o r))):C.i y5c 345 #[x0] w K:=q9 (A:=F345.ann) (args:=[x0]) (qq h)

theorem F74.sh (h:(C.i y5c 115 #[x0] w fun a b=>
 C.ay y5c (Instr.build 176 #[(0,a)]) b fun c d=>
 C.a3 (.cells (Value.cells c) 176) d fun f g=>
 C.i y5c 116 #[(y4w j6 2048)] g fun i j=>
 C.ay y5c (Instr.build 180 #[(0,f),(1,i)]) j fun k m=>
 C.a3 (.cells (Value.cells k) 180) m fun o p=>
 K o p)):C.i y5c 74 #[x0] w K:=q9 (A:=A0) (args:=[x0]) (qq h)
namespace F210
def ann:Ann:=⟨[(3,[0,1])],[],[],[],none⟩
variable (K:VK) (y0 y1:Value) (w:World)
def k3:Prop:=nk ann 13 [(0,y0),(1,y1)] w [1,1] Tryz.f210 K
attribute [irreducible] k3
end F210
theorem F210.k3.to (h:(C.ay y5c (Instr.build 310 #[(0,y1)]) w fun a b=>
 C.i y5c 261 #[y0,a] b fun c d=>
 K (y5a true) d)):F210.k3 K y0 y1 w:=qq h
theorem F210.sh (h:(C.i y5c 260 #[x0,x1] w fun a b=>
 C.bf a b fun c d=>
 C.am c (K (y5a false) d) (F210.k3 K x0 x1 d))):C.i y5c 210 #[x0,x1] w K:=q9 (A:=F210.ann) (args:=[x0,x1]) (qq h)

theorem F230.sh (h:(C.i y5c 276 #[x0] w fun a b=>
 C.i y5c 244 #[a,x1] b fun c d=>
 K c d)):C.i y5c 230 #[x0,x1] w K:=q9 (A:=A0) (args:=[x0,x1]) (qq h)

theorem F260.sh (h:(C.i y5c 276 #[x0] w fun a b=>
 C.i y5c 178 #[a,x1] b fun c d=>
 K c d)):C.i y5c 260 #[x0,x1] w K:=q9 (A:=A0) (args:=[x0,x1]) (qq h)
namespace F261
def ann:Ann:=⟨[],[],[],[(1,(.take 0 (.take 4 (.go 1 (.take 2 (.go 3 (.go 5 (.take 6 .fin) .fin) .fin)) .fin))))],none⟩
end F261
theorem F261.sh (h:(C.a3 (.cells (Value.cells x1) 310) w fun a b=>
 C.a9 b fun S c=>
 C.bm S 2 a c fun d f=>
 (C.i y5c 292 #[x0] f fun g i=>
 (S i∧
 C.ae g i fun j k=>
 (C.an 1 j k fun m o=>
 (S o∧
 (C.i y5c 293 #[m,d] o fun p q=>
 (S q∧
 K p q))∧True))∧True))∧True)):C.i y5c 261 #[x0,x1] w K:=q9 (A:=F261.ann) (args:=[x0,x1]) (qq h)

theorem F270.sh (h:(C.i y5c 292 #[x0] w fun a b=>
 C.ae a b fun c d=>
 C.an 1 c d fun f g=>
 C.i y5c 299 #[f] g fun i j=>
 K i j)):C.i y5c 270 #[x0] w K:=q9 (A:=A0) (args:=[x0]) (qq h)

theorem F271.sh (h:(C.i y5c 292 #[x0] w fun a b=>
 C.ae a b fun c d=>
 C.an 1 c d fun f g=>
 C.i y5c 300 #[f] g fun i j=>
 K i j)):C.i y5c 271 #[x0] w K:=q9 (A:=A0) (args:=[x0]) (qq h)
namespace F276
def ann:Ann:=⟨[(3,[0])],[],[],[],none⟩
variable (K:VK) (y0:Value) (w:World)
def k3:Prop:=nk ann 9 [(0,y0)] w [1,1] Tryz.f276 K
attribute [irreducible] k3
end F276
theorem F276.k3.to (h:(C.ae y0 w fun a b=>
 C.ab 1 a b fun c d=>
 C.ai c d fun f g=>
 K f g)):F276.k3 K y0 w:=qq h
theorem F276.sh (h:(C.bi y5c .eql 120 (.tmp 3) (.const (y4x none)) x0 (y4x none) w fun a b=>
 C.am a (K (y4x none) b) (F276.k3 K x0 b))):C.i y5c 276 #[x0] w K:=q9 (A:=F276.ann) (args:=[x0]) (qq h)
namespace F292
def ann:Ann:=⟨[(3,[0])],[],[],[],none⟩
variable (K:VK) (y0:Value) (w:World)
def k3:Prop:=nk ann 18 [(0,y0)] w [1,1] Tryz.f292 K
attribute [irreducible] k3
end F292
theorem F292.k3.to (h:(C.ae y0 w fun a b=>
 C.ab 0 a b fun c d=>
 C.ai c d fun f g=>
 K f g)):F292.k3 K y0 w:=qq h
theorem F292.sh (h:(C.bi y5c .eql 120 (.tmp 3) (.const (y4x none)) x0 (y4x none) w fun a b=>
 C.q false a (fun K=>K x0 b) b fun c d=>
 C.q false a (fun K=>C.ae c d K) d fun f g=>
 C.q false a (fun K=>C.ab 0 f g K) g fun i j=>
 C.q false a (fun K=>C.ai i j K) j fun k m=>
 C.q false a (fun K=>C.bi y5c .eql 172 (.tmp 9) (.const (y4x none)) k (y4x none) m K) m fun o p=>
 C.a2 (some a) (some (y5a true)) (some o) p fun q r=>
 C.am q (C.ay y5c (Instr.build 176 #[]) r fun s t=>
 C.a3 (.cells (Value.cells s) 176) t fun u v=>
 K u v) (F292.k3 K x0 r))):C.i y5c 292 #[x0] w K:=q9 (A:=F292.ann) (args:=[x0]) (qq h)

theorem F293.sh (h:(C.a3 (.cells (Value.cells x0) 176) w fun a b=>
 C.a3 (.cells (Value.cells x1) 310) b fun c d=>
 C.ab 0 a d fun f g=>
 C.ai f g fun i j=>
 C.an 2 c j fun k m=>
 C.i y5c 309 #[i,k] m fun o p=>
 K o p)):C.i y5c 293 #[x0,x1] w K:=q9 (A:=A0) (args:=[x0,x1]) (qq h)

theorem F299.sh (h:(C.a3 (.cells (Value.cells x0) 176) w fun a b=>
 C.ab 0 a b fun c d=>
 C.ai c d fun f g=>
 C.i y5c 319 #[f] g fun i j=>
 K i j)):C.i y5c 299 #[x0] w K:=q9 (A:=A0) (args:=[x0]) (qq h)

theorem F300.sh (h:(C.a3 (.cells (Value.cells x0) 176) w fun a b=>
 C.ab 0 a b fun c d=>
 C.ai c d fun f g=>
 C.i y5c 320 #[f] g fun i j=>
 K i j)):C.i y5c 300 #[x0] w K:=q9 (A:=A0) (args:=[x0]) (qq h)

theorem F321.sh (h:(C.a3 (.cells #[y4w j6 0,y4w j6 0] 310) w fun a b=>
 C.i y5c 292 #[x0] b fun c d=>
 C.ae c d fun f g=>
 C.an 1 f g fun i j=>
 C.i y5c 334 #[i] j fun k m=>
 C.a1 0 k m fun o p=>
 C.a1 1 k p fun q r=>
 C.ak 2 a o r fun s=>
 C.an 2 a s fun r9 _=>
 K (y4z #[r9,q]) s)):C.i y5c 321 #[x0] w K:=q9 (A:=A0) (args:=[x0]) (qq h)

theorem F323.sh (h:(C.i y5c 292 #[x0] w fun a b=>
 C.ae a b fun c d=>
 C.an 1 c d fun f g=>
 C.i y5c 336 #[f] g fun i j=>
 K i j)):C.i y5c 323 #[x0] w K:=q9 (A:=A0) (args:=[x0]) (qq h)

theorem F326.sh (h:(C.i y5c 276 #[x0] w fun a b=>
 C.i y5c 337 #[a,x1] b fun c d=>
 K c d)):C.i y5c 326 #[x0,x1] w K:=q9 (A:=A0) (args:=[x0,x1]) (qq h)

theorem F334.sh (h:(C.a3 (.cells (Value.cells x0) 176) w fun a b=>
 C.a3 (.cells #[y4w j6 0,y4w j6 0] 310) b fun c d=>
 C.ab 0 a d fun f g=>
 C.ai f g fun i j=>
 C.i y5c 341 #[i] j fun k m=>
 C.a1 0 k m fun o p=>
 C.a1 1 k p fun q r=>
 C.ak 2 c o r fun s=>
 C.an 2 c s fun r9 _=>
 K (y4z #[r9,q]) s)):C.i y5c 334 #[x0] w K:=q9 (A:=A0) (args:=[x0]) (qq h)

theorem F336.sh (h:(C.a3 (.cells (Value.cells x0) 176) w fun a b=>
 C.ab 0 a b fun c d=>
 C.ai c d fun f g=>
 C.i y5c 342 #[f] g fun i j=>
 K i j)):C.i y5c 336 #[x0] w K:=q9 (A:=A0) (args:=[x0]) (qq h)
end
end Go.Proofs.YtcakfaakbpdklaaGreatDoorV
namespace Go.Proofs.YtcakfaakbpdklaaGreatDoorV
open Go Go.Proofs Go.RowKit
open Go.Proofs.Tryz renaming prog→y5c
open Go.IntKind renaming i64→j6
open Go.Value renaming int→y4w,pointer→y4x,tuple→y4z,bool→y5a
def qcq (e:Int × Int):Value := .agg #[y4w j6 e.1,y4w j6 e.2]
def qdp (l:List (Int × Int)):List (List Value):=l.map fun e=>[y4w j6 e.1,y4w j6 e.2]
theorem qdq (l:List (Int × Int)):(qdp l).length=l.length:=by simp[qdp]
theorem qpx {l:List (Int × Int)}:∀y∈qdp l,∀u∈y,u.oneCell'=true:=by
 intro y hy u hu
 simp only[qdp,y4l] at hy
 obtain⟨x,_,rfl⟩:=hy
 simp only[y4b,y3i,or_false] at hu
 rcases hu with rfl | rfl <;> rfl
theorem qdi {e:Int × Int}:∀v∈(qcq e).cells.toList,v.oneCell'=true:=by
 intro v hv
 simp only[qcq,Value.cells,y4b,y3i,or_false] at hv
 rcases hv with rfl | rfl <;> rfl
structure qd2 (w:World) (b:Nat) (lv:Value) (room:Int) (l:List (Int × Int)) (over:Bool):Prop where
 blk:w.heap[b]?=some (.cells #[lv,y4w j6 room,y5a over] 252 (0,0))
 own:qad w lv 310 2 (qdp l)
 rm:1≤room∧room≤256
 le:(l.length:Int)≤room
theorem qd2.keep {S:List Nat} {w w':World} {b:Nat} {lv:Value} {room:Int} {l:List (Int × Int)} {over:Bool} (h:qd2 w b lv room l over) (hf:Fr S w w') (hb:b∉S) (hl:∀g∈qaa lv,g∉S):qd2 w' b lv room l over:=
 ⟨hf.at_ h.blk hb,h.own.keep' hf hl,h.rm,h.le⟩
section
variable {K:VK} {w:World} {b:Nat} {lv:Value} {room:Int} {l:List (Int × Int)} {over:Bool}
theorem bsE (e:Int × Int):(Instr.buildSlice 248 1 #[(0,.agg #[y4w j6 e.1,y4w j6 e.2])]).run y5c w = .ok (.slice (some ⟨w.heap.size,0,none⟩) 1 1) (w.alloc (.cells #[y4w j6 e.1,y4w j6 e.2] 310)):=by kernel_rfl
theorem zgj {e:Int × Int} (h:w.heap[b]?=some (.cells #[lv,y4w j6 room,y5a over] 252 (0,0))) (ho:qad w lv 310 2 (qdp l)) (hl:l.length≤1000)
  (hk:∀lv' w',Fr (b :: qaa lv) w w'→w'.heap[b]?=some (.cells #[lv',y4w j6 room,y5a over] 252 (0,0))→qad w' lv' 310 2 (qdp (l ++ [e]))→(∀g∈qaa lv',g∈qaa lv∨w.heap.size≤g)→K (y4z #[]) w'):
  C.i y5c 329 #[y4x (some ⟨b,0,none⟩),qcq e] w K:=by
 refine F329.sh (C.av fun x w1 hn=>?_)
 have ln:=hn.is
 have hxb:x≠b:=by have:=qac h;omega
 refine C.a5 (fun w'=>w'.heap[x]?=some (.cells #[y4w j6 e.1,y4w j6 e.2] 310 (0,0))) fun w2 hf2 _=>⟨hf2.at_ hn.at_ (by simp),?_⟩
 have h2:=hf2.at_ (hn.fr.at_ h (by simp)) (by simp)
 have o2:=(ho.keep hn.fr (by simp)).keep hf2 (by simp)
 have f2:=hn.fr.trans hf2
 try simp only[zv]
 refine C.bn (vs:=[y4w j6 e.1,y4w j6 e.2]) (fun w' hw=>⟨_,_,_,hw,by simp,rfl⟩) ?_
 have ox:∀w',Fr [] w w'→x∉qaa lv:=fun _ _ hg=>by have:=ho.lt (qam.1 hg);omega
 have fin:∀w3 lv3 w4,Fr [] w w3→qad w4 lv3 310 2 (qdp l ++ [[y4w j6 e.1,y4w j6 e.2]])→Fr (qaa lv) w3 w4→(∀g∈qaa lv3,g∈qaa lv∨w3.heap.size≤g)→w3.heap[b]?=some (.cells #[lv,y4w j6 room,y5a over] 252 (0,0))→w3.heap[x]?=some (.cells #[y4w j6 e.1,y4w j6 e.2] 310 (0,0))→
   w4.heap[x]?=some (.cells #[y4w j6 e.1,y4w j6 e.2] 310 (0,0))∧C.ak 1 (y4x (some ⟨b,0,none⟩)) lv3 w4 fun w5=>(w5.heap[x]?=some (.cells #[y4w j6 e.1,y4w j6 e.2] 310 (0,0))∧K (y4z #[]) w5):=by
  intro w3 lv3 w4 f3 o4 f4 g4 b3 x3
  have nb:=ho.nb h (by decide:310≠252)
  refine⟨f4.at_ x3 (ox _ f3),C.bb (f4.at_ b3 nb) o4.one.2 o4.one.1 (by simp) fun w5 hu=>⟨hu.fr.at_ (f4.at_ x3 (ox _ f3)) (by simpa using hxb),?_⟩⟩
  have e5:qdp (l ++ [e])=qdp l ++ [[y4w j6 e.1,y4w j6 e.2]]:=by simp[qdp]
  have gn:∀g∈qaa lv3,g∈qaa lv∨w.heap.size≤g:=fun g hg=>by
   rcases g4 g hg with c | c
   ·exact .inl c
   ·have:=f3.size;exact .inr (by omega)
  refine hk lv3 w5 (((f3.w.trans (f4.mono fun z hz=>by simp[hz])).trans (hu.fr.mono fun z hz=>by simp only[y2d] at hz;simp[hz]))) ?_ ?_ gn
  ·have:=hu.at_
   simpa using this
  ·rw[e5]
   exact o4.keep' hu.fr fun g hg hg'=>by
    simp only[y2d] at hg'
    subst hg'
    rcases gn g hg with c | c
    ·exact nb c
    ·have:=qac h;omega
 refine⟨C.ad h2 rfl ⟨hf2.at_ hn.at_ (by simp),C.a4 (bsE e) ?_,trivial⟩,C.a4 (bsE e) ?_,trivial⟩
 ·have hw:=New.mk' w2 (.cells #[y4w j6 e.1,y4w j6 e.2] 310)
  refine⟨hw.fr.at_ (hf2.at_ hn.at_ (by simp)) (by simp),C.ci (W0:=qia _) (ys:=[[y4w j6 e.1,y4w j6 e.2]]) (z:=qcq (0,0)) (sz:=2) (bytes:=16) Tryz.underlying248 (by kernel_rfl) rfl (by decide) (qhz _) (qg5 _ _) (o2.keep hw.fr (by simp)) (RdS.of_block hw.at_ rfl (by simp) (by simp) (by simp) (by simp)) (qpx (l:=[e])) (by rw[qdq];simp;omega) (by rw[qdq];simp;omega) fun v' w' a _ c d e'=>?_,trivial⟩
  have:=fin _ v' w' (f2.trans hw.fr) c d e' (hw.fr.at_ h2 (by simp)) (hw.fr.at_ (hf2.at_ hn.at_ (by simp)) (by simp))
  exact⟨this.1,this.2,trivial⟩
 ·have hw:=New.mk' w2 (.cells #[y4w j6 e.1,y4w j6 e.2] 310)
  refine⟨hw.fr.at_ (hf2.at_ hn.at_ (by simp)) (by simp),C.ad (hw.fr.at_ h2 (by simp)) rfl ⟨hw.fr.at_ (hf2.at_ hn.at_ (by simp)) (by simp),C.ci (W0:=qia _) (ys:=[[y4w j6 e.1,y4w j6 e.2]]) (z:=qcq (0,0)) (sz:=2) (bytes:=16) Tryz.underlying248 (by kernel_rfl) rfl (by decide) (qhz _) (qg5 _ _) (o2.keep hw.fr (by simp)) (RdS.of_block hw.at_ rfl (by simp) (by simp) (by simp) (by simp)) (qpx (l:=[e])) (by rw[qdq];simp;omega) (by rw[qdq];simp;omega) fun v' w' a _ c d e'=>?_,trivial⟩,trivial⟩
  have:=fin _ v' w' (f2.trans hw.fr) c d e' (hw.fr.at_ h2 (by simp)) (hw.fr.at_ (hf2.at_ hn.at_ (by simp)) (by simp))
  exact⟨this.1,this.2,trivial⟩
theorem zdv {e:Int × Int} (h:qd2 w b lv room l over)
  (h1:(l.length:Int)=room→∀w',Fr [b] w w'→qd2 w' b lv room l true→K (y5a false) w')
  (h2:(l.length:Int)≠room→∀lv' w',Fr (b :: qaa lv) w w'→qd2 w' b lv' room (l ++ [e]) over→(∀g∈qaa lv',g∈qaa lv∨w.heap.size≤g)→K (y5a true) w'):
  C.i y5c 309 #[y4x (some ⟨b,0,none⟩),qcq e] w K:=by
 have hr:=h.rm
 refine F309.sh (C.av fun x w1 hn=>⟨_,qan _ _ _ Tryz.underlying173,?_⟩)
 have b1:=hn.fr.at_ h.blk (by simp)
 have ln:=hn.is
 try simp only[zv]
 refine C.ad (v:=y4w j6 room) b1 rfl ?_
 simp only[zv,show ¬room=0 by omega]
 refine C.a5 (fun w'=>w'.heap[b]?=some (.cells #[lv,y4w j6 room,y5a over] 252 (0,0))) fun w2 hf2 _=>⟨hf2.at_ b1 (by simp),?_⟩
 have b2:=hf2.at_ b1 (by simp)
 have o2:=(h.own.keep hn.fr (by simp)).keep hf2 (by simp)
 have f2:=hn.fr.trans hf2
 refine C.ao (v:=lv) (fun w' hw=>⟨_,_,_,hw,rfl⟩) (C.bg o2.rd (C.ao (v:=y4w j6 room) (fun w' hw=>⟨_,_,_,hw,rfl⟩) ?_))
 rw[qdq]
 by_cases c:(l.length:Int)=room
 ·simp only[zv,eq_self,c]
  refine C.bb b2 rfl rfl (by simp) fun w3 hu=>?_
  refine h1 c w3 (f2.w.trans hu.fr) ⟨by simpa using hu.at_,o2.keep' hu.fr (fun g hg hg'=>by
   simp only[y2d] at hg';subst hg';exact o2.nb b2 (by decide) hg),hr,h.le⟩
 ·simp only[zv,c]
  have x2:=hf2.at_ hn.at_ (by simp)
  have nx:x∉b :: qaa lv:=by
   simp only[y4b,not_or]
   exact⟨by have:=qac h.blk;omega,fun hg=>by have:=h.own.lt (qam.1 hg);omega⟩
  refine F309.k6.to (C.a5 (fun w'=>w'.heap[x]?=some (.cells #[y4w j6 e.1,y4w j6 e.2] 310 (0,0))) fun w3 hf3 _=>⟨hf3.at_ x2 (by simp),?_⟩)
  try simp only[zv]
  refine C.bn (vs:=[y4w j6 e.1,y4w j6 e.2]) (fun w' hw=>⟨_,_,_,hw,by simp,rfl⟩) ?_
  have f3:=f2.trans hf3
  have hle:=h.le
  refine⟨zgj (e:=e) (l:=l) (hf3.at_ b2 (by simp)) (o2.keep hf3 (by simp)) (by omega) fun lv' w4 hf4 b4 o4 g4=>⟨hf4.at_ (hf3.at_ x2 (by simp)) nx,?_⟩,trivial⟩
  refine h2 c lv' w4 (f3.w.trans hf4) ⟨b4,o4,hr,by simp;omega⟩ fun g hg=>?_
  rcases g4 g hg with d | d
  ·exact .inl d
  ·have:=f3.size;exact .inr (by omega)
theorem C.c7 {k:IntKind} {i:Nat} (h:RdS w lv 2 (qdp l)) (hi:i<l.length) (hk:∀g o cs e fz,w.heap[g]?=some (.cells cs e fz)→(cs.toList.drop o).take 2=[y4w j6 l[i].1,y4w j6 l[i].2]→o+2≤cs.size→K (y4x (some ⟨g,o,none⟩)) w):
  C.bk 2 lv (y4w k (i:Int)) w K:=by
 refine C.bw h (by omega) (x:=[y4w j6 l[i].1,y4w j6 l[i].2]) (by rw[y2t];simp[qdp,hi]) fun g o cs e fz hg _ hc=>?_
 have c0:=hc 0 (by omega)
 have c1:=hc 1 (by omega)
 simp only[y4j,y0z,y0y] at c0 c1
 have hs:o+1<cs.size:=(y0g.1 c1).1
 refine hk g o cs e fz hg ?_ (by omega)
 apply y2r
 intro j
 rw[y2f,y2h]
 match j with
 | 0=>simpa using c0
 | 1=>simpa using c1
 | j+2=>rw[if_neg (by omega)];rfl
theorem qje (A:Option Addr) (n n' c c':Nat):qaa (.slice A n c)=qaa (.slice A n' c'):=by cases A <;> rfl
theorem zfy (h:qd2 w b lv room l over)
  (h1:l=[]→∀w',Fr [] w w'→K (y4z #[qcq (0,0),y5a false]) w')
  (h2:∀e,l.getLast?=some e→∀lv' w',Fr [b] w w'→qd2 w' b lv' room l.dropLast over→qaa lv'=qaa lv→K (y4z #[qcq e,y5a true]) w'):
  C.i y5c 341 #[y4x (some ⟨b,0,none⟩)] w K:=by
 have hr:=h.rm
 have hle:=h.le
 refine F341.sh (C.av fun x w1 hn=>⟨_,qan _ _ _ Tryz.underlying173,?_⟩)
 have ln:=hn.is
 try simp only[C.ac]
 refine F341.k3.to ?_
 try simp only[zv]
 have fin:∀(e:Int × Int) (c:Bool) w2,w2.heap[x]?=some (.cells #[y4w j6 0,y4w j6 0] 310 (0,0))→(∀w',Fr [x] w2 w'→K (y4z #[qcq e,y5a c]) w')→
   C.ak 2 (y4x (some ⟨x,0,none⟩)) (qcq e) w2 fun w6=>C.an 2 (y4x (some ⟨x,0,none⟩)) w6 fun r7 _=>K (y4z #[r7,y5a c]) w6:=fun e c w2 hx hk=>
  C.a0 hx rfl qdi rfl fun w3 hu=>C.ax hu.at_ rfl (hk w3 hu.fr)
 refine F345.sh (C.av fun x2 w2 hn2=>C.av fun x4 w4 hn4=>?_)
 have l2:=hn2.is
 have l4:=hn4.is
 have s1:=hn.fr.size
 have s2:=hn2.fr.size
 have f4:=(hn.fr.trans hn2.fr).trans hn4.fr
 have b4:=f4.at_ h.blk (by simp)
 have o4:=h.own.keep f4 (by simp)
 have x24:=hn4.fr.at_ hn2.at_ (by simp)
 have x44:=hn4.at_
 have xx4:=(hn2.fr.trans hn4.fr).at_ hn.at_ (by simp)
 have hb:=qac h.blk
 have sx:=qac hn.at_
 have sx2:=qac hn2.at_
 try simp only[zv]
 refine C.ad (v:=lv) b4 rfl (C.bg o4.rd ?_)
 rw[qdq]
 by_cases c:l=[]
 ·simp only[zv,eq_self,show ((l.length:Nat):Int)=0 by rw[c];rfl]
  refine C.ax x44 rfl (C.a0 x24 rfl (qdi (e:=(0,0))) rfl fun w5 hu=>C.ax hu.at_ rfl ?_)
  refine fin (0,0) false w5 (hu.fr.at_ xx4 (by simp;omega)) fun w6 hf6=>h1 c w6 ?_
  exact (f4.then hu.fr (by simp;omega)).then hf6 (by simp;omega)
 ·have hpos:0<l.length:=List.length_pos_iff.2 c
  simp only[zv,show ¬((l.length:Nat):Int)=0 by omega]
  refine F345.k5.to ?_
  try simp only[zv]
  refine C.ad (v:=lv) b4 rfl ?_
  rw[qab (n:=(l.length:Int)-1) (by omega),show (l.length:Int)-1=((l.length-1:Nat):Int) by omega]
  refine C.c7 o4.rd (by omega) fun g o cs e fz hg hcs ho=>C.br hg (by omega) hcs ?_
  obtain⟨la,hla⟩:∃la,l.getLast?=some la:=by
   cases hx:l.getLast? with
   | none=>simp[c] at hx
   | some y=>exact⟨y,rfl⟩
  have hlast:l[l.length-1]=la:=by
   rw[List.getLast?_eq_getElem?,y0v (by omega)] at hla
   simpa using hla
  rw[hlast]
  refine C.a0 x44 rfl (qdi (e:=la)) rfl fun w5 hu5=>?_
  have b5:=hu5.fr.at_ b4 (by simp;omega)
  have o5:=o4.keep' hu5.fr fun g hg hg'=>by
   simp only[y2d] at hg';have:=h.own.lt (qam.1 hg);omega
  refine C.ad (v:=lv) b5 rfl ?_
  obtain⟨A,cp,rfl,hcp,hA⟩:=o5.cap
  have hnn:A≠none:=fun e=>by have:=hA e;simp[qdp,c] at this
  have hcm:((qdp l).length:Int)≤(cp:Int):=by omega
  refine C.a4 (qfx (e:=310) (sz:=2) A _ cp j6 ((l.length-1:Nat):Int) Tryz.underlying248 (by kernel_rfl) (by omega) (by rw[qdq] at hcm;omega)) ?_
  have o5':=o5.take (l.length-1) (by rw[qdq];omega) (fun e=>absurd e hnn)
  simp only[y2t]
  refine C.bb b5 rfl rfl (by simp) fun w6 hu6=>?_
  have x46:=hu6.fr.at_ hu5.at_ (by simp;omega)
  have x26:=hu6.fr.at_ (hu5.fr.at_ x24 (by simp;omega)) (by simp;omega)
  have xx6:=hu6.fr.at_ (hu5.fr.at_ xx4 (by simp;omega)) (by simp;omega)
  have o6:=o5'.keep' hu6.fr fun g hg hg'=>by
   simp only[y2d] at hg';subst hg';exact o5'.nb b5 (by decide) hg
  refine C.ax x46 rfl (C.a0 x26 rfl (qdi (e:=la)) rfl fun w7 hu7=>C.ax hu7.at_ rfl ?_)
  refine fin la true w7 (hu7.fr.at_ xx6 (by simp;omega)) fun w8 hf8=>h2 la hla (.slice A (l.length-1) cp) w8 ?_ ?_ (qje _ _ _ _ _)
  ·exact (((f4.then hu5.fr (by simp;omega)).w.trans hu6.fr).then hu7.fr (by simp;omega)).then hf8 (by simp;omega)
  ·refine⟨hf8.at_ (hu7.fr.at_ (by simpa using hu6.at_) (by simp;omega)) (by simp;omega),?_,hr,by simp;omega⟩
   have e6:qdp l.dropLast=(qdp l).take (l.length-1):=by simp[qdp,List.dropLast_eq_take]
   rw[e6]
   have lt6:∀g∈qaa (Value.slice A (l.length-1) cp),g<w.heap.size:=fun g hg=>h.own.lt (by
    rw[qje A _ (qdp l).length _ cp] at hg
    exact qam.1 hg)
   exact (o6.keep' hu7.fr fun g hg hg'=>by simp only[y2d] at hg';have:=lt6 g hg;omega).keep' hf8 fun g hg hg'=>by simp only[y2d] at hg';have:=lt6 g hg;omega
theorem zd3 (h:qd2 w b lv room l over) (hk:K (y4w j6 (l.length:Int)) w):C.i y5c 319 #[y4x (some ⟨b,0,none⟩)] w K:=by
 refine F319.sh ⟨_,qan _ _ _ Tryz.underlying173,?_⟩
 try simp only[C.ac]
 refine F319.k3.to ?_
 try simp only[zv]
 refine C.ad (v:=lv) h.blk rfl (C.bg h.own.rd ?_)
 rw[qdq]
 exact hk
theorem qsc (h:qd2 w b lv room l over) (hk:K (y5a over) w):C.i y5c 320 #[y4x (some ⟨b,0,none⟩)] w K:=by
 refine F320.sh ⟨_,qa0 _ _ _ Tryz.underlying173,?_⟩
 try simp only[zv]
 refine C.ad (v:=y5a over) h.blk rfl ?_
 exact hk
theorem qvk (h:qd2 w b lv room l over) (hk:∀w',Fr [b] w w'→qd2 w' b lv room l false→K (y5a over) w'):C.i y5c 342 #[y4x (some ⟨b,0,none⟩)] w K:=by
 refine F342.sh (qsc h ?_)
 cases over with
 | false=>
  try simp only[zv]
  exact F342.k4.to (hk w (Fr.refl _ _) h)
 | true=>
  try simp only[zv]
  refine C.bb h.blk rfl rfl (by simp) fun w1 hu=>F342.k4.to (hk w1 hu.fr ⟨by simpa using hu.at_,h.own.keep' hu.fr (fun g hg hg'=>by
   simp only[y2d] at hg';subst hg';exact h.own.nb h.blk (by decide) hg),h.rm,h.le⟩)
end
structure Gad where
 gr:Nat
 wa:Nat
 sk:Nat
 mb:Nat
structure qbb (G:Gad) (lv:Value) (room:Int) (w:World) (g:Gy):Prop where
 gb:w.heap[G.gr]?=some (.cells #[y4x (some ⟨G.wa,0,none⟩),y4x (some ⟨G.mb,0,none⟩)] 180 (0,0))
 wb:w.heap[G.wa]?=some (.cells #[y4x (some ⟨G.sk,0,none⟩)] 176 (0,0))
 stk:qd2 w G.sk lv room g.l g.over
 mb:qbd w G.mb 2048 g.mks
def Gad.S (G:Gad) (lv:Value):List Nat:=G.sk :: G.mb :: qaa lv
def Gad.all (G:Gad) (lv:Value):List Nat:=G.gr :: G.wa :: G.S lv
def Gr (w:World) (v v':Value):Prop:=∀x∈qaa v',x∈qaa v∨w.heap.size≤x
theorem Gr.refl (w:World) (v:Value):Gr w v v:=fun x hx => .inl hx
theorem Gr.trans {w w':World} {v v' v'':Value} (h:Gr w v v') (k:Gr w' v' v'') (hs:w.heap.size≤w'.heap.size):Gr w v v'':=fun x hx=>by
 rcases k x hx with c | c
 ·exact h x c
 ·exact .inr (by omega)
structure GTo (G:Gad) (lv:Value) (w:World) (lv':Value) (w':World):Prop where
 fr:Fr (G.S lv) w w'
 gr:Gr w lv lv'
theorem GTo.trans {G:Gad} {lv lv' lv'':Value} {w w' w'':World} (h:GTo G lv w lv' w') (k:GTo G lv' w' lv'' w''):GTo G lv w lv'' w'':=
 ⟨h.fr.then k.fr fun x hx=>by
  simp only[Gad.S,y4b] at hx ⊢
  rcases hx with c | c | c
  ·exact .inl (.inl c)
  ·exact .inl (.inr (.inl c))
  ·rcases h.gr x c with d | d
   ·exact .inl (.inr (.inr d))
   ·exact .inr d,h.gr.trans k.gr h.fr.size⟩
theorem GTo.w {G:Gad} {lv:Value} {w w':World} (h:Fr [] w w'):GTo G lv w lv w':=⟨h.w,Gr.refl _ _⟩
theorem GTo.m {G:Gad} {lv:Value} {w w':World} (h:Fr [G.mb] w w'):GTo G lv w lv w':=⟨h.mono fun x hx=>by simp only[y2d] at hx;simp[Gad.S,hx],Gr.refl _ _⟩
theorem GTo.s {G:Gad} {lv lv':Value} {w w':World} (h:Fr [G.sk] w w') (hg:Gr w lv lv'):GTo G lv w lv' w':=⟨h.mono fun x hx=>by simp only[y2d] at hx;simp[Gad.S,hx],hg⟩
theorem GTo.l {G:Gad} {lv lv':Value} {w w':World} (h:Fr (G.sk :: qaa lv) w w') (hg:Gr w lv lv'):GTo G lv w lv' w':=⟨h.mono fun x hx=>by simp only[y4b] at hx;rcases hx with c | c <;> simp[Gad.S,c],hg⟩
section
variable {K:VK} {w w':World} {G:Gad} {lv:Value} {room:Int} {g:Gy}
theorem qbb.keep {S:List Nat} (h:qbb G lv room w g) (hf:Fr S w w') (ha:∀x∈G.all lv,x∉S):qbb G lv room w' g:=
 ⟨hf.at_ h.gb (ha _ (by simp[Gad.all])),hf.at_ h.wb (ha _ (by simp[Gad.all])),h.stk.keep hf (ha _ (by simp[Gad.all,Gad.S])) (fun x hx=>ha x (by simp[Gad.all,Gad.S,hx])),h.mb.keep hf (ha _ (by simp[Gad.all,Gad.S]))⟩
theorem qbb.keep0 (h:qbb G lv room w g) (hf:Fr [] w w'):qbb G lv room w' g:=h.keep hf (by simp)
theorem qbb.lt (h:qbb G lv room w g):∀x∈G.all lv,x<w.heap.size:=fun x hx=>by
 obtain⟨ts,t1,_⟩:=h.mb.blk
 simp only[Gad.all,Gad.S,y4b] at hx
 rcases hx with rfl | rfl | rfl | rfl | hx
 ·exact qac h.gb
 ·exact qac h.wb
 ·exact qac h.stk.blk
 ·exact qac t1
 ·exact h.stk.own.lt (qam.1 hx)
theorem qbb.setMk {m:Bs} (h:qbb G lv room w g) (hf:Fr [G.mb] w w') (hm:qbd w' G.mb 2048 m):qbb G lv room w' { g with mks:=m }:=by
 obtain⟨ts,t1,_⟩:=h.mb.blk
 exact⟨hf.at_ h.gb (by simp only[y2d];exact qbc h.gb t1 (by simp)),hf.at_ h.wb (by simp only[y2d];exact qbc h.wb t1 (by simp)),h.stk.keep hf (by simp only[y2d];exact qbc h.stk.blk t1 (by simp)) (fun x hx e=>by
  simp only[y2d] at e;subst e;exact h.stk.own.nb t1 (by decide) hx),hm⟩
theorem qbb.setSt {lv':Value} {l:List (Int × Int)} {o:Bool} (h:qbb G lv room w g) (hf:Fr (G.sk :: qaa lv) w w') (hm:qd2 w' G.sk lv' room l o):qbb G lv' room w' { g with l:=l,over:=o }:=by
 obtain⟨ts,t1,_⟩:=h.mb.blk
 have no:∀ {b:Nat} {cs:Array Value} {e:TypeId},w.heap[b]?=some (.cells cs e (0,0))→e≠252→e≠310→b∉G.sk :: qaa lv:=fun hb h1 h2 hx=>by
  simp only[y4b] at hx
  rcases hx with c | c
  ·exact qbc hb h.stk.blk (by simp[h1]) c
  ·exact h.stk.own.nb hb (Ne.symm h2) c
 exact⟨hf.at_ h.gb (no h.gb (by decide) (by decide)),hf.at_ h.wb (no h.wb (by decide) (by decide)),hm,h.mb.keep hf (no t1 (by decide) (by decide))⟩
theorem qjs (h:qbb G lv room w g) (hk:K (y4x (some ⟨G.wa,0,none⟩)) w):C.i y5c 292 #[y4x (some ⟨G.gr,0,none⟩)] w K:=by
 refine F292.sh ⟨_,qan _ _ _ Tryz.underlying120,?_⟩
 try simp only[zv]
 refine C.ad (v:=y4x (some ⟨G.wa,0,none⟩)) h.gb rfl ⟨_,qan _ _ _ Tryz.underlying172,?_⟩
 try simp only[C.ac]
 refine F292.k3.to ?_
 try simp only[zv]
 exact C.ad (v:=y4x (some ⟨G.wa,0,none⟩)) h.gb rfl hk
theorem qul (h:qbb G lv room w g) (hk:K (y4x (some ⟨G.mb,0,none⟩)) w):C.i y5c 276 #[y4x (some ⟨G.gr,0,none⟩)] w K:=by
 refine F276.sh ⟨_,qan _ _ _ Tryz.underlying120,?_⟩
 try simp only[C.ac]
 refine F276.k3.to ?_
 try simp only[zv]
 exact C.ad (v:=y4x (some ⟨G.mb,0,none⟩)) h.gb rfl hk
theorem zah {a:Int} (h:qbb G lv room w g) (hk:K (y5a (g.is a)) w):C.i y5c 230 #[y4x (some ⟨G.gr,0,none⟩),y4w j6 a] w K:=
 F230.sh (qul h (qou h.mb hk))
theorem qyh {a:Int}:({ g with mks:=qjd 2048 g.mks a }:Gy)=g.black a:=by
 unfold Gy.black qjd;split <;> rfl
theorem qo7 {a:Int} (h:qbb G lv room w g) (hk:∀w',Fr [G.mb] w w'→qbb G lv room w' (g.black a)→K (y5a (decide (0≤a∧a<2048∧¬g.is a))) w'):C.i y5c 260 #[y4x (some ⟨G.gr,0,none⟩),y4w j6 a] w K:=by
 refine F260.sh (qul h (qtc h.mb fun w1 hf1 h1=>?_))
 have:=hk w1 hf1 (qyh ▸ h.setMk hf1 h1)
 have e:(decide (0≤a) && decide (a<2048) && !g.mks a.toNat)=decide (0≤a∧a<2048∧¬g.is a):=by
  unfold Gy.is qd0
  by_cases c1:0≤a
  ·by_cases c2:a<2048
   ·cases c3:g.mks a.toNat <;> simp[c1,c2]
   ·simp[c2]
  ·simp[c1]
 rw[e];exact this
theorem qxx {a:Int} (h:qbb G lv room w g) (hk:∀w',Fr [G.mb] w w'→qbb G lv room w' (g.clear a)→K (y5a (g.is a)) w'):C.i y5c 326 #[y4x (some ⟨G.gr,0,none⟩),y4w j6 a] w K:=by
 refine F326.sh (qul h (qpd h.mb fun w1 hf1 h1=>?_))
 have e:({ g with mks:=qlb 2048 g.mks a }:Gy)=g.clear a:=by
  unfold Gy.clear qlb Gy.is;split <;> rfl
 exact hk w1 hf1 (e ▸ h.setMk hf1 h1)
theorem qr4 {e:Int × Int} (h:qbb G lv room w g) (hk:∀b lv' w',GTo G lv w lv' w'→qbb G lv' room w' (g.push room e)→K (y5a b) w'):C.i y5c 261 #[y4x (some ⟨G.gr,0,none⟩),qcq e] w K:=by
 refine F261.sh (C.av fun x w1 hn=>C.a5 (fun w'=>w'.heap[x]?=some (.cells #[y4w j6 e.1,y4w j6 e.2] 310 (0,0))) fun w2 hf2 _=>⟨hf2.at_ hn.at_ (by simp),?_⟩)
 have ln:=hn.is
 have x2:=hf2.at_ hn.at_ (by simp)
 have f2:=hn.fr.trans hf2
 have h2:=h.keep0 f2
 refine C.bn (vs:=[y4w j6 e.1,y4w j6 e.2]) (fun w' hw=>⟨_,_,_,hw,by simp,rfl⟩) ⟨qjs h2 ⟨x2,?_⟩,trivial⟩
 try simp only[C.ag]
 refine⟨C.ax h2.wb rfl ⟨x2,?_⟩,trivial⟩
 refine⟨F293.sh (C.av fun y w3 hn3=>C.av fun z w4 hn4=>?_),trivial⟩
 have f4:=hn3.fr.trans hn4.fr
 have h4:=h2.keep0 f4
 have l3:=hn3.is
 try simp only[zv]
 refine C.ad (v:=y4x (some ⟨G.sk,0,none⟩)) (hn4.fr.at_ hn3.at_ (by simp)) rfl (C.ax hn4.at_ rfl ?_)
 have nx:∀g∈G.S lv,g<w.heap.size:=fun g hg=>h.lt g (by simp[Gad.all,hg])
 have x4:=f4.at_ x2 (by simp)
 have hx:x∉G.S lv:=fun hg=>by have:=nx x hg;omega
 unfold Gy.push at hk
 refine zdv (e:=e) h4.stk (fun c w5 hf5 h5=>⟨hf5.at_ x4 (by simp only[y2d];intro ee;exact hx (by simp[Gad.S,ee])),?_⟩) fun c lv' w5 hf5 h5 hg5=>⟨hf5.at_ x4 (fun ee=>hx (by simp only[y4b] at ee;rcases ee with d | d <;> simp[Gad.S,d])),?_⟩
 ·rw[if_pos c] at hk
  exact hk false lv w5 ((GTo.w (f2.trans f4)).trans (GTo.s hf5 (Gr.refl _ _))) (h4.setSt (hf5.mono (by simp)) h5)
 ·rw[if_neg c] at hk
  exact hk true lv' w5 ((GTo.w (f2.trans f4)).trans (GTo.l hf5 hg5)) (h4.setSt hf5 h5)
theorem qth (h:qbb G lv room w g) (hk:∀w',Fr [] w w'→K (y4w j6 (g.l.length:Int)) w'):C.i y5c 270 #[y4x (some ⟨G.gr,0,none⟩)] w K:=by
 refine F270.sh (qjs h ?_)
 try simp only[C.ag]
 refine C.ax h.wb rfl (F299.sh (C.av fun y w1 hn=>?_))
 try simp only[zv]
 exact C.ad (v:=y4x (some ⟨G.sk,0,none⟩)) hn.at_ rfl (zd3 (h.keep0 hn.fr).stk (hk w1 hn.fr))
theorem za6 (h:qbb G lv room w g) (hk:∀w',Fr [] w w'→K (y5a g.over) w'):C.i y5c 271 #[y4x (some ⟨G.gr,0,none⟩)] w K:=by
 refine F271.sh (qjs h ?_)
 try simp only[C.ag]
 refine C.ax h.wb rfl (F300.sh (C.av fun y w1 hn=>?_))
 try simp only[zv]
 exact C.ad (v:=y4x (some ⟨G.sk,0,none⟩)) hn.at_ rfl (qsc (h.keep0 hn.fr).stk (hk w1 hn.fr))
theorem quy (h:qbb G lv room w g) (hk:∀w',GTo G lv w lv w'→qbb G lv room w' { g with over:=false }→K (y5a g.over) w'):C.i y5c 323 #[y4x (some ⟨G.gr,0,none⟩)] w K:=by
 refine F323.sh (qjs h ?_)
 try simp only[C.ag]
 refine C.ax h.wb rfl (F336.sh (C.av fun y w1 hn=>?_))
 try simp only[zv]
 have h1:=h.keep0 hn.fr
 exact C.ad (v:=y4x (some ⟨G.sk,0,none⟩)) hn.at_ rfl (qvk h1.stk fun w2 hf2 h2=>hk w2 ((GTo.w hn.fr).trans (GTo.s hf2 (Gr.refl _ _))) (h1.setSt (hf2.mono (by simp)) h2))
theorem za5 (h:qbb G lv room w g)
  (h1:g.l=[]→∀w',Fr [] w w'→K (y4z #[qcq (0,0),y5a false]) w')
  (h2:∀e,g.l.getLast?=some e→∀lv' w',GTo G lv w lv' w'→qbb G lv' room w' { g with l:=g.l.dropLast }→K (y4z #[qcq e,y5a true]) w'):
  C.i y5c 321 #[y4x (some ⟨G.gr,0,none⟩)] w K:=by
 refine F321.sh (C.av fun x w1 hn=>qjs (h.keep0 hn.fr) ?_)
 try simp only[C.ag]
 refine C.ax (hn.fr.at_ h.wb (by simp)) rfl (F334.sh (C.av fun y w2 hn2=>C.av fun z w3 hn3=>?_))
 have l1:=hn.is
 have l2:=hn2.is
 have l3:=hn3.is
 have s1:=hn.fr.size
 have s2:=hn2.fr.size
 have f3:=(hn.fr.trans hn2.fr).trans hn3.fr
 have h3:=h.keep0 f3
 have x3:=(hn2.fr.trans hn3.fr).at_ hn.at_ (by simp)
 have z3:=hn3.at_
 have lx:=qac hn.at_
 try simp only[zv]
 have fin:∀(e:Int × Int) (c:Bool) w4,w4.heap[x]?=some (.cells #[y4w j6 0,y4w j6 0] 310 (0,0))→w4.heap[z]?=some (.cells #[y4w j6 0,y4w j6 0] 310 (0,0))→(∀w',Fr [x,z] w4 w'→K (y4z #[qcq e,y5a c]) w')→
   C.ak 2 (y4x (some ⟨z,0,none⟩)) (qcq e) w4 fun w5=>C.an 2 (y4x (some ⟨z,0,none⟩)) w5 fun r6 _=>
    C.ak 2 (y4x (some ⟨x,0,none⟩)) r6 w5 fun w8=>C.an 2 (y4x (some ⟨x,0,none⟩)) w8 fun r9 _=>K (y4z #[r9,y5a c]) w8:=fun e c w4 hx hz hk=>by
  refine C.a0 hz rfl qdi rfl fun w5 hu=>C.ax hu.at_ rfl ?_
  refine C.a0 (hu.fr.at_ hx (by simp;omega)) rfl (qdi (e:=e)) rfl fun w6 hu6=>C.ax hu6.at_ rfl ?_
  exact hk w6 ((hu.fr.mono (by simp)).trans (hu6.fr.mono (by simp)))
 refine C.ad (v:=y4x (some ⟨G.sk,0,none⟩)) (hn3.fr.at_ hn2.at_ (by simp)) rfl (zfy h3.stk (fun c w4 hf4=>?_) fun e c lv' w4 hf4 h4 hb4=>?_)
 ·try simp only[zv]
  refine fin (0,0) false w4 (hf4.at_ x3 (by simp)) (hf4.at_ z3 (by simp)) fun w5 hf5=>h1 c w5 ((f3.trans hf4).then hf5 (by simp;omega))
 ·have lk:=h.lt G.sk (by simp[Gad.all,Gad.S])
  have h4':=h3.setSt (hf4.mono (by simp)) h4
  try simp only[zv]
  refine fin e true w4 (hf4.at_ x3 (by simp;omega)) (hf4.at_ z3 (by simp;omega)) fun w5 hf5=>h2 e c lv' w5 ?_ ?_
  ·have f4:GTo G lv w lv' w4:=(GTo.w f3).trans (GTo.s hf4 (fun x hx => .inl (hb4 ▸ hx)))
   exact⟨f4.fr.then hf5 (by simp;omega),f4.gr⟩
  ·refine h4'.keep hf5 fun g hg=>?_
   have:g<w.heap.size:=h.lt g (by
    simp only[Gad.all,Gad.S,hb4] at hg ⊢;exact hg)
   simp;omega
theorem qm3 {a:Int} (h:qbb G lv room w g) (hk:∀b lv' w',GTo G lv w lv' w'→qbb G lv' room w' (g.shade room a)→K (y5a b) w'):C.i y5c 210 #[y4x (some ⟨G.gr,0,none⟩),y4w j6 a] w K:=by
 refine F210.sh (qo7 h fun w1 hf1 h1=>?_)
 unfold Gy.shade at hk
 by_cases c:0≤a∧a<2048∧¬g.is a
 ·rw[if_pos c] at hk
  rw[decide_eq_true c]
  try simp only[zv]
  refine F210.k3.to (C.a4 (v:=qcq (a,0)) (by kernel_rfl) (qr4 (e:=(a,0)) h1 fun b lv' w2 hf2 h2=>?_))
  exact hk true lv' w2 ((GTo.m hf1).trans hf2) h2
 ·rw[if_neg c] at hk
  rw[decide_eq_false c]
  try simp only[zv]
  have e:g.black a=g:=by
   unfold Gy.black
   split
   ·rename_i d
    have hm:g.is a=true:=by
     cases hh:g.is a with
     | true=>rfl
     | false=>exact absurd ⟨d.1,d.2,by simp[hh]⟩ c
    simp only[Gy.is,qd0,y2y] at hm
    have:qay g.mks a.toNat true=g.mks:=by
     funext j
     unfold qay
     split
     ·rename_i ej;rw[ej,hm.2]
     ·rfl
    rw[this]
   ·rfl
  rw[e] at h1
  exact hk false lv w1 (GTo.m hf1) h1
end
end Go.Proofs.YtcakfaakbpdklaaGreatDoorV
