/- Part 12 of what the law needs: own lemmas, in the order in which they build. -/
import Derived.Test.YtcakfaakbpdklaaGreatDoorProg
import Derived.Test.YtcakfaakbpdklaaGreatDoorTopOwn11
namespace Go.Proofs.YtcakfaakbpdklaaGreatDoorV
open Go Go.Proofs
set_option linter.unusedVariables false
set_option maxRecDepth 100000
noncomputable section
variable {K : VK} {w : World} {x0 x1 x2 y0 y1 y2 y3 y4 y5 y6 y7 y8 y9 y11 y12 y13 y14 y15 y16 y18 y19 y20 y21 y32 y33 y34 y35 y36 : Value}
namespace F16
def ann : Ann := ⟨[(4, [1, 4])], [], [], [(4, (.take 0 (.take 2 (.take 7 (.take 12 (.take 1 (.take 3 (.take 4 (.take 8 (.take 11 (.go 5 (.go 6 (.go 9 (.take 10 (.take 13 (.go 14 (.take 15 (.take 16 .fin)) .fin))) .fin) .fin) .fin)))))))))))], none⟩
def code := cd Tryz.f16
def top := tp Tryz.f16
variable (K : VK) (y1 y4 : Value) (w : World)
def k4 : Prop := nk ann 29 [(1, y1), (4, y4)] w [1, 1, 1] code (top K)
attribute [irreducible] k4
end F16
theorem F16.k4.to (h : (C.a9 w fun S a =>
 C.ab 1 y1 a fun b c =>
 C.ab 2 y1 c fun d f =>
 C.ab 5 y1 f fun g i =>
 C.ap S b i fun j k =>
 C.ap S d k fun m o =>
 C.bm S 10 y1 o fun p q =>
 C.ap S g q fun r s =>
 C.bm S 10 y1 s fun t u =>
 (C.q Tryz.prog 43 #[p] u fun v x =>
 (S x ∧
 (C.q Tryz.prog 42 #[j, m, v] x fun y z =>
 (S z ∧
 (C.q Tryz.prog 44 #[r] z fun aa ab =>
 (S ab ∧
 ∃ ac, (∀ w', S w' → (Instr.build 94 #[(0, y), (1, aa)]).run Tryz.prog w' = .ok ac w') ∧ (∃ ad, (∀ w', S w' → (Instr.build 96 #[(0, ac), (1, t), (2, y4)]).run Tryz.prog w' = .ok ad w') ∧ ((C.a3 (.cells (Value.cells ad) 96) ab fun ae af =>
 (S af ∧
 K (.tuple #[ae, (.int .i64 0)]) af)) ∧ True)))) ∧ True)) ∧ True)) ∧ True)) : F16.k4 K y1 y4 w := qq h
theorem F16.sh (h : (C.a3 (.cells (Value.cells x0) 23) w fun a b =>
 C.ao 10 a b fun c d =>
 C.q Tryz.prog 41 #[c] d fun f g =>
 C.a0 0 f g fun i j =>
 C.a0 1 f j fun k m =>
 C.aj .neq k (.int .i64 0) m fun o p =>
 C.am o (K (.tuple #[(.pointer none), k]) p) (F16.k4 K a i p))) : C.q Tryz.prog 16 #[x0] w K := q9 (A := F16.ann) (args := [x0]) (qq h)
namespace F17
def ann : Ann := ⟨[(3, [0, 2]), (6, [0, 2, 3, 15, 16]), (8, [0, 2, 3, 15, 16]), (9, [0, 2, 3]), (11, [0, 2, 3, 34, 35, 36]), (13, [0, 2, 3, 34, 35, 36]), (14, [2, 3])], [(5, [0, 2, 3, 15, 16]), (10, [0, 2, 3, 34, 35, 36])], [], [(7, (.take 0 (.take 2 (.take 3 (.take 4 (.take 5 (.take 7 (.take 6 (.go 1 (.go 8 (.go 9 (.go 10 (.go 11 (.take 12 (.go 13 .fin .fin)) .fin) .fin) .fin) .fin) (.go 8 (.go 1 (.go 9 (.go 10 (.go 11 (.take 12 (.go 13 .fin .fin)) .fin) .fin) .fin) (.go 9 (.go 1 (.go 10 (.go 11 (.take 12 (.go 13 .fin .fin)) .fin) .fin) (.go 10 (.go 1 (.go 11 (.take 12 (.go 13 .fin .fin)) .fin) .fin) .fin)) .fin)) .fin)))))))))), (12, (.take 0 (.take 2 (.take 3 (.take 4 (.take 6 (.take 8 (.take 9 (.take 10 (.take 5 (.go 1 (.go 7 (.go 11 (.go 12 (.take 13 (.go 14 (.go 15 (.take 16 (.go 17 .fin .fin)) .fin) .fin)) .fin) .fin) .fin) (.go 7 (.go 1 (.go 11 (.go 12 (.take 13 (.go 14 (.go 15 (.take 16 (.go 17 .fin .fin)) .fin) .fin)) .fin) .fin) (.go 11 (.go 1 (.go 12 (.take 13 (.go 14 (.go 15 (.take 16 (.go 17 .fin .fin)) .fin) .fin)) .fin) (.go 12 (.take 13 (.go 1 (.go 14 (.go 15 (.take 16 (.go 17 .fin .fin)) .fin) .fin) (.go 14 (.go 1 (.go 15 (.take 16 (.go 17 .fin .fin)) .fin) .fin) .fin))) .fin)) .fin)) .fin))))))))))))], none⟩
def code := cd Tryz.f17
def top := tp Tryz.f17
variable (K : VK) (y0 y2 y3 y15 y16 y34 y35 y36 : Value) (w : World)
def k3 : Prop := nk ann 59 [(0, y0), (2, y2)] w [1, 1] code (top K)
def k9 : Prop := nk ann 59 [(0, y0), (2, y2), (3, y3)] w [1, 1, 1, 1] code (top K)
def l5 : Prop := nl ann 59 [(0, y0), (2, y2), (3, y3), (15, y15), (16, y16)] w [1, 1, 1, 0, 1, 0] code (top K)
def k6 : Prop := nk ann 59 [(0, y0), (2, y2), (3, y3), (15, y15), (16, y16)] w [1, 1, 1, 0, 1, 0, 0, 1, 1] code (top K)
def k8 : Prop := nk ann 59 [(0, y0), (2, y2), (3, y3), (15, y15), (16, y16)] w [1, 1, 1, 0, 1, 0, 0, 1, 1, 1] code (top K)
def k14 : Prop := nk ann 59 [(2, y2), (3, y3)] w [1, 1, 1, 1, 1] code (top K)
def l10 : Prop := nl ann 59 [(0, y0), (2, y2), (3, y3), (34, y34), (35, y35), (36, y36)] w [1, 1, 1, 1, 0, 1, 0] code (top K)
def k11 : Prop := nk ann 59 [(0, y0), (2, y2), (3, y3), (34, y34), (35, y35), (36, y36)] w [1, 1, 1, 1, 0, 1, 0, 0, 1, 1] code (top K)
def k13 : Prop := nk ann 59 [(0, y0), (2, y2), (3, y3), (34, y34), (35, y35), (36, y36)] w [1, 1, 1, 1, 0, 1, 0, 0, 1, 1, 1] code (top K)
attribute [irreducible] k3 k9 l5 k6 k8 k14 l10 k11 k13
end F17
theorem F17.k3.to (h : (C.a3 (.cells #[.slice none 0 0, .slice none 0 0] 46) w fun a b =>
 C.ad y0 b fun c d =>
 C.ab 2 c d fun f g =>
 C.ab 1 f g fun i j =>
 C.ai i j fun k m =>
 F17.l5 K y0 y2 a k (.int .i64 0) m)) : F17.k3 K y0 y2 w := qq h
theorem F17.k9.to (h : (C.q Tryz.prog 48 #[y0] w fun a b =>
 C.bk a b fun c d =>
 F17.l10 K y0 y2 y3 a c (.int .i64 0) d)) : F17.k9 K y0 y2 y3 w := qq h
theorem F17.l5.to (h : (C.aj .lss y16 y15 w fun a b =>
 C.am a (F17.k6 K y0 y2 y3 y15 y16 b) (F17.k9 K y0 y2 y3 b))) : F17.l5 K y0 y2 y3 y15 y16 w := by unfold F17.l5 nl; exact qag (qq h)
theorem F17.k6.to (h : (C.a9 w fun S a =>
 C.ab 0 y3 a fun b c =>
 C.ad y0 c fun d f =>
 C.ab 12 d f fun g i =>
 C.ap S g i fun j k =>
 (C.ai b k fun m o =>
 (S o ∧
 (C.q Tryz.prog 47 #[j, y16] o fun p q =>
 (S q ∧
 (C.q Tryz.prog 46 #[y0, p] q fun r s =>
 (S s ∧
 (C.ay Tryz.prog (Instr.buildSlice 43 1 #[(0, r)]) s fun t u =>
 (S u ∧
 (C.ay Tryz.prog (Builtin.append_ #[43, 43] 43 #[m, t]) u fun v x =>
 (S x ∧
 C.ab 0 y3 x fun y z =>
 (C.ak 1 y v z fun aa =>
 (S aa ∧
 F17.k8 K y0 y2 y3 y15 y16 aa)) ∧ True)) ∧ True)) ∧ True)) ∧ True)) ∧ True)) ∧ ((C.q Tryz.prog 47 #[j, y16] k fun ab ac =>
 (S ac ∧
 (C.ai b ac fun ad ae =>
 (S ae ∧
 (C.q Tryz.prog 46 #[y0, ab] ae fun af ag =>
 (S ag ∧
 (C.ay Tryz.prog (Instr.buildSlice 43 1 #[(0, af)]) ag fun ah ai =>
 (S ai ∧
 (C.ay Tryz.prog (Builtin.append_ #[43, 43] 43 #[ad, ah]) ai fun aj ak =>
 (S ak ∧
 C.ab 0 y3 ak fun al am =>
 (C.ak 1 al aj am fun an =>
 (S an ∧
 F17.k8 K y0 y2 y3 y15 y16 an)) ∧ True)) ∧ True)) ∧ True)) ∧ True)) ∧ ((C.q Tryz.prog 46 #[y0, ab] ac fun ao ap =>
 (S ap ∧
 (C.ai b ap fun aq ar =>
 (S ar ∧
 (C.ay Tryz.prog (Instr.buildSlice 43 1 #[(0, ao)]) ar fun au av =>
 (S av ∧
 (C.ay Tryz.prog (Builtin.append_ #[43, 43] 43 #[aq, au]) av fun aw ax =>
 (S ax ∧
 C.ab 0 y3 ax fun ay az =>
 (C.ak 1 ay aw az fun ba =>
 (S ba ∧
 F17.k8 K y0 y2 y3 y15 y16 ba)) ∧ True)) ∧ True)) ∧ True)) ∧ ((C.ay Tryz.prog (Instr.buildSlice 43 1 #[(0, ao)]) ap fun bb bc =>
 (S bc ∧
 (C.ai b bc fun bd be =>
 (S be ∧
 (C.ay Tryz.prog (Builtin.append_ #[43, 43] 43 #[bd, bb]) be fun bf bg =>
 (S bg ∧
 C.ab 0 y3 bg fun bh bi =>
 (C.ak 1 bh bf bi fun bj =>
 (S bj ∧
 F17.k8 K y0 y2 y3 y15 y16 bj)) ∧ True)) ∧ True)) ∧ True)) ∧ True))) ∧ True))) ∧ True))) : F17.k6 K y0 y2 y3 y15 y16 w := qq h
theorem F17.k8.to (h : (C.aj .add y16 (.int .i64 1) w fun a b =>
 F17.l5 K y0 y2 y3 y15 a b)) : F17.k8 K y0 y2 y3 y15 y16 w := qq h
theorem F17.k14.to (h : (C.ao 2 y3 w fun a b =>
 C.ak 2 y2 a b fun c =>
 C.ao 2 y2 c fun r3 _ =>
 K r3 c)) : F17.k14 K y2 y3 w := qq h
theorem F17.l10.to (h : (C.aj .lss y36 y35 w fun a b =>
 C.am a (F17.k11 K y0 y2 y3 y34 y35 y36 b) (F17.k14 K y2 y3 b))) : F17.l10 K y0 y2 y3 y34 y35 y36 w := by unfold F17.l10 nl; exact qag (qq h)
theorem F17.k11.to (h : (C.bj 1 y34 y36 w fun a b =>
 C.ai a b fun c d =>
 C.a9 d fun S f =>
 C.ab 1 y3 f fun g i =>
 C.ad y0 i fun j k =>
 C.ab 12 j k fun m o =>
 C.ap S m o fun p q =>
 (C.ai g q fun r s =>
 (S s ∧
 (C.q Tryz.prog 49 #[p, c] s fun t u =>
 (S u ∧
 (C.q Tryz.prog 50 #[y0, c] u fun v x =>
 (S x ∧
 (C.q Tryz.prog 46 #[y0, v] x fun y z =>
 (S z ∧
 ∃ aa, (∀ w', S w' → (Instr.build 58 #[(0, t), (1, y)]).run Tryz.prog w' = .ok aa w') ∧ ((C.ay Tryz.prog (Instr.buildSlice 44 1 #[(0, aa)]) z fun ab ac =>
 (S ac ∧
 (C.ay Tryz.prog (Builtin.append_ #[44, 44] 44 #[r, ab]) ac fun ad ae =>
 (S ae ∧
 C.ab 1 y3 ae fun af ag =>
 (C.ak 1 af ad ag fun ah =>
 (S ah ∧
 F17.k13 K y0 y2 y3 y34 y35 y36 ah)) ∧ True)) ∧ True)) ∧ True))) ∧ True)) ∧ True)) ∧ True)) ∧ ((C.q Tryz.prog 49 #[p, c] q fun ai aj =>
 (S aj ∧
 (C.ai g aj fun ak al =>
 (S al ∧
 (C.q Tryz.prog 50 #[y0, c] al fun am an =>
 (S an ∧
 (C.q Tryz.prog 46 #[y0, am] an fun ao ap =>
 (S ap ∧
 ∃ aq, (∀ w', S w' → (Instr.build 58 #[(0, ai), (1, ao)]).run Tryz.prog w' = .ok aq w') ∧ ((C.ay Tryz.prog (Instr.buildSlice 44 1 #[(0, aq)]) ap fun ar au =>
 (S au ∧
 (C.ay Tryz.prog (Builtin.append_ #[44, 44] 44 #[ak, ar]) au fun av aw =>
 (S aw ∧
 C.ab 1 y3 aw fun ax ay =>
 (C.ak 1 ax av ay fun az =>
 (S az ∧
 F17.k13 K y0 y2 y3 y34 y35 y36 az)) ∧ True)) ∧ True)) ∧ True))) ∧ True)) ∧ True)) ∧ ((C.q Tryz.prog 50 #[y0, c] aj fun ba bb =>
 (S bb ∧
 (C.ai g bb fun bc bd =>
 (S bd ∧
 (C.q Tryz.prog 46 #[y0, ba] bd fun be bf =>
 (S bf ∧
 ∃ bg, (∀ w', S w' → (Instr.build 58 #[(0, ai), (1, be)]).run Tryz.prog w' = .ok bg w') ∧ ((C.ay Tryz.prog (Instr.buildSlice 44 1 #[(0, bg)]) bf fun bh bi =>
 (S bi ∧
 (C.ay Tryz.prog (Builtin.append_ #[44, 44] 44 #[bc, bh]) bi fun bj bk =>
 (S bk ∧
 C.ab 1 y3 bk fun bl bm =>
 (C.ak 1 bl bj bm fun bn =>
 (S bn ∧
 F17.k13 K y0 y2 y3 y34 y35 y36 bn)) ∧ True)) ∧ True)) ∧ True))) ∧ True)) ∧ ((C.q Tryz.prog 46 #[y0, ba] bb fun bo bp =>
 (S bp ∧
 ∃ bq, (∀ w', S w' → (Instr.build 58 #[(0, ai), (1, bo)]).run Tryz.prog w' = .ok bq w') ∧ ((C.ai g bp fun br bs =>
 (S bs ∧
 (C.ay Tryz.prog (Instr.buildSlice 44 1 #[(0, bq)]) bs fun bt bu =>
 (S bu ∧
 (C.ay Tryz.prog (Builtin.append_ #[44, 44] 44 #[br, bt]) bu fun bv bw =>
 (S bw ∧
 C.ab 1 y3 bw fun bx bz =>
 (C.ak 1 bx bv bz fun ca =>
 (S ca ∧
 F17.k13 K y0 y2 y3 y34 y35 y36 ca)) ∧ True)) ∧ True)) ∧ True)) ∧ ((C.ay Tryz.prog (Instr.buildSlice 44 1 #[(0, bq)]) bp fun cb cc =>
 (S cc ∧
 (C.ai g cc fun ce cf =>
 (S cf ∧
 (C.ay Tryz.prog (Builtin.append_ #[44, 44] 44 #[ce, cb]) cf fun cg ch =>
 (S ch ∧
 C.ab 1 y3 ch fun ci cj =>
 (C.ak 1 ci cg cj fun ck =>
 (S ck ∧
 F17.k13 K y0 y2 y3 y34 y35 y36 ck)) ∧ True)) ∧ True)) ∧ True)) ∧ True)))) ∧ True))) ∧ True))) ∧ True))) : F17.k11 K y0 y2 y3 y34 y35 y36 w := qq h
theorem F17.k13.to (h : (C.aj .add y36 (.int .i64 1) w fun a b =>
 F17.l10 K y0 y2 y3 y34 y35 a b)) : F17.k13 K y0 y2 y3 y34 y35 y36 w := qq h
theorem F17.sh (h : (C.a3 (.cells #[.slice none 0 0, .slice none 0 0] 46) w fun a b =>
 C.q Tryz.prog 45 #[x0] b fun c d =>
 C.bg c d fun f g =>
 C.am f (C.ay Tryz.prog (Instr.build 46 #[]) g fun i j =>
 C.ak 2 a i j fun k =>
 C.ao 2 a k fun r6 _ =>
 K r6 k) (F17.k3 K x0 a g))) : C.q Tryz.prog 17 #[x0] w K := q9 (A := F17.ann) (args := [x0]) (qq h)
namespace F18
def ann : Ann := ⟨[(3, [0]), (6, [0, 3, 13, 14, 15]), (8, [0, 3, 13, 14, 15]), (9, [3])], [(5, [0, 3, 13, 14, 15])], [], [], none⟩
def code := cd Tryz.f18
def top := tp Tryz.f18
variable (K : VK) (y0 y3 y13 y14 y15 : Value) (w : World)
def k3 : Prop := nk ann 32 [(0, y0)] w [1, 1] code (top K)
def k9 : Prop := nk ann 32 [(3, y3)] w [1, 1, 1, 1] code (top K)
def l5 : Prop := nl ann 32 [(0, y0), (3, y3), (13, y13), (14, y14), (15, y15)] w [1, 1, 1, 0, 1, 0] code (top K)
def k6 : Prop := nk ann 32 [(0, y0), (3, y3), (13, y13), (14, y14), (15, y15)] w [1, 1, 1, 0, 1, 0, 0, 1, 1] code (top K)
def k8 : Prop := nk ann 32 [(0, y0), (3, y3), (13, y13), (14, y14), (15, y15)] w [1, 1, 1, 0, 1, 0, 0, 1, 1, 1] code (top K)
attribute [irreducible] k3 k9 l5 k6 k8
end F18
theorem F18.k3.to (h : (C.ad y0 w fun a b =>
 C.ab 12 a b fun c d =>
 C.ai c d fun f g =>
 C.q Tryz.prog 51 #[f] g fun i j =>
 C.bk i j fun k m =>
 F18.l5 K y0 (.slice none 0 0) i k (.int .i64 0) m)) : F18.k3 K y0 w := qq h
theorem F18.k9.to (h : (C.q Tryz.prog 52 #[y3] w fun a b =>
 K y3 b)) : F18.k9 K y3 w := qq h
theorem F18.l5.to (h : (C.aj .lss y15 y14 w fun a b =>
 C.am a (F18.k6 K y0 y3 y13 y14 y15 b) (F18.k9 K y3 b))) : F18.l5 K y0 y3 y13 y14 y15 w := by unfold F18.l5 nl; exact qag (qq h)
theorem F18.k6.to (h : (C.bj 1 y13 y15 w fun a b =>
 C.ai a b fun c d =>
 C.ad y0 d fun f g =>
 C.ab 12 f g fun i j =>
 C.ai i j fun k m =>
 C.q Tryz.prog 49 #[k, c] m fun o p =>
 C.ay Tryz.prog (Instr.buildSlice 52 1 #[(0, o)]) p fun q r =>
 C.ay Tryz.prog (Builtin.append_ #[52, 52] 52 #[y3, q]) r fun s t =>
 F18.k8 K y0 s y13 y14 y15 t)) : F18.k6 K y0 y3 y13 y14 y15 w := qq h
theorem F18.k8.to (h : (C.aj .add y15 (.int .i64 1) w fun a b =>
 F18.l5 K y0 y3 y13 y14 a b)) : F18.k8 K y0 y3 y13 y14 y15 w := qq h
theorem F18.sh (h : (C.q Tryz.prog 45 #[x0] w fun a b =>
 C.bg a b fun c d =>
 C.am c (K (.slice none 0 0) d) (F18.k3 K x0 d))) : C.q Tryz.prog 18 #[x0] w K := q9 (A := F18.ann) (args := [x0]) (qq h)
namespace F19
def ann : Ann := ⟨[(3, [0]), (6, [0, 3, 12, 13]), (9, [0, 3, 12, 13]), (10, [3])], [(5, [0, 3, 12, 13])], [], [], none⟩
def code := cd Tryz.f19
def top := tp Tryz.f19
variable (K : VK) (y0 y3 y12 y13 : Value) (w : World)
def k3 : Prop := nk ann 28 [(0, y0)] w [1, 1] code (top K)
def k10 : Prop := nk ann 28 [(3, y3)] w [1, 1, 1, 1] code (top K)
def l5 : Prop := nl ann 28 [(0, y0), (3, y3), (12, y12), (13, y13)] w [1, 1, 1, 0, 1, 0] code (top K)
def k6 : Prop := nk ann 28 [(0, y0), (3, y3), (12, y12), (13, y13)] w [1, 1, 1, 0, 1, 0, 0, 1, 1] code (top K)
def k9 : Prop := nk ann 28 [(0, y0), (3, y3), (12, y12), (13, y13)] w [1, 1, 1, 0, 1, 0, 0, 1, 1, 1] code (top K)
attribute [irreducible] k3 k10 l5 k6 k9
end F19
theorem F19.k3.to (h : (C.ad y0 w fun a b =>
 C.ab 2 a b fun c d =>
 C.ab 1 c d fun f g =>
 C.ai f g fun i j =>
 F19.l5 K y0 (.slice none 0 0) i (.int .i64 0) j)) : F19.k3 K y0 w := qq h
theorem F19.k10.to (h : (K y3 w)) : F19.k10 K y3 w := qq h
theorem F19.l5.to (h : (C.aj .lss y13 y12 w fun a b =>
 C.am a (F19.k6 K y0 y3 y12 y13 b) (F19.k10 K y3 b))) : F19.l5 K y0 y3 y12 y13 w := by unfold F19.l5 nl; exact qag (qq h)
theorem F19.k6.to (h : (C.ad y0 w fun a b =>
 C.ab 12 a b fun c d =>
 C.ai c d fun f g =>
 C.q Tryz.prog 53 #[f, y13] g fun i j =>
 C.am i (C.ay Tryz.prog (Instr.buildSlice 54 1 #[(0, y13)]) j fun k m =>
 C.ay Tryz.prog (Builtin.append_ #[54, 54] 54 #[y3, k]) m fun o p =>
 F19.k9 K y0 o y12 y13 p) (F19.k9 K y0 y3 y12 y13 j))) : F19.k6 K y0 y3 y12 y13 w := qq h
theorem F19.k9.to (h : (C.aj .add y13 (.int .i64 1) w fun a b =>
 F19.l5 K y0 y3 y12 a b)) : F19.k9 K y0 y3 y12 y13 w := qq h
theorem F19.sh (h : (C.q Tryz.prog 45 #[x0] w fun a b =>
 C.bg a b fun c d =>
 C.am c (K (.slice none 0 0) d) (F19.k3 K x0 d))) : C.q Tryz.prog 19 #[x0] w K := q9 (A := F19.ann) (args := [x0]) (qq h)
namespace F20
def ann : Ann := ⟨[(3, [0, 3, 4]), (6, [0, 3, 4]), (9, [0, 3, 4]), (12, [4, 7])], [], [], [(11, (.take 0 (.take 1 (.take 2 (.take 4 (.take 3 (.take 5 (.go 6 .fin .fin))))))))], none⟩
def code := cd Tryz.f20
def top := tp Tryz.f20
variable (K : VK) (y0 y3 y4 y7 : Value) (w : World)
def k3 : Prop := nk ann 49 [(0, y0), (3, y3), (4, y4)] w [1, 1] code (top K)
def k6 : Prop := nk ann 49 [(0, y0), (3, y3), (4, y4)] w [1, 1, 1] code (top K)
def k9 : Prop := nk ann 49 [(0, y0), (3, y3), (4, y4)] w [1, 1, 1, 1] code (top K)
def k12 : Prop := nk ann 49 [(4, y4), (7, y7)] w [1, 1, 1, 1, 1, 1] code (top K)
attribute [irreducible] k3 k6 k9 k12
end F20
theorem F20.k3.to (h : (C.ao 7 y3 w fun a b =>
 C.q Tryz.prog 55 #[a] b fun c d =>
 C.aj .neq c (.int .i64 0) d fun f g =>
 C.am f (C.q Tryz.prog 54 #[c] g fun i j =>
 C.ak 5 y4 i j fun k =>
 C.ao 5 y4 k fun r6 _ =>
 K r6 k) (F20.k6 K y0 y3 y4 g))) : F20.k3 K y0 y3 y4 w := qq h
theorem F20.k6.to (h : (C.ao 7 y3 w fun a b =>
 C.q Tryz.prog 56 #[y0, a] b fun c d =>
 C.aj .neq c (.int .i64 0) d fun f g =>
 C.am f (C.q Tryz.prog 54 #[c] g fun i j =>
 C.ak 5 y4 i j fun k =>
 C.ao 5 y4 k fun r6 _ =>
 K r6 k) (F20.k9 K y0 y3 y4 g))) : F20.k6 K y0 y3 y4 w := qq h
theorem F20.k9.to (h : (C.ao 7 y3 w fun a b =>
 C.q Tryz.prog 57 #[y0, a] b fun c d =>
 C.a3 (.cells #[.int .i64 0, .int .i64 0, .int .i64 0, .int .i64 0, .int .i64 0] 38) d fun f g =>
 C.ak 5 f c g fun i =>
 C.ab 0 y3 i fun j k =>
 C.ai j k fun m o =>
 C.aj .geq m (.int .i64 3) o fun p q =>
 C.i true p (fun K => C.ab 0 y3 q K) q fun r s =>
 C.i true p (fun K => C.ai r s K) s fun t u =>
 C.i true p (fun K => C.aj .leq t (.int .i64 12) u K) u fun v x =>
 C.a2 (some p) (some v) (some (.bool false)) x fun y z =>
 C.i true y (fun K => C.ab 0 f z K) z fun aa ab =>
 C.i true y (fun K => C.ai aa ab K) ab fun ac ad =>
 C.i true y (fun K => C.aj .eql ac (.int .i64 0) ad K) ad fun ae af =>
 C.a2 (some y) (some ae) (some (.bool false)) af fun ag ah =>
 C.am ag (C.a9 ah fun S ai =>
 C.ad y0 ai fun aj ak =>
 C.ab 0 aj ak fun al am =>
 C.ab 1 y3 am fun an ao =>
 C.bm S 2 al ao fun ap aq =>
 C.ap S an aq fun ar au =>
 (C.q Tryz.prog 58 #[ap, ar, (.int .i64 1)] au fun av aw =>
 (S aw ∧
 F20.k12 K y4 f aw)) ∧ True) (F20.k12 K y4 f ah))) : F20.k9 K y0 y3 y4 w := qq h
theorem F20.k12.to (h : (C.ao 5 y7 w fun a b =>
 C.ak 5 y4 a b fun c =>
 C.ao 5 y4 c fun r3 _ =>
 K r3 c)) : F20.k12 K y4 y7 w := qq h
theorem F20.sh (h : (C.a3 (.cells (Value.cells x1) 40) w fun a b =>
 C.a3 (.cells #[.int .i64 0, .int .i64 0, .int .i64 0, .int .i64 0, .int .i64 0] 38) b fun c d =>
 C.q Tryz.prog 45 #[x0] d fun f g =>
 C.bg f g fun i j =>
 C.am i (C.q Tryz.prog 54 #[(.int .i64 9)] j fun k m =>
 C.ak 5 c k m fun o =>
 C.ao 5 c o fun r7 _ =>
 K r7 o) (F20.k3 K x0 a c j))) : C.q Tryz.prog 20 #[x0, x1] w K := q9 (A := F20.ann) (args := [x0, x1]) (qq h)

theorem F45.sh (h : (C.bi Tryz.prog .neq 49 (.tmp 3) (.const (.pointer none)) x0 (.pointer none) w fun a b =>
 C.i true a (fun K => K x0 b) b fun c d =>
 C.i true a (fun K => C.ad c d K) d fun f g =>
 C.i true a (fun K => C.ab 12 f g K) g fun i j =>
 C.i true a (fun K => C.ai i j K) j fun k m =>
 C.i true a (fun K => C.bi Tryz.prog .neq 86 (.tmp 9) (.const (.pointer none)) k (.pointer none) m K) m fun o p =>
 C.a2 (some a) (some o) (some (.bool false)) p fun q r =>
 K q r)) : C.q Tryz.prog 45 #[x0] w K := q9 (A := A0) (args := [x0]) (qq h)
namespace F46
def ann : Ann := ⟨[(4, [0, 5, 11, 12, 13]), (7, [0, 5, 11, 12, 13]), (8, [5])], [(3, [0, 5, 11, 12, 13])], [], [], none⟩
def code := cd Tryz.f46
def top := tp Tryz.f46
variable (K : VK) (y0 y5 y11 y12 y13 : Value) (w : World)
def k8 : Prop := nk ann 29 [(5, y5)] w [1, 1, 1] code (top K)
def l3 : Prop := nl ann 29 [(0, y0), (5, y5), (11, y11), (12, y12), (13, y13)] w [1, 1, 0, 1, 0] code (top K)
def k4 : Prop := nk ann 29 [(0, y0), (5, y5), (11, y11), (12, y12), (13, y13)] w [1, 1, 0, 1, 0, 0, 1, 1] code (top K)
def k7 : Prop := nk ann 29 [(0, y0), (5, y5), (11, y11), (12, y12), (13, y13)] w [1, 1, 0, 1, 0, 0, 1, 1, 1] code (top K)
attribute [irreducible] k8 l3 k4 k7
end F46
theorem F46.k8.to (h : (K y5 w)) : F46.k8 K y5 w := qq h
theorem F46.l3.to (h : (C.aj .lss y13 y12 w fun a b =>
 C.am a (F46.k4 K y0 y5 y11 y12 y13 b) (F46.k8 K y5 b))) : F46.l3 K y0 y5 y11 y12 y13 w := by unfold F46.l3 nl; exact qag (qq h)
theorem F46.k4.to (h : (C.bj 2 y11 y13 w fun a b =>
 C.ao 2 a b fun c d =>
 C.a3 (.cells #[.int .i64 0, .int .i64 0] 60) d fun f g =>
 C.ak 2 f c g fun i =>
 C.ao 2 f i fun j k =>
 C.q Tryz.prog 81 #[y0, j] k fun m o =>
 C.a3 (.cells #[.int .i64 0, .int .i64 0, .int .i64 0, .int .i64 0, .int .i64 0] 38) o fun p q =>
 C.ak 5 p m q fun r =>
 C.ab 2 p r fun s t =>
 C.ai s t fun u v =>
 C.bj 2 y5 y13 v fun x y =>
 C.ab 1 x y fun z aa =>
 C.ak 1 z u aa fun ab =>
 F46.k7 K y0 y5 y11 y12 y13 ab)) : F46.k4 K y0 y5 y11 y12 y13 w := qq h
theorem F46.k7.to (h : (C.aj .add y13 (.int .i64 1) w fun a b =>
 F46.l3 K y0 y5 y11 y12 a b)) : F46.k7 K y0 y5 y11 y12 y13 w := qq h
theorem F46.sh (h : (C.q Tryz.prog 80 #[x1] w fun a b =>
 C.bk a b fun c d =>
 F46.l3 K x0 a a c (.int .i64 0) d)) : C.q Tryz.prog 46 #[x0, x1] w K := q9 (A := F46.ann) (args := [x0, x1]) (qq h)
namespace F48
def ann : Ann := ⟨[(5, [1, 3, 4, 18, 19]), (7, [1, 3, 4, 18, 19]), (8, [1, 3, 4]), (10, [1, 3, 4, 6]), (11, [1, 3, 4, 6]), (12, [1, 3])], [(4, [1, 3, 4, 18, 19]), (9, [1, 3, 4, 6])], [], [(11, (.take 0 (.take 3 (.take 1 (.go 2 (.take 4 (.go 5 (.go 6 (.go 7 .fin .fin) .fin) .fin)) .fin)))))], none⟩
def code := cd Tryz.f48
def top := tp Tryz.f48
variable (K : VK) (y1 y3 y4 y6 y18 y19 : Value) (w : World)
def k8 : Prop := nk ann 49 [(1, y1), (3, y3), (4, y4)] w [1, 1, 1, 1] code (top K)
def l4 : Prop := nl ann 49 [(1, y1), (3, y3), (4, y4), (18, y18), (19, y19)] w [1, 1, 1, 0, 1, 0] code (top K)
def k5 : Prop := nk ann 49 [(1, y1), (3, y3), (4, y4), (18, y18), (19, y19)] w [1, 1, 1, 0, 1, 0, 0, 1, 1] code (top K)
def k7 : Prop := nk ann 49 [(1, y1), (3, y3), (4, y4), (18, y18), (19, y19)] w [1, 1, 1, 0, 1, 0, 0, 1, 1, 1] code (top K)
def k12 : Prop := nk ann 49 [(1, y1), (3, y3)] w [1, 1, 1, 1, 1] code (top K)
def l9 : Prop := nl ann 49 [(1, y1), (3, y3), (4, y4), (6, y6)] w [1, 1, 1, 1, 0, 1, 0] code (top K)
def k11 : Prop := nk ann 49 [(1, y1), (3, y3), (4, y4), (6, y6)] w [1, 1, 1, 1, 0, 1, 0, 0, 1] code (top K)
def k10 : Prop := nk ann 49 [(1, y1), (3, y3), (4, y4), (6, y6)] w [1, 1, 1, 1, 0, 1, 0, 0, 1, 1] code (top K)
attribute [irreducible] k8 l4 k5 k7 k12 l9 k11 k10
end F48
theorem F48.k8.to (h : (F48.l9 K y1 y3 y4 (.int .i64 0) w)) : F48.k8 K y1 y3 y4 w := qq h
theorem F48.l4.to (h : (C.aj .lss y19 y18 w fun a b =>
 C.am a (F48.k5 K y1 y3 y4 y18 y19 b) (F48.k8 K y1 y3 y4 b))) : F48.l4 K y1 y3 y4 y18 y19 w := by unfold F48.l4 nl; exact qag (qq h)
theorem F48.k5.to (h : (C.ai y1 w fun a b =>
 C.ad a b fun c d =>
 C.ab 12 c d fun f g =>
 C.ai f g fun i j =>
 C.q Tryz.prog 47 #[i, y19] j fun k m =>
 qb2 Tryz.prog y4 [k] m fun o p =>
 F48.k7 K y1 y3 y4 y18 y19 p)) : F48.k5 K y1 y3 y4 y18 y19 w := qq h
theorem F48.k7.to (h : (C.aj .add y19 (.int .i64 1) w fun a b =>
 F48.l4 K y1 y3 y4 y18 a b)) : F48.k7 K y1 y3 y4 y18 y19 w := qq h
theorem F48.k12.to (h : (C.ai y3 w fun a b =>
 C.q Tryz.prog 86 #[a, (.func (.func 87) #[] #[y1])] b fun c d =>
 C.ai y3 d fun f g =>
 K f g)) : F48.k12 K y1 y3 w := qq h
theorem F48.l9.to (h : (C.ai y3 w fun a b =>
 C.bk a b fun c d =>
 C.aj .lss y6 c d fun f g =>
 C.am f (F48.k11 K y1 y3 y4 y6 g) (F48.k12 K y1 y3 g))) : F48.l9 K y1 y3 y4 y6 w := by unfold F48.l9 nl; exact qag (qq h)
theorem F48.k11.to (h : (C.a9 w fun S a =>
 C.ap S y1 a fun b c =>
 (C.ai y3 c fun d f =>
 (S f ∧
 C.bj 1 d y6 f fun g i =>
 (C.ai g i fun j k =>
 (S k ∧
 (C.q Tryz.prog 50 #[b, j] k fun m o =>
 (S o ∧
 (C.ct y4 (qb2 Tryz.prog y4 [m] o fun p q =>
 (S q ∧
 F48.k10 K y1 y3 y4 y6 q))) ∧ True)) ∧ True)) ∧ True)) ∧ True)) : F48.k11 K y1 y3 y4 y6 w := qq h
theorem F48.k10.to (h : (C.aj .add y6 (.int .i64 1) w fun a b =>
 F48.l9 K y1 y3 y4 a b)) : F48.k10 K y1 y3 y4 y6 w := qq h
theorem F48.sh (h : (C.a3 (.cells (Value.cells x0) 49) w fun a b =>
 C.ai a b fun c d =>
 C.ad c d fun f g =>
 C.ab 12 f g fun i j =>
 C.ai i j fun k m =>
 C.q Tryz.prog 83 #[k] m fun o p =>
 C.ay Tryz.prog (Instr.buildSlice 54 1 #[(0, o)]) p fun q r =>
 C.a3 (.cells #[.slice none 0 0] 54) r fun s t =>
 C.ak 1 s q t fun u =>
 C.ai a u fun v x =>
 C.ad v x fun y z =>
 C.ab 2 y z fun aa ab =>
 C.ab 1 aa ab fun ac ad =>
 C.ai ac ad fun ae af =>
 F48.l4 K a s (.func (.func 84) #[] #[s]) ae (.int .i64 0) af)) : C.q Tryz.prog 48 #[x0] w K := q9 (A := F48.ann) (args := [x0]) (qq h)
namespace F50
def ann : Ann := ⟨[(4, [0, 1, 5, 14, 15]), (7, [0, 1, 5, 14, 15]), (8, [5])], [(3, [0, 1, 5, 14, 15])], [], [], none⟩
def code := cd Tryz.f50
def top := tp Tryz.f50
variable (K : VK) (y0 y1 y5 y14 y15 : Value) (w : World)
def k8 : Prop := nk ann 34 [(5, y5)] w [1, 1, 1] code (top K)
def l3 : Prop := nl ann 34 [(0, y0), (1, y1), (5, y5), (14, y14), (15, y15)] w [1, 1, 0, 1, 0] code (top K)
def k4 : Prop := nk ann 34 [(0, y0), (1, y1), (5, y5), (14, y14), (15, y15)] w [1, 1, 0, 1, 0, 0, 1, 1] code (top K)
def k7 : Prop := nk ann 34 [(0, y0), (1, y1), (5, y5), (14, y14), (15, y15)] w [1, 1, 0, 1, 0, 0, 1, 1, 1] code (top K)
attribute [irreducible] k8 l3 k4 k7
end F50
theorem F50.k8.to (h : (K y5 w)) : F50.k8 K y5 w := qq h
theorem F50.l3.to (h : (C.aj .lss y15 y14 w fun a b =>
 C.am a (F50.k4 K y0 y1 y5 y14 y15 b) (F50.k8 K y5 b))) : F50.l3 K y0 y1 y5 y14 y15 w := by unfold F50.l3 nl; exact qag (qq h)
theorem F50.k4.to (h : (C.ad y0 w fun a b =>
 C.ab 12 a b fun c d =>
 C.ai c d fun f g =>
 C.q Tryz.prog 91 #[f, y1, y15] g fun i j =>
 C.a0 0 i j fun k m =>
 C.a0 1 i m fun o p =>
 C.a3 (.cells #[.int .i64 0, .int .i64 0] 60) p fun q r =>
 C.ak 2 q k r fun s =>
 C.ao 2 q s fun t u =>
 C.ay Tryz.prog (Instr.buildSlice 56 1 #[(0, t)]) u fun v x =>
 C.ay Tryz.prog (Builtin.append_ #[56, 56] 56 #[y5, v]) x fun y z =>
 F50.k7 K y0 y1 y y14 y15 z)) : F50.k4 K y0 y1 y5 y14 y15 w := qq h
theorem F50.k7.to (h : (C.aj .add y15 (.int .i64 1) w fun a b =>
 F50.l3 K y0 y1 y5 y14 a b)) : F50.k7 K y0 y1 y5 y14 y15 w := qq h
theorem F50.sh (h : (C.ad x0 w fun a b =>
 C.ab 12 a b fun c d =>
 C.ai c d fun f g =>
 C.q Tryz.prog 90 #[f, x1] g fun i j =>
 F50.l3 K x0 x1 (.slice none 0 0) i (.int .i64 0) j)) : C.q Tryz.prog 50 #[x0, x1] w K := q9 (A := F50.ann) (args := [x0, x1]) (qq h)

theorem F54.sh (h : (C.a3 (.cells #[.int .i64 0, .int .i64 0, .int .i64 0, .int .i64 0, .int .i64 0] 38) w fun a b =>
 C.ay Tryz.prog (Instr.build 38 #[(0, x0)]) b fun c d =>
 C.ak 5 a c d fun f =>
 C.ao 5 a f fun r4 _ =>
 K r4 f)) : C.q Tryz.prog 54 #[x0] w K := q9 (A := A0) (args := [x0]) (qq h)
namespace F55
def ann : Ann := ⟨[(3, [1]), (6, [1, 3, 20, 21]), (9, [1, 3, 20, 21]), (10, [1, 3]), (12, [1, 3, 32, 33]), (15, [1, 3, 32, 33]), (16, [1, 3]), (18, [])], [(5, [1, 3, 20, 21]), (11, [1, 3, 32, 33])], [], [], none⟩
def code := cd Tryz.f55
def top := tp Tryz.f55
variable (K : VK) (y1 y3 y20 y21 y32 y33 : Value) (w : World)
def k3 : Prop := nk ann 55 [(1, y1)] w [1, 1] code (top K)
def k10 : Prop := nk ann 55 [(1, y1), (3, y3)] w [1, 1, 1, 1] code (top K)
def l5 : Prop := nl ann 55 [(1, y1), (3, y3), (20, y20), (21, y21)] w [1, 1, 1, 0, 1, 0] code (top K)
def k6 : Prop := nk ann 55 [(1, y1), (3, y3), (20, y20), (21, y21)] w [1, 1, 1, 0, 1, 0, 0, 1, 1] code (top K)
def k9 : Prop := nk ann 55 [(1, y1), (3, y3), (20, y20), (21, y21)] w [1, 1, 1, 0, 1, 0, 0, 1, 1, 1] code (top K)
def k16 : Prop := nk ann 55 [(1, y1), (3, y3)] w [1, 1, 1, 1, 1] code (top K)
def l11 : Prop := nl ann 55 [(1, y1), (3, y3), (32, y32), (33, y33)] w [1, 1, 1, 1, 0, 1, 0] code (top K)
def k12 : Prop := nk ann 55 [(1, y1), (3, y3), (32, y32), (33, y33)] w [1, 1, 1, 1, 0, 1, 0, 0, 1, 1] code (top K)
def k15 : Prop := nk ann 55 [(1, y1), (3, y3), (32, y32), (33, y33)] w [1, 1, 1, 1, 0, 1, 0, 0, 1, 1, 1] code (top K)
def k18 : Prop := nk ann 55 [] w [1, 1, 1, 1, 1, 1] code (top K)
attribute [irreducible] k3 k10 l5 k6 k9 k16 l11 k12 k15 k18
end F55
theorem F55.k3.to (h : (C.ab 0 y1 w fun a b =>
 C.ai a b fun c d =>
 C.q Tryz.prog 96 #[c] d fun f g =>
 C.ao 7 y1 g fun i j =>
 C.q Tryz.prog 97 #[i] j fun k m =>
 F55.l5 K y1 f k (.int .i64 0) m)) : F55.k3 K y1 w := qq h
theorem F55.k10.to (h : (C.ao 7 y1 w fun a b =>
 C.q Tryz.prog 97 #[a] b fun c d =>
 F55.l11 K y1 y3 c (.int .i64 0) d)) : F55.k10 K y1 y3 w := qq h
theorem F55.l5.to (h : (C.aj .lss y21 (.int .i64 5) w fun a b =>
 C.am a (F55.k6 K y1 y3 y20 y21 b) (F55.k10 K y1 y3 b))) : F55.l5 K y1 y3 y20 y21 w := by unfold F55.l5 nl; exact qag (qq h)
theorem F55.k6.to (h : (C.ay Tryz.prog (Instr.index 158 y20 y21) w fun a b =>
 C.aj .lss a (.int .i64 0) b fun c d =>
 C.i false c (fun K => K a d) d fun f g =>
 C.i false c (fun K => C.aj .gtr f (.int .i64 255) g K) g fun i j =>
 C.a2 (some c) (some (.bool true)) (some i) j fun k m =>
 C.am k (K (.int .i64 4) m) (F55.k9 K y1 y3 y20 y21 m))) : F55.k6 K y1 y3 y20 y21 w := qq h
theorem F55.k9.to (h : (C.aj .add y21 (.int .i64 1) w fun a b =>
 F55.l5 K y1 y3 y20 a b)) : F55.k9 K y1 y3 y20 y21 w := qq h
theorem F55.k16.to (h : (C.ab 6 y1 w fun a b =>
 C.ai a b fun c d =>
 C.aj .neq c (.int .i64 0) d fun f g =>
 C.i true f (fun K => K y3 g) g fun i j =>
 C.i true f (fun K => C.bi Tryz.prog .and 3 (.tmp 51) (.const (.int .i64 32)) i (.int .i64 32) j K) j fun k m =>
 C.i true f (fun K => C.aj .eql k (.int .i64 0) m K) m fun o p =>
 C.a2 (some f) (some o) (some (.bool false)) p fun q r =>
 C.am q (K (.int .i64 16) r) (F55.k18 K r))) : F55.k16 K y1 y3 w := qq h
theorem F55.l11.to (h : (C.aj .lss y33 (.int .i64 5) w fun a b =>
 C.am a (F55.k12 K y1 y3 y32 y33 b) (F55.k16 K y1 y3 b))) : F55.l11 K y1 y3 y32 y33 w := by unfold F55.l11 nl; exact qag (qq h)
theorem F55.k12.to (h : (C.ay Tryz.prog (Instr.index 158 y32 y33) w fun a b =>
 C.aj .neq a (.int .i64 0) b fun c d =>
 C.i true c (fun K => K y3 d) d fun f g =>
 C.i true c (fun K => K y33 g) g fun i j =>
 C.i true c (fun K => C.bi Tryz.prog .shr 3 (.tmp 40) (.tmp 41) f i j K) j fun k m =>
 C.i true c (fun K => C.bi Tryz.prog .and 3 (.tmp 42) (.const (.int .i64 1)) k (.int .i64 1) m K) m fun o p =>
 C.i true c (fun K => C.aj .eql o (.int .i64 0) p K) p fun q r =>
 C.a2 (some c) (some q) (some (.bool false)) r fun s t =>
 C.am s (K (.int .i64 16) t) (F55.k15 K y1 y3 y32 y33 t))) : F55.k12 K y1 y3 y32 y33 w := qq h
theorem F55.k15.to (h : (C.aj .add y33 (.int .i64 1) w fun a b =>
 F55.l11 K y1 y3 y32 a b)) : F55.k15 K y1 y3 y32 y33 w := qq h
theorem F55.k18.to (h : (K (.int .i64 0) w)) : F55.k18 K w := qq h
theorem F55.sh (h : (C.a3 (.cells (Value.cells x0) 40) w fun a b =>
 C.ab 0 a b fun c d =>
 C.ai c d fun f g =>
 C.aj .lss f (.int .i64 1) g fun i j =>
 C.i false i (fun K => C.ab 0 a j K) j fun k m =>
 C.i false i (fun K => C.ai k m K) m fun o p =>
 C.i false i (fun K => C.aj .gtr o (.int .i64 17) p K) p fun q r =>
 C.a2 (some i) (some (.bool true)) (some q) r fun s t =>
 C.am s (K (.int .i64 12) t) (F55.k3 K a t))) : C.q Tryz.prog 55 #[x0] w K := q9 (A := F55.ann) (args := [x0]) (qq h)
namespace F56
def ann : Ann := ⟨[(9, [])], [], [], [(3, (.take 0 (.take 2 (.take 3 (.take 4 (.take 5 (.take 1 (.take 6 (.take 7 (.take 8 .fin)))))))))), (5, (.take 0 (.take 1 (.take 2 (.take 3 (.take 4 (.take 5 (.take 6 (.take 8 (.take 7 (.take 9 (.go 10 (.take 11 (.take 12 .fin)) .fin)))))))))))), (7, (.take 0 (.take 1 (.take 2 (.take 3 (.take 4 (.take 5 (.take 6 (.take 8 (.take 7 (.take 9 (.go 10 (.take 11 (.take 12 (.take 13 .fin))) .fin))))))))))))], none⟩
def code := cd Tryz.f56
def top := tp Tryz.f56
variable (K : VK) (w : World)
def k9 : Prop := nk ann 45 [] w [1, 1] code (top K)
attribute [irreducible] k9
end F56
theorem F56.k9.to (h : (K (.int .i64 0) w)) : F56.k9 K w := qq h
theorem F56.sh (h : (C.a3 (.cells (Value.cells x1) 40) w fun a b =>
 C.ab 0 a b fun c d =>
 C.ai c d fun f g =>
 C.aj .geq f (.int .i64 16) g fun i j =>
 C.am i (K (.int .i64 0) j) (C.a9 j fun S k =>
 C.ab 1 a k fun m o =>
 C.ad x0 o fun p q =>
 C.ab 2 p q fun r s =>
 C.ab 1 r s fun t u =>
 C.ap S m u fun v x =>
 C.ap S t x fun y z =>
 C.aj .geq v y z fun aa ab =>
 C.am aa (K (.int .i64 4) ab) (C.a9 ab fun S ac =>
 C.ab 0 a ac fun ad ae =>
 C.ap S ad ae fun af ag =>
 C.aj .eql af (.int .i64 1) ag fun ah ai =>
 C.i true ah (fun K => K x0 ai) ai fun aj ak =>
 C.i true ah (fun K => C.ad aj ak K) ak fun al am =>
 C.i true ah (fun K => C.ab 12 al am K) am fun an ao =>
 C.i true ah (fun K => C.ab 1 a ao K) ao fun ap aq =>
 C.i true ah (fun K => C.ap S an aq K) aq fun ar au =>
 C.i true ah (fun K => C.ap S ap au K) au fun av aw =>
 (C.i true ah (fun K => C.q Tryz.prog 53 #[ar, av] aw K) aw fun ax ay =>
 (S ay ∧
 C.a2 (some ah) (some ax) (some (.bool false)) ay fun az ba =>
 C.am az (K (.int .i64 9) ba) (C.a9 ba fun S bb =>
 C.ab 0 a bb fun bc bd =>
 C.ap S bc bd fun be bf =>
 C.aj .neq be (.int .i64 1) bf fun bg bh =>
 C.i true bg (fun K => K x0 bh) bh fun bi bj =>
 C.i true bg (fun K => C.ad bi bj K) bj fun bk bl =>
 C.i true bg (fun K => C.ab 12 bk bl K) bl fun bm bn =>
 C.i true bg (fun K => C.ab 1 a bn K) bn fun bo bp =>
 C.i true bg (fun K => C.ap S bm bp K) bp fun bq br =>
 C.i true bg (fun K => C.ap S bo br K) br fun bs bt =>
 (C.i true bg (fun K => C.q Tryz.prog 53 #[bq, bs] bt K) bt fun bu bv =>
 (S bv ∧
 C.i true bg (fun K => C.bg bu bv K) bv fun bw bx =>
 C.a2 (some bg) (some bw) (some (.bool false)) bx fun bz ca =>
 C.am bz (K (.int .i64 14) ca) (F56.k9 K ca))) ∧ True))) ∧ True)))) : C.q Tryz.prog 56 #[x0, x1] w K := q9 (A := F56.ann) (args := [x0, x1]) (qq h)
namespace F57
def ann : Ann := ⟨[(17, [0, 4, 5, 6]), (19, [0, 4, 5]), (27, [4])], [], [], [(4, (.take 0 (.take 1 (.take 2 (.take 4 (.take 3 (.take 5 (.go 6 .fin .fin)))))))), (6, (.take 0 (.take 1 (.take 2 (.take 4 (.take 3 (.take 5 (.go 6 .fin .fin)))))))), (16, (.take 0 (.take 1 (.take 2 (.take 4 (.take 3 (.take 5 (.go 6 (.take 7 (.take 8 (.take 9 (.go 10 (.go 11 (.take 12 .fin) .fin) .fin)))) (.go 10 (.go 6 (.take 7 (.take 8 (.take 9 (.go 11 (.take 12 .fin) .fin)))) .fin) .fin))))))))), (26, (.take 0 (.take 1 (.take 2 (.take 4 (.take 3 (.take 5 (.go 6 .fin .fin))))))))], none⟩
def code := cd Tryz.f57
def top := tp Tryz.f57
variable (K : VK) (y0 y4 y5 y6 : Value) (w : World)
def k27 : Prop := nk ann 83 [(4, y4)] w [1, 1] code (top K)
def k17 : Prop := nk ann 83 [(0, y0), (4, y4), (5, y5), (6, y6)] w [1, 0, 1, 0, 1, 1, 1, 1, 1, 1, 1, 1, 1, 0, 1] code (top K)
def k19 : Prop := nk ann 83 [(0, y0), (4, y4), (5, y5)] w [1, 0, 1, 0, 1, 1, 1, 1, 1, 1, 1, 1, 1, 0, 1, 1] code (top K)
attribute [irreducible] k27 k17 k19
end F57
theorem F57.k27.to (h : (C.ay Tryz.prog (Instr.build 38 #[]) w fun a b =>
 C.ak 5 y4 a b fun c =>
 C.ao 5 y4 c fun r3 _ =>
 K r3 c)) : F57.k27 K y4 w := qq h
theorem F57.k17.to (h : (C.bg y6 w fun a b =>
 C.am a (C.q Tryz.prog 54 #[(.int .i64 4)] b fun c d =>
 C.ak 5 y4 c d fun f =>
 C.ao 5 y4 f fun r4 _ =>
 K r4 f) (F57.k19 K y0 y4 y5 b))) : F57.k17 K y0 y4 y5 y6 w := qq h
theorem F57.k19.to (h : (C.ao 2 y5 w fun a b =>
 C.q Tryz.prog 81 #[y0, a] b fun c d =>
 C.ak 5 y4 c d fun f =>
 C.ao 5 y4 f fun r4 _ =>
 K r4 f)) : F57.k19 K y0 y4 y5 w := qq h
theorem F57.sh (h : (C.a3 (.cells (Value.cells x1) 40) w fun a b =>
 C.a3 (.cells #[.int .i64 0, .int .i64 0, .int .i64 0, .int .i64 0, .int .i64 0] 38) b fun c d =>
 C.ab 0 a d fun f g =>
 C.ai f g fun i j =>
 C.aj .eql i (.int .i64 1) j fun k m =>
 C.am k (C.a9 m fun S o =>
 C.ad x0 o fun p q =>
 C.ab 12 p q fun r s =>
 C.ab 1 a s fun t u =>
 C.ap S r u fun v x =>
 C.ap S t x fun y z =>
 (C.q Tryz.prog 98 #[v, y] z fun aa ab =>
 (S ab ∧
 F57.k27 K c ab)) ∧ True) (C.aj .eql i (.int .i64 2) m fun ac ad =>
 C.am ac (C.a9 ad fun S ae =>
 C.ad x0 ae fun af ag =>
 C.ab 12 af ag fun ah ai =>
 C.ab 1 a ai fun aj ak =>
 C.ap S ah ak fun al am =>
 C.ap S aj am fun an ao =>
 (C.q Tryz.prog 99 #[al, an] ao fun ap aq =>
 (S aq ∧
 F57.k27 K c aq)) ∧ True) (C.aj .eql i (.int .i64 3) ad fun ar au =>
 C.am ar (C.ao 7 a au fun av aw =>
 C.q Tryz.prog 100 #[x0, av] aw fun ax ay =>
 C.ak 5 c ax ay fun az =>
 C.ao 5 c az fun r25 _ =>
 K r25 az) (C.aj .eql i (.int .i64 4) au fun ba bb =>
 C.am ba (C.am ba (C.ao 7 a bb fun bc bd =>
 C.q Tryz.prog 101 #[x0, bc] bd fun be bf =>
 C.ak 5 c be bf fun bg =>
 C.ao 5 c bg fun r30 _ =>
 K r30 bg) (C.aj .eql i (.int .i64 8) bb fun bh bi =>
 C.am bh (C.a9 bi fun S bj =>
 C.ad x0 bj fun bk bl =>
 C.ab 12 bk bl fun bm bn =>
 C.ab 1 a bn fun bo bp =>
 C.ap S bm bp fun bq br =>
 C.ap S bo br fun bs bt =>
 (C.q Tryz.prog 102 #[bq, bs] bt fun bu bv =>
 (S bv ∧
 C.a0 0 bu bv fun bw bx =>
 C.a0 1 bu bx fun bz ca =>
 (C.a3 (.cells #[.int .i64 0, .int .i64 0] 60) ca fun cb cc =>
 (S cc ∧
 (C.ak 2 cb bw cc fun ce =>
 (S ce ∧
 F57.k17 K x0 c cb bz ce)) ∧ True)) ∧ True)) ∧ ((C.a3 (.cells #[.int .i64 0, .int .i64 0] 60) bt fun cf cg =>
 (S cg ∧
 (C.q Tryz.prog 102 #[bq, bs] cg fun ch ci =>
 (S ci ∧
 C.a0 0 ch ci fun cj ck =>
 C.a0 1 ch ck fun cl cm =>
 (C.ak 2 cf cj cm fun cn =>
 (S cn ∧
 F57.k17 K x0 c cf cl cn)) ∧ True)) ∧ True)) ∧ True)) (C.aj .eql i (.int .i64 10) bi fun co cp =>
 C.am co (C.ao 7 a cp fun cq cr =>
 C.q Tryz.prog 103 #[x0, cq] cr fun cs ct =>
 C.ak 5 c cs ct fun cu =>
 C.ao 5 c cu fun r52 _ =>
 K r52 cu) (C.aj .eql i (.int .i64 11) cp fun cv cw =>
 C.am cv (C.am cv (C.ao 7 a cw fun cx cy =>
 C.q Tryz.prog 104 #[x0, cx] cy fun cz da =>
 C.ak 5 c cz da fun db =>
 C.ao 5 c db fun r57 _ =>
 K r57 db) (C.aj .eql i (.int .i64 14) cw fun dc dd =>
 C.am dc (C.a9 dd fun S de =>
 C.ad x0 de fun df dg =>
 C.ab 12 df dg fun dh di =>
 C.ab 1 a di fun dj dk =>
 C.ap S dh dk fun dl dm =>
 C.ap S dj dm fun dn dp =>
 (C.q Tryz.prog 105 #[dl, dn] dp fun dq dr =>
 (S dr ∧
 F57.k27 K c dr)) ∧ True) (C.ao 7 a dd fun ds dt =>
 C.q Tryz.prog 106 #[x0, ds] dt fun du dv =>
 C.ak 5 c du dv fun dw =>
 C.ao 5 c dw fun r69 _ =>
 K r69 dw))) (C.aj .eql i (.int .i64 12) cw fun dx dy =>
 C.am dx (C.ao 7 a dy fun dz ea =>
 C.q Tryz.prog 104 #[x0, dz] ea fun eb ec =>
 C.ak 5 c eb ec fun ed =>
 C.ao 5 c ed fun r74 _ =>
 K r74 ed) (C.aj .eql i (.int .i64 14) dy fun ee ef =>
 C.am ee (C.a9 ef fun S eg =>
 C.ad x0 eg fun eh ei =>
 C.ab 12 eh ei fun ej ek =>
 C.ab 1 a ek fun el em =>
 C.ap S ej em fun en eo =>
 C.ap S el eo fun ep eq =>
 (C.q Tryz.prog 105 #[en, ep] eq fun er es =>
 (S es ∧
 F57.k27 K c es)) ∧ True) (C.ao 7 a ef fun et eu =>
 C.q Tryz.prog 106 #[x0, et] eu fun ev ew =>
 C.ak 5 c ev ew fun ex =>
 C.ao 5 c ex fun r86 _ =>
 K r86 ex))))))) (C.aj .eql i (.int .i64 5) bb fun ey ez =>
 C.am ey (C.am ey (C.ao 7 a ez fun fa fb =>
 C.q Tryz.prog 101 #[x0, fa] fb fun fc fd =>
 C.ak 5 c fc fd fun fe =>
 C.ao 5 c fe fun r91 _ =>
 K r91 fe) (C.aj .eql i (.int .i64 8) ez fun ff fg =>
 C.am ff (C.a9 fg fun S fh =>
 C.ad x0 fh fun fi fj =>
 C.ab 12 fi fj fun fk fl =>
 C.ab 1 a fl fun fm fn =>
 C.ap S fk fn fun fo fp =>
 C.ap S fm fp fun fq fr =>
 (C.q Tryz.prog 102 #[fo, fq] fr fun fs ft =>
 (S ft ∧
 C.a0 0 fs ft fun fu fv =>
 C.a0 1 fs fv fun fw fx =>
 (C.a3 (.cells #[.int .i64 0, .int .i64 0] 60) fx fun fy fz =>
 (S fz ∧
 (C.ak 2 fy fu fz fun ga =>
 (S ga ∧
 F57.k17 K x0 c fy fw ga)) ∧ True)) ∧ True)) ∧ ((C.a3 (.cells #[.int .i64 0, .int .i64 0] 60) fr fun gb gc =>
 (S gc ∧
 (C.q Tryz.prog 102 #[fo, fq] gc fun gd ge =>
 (S ge ∧
 C.a0 0 gd ge fun gf gg =>
 C.a0 1 gd gg fun gh gi =>
 (C.ak 2 gb gf gi fun gj =>
 (S gj ∧
 F57.k17 K x0 c gb gh gj)) ∧ True)) ∧ True)) ∧ True)) (C.aj .eql i (.int .i64 10) fg fun gk gl =>
 C.am gk (C.ao 7 a gl fun gm gn =>
 C.q Tryz.prog 103 #[x0, gm] gn fun go gp =>
 C.ak 5 c go gp fun gq =>
 C.ao 5 c gq fun r113 _ =>
 K r113 gq) (C.aj .eql i (.int .i64 11) gl fun gr gs =>
 C.am gr (C.am gr (C.ao 7 a gs fun gt gu =>
 C.q Tryz.prog 104 #[x0, gt] gu fun gv gw =>
 C.ak 5 c gv gw fun gx =>
 C.ao 5 c gx fun r118 _ =>
 K r118 gx) (C.aj .eql i (.int .i64 14) gs fun gy gz =>
 C.am gy (C.a9 gz fun S ha =>
 C.ad x0 ha fun hb hc =>
 C.ab 12 hb hc fun hd he =>
 C.ab 1 a he fun hf hg =>
 C.ap S hd hg fun hh hi =>
 C.ap S hf hi fun hj hk =>
 (C.q Tryz.prog 105 #[hh, hj] hk fun hl hm =>
 (S hm ∧
 F57.k27 K c hm)) ∧ True) (C.ao 7 a gz fun hn ho =>
 C.q Tryz.prog 106 #[x0, hn] ho fun hp hq =>
 C.ak 5 c hp hq fun hr =>
 C.ao 5 c hr fun r130 _ =>
 K r130 hr))) (C.aj .eql i (.int .i64 12) gs fun hs ht =>
 C.am hs (C.ao 7 a ht fun hu hv =>
 C.q Tryz.prog 104 #[x0, hu] hv fun hw hx =>
 C.ak 5 c hw hx fun hy =>
 C.ao 5 c hy fun r135 _ =>
 K r135 hy) (C.aj .eql i (.int .i64 14) ht fun hz ia =>
 C.am hz (C.a9 ia fun S ib =>
 C.ad x0 ib fun ic id =>
 C.ab 12 ic id fun ie ig =>
 C.ab 1 a ig fun ih ii =>
 C.ap S ie ii fun ij ik =>
 C.ap S ih ik fun il im =>
 (C.q Tryz.prog 105 #[ij, il] im fun io ip =>
 (S ip ∧
 F57.k27 K c ip)) ∧ True) (C.ao 7 a ia fun iq ir =>
 C.q Tryz.prog 106 #[x0, iq] ir fun it iu =>
 C.ak 5 c it iu fun iv =>
 C.ao 5 c iv fun r147 _ =>
 K r147 iv))))))) (C.aj .eql i (.int .i64 6) ez fun iw ix =>
 C.am iw (C.am iw (C.ao 7 a ix fun iy iz =>
 C.q Tryz.prog 101 #[x0, iy] iz fun ja jb =>
 C.ak 5 c ja jb fun jc =>
 C.ao 5 c jc fun r152 _ =>
 K r152 jc) (C.aj .eql i (.int .i64 8) ix fun jd je =>
 C.am jd (C.a9 je fun S jf =>
 C.ad x0 jf fun jg jh =>
 C.ab 12 jg jh fun ji jj =>
 C.ab 1 a jj fun jk jl =>
 C.ap S ji jl fun jm jn =>
 C.ap S jk jn fun jo jp =>
 (C.q Tryz.prog 102 #[jm, jo] jp fun jq jr =>
 (S jr ∧
 C.a0 0 jq jr fun js jt =>
 C.a0 1 jq jt fun ju jv =>
 (C.a3 (.cells #[.int .i64 0, .int .i64 0] 60) jv fun jw jx =>
 (S jx ∧
 (C.ak 2 jw js jx fun jy =>
 (S jy ∧
 F57.k17 K x0 c jw ju jy)) ∧ True)) ∧ True)) ∧ ((C.a3 (.cells #[.int .i64 0, .int .i64 0] 60) jp fun jz ka =>
 (S ka ∧
 (C.q Tryz.prog 102 #[jm, jo] ka fun kb kc =>
 (S kc ∧
 C.a0 0 kb kc fun kd ke =>
 C.a0 1 kb ke fun kf kg =>
 (C.ak 2 jz kd kg fun kh =>
 (S kh ∧
 F57.k17 K x0 c jz kf kh)) ∧ True)) ∧ True)) ∧ True)) (C.aj .eql i (.int .i64 10) je fun ki kj =>
 C.am ki (C.ao 7 a kj fun kk kl =>
 C.q Tryz.prog 103 #[x0, kk] kl fun km kn =>
 C.ak 5 c km kn fun ko =>
 C.ao 5 c ko fun r174 _ =>
 K r174 ko) (C.aj .eql i (.int .i64 11) kj fun kp kq =>
 C.am kp (C.am kp (C.ao 7 a kq fun kr ks =>
 C.q Tryz.prog 104 #[x0, kr] ks fun kt ku =>
 C.ak 5 c kt ku fun kv =>
 C.ao 5 c kv fun r179 _ =>
 K r179 kv) (C.aj .eql i (.int .i64 14) kq fun kw kx =>
 C.am kw (C.a9 kx fun S ky =>
 C.ad x0 ky fun kz la =>
 C.ab 12 kz la fun lb lc =>
 C.ab 1 a lc fun ld le =>
 C.ap S lb le fun lf lg =>
 C.ap S ld lg fun lh li =>
 (C.q Tryz.prog 105 #[lf, lh] li fun lj lk =>
 (S lk ∧
 F57.k27 K c lk)) ∧ True) (C.ao 7 a kx fun ll lm =>
 C.q Tryz.prog 106 #[x0, ll] lm fun ln lo =>
 C.ak 5 c ln lo fun lp =>
 C.ao 5 c lp fun r191 _ =>
 K r191 lp))) (C.aj .eql i (.int .i64 12) kq fun lq lr =>
 C.am lq (C.ao 7 a lr fun ls lt =>
 C.q Tryz.prog 104 #[x0, ls] lt fun lu lv =>
 C.ak 5 c lu lv fun lw =>
 C.ao 5 c lw fun r196 _ =>
 K r196 lw) (C.aj .eql i (.int .i64 14) lr fun lx ly =>
 C.am lx (C.a9 ly fun S lz =>
 C.ad x0 lz fun ma mb =>
 C.ab 12 ma mb fun mc md =>
 C.ab 1 a md fun me mf =>
 C.ap S mc mf fun mg mh =>
 C.ap S me mh fun mi mj =>
 (C.q Tryz.prog 105 #[mg, mi] mj fun mk ml =>
 (S ml ∧
 F57.k27 K c ml)) ∧ True) (C.ao 7 a ly fun mm mn =>
 C.q Tryz.prog 106 #[x0, mm] mn fun mo mp =>
 C.ak 5 c mo mp fun mq =>
 C.ao 5 c mq fun r208 _ =>
 K r208 mq))))))) (C.aj .eql i (.int .i64 7) ix fun mr ms =>
 C.am mr (C.am mr (C.ao 7 a ms fun mt mu =>
 C.q Tryz.prog 101 #[x0, mt] mu fun mv mw =>
 C.ak 5 c mv mw fun mx =>
 C.ao 5 c mx fun r213 _ =>
 K r213 mx) (C.aj .eql i (.int .i64 8) ms fun my mz =>
 C.am my (C.a9 mz fun S na =>
 C.ad x0 na fun nb nc =>
 C.ab 12 nb nc fun nd ne =>
 C.ab 1 a ne fun nf ng =>
 C.ap S nd ng fun nh ni =>
 C.ap S nf ni fun nj nm =>
 (C.q Tryz.prog 102 #[nh, nj] nm fun nn no =>
 (S no ∧
 C.a0 0 nn no fun np nq =>
 C.a0 1 nn nq fun nr ns =>
 (C.a3 (.cells #[.int .i64 0, .int .i64 0] 60) ns fun nt nu =>
 (S nu ∧
 (C.ak 2 nt np nu fun nv =>
 (S nv ∧
 F57.k17 K x0 c nt nr nv)) ∧ True)) ∧ True)) ∧ ((C.a3 (.cells #[.int .i64 0, .int .i64 0] 60) nm fun nw nx =>
 (S nx ∧
 (C.q Tryz.prog 102 #[nh, nj] nx fun ny nz =>
 (S nz ∧
 C.a0 0 ny nz fun oa ob =>
 C.a0 1 ny ob fun oc od =>
 (C.ak 2 nw oa od fun oe =>
 (S oe ∧
 F57.k17 K x0 c nw oc oe)) ∧ True)) ∧ True)) ∧ True)) (C.aj .eql i (.int .i64 10) mz fun og oh =>
 C.am og (C.ao 7 a oh fun oi oj =>
 C.q Tryz.prog 103 #[x0, oi] oj fun ok ol =>
 C.ak 5 c ok ol fun om =>
 C.ao 5 c om fun r235 _ =>
 K r235 om) (C.aj .eql i (.int .i64 11) oh fun on oo =>
 C.am on (C.am on (C.ao 7 a oo fun op oq =>
 C.q Tryz.prog 104 #[x0, op] oq fun os ot =>
 C.ak 5 c os ot fun ou =>
 C.ao 5 c ou fun r240 _ =>
 K r240 ou) (C.aj .eql i (.int .i64 14) oo fun ov ow =>
 C.am ov (C.a9 ow fun S ox =>
 C.ad x0 ox fun oy oz =>
 C.ab 12 oy oz fun pa pb =>
 C.ab 1 a pb fun pc pd =>
 C.ap S pa pd fun pe pf =>
 C.ap S pc pf fun pg ph =>
 (C.q Tryz.prog 105 #[pe, pg] ph fun pi pj =>
 (S pj ∧
 F57.k27 K c pj)) ∧ True) (C.ao 7 a ow fun pk pl =>
 C.q Tryz.prog 106 #[x0, pk] pl fun pm pn =>
 C.ak 5 c pm pn fun po =>
 C.ao 5 c po fun r252 _ =>
 K r252 po))) (C.aj .eql i (.int .i64 12) oo fun pp pq =>
 C.am pp (C.ao 7 a pq fun pr ps =>
 C.q Tryz.prog 104 #[x0, pr] ps fun pt pu =>
 C.ak 5 c pt pu fun pv =>
 C.ao 5 c pv fun r257 _ =>
 K r257 pv) (C.aj .eql i (.int .i64 14) pq fun pw px =>
 C.am pw (C.a9 px fun S py =>
 C.ad x0 py fun pz qa =>
 C.ab 12 pz qa fun qb qc =>
 C.ab 1 a qc fun qd qe =>
 C.ap S qb qe fun qf qg =>
 C.ap S qd qg fun qh qi =>
 (C.q Tryz.prog 105 #[qf, qh] qi fun qj qk =>
 (S qk ∧
 F57.k27 K c qk)) ∧ True) (C.ao 7 a px fun ql qm =>
 C.q Tryz.prog 106 #[x0, ql] qm fun qn qo =>
 C.ak 5 c qn qo fun qp =>
 C.ao 5 c qp fun r269 _ =>
 K r269 qp))))))) (C.aj .eql i (.int .i64 9) ms fun qr qs =>
 C.am qr (C.ao 7 a qs fun qt qu =>
 C.q Tryz.prog 101 #[x0, qt] qu fun qv qw =>
 C.ak 5 c qv qw fun qx =>
 C.ao 5 c qx fun r274 _ =>
 K r274 qx) (C.aj .eql i (.int .i64 8) qs fun qy qz =>
 C.am qy (C.a9 qz fun S ra =>
 C.ad x0 ra fun rb rc =>
 C.ab 12 rb rc fun rd re =>
 C.ab 1 a re fun rf rg =>
 C.ap S rd rg fun rh ri =>
 C.ap S rf ri fun rj rk =>
 (C.q Tryz.prog 102 #[rh, rj] rk fun rl rm =>
 (S rm ∧
 C.a0 0 rl rm fun rn ro =>
 C.a0 1 rl ro fun rp rq =>
 (C.a3 (.cells #[.int .i64 0, .int .i64 0] 60) rq fun rr rs =>
 (S rs ∧
 (C.ak 2 rr rn rs fun rt =>
 (S rt ∧
 F57.k17 K x0 c rr rp rt)) ∧ True)) ∧ True)) ∧ ((C.a3 (.cells #[.int .i64 0, .int .i64 0] 60) rk fun ru rv =>
 (S rv ∧
 (C.q Tryz.prog 102 #[rh, rj] rv fun rw rx =>
 (S rx ∧
 C.a0 0 rw rx fun ry rz =>
 C.a0 1 rw rz fun sa sb =>
 (C.ak 2 ru ry sb fun sc =>
 (S sc ∧
 F57.k17 K x0 c ru sa sc)) ∧ True)) ∧ True)) ∧ True)) (C.aj .eql i (.int .i64 10) qz fun sd se =>
 C.am sd (C.ao 7 a se fun sf sg =>
 C.q Tryz.prog 103 #[x0, sf] sg fun sh si =>
 C.ak 5 c sh si fun sj =>
 C.ao 5 c sj fun r296 _ =>
 K r296 sj) (C.aj .eql i (.int .i64 11) se fun sk sl =>
 C.am sk (C.am sk (C.ao 7 a sl fun sm sn =>
 C.q Tryz.prog 104 #[x0, sm] sn fun so sp =>
 C.ak 5 c so sp fun sq =>
 C.ao 5 c sq fun r301 _ =>
 K r301 sq) (C.aj .eql i (.int .i64 14) sl fun sr ss =>
 C.am sr (C.a9 ss fun S st =>
 C.ad x0 st fun su sv =>
 C.ab 12 su sv fun sw sx =>
 C.ab 1 a sx fun sy sz =>
 C.ap S sw sz fun ta tb =>
 C.ap S sy tb fun tc td =>
 (C.q Tryz.prog 105 #[ta, tc] td fun te tf =>
 (S tf ∧
 F57.k27 K c tf)) ∧ True) (C.ao 7 a ss fun tg th =>
 C.q Tryz.prog 106 #[x0, tg] th fun ti tj =>
 C.ak 5 c ti tj fun tk =>
 C.ao 5 c tk fun r313 _ =>
 K r313 tk))) (C.aj .eql i (.int .i64 12) sl fun tl tm =>
 C.am tl (C.ao 7 a tm fun tn to =>
 C.q Tryz.prog 104 #[x0, tn] to fun tq tr =>
 C.ak 5 c tq tr fun ts =>
 C.ao 5 c ts fun r318 _ =>
 K r318 ts) (C.aj .eql i (.int .i64 14) tm fun tt tu =>
 C.am tt (C.a9 tu fun S tv =>
 C.ad x0 tv fun tw tx =>
 C.ab 12 tw tx fun ty tz =>
 C.ab 1 a tz fun ua ub =>
 C.ap S ty ub fun uc ud =>
 C.ap S ua ud fun ue uf =>
 (C.q Tryz.prog 105 #[uc, ue] uf fun ug uh =>
 (S uh ∧
 F57.k27 K c uh)) ∧ True) (C.ao 7 a tu fun ui uj =>
 C.q Tryz.prog 106 #[x0, ui] uj fun uk ul =>
 C.ak 5 c uk ul fun um =>
 C.ao 5 c um fun r330 _ =>
 K r330 um))))))))))))))) : C.q Tryz.prog 57 #[x0, x1] w K := q9 (A := F57.ann) (args := [x0, x1]) (qq h)

theorem F58.sh (h : (C.a3 (.cells (Value.cells x0) 94) w fun a b =>
 C.ab 0 a b fun c d =>
 C.ai c d fun f g =>
 C.q Tryz.prog 107 #[f, x1, x2] g fun i j =>
 K (.tuple #[]) j)) : C.q Tryz.prog 58 #[x0, x1, x2] w K := q9 (A := A0) (args := [x0, x1, x2]) (qq h)
namespace F81
def ann : Ann := ⟨[(3, [3, 4])], [], [], [(2, (.take 0 (.take 1 (.take 2 (.take 4 (.take 3 (.go 5 (.go 6 (.take 7 (.go 8 .fin .fin)) .fin) .fin)))))))], none⟩
def code := cd Tryz.f81
def top := tp Tryz.f81
variable (K : VK) (y3 y4 : Value) (w : World)
def k3 : Prop := nk ann 21 [(3, y3), (4, y4)] w [1, 1] code (top K)
attribute [irreducible] k3
end F81
theorem F81.k3.to (h : (C.ab 0 y3 w fun a b =>
 C.ai a b fun c d =>
 C.ab 1 y3 d fun f g =>
 C.ai f g fun i j =>
 C.ay Tryz.prog (Instr.build 38 #[(1, c), (2, i)]) j fun k m =>
 C.ak 5 y4 k m fun o =>
 C.ao 5 y4 o fun r7 _ =>
 K r7 o)) : F81.k3 K y3 y4 w := qq h
theorem F81.sh (h : (C.a3 (.cells (Value.cells x1) 60) w fun a b =>
 C.a3 (.cells #[.int .i64 0, .int .i64 0, .int .i64 0, .int .i64 0, .int .i64 0] 38) b fun c d =>
 C.ab 0 a d fun f g =>
 C.ai f g fun i j =>
 C.aj .eql i (.int .i64 2) j fun k m =>
 C.am k (C.a9 m fun S o =>
 C.ad x0 o fun p q =>
 C.ab 12 p q fun r s =>
 C.ab 1 a s fun t u =>
 C.ap S r u fun v x =>
 (C.ai t x fun y z =>
 (S z ∧
 (C.q Tryz.prog 49 #[v, y] z fun aa ab =>
 (S ab ∧
 C.ab 1 a ab fun ac ad =>
 (C.ak 1 ac aa ad fun ae =>
 (S ae ∧
 F81.k3 K a c ae)) ∧ True)) ∧ True)) ∧ True) (F81.k3 K a c m))) : C.q Tryz.prog 81 #[x0, x1] w K := q9 (A := F81.ann) (args := [x0, x1]) (qq h)
namespace F84
def ann : Ann := ⟨[(2, [1, 6, 7, 8]), (6, [1, 6, 7, 8])], [(1, [1, 6, 7, 8])], [], [], none⟩
def code := cd Tryz.f84
def top := tp Tryz.f84
variable (K : VK) (y1 y6 y7 y8 : Value) (w : World)
def l1 : Prop := nl ann 28 [(1, y1), (6, y6), (7, y7), (8, y8)] w [1, 0] code (top K)
def k2 : Prop := nk ann 28 [(1, y1), (6, y6), (7, y7), (8, y8)] w [1, 0, 0, 1, 1] code (top K)
def k6 : Prop := nk ann 28 [(1, y1), (6, y6), (7, y7), (8, y8)] w [1, 0, 0, 1, 1, 1] code (top K)
attribute [irreducible] l1 k2 k6
end F84
theorem F84.l1.to (h : (C.aj .lss y8 y7 w fun a b =>
 C.am a (F84.k2 K y1 y6 y7 y8 b) (K (.tuple #[]) b))) : F84.l1 K y1 y6 y7 y8 w := by unfold F84.l1 nl; exact qag (qq h)
theorem F84.k2.to (h : (C.bj 2 y6 y8 w fun a b =>
 C.ao 2 a b fun c d =>
 C.a3 (.cells #[.int .i64 0, .int .i64 0] 60) d fun f g =>
 C.ak 2 f c g fun i =>
 C.ab 1 f i fun j k =>
 C.ai j k fun m o =>
 C.ab 0 f o fun p q =>
 C.ai p q fun r s =>
 C.aj .eql r (.int .i64 2) s fun t u =>
 C.i true t (fun K => C.ai y1 u K) u fun v x =>
 C.i true t (fun K => K m x) x fun y z =>
 C.i true t (fun K => C.q Tryz.prog 85 #[v, y] z K) z fun aa ab =>
 C.i true t (fun K => C.bg aa ab K) ab fun ac ad =>
 C.a2 (some t) (some ac) (some (.bool false)) ad fun ae af =>
 C.am ae (C.ai y1 af fun ag ah =>
 C.ay Tryz.prog (Instr.buildSlice 54 1 #[(0, m)]) ah fun ai aj =>
 C.ay Tryz.prog (Builtin.append_ #[54, 54] 54 #[ag, ai]) aj fun ak al =>
 C.ak 1 y1 ak al fun am =>
 F84.k6 K y1 y6 y7 y8 am) (F84.k6 K y1 y6 y7 y8 af))) : F84.k2 K y1 y6 y7 y8 w := qq h
theorem F84.k6.to (h : (C.aj .add y8 (.int .i64 1) w fun a b =>
 F84.l1 K y1 y6 y7 a b)) : F84.k6 K y1 y6 y7 y8 w := qq h
theorem F84.sh (h : (C.bk x0 w fun a b =>
 F84.l1 K x1 x0 a (.int .i64 0) b)) : C.q Tryz.prog 84 #[x0, x1] w K := q9 (A := F84.ann) (args := [x0, x1]) (qq h)
namespace F87
def ann : Ann := ⟨[], [], [], [(1, (.take 4 (.take 10 (.take 0 (.take 1 (.take 2 (.take 3 (.take 6 (.take 7 (.take 8 (.take 9 (.go 5 (.go 11 (.take 12 (.take 13 .fin)) .fin) .fin))))))))))))], none⟩
end F87
theorem F87.sh (h : (C.a9 w fun S a =>
 C.ap S x2 a fun b c =>
 C.ad b c fun d f =>
 C.ab 12 d f fun g i =>
 C.ap S g i fun j k =>
 C.ap S x2 k fun m o =>
 C.ad m o fun p q =>
 C.ab 12 p q fun r s =>
 C.ap S r s fun t u =>
 (C.q Tryz.prog 49 #[j, x0] u fun v x =>
 (S x ∧
 (C.q Tryz.prog 49 #[t, x1] x fun y z =>
 (S z ∧
 C.aj .sub v y z fun aa ab =>
 K aa ab)) ∧ True)) ∧ True)) : C.q Tryz.prog 87 #[x0, x1, x2] w K := q9 (A := F87.ann) (args := [x0, x1, x2]) (qq h)

theorem F96.sh (h : (C.ay Tryz.prog (Instr.build 213 #[(0, (.int .i64 0)), (1, (.int .i64 1)), (2, (.int .i64 1)), (3, (.int .i64 49)), (4, (.int .i64 33)), (5, (.int .i64 1)), (6, (.int .i64 1)), (7, (.int .i64 3)), (8, (.int .i64 1)), (9, (.int .i64 7)), (10, (.int .i64 15)), (11, (.int .i64 11)), (12, (.int .i64 3)), (13, (.int .i64 33)), (14, (.int .i64 1)), (15, (.int .i64 49)), (16, (.int .i64 32)), (17, (.int .i64 0))]) w fun a b =>
 C.ay Tryz.prog (Instr.index 213 a x0) b fun c d =>
 K c d)) : C.q Tryz.prog 96 #[x0] w K := q9 (A := A0) (args := [x0]) (qq h)

theorem F97.sh (h : (C.a3 (.cells (Value.cells x0) 40) w fun a b =>
 C.a3 (.cells #[.int .i64 0, .int .i64 0, .int .i64 0, .int .i64 0, .int .i64 0] 158) b fun c d =>
 C.ab 1 a d fun f g =>
 C.ai f g fun i j =>
 C.ab 2 a j fun k m =>
 C.ai k m fun o p =>
 C.ab 3 a p fun q r =>
 C.ai q r fun s t =>
 C.ab 4 a t fun u v =>
 C.ai u v fun x y =>
 C.ab 5 a y fun z aa =>
 C.ai z aa fun ab ac =>
 C.ay Tryz.prog (Instr.build 158 #[(0, i), (1, o), (2, s), (3, x), (4, ab)]) ac fun ad ae =>
 C.ak 5 c ad ae fun af =>
 C.ao 5 c af fun r15 _ =>
 K r15 af)) : C.q Tryz.prog 97 #[x0] w K := q9 (A := A0) (args := [x0]) (qq h)
namespace F100
def ann : Ann := ⟨[(6, [0, 3, 4]), (10, [0, 3, 4, 5, 7]), (12, [0, 3, 4, 5, 7])], [], [], [(2, (.take 0 (.take 2 (.take 3 (.take 4 (.take 5 (.take 1 (.take 6 (.go 7 (.take 8 .fin) .fin))))))))), (4, (.take 0 (.take 1 (.take 2 (.take 4 (.take 3 (.take 5 (.go 6 (.take 7 (.take 8 (.take 9 .fin))) .fin)))))))), (6, (.take 0 (.take 1 (.take 2 (.take 4 (.take 6 (.take 3 (.take 5 (.take 7 (.go 8 (.take 9 (.take 10 (.take 11 (.take 12 (.take 13 .fin))))) .fin)))))))))), (13, (.take 0 (.take 1 (.take 2 (.take 4 (.take 3 (.take 5 (.take 6 (.go 7 .fin .fin))))))))), (15, (.take 0 (.take 2 (.take 1 (.take 4 (.take 3 (.go 5 (.take 6 (.go 7 .fin .fin)) .fin)))))))], none⟩
def code := cd Tryz.f100
def top := tp Tryz.f100
variable (K : VK) (y0 y3 y4 y5 y7 : Value) (w : World)
def k6 : Prop := nk ann 78 [(0, y0), (3, y3), (4, y4)] w [1, 1] code (top K)
def k10 : Prop := nk ann 78 [(0, y0), (3, y3), (4, y4), (5, y5), (7, y7)] w [1, 1, 1, 1, 1] code (top K)
def k12 : Prop := nk ann 78 [(0, y0), (3, y3), (4, y4), (5, y5), (7, y7)] w [1, 1, 1, 1, 1, 1] code (top K)
attribute [irreducible] k6 k10 k12
end F100
theorem F100.k6.to (h : (C.a9 w fun S a =>
 C.ad y0 a fun b c =>
 C.ab 12 b c fun d f =>
 C.ab 1 y3 f fun g i =>
 C.ab 6 y3 i fun j k =>
 C.ap S d k fun m o =>
 C.ap S g o fun p q =>
 C.ap S j q fun r s =>
 (C.q Tryz.prog 151 #[m, p, r] s fun t u =>
 (S u ∧
 C.a0 0 t u fun v x =>
 C.a0 1 t x fun y z =>
 C.a3 (.cells #[.int .i64 0, .int .i64 0, .int .i64 0, .int .i64 0, .int .i64 0] 38) z fun aa ab =>
 C.bg y ab fun ac ad =>
 C.am ac (C.ao 7 y3 ad fun ae af =>
 C.q Tryz.prog 152 #[y0, ae] af fun ag ah =>
 C.a0 0 ag ah fun ai aj =>
 C.a0 1 ag aj fun ak al =>
 C.ak 5 aa ak al fun am =>
 F100.k10 K y0 y3 y4 ai aa am) (F100.k10 K y0 y3 y4 v aa ad))) ∧ True)) : F100.k6 K y0 y3 y4 w := qq h
theorem F100.k10.to (h : (C.ab 0 y7 w fun a b =>
 C.ai a b fun c d =>
 C.aj .neq c (.int .i64 0) d fun f g =>
 C.am f (C.ao 5 y7 g fun i j =>
 C.ak 5 y4 i j fun k =>
 C.ao 5 y4 k fun r6 _ =>
 K r6 k) (F100.k12 K y0 y3 y4 y5 y7 g))) : F100.k10 K y0 y3 y4 y5 y7 w := qq h
theorem F100.k12.to (h : (C.q Tryz.prog 153 #[y5] w fun a b =>
 C.a3 (.cells #[.int .i64 0, .int .i64 0] 60) b fun c d =>
 C.ak 2 c a d fun f =>
 C.a9 f fun S g =>
 C.ad y0 g fun i j =>
 C.ab 12 i j fun k m =>
 C.ab 1 y3 m fun o p =>
 C.ap S k p fun q r =>
 C.ap S o r fun s t =>
 C.bm S 2 c t fun u v =>
 (C.q Tryz.prog 154 #[q, s, u] v fun x y =>
 (S y ∧
 C.ao 2 c y fun z aa =>
 C.q Tryz.prog 81 #[y0, z] aa fun ab ac =>
 C.a3 (.cells #[.int .i64 0, .int .i64 0, .int .i64 0, .int .i64 0, .int .i64 0] 38) ac fun ad ae =>
 C.ak 5 ad ab ae fun af =>
 C.a9 af fun S ag =>
 C.ab 1 ad ag fun ah ai =>
 C.ab 2 ad ai fun aj ak =>
 C.ap S ah ak fun al am =>
 C.ab 1 y7 am fun an ao =>
 C.ap S aj ao fun ap aq =>
 (C.ak 1 an al aq fun ar =>
 (S ar ∧
 C.ab 2 y7 ar fun au av =>
 (C.ak 1 au ap av fun aw =>
 (S aw ∧
 C.ao 5 y7 aw fun ax ay =>
 C.ak 5 y4 ax ay fun az =>
 C.ao 5 y4 az fun r27 _ =>
 K r27 az)) ∧ True)) ∧ True)) ∧ True)) : F100.k12 K y0 y3 y4 y5 y7 w := qq h
theorem F100.sh (h : (C.a3 (.cells (Value.cells x1) 40) w fun a b =>
 C.a3 (.cells #[.int .i64 0, .int .i64 0, .int .i64 0, .int .i64 0, .int .i64 0] 38) b fun c d =>
 C.ab 6 a d fun f g =>
 C.ai f g fun i j =>
 C.q Tryz.prog 150 #[i, (.int .i64 0), (.int .i64 127)] j fun k m =>
 C.am k (C.am k (C.q Tryz.prog 54 #[(.int .i64 4)] m fun o p =>
 C.ak 5 c o p fun q =>
 C.ao 5 c q fun r8 _ =>
 K r8 q) (C.a9 m fun S r =>
 C.ad x0 r fun s t =>
 C.ab 12 s t fun u v =>
 C.ab 1 a v fun x y =>
 C.ap S u y fun z aa =>
 C.ap S x aa fun ab ac =>
 (C.q Tryz.prog 47 #[z, ab] ac fun ad ae =>
 (S ae ∧
 C.bk ad ae fun af ag =>
 C.aj .eql af (.int .i64 16) ag fun ah ai =>
 C.am ah (C.q Tryz.prog 54 #[(.int .i64 3)] ai fun aj ak =>
 C.ak 5 c aj ak fun al =>
 C.ao 5 c al fun r20 _ =>
 K r20 al) (F100.k6 K x0 a c ai))) ∧ True)) (C.a9 m fun S am =>
 C.ab 5 a am fun an ao =>
 C.ad x0 ao fun ap aq =>
 C.ab 2 ap aq fun ar au =>
 C.ab 3 ar au fun av aw =>
 C.ap S an aw fun ax ay =>
 C.ap S av ay fun az ba =>
 (C.q Tryz.prog 150 #[ax, (.int .i64 1), az] ba fun bb bc =>
 (S bc ∧
 C.am bb (C.q Tryz.prog 54 #[(.int .i64 4)] bc fun bd be =>
 C.ak 5 c bd be fun bf =>
 C.ao 5 c bf fun r31 _ =>
 K r31 bf) (C.a9 bc fun S bg =>
 C.ad x0 bg fun bh bi =>
 C.ab 12 bh bi fun bj bk =>
 C.ab 1 a bk fun bl bm =>
 C.ap S bj bm fun bn bo =>
 C.ap S bl bo fun bp bq =>
 (C.q Tryz.prog 47 #[bn, bp] bq fun br bs =>
 (S bs ∧
 C.bk br bs fun bt bu =>
 C.aj .eql bt (.int .i64 16) bu fun bv bw =>
 C.am bv (C.q Tryz.prog 54 #[(.int .i64 3)] bw fun bx bz =>
 C.ak 5 c bx bz fun ca =>
 C.ao 5 c ca fun r43 _ =>
 K r43 ca) (F100.k6 K x0 a c bw))) ∧ True))) ∧ True))) : C.q Tryz.prog 100 #[x0, x1] w K := q9 (A := F100.ann) (args := [x0, x1]) (qq h)
namespace F101
def ann : Ann := ⟨[(4, [0, 3, 4, 5]), (6, [0, 4, 5])], [], [], [(4, (.take 0 (.take 1 (.take 2 (.take 4 (.take 3 (.take 5 (.take 6 (.go 7 (.take 8 .fin) .fin)))))))))], none⟩
def code := cd Tryz.f101
def top := tp Tryz.f101
variable (K : VK) (y0 y3 y4 y5 : Value) (w : World)
def k4 : Prop := nk ann 30 [(0, y0), (3, y3), (4, y4), (5, y5)] w [1, 1, 1] code (top K)
def k6 : Prop := nk ann 30 [(0, y0), (4, y4), (5, y5)] w [1, 1, 1, 1] code (top K)
attribute [irreducible] k4 k6
end F101
theorem F101.k4.to (h : (C.a9 w fun S a =>
 C.ad y0 a fun b c =>
 C.ab 12 b c fun d f =>
 C.ab 1 y3 f fun g i =>
 C.ap S d i fun j k =>
 C.ap S g k fun m o =>
 C.bm S 2 y5 o fun p q =>
 (C.q Tryz.prog 154 #[j, m, p] q fun r s =>
 (S s ∧
 C.bg r s fun t u =>
 C.am t (C.q Tryz.prog 54 #[(.int .i64 3)] u fun v x =>
 C.ak 5 y4 v x fun y =>
 C.ao 5 y4 y fun r12 _ =>
 K r12 y) (F101.k6 K y0 y4 y5 u))) ∧ True)) : F101.k4 K y0 y3 y4 y5 w := qq h
theorem F101.k6.to (h : (C.ao 2 y5 w fun a b =>
 C.q Tryz.prog 81 #[y0, a] b fun c d =>
 C.ak 5 y4 c d fun f =>
 C.ao 5 y4 f fun r4 _ =>
 K r4 f)) : F101.k6 K y0 y4 y5 w := qq h
theorem F101.sh (h : (C.a3 (.cells (Value.cells x1) 40) w fun a b =>
 C.a3 (.cells #[.int .i64 0, .int .i64 0, .int .i64 0, .int .i64 0, .int .i64 0] 38) b fun c d =>
 C.ao 7 a d fun f g =>
 C.q Tryz.prog 155 #[x0, f] g fun i j =>
 C.a0 0 i j fun k m =>
 C.a0 1 i m fun o p =>
 C.a3 (.cells #[.int .i64 0, .int .i64 0] 60) p fun q r =>
 C.ak 2 q k r fun s =>
 C.aj .neq o (.int .i64 0) s fun t u =>
 C.am t (C.q Tryz.prog 54 #[o] u fun v x =>
 C.ak 5 c v x fun y =>
 C.ao 5 c y fun r12 _ =>
 K r12 y) (F101.k4 K x0 a c q u))) : C.q Tryz.prog 101 #[x0, x1] w K := q9 (A := F101.ann) (args := [x0, x1]) (qq h)
namespace F103
def ann : Ann := ⟨[(4, [0, 3, 4, 5]), (7, [4])], [], [], [(5, (.take 0 (.take 1 (.take 2 (.take 3 (.take 4 (.take 5 (.take 7 (.take 9 (.take 10 (.take 6 (.take 8 (.take 11 (.take 12 (.go 13 (.take 14 (.take 15 .fin)) .fin)))))))))))))))], none⟩
def code := cd Tryz.f103
def top := tp Tryz.f103
variable (K : VK) (y0 y3 y4 y5 : Value) (w : World)
def k4 : Prop := nk ann 46 [(0, y0), (3, y3), (4, y4), (5, y5)] w [1, 1, 1] code (top K)
def k7 : Prop := nk ann 46 [(4, y4)] w [1, 1, 1, 1, 1] code (top K)
attribute [irreducible] k4 k7
end F103
theorem F103.k4.to (h : (C.ab 1 y3 w fun a b =>
 C.ai a b fun c d =>
 C.ab 4 y3 d fun f g =>
 C.ai f g fun i j =>
 C.q Tryz.prog 158 #[y0, c, i] j fun k m =>
 C.a0 0 k m fun o p =>
 C.a0 1 k p fun q r =>
 C.a3 (.cells #[.int .i64 0, .int .i64 0] 60) r fun s t =>
 C.ak 2 s o t fun u =>
 C.a9 u fun S v =>
 C.bg q v fun x y =>
 C.i false x (fun K => K y0 y) y fun z aa =>
 C.i false x (fun K => C.ad z aa K) aa fun ab ac =>
 C.i false x (fun K => C.ab 12 ab ac K) ac fun ad ae =>
 C.i false x (fun K => C.ab 1 y3 ae K) ae fun af ag =>
 C.i false x (fun K => K y5 ag) ag fun ah ai =>
 C.i false x (fun K => C.ab 3 y3 ai K) ai fun aj ak =>
 C.i false x (fun K => C.ap S ad ak K) ak fun al am =>
 C.i false x (fun K => C.ap S af am K) am fun an ao =>
 C.i false x (fun K => C.ap S aj ao K) ao fun ap aq =>
 C.i false x (fun K => C.bm S 2 s aq K) aq fun ar au =>
 (C.i false x (fun K => C.q Tryz.prog 159 #[al, an, ah, ap, ar] au K) au fun av aw =>
 (S aw ∧
 C.i false x (fun K => C.bg av aw K) aw fun ax ay =>
 C.a2 (some x) (some (.bool true)) (some ax) ay fun az ba =>
 C.am az (C.q Tryz.prog 54 #[(.int .i64 4)] ba fun bb bc =>
 C.ak 5 y4 bb bc fun bd =>
 C.ao 5 y4 bd fun r27 _ =>
 K r27 bd) (F103.k7 K y4 ba))) ∧ True)) : F103.k4 K y0 y3 y4 y5 w := qq h
theorem F103.k7.to (h : (C.ay Tryz.prog (Instr.build 38 #[]) w fun a b =>
 C.ak 5 y4 a b fun c =>
 C.ao 5 y4 c fun r3 _ =>
 K r3 c)) : F103.k7 K y4 w := qq h
theorem F103.sh (h : (C.a3 (.cells (Value.cells x1) 40) w fun a b =>
 C.a3 (.cells #[.int .i64 0, .int .i64 0, .int .i64 0, .int .i64 0, .int .i64 0] 38) b fun c d =>
 C.ao 7 a d fun f g =>
 C.q Tryz.prog 157 #[x0, f] g fun i j =>
 C.a0 0 i j fun k m =>
 C.a0 1 i m fun o p =>
 C.aj .neq o (.int .i64 0) p fun q r =>
 C.am q (C.q Tryz.prog 54 #[o] r fun s t =>
 C.ak 5 c s t fun u =>
 C.ao 5 c u fun r10 _ =>
 K r10 u) (F103.k4 K x0 a c k r))) : C.q Tryz.prog 103 #[x0, x1] w K := q9 (A := F103.ann) (args := [x0, x1]) (qq h)
namespace F104
def ann : Ann := ⟨[(13, [4, 9])], [], [], [(10, (.take 0 (.take 1 (.take 2 (.take 4 (.take 3 (.take 5 (.go 6 (.take 7 .fin) .fin))))))))], none⟩
def code := cd Tryz.f104
def top := tp Tryz.f104
variable (K : VK) (y4 y9 : Value) (w : World)
def k13 : Prop := nk ann 66 [(4, y4), (9, y9)] w [1, 1, 1, 1, 1] code (top K)
attribute [irreducible] k13
end F104
theorem F104.k13.to (h : (C.ay Tryz.prog (Instr.build 38 #[(1, (.int .i64 1)), (2, y9)]) w fun a b =>
 C.ak 5 y4 a b fun c =>
 C.ao 5 y4 c fun r3 _ =>
 K r3 c)) : F104.k13 K y4 y9 w := qq h
theorem F104.sh (h : (C.a3 (.cells (Value.cells x1) 40) w fun a b =>
 C.a3 (.cells #[.int .i64 0, .int .i64 0, .int .i64 0, .int .i64 0, .int .i64 0] 38) b fun c d =>
 C.ab 1 a d fun f g =>
 C.ai f g fun i j =>
 C.ab 2 a j fun k m =>
 C.ai k m fun o p =>
 C.q Tryz.prog 158 #[x0, i, o] p fun q r =>
 C.a0 0 q r fun s t =>
 C.a0 1 q t fun u v =>
 C.a3 (.cells #[.int .i64 0, .int .i64 0] 60) v fun x y =>
 C.ak 2 x s y fun z =>
 C.ab 1 a z fun aa ab =>
 C.ai aa ab fun ac ad =>
 C.ab 4 a ad fun ae af =>
 C.ai ae af fun ag ah =>
 C.q Tryz.prog 158 #[x0, ac, ag] ah fun ai aj =>
 C.a0 0 ai aj fun ak al =>
 C.a0 1 ai al fun am an =>
 C.a3 (.cells #[.int .i64 0, .int .i64 0] 60) an fun ao ap =>
 C.ak 2 ao ak ap fun aq =>
 C.bg u aq fun ar au =>
 C.am ar (C.am ar (C.q Tryz.prog 54 #[(.int .i64 4)] au fun av aw =>
 C.ak 5 c av aw fun ax =>
 C.ao 5 c ax fun r24 _ =>
 K r24 ax) (C.ab 0 a au fun ay az =>
 C.ai ay az fun ba bb =>
 C.aj .eql ba (.int .i64 12) bb fun bc bd =>
 C.i true bc (fun K => C.ab 0 x bd K) bd fun be bf =>
 C.i true bc (fun K => C.ai be bf K) bf fun bg bh =>
 C.i true bc (fun K => C.aj .neq bg (.int .i64 2) bh K) bh fun bi bj =>
 C.a2 (some bc) (some bi) (some (.bool false)) bj fun bk bl =>
 C.am bk (C.q Tryz.prog 54 #[(.int .i64 12)] bl fun bm bn =>
 C.ak 5 c bm bn fun bo =>
 C.ao 5 c bo fun r34 _ =>
 K r34 bo) (C.ab 0 a bl fun bp bq =>
 C.ai bp bq fun br bs =>
 C.aj .eql br (.int .i64 12) bs fun bt bu =>
 C.am bt (C.a9 bu fun S bv =>
 C.ad x0 bv fun bw bx =>
 C.ab 12 bw bx fun bz ca =>
 C.ab 1 x ca fun cb cc =>
 C.ap S bz cc fun ce cf =>
 C.ap S cb cf fun cg ch =>
 (C.q Tryz.prog 90 #[ce, cg] ch fun ci cj =>
 (S cj ∧
 F104.k13 K c ci cj)) ∧ True) (C.ao 2 x bu fun ck cl =>
 C.ao 2 ao cl fun cm cn =>
 C.bi Tryz.prog .eql 60 (.tmp 61) (.tmp 62) ck cm cn fun co cp =>
 C.am co (F104.k13 K c (.int .i64 1) cp) (F104.k13 K c (.int .i64 0) cp))))) (C.ab 0 a au fun cq cr =>
 C.ai cq cr fun cs ct =>
 C.aj .eql cs (.int .i64 11) ct fun cu cv =>
 C.i true cu (fun K => K am cv) cv fun cw cx =>
 C.i true cu (fun K => C.bg cw cx K) cx fun cy cz =>
 C.a2 (some cu) (some cy) (some (.bool false)) cz fun da db =>
 C.am da (C.q Tryz.prog 54 #[(.int .i64 4)] db fun dc dd =>
 C.ak 5 c dc dd fun de =>
 C.ao 5 c de fun r56 _ =>
 K r56 de) (C.ab 0 a db fun df dg =>
 C.ai df dg fun dh di =>
 C.aj .eql dh (.int .i64 12) di fun dj dk =>
 C.i true dj (fun K => C.ab 0 x dk K) dk fun dl dm =>
 C.i true dj (fun K => C.ai dl dm K) dm fun dn dp =>
 C.i true dj (fun K => C.aj .neq dn (.int .i64 2) dp K) dp fun dq dr =>
 C.a2 (some dj) (some dq) (some (.bool false)) dr fun ds dt =>
 C.am ds (C.q Tryz.prog 54 #[(.int .i64 12)] dt fun du dv =>
 C.ak 5 c du dv fun dw =>
 C.ao 5 c dw fun r66 _ =>
 K r66 dw) (C.ab 0 a dt fun dx dy =>
 C.ai dx dy fun dz ea =>
 C.aj .eql dz (.int .i64 12) ea fun eb ec =>
 C.am eb (C.a9 ec fun S ed =>
 C.ad x0 ed fun ee ef =>
 C.ab 12 ee ef fun eg eh =>
 C.ab 1 x eh fun ei ej =>
 C.ap S eg ej fun ek el =>
 C.ap S ei el fun em en =>
 (C.q Tryz.prog 90 #[ek, em] en fun eo ep =>
 (S ep ∧
 F104.k13 K c eo ep)) ∧ True) (C.ao 2 x ec fun eq er =>
 C.ao 2 ao er fun es et =>
 C.bi Tryz.prog .eql 60 (.tmp 61) (.tmp 62) eq es et fun eu ev =>
 C.am eu (F104.k13 K c (.int .i64 1) ev) (F104.k13 K c (.int .i64 0) ev))))))) : C.q Tryz.prog 104 #[x0, x1] w K := q9 (A := F104.ann) (args := [x0, x1]) (qq h)
namespace F106
def ann : Ann := ⟨[(17, [4])], [], [], [(2, (.take 0 (.take 1 (.take 2 (.take 4 (.take 6 (.take 8 (.take 3 (.take 5 (.take 7 (.take 9 (.take 10 (.go 11 .fin .fin))))))))))))), (10, (.take 0 (.take 1 (.take 2 (.take 4 (.take 6 (.take 3 (.take 5 (.take 7 (.go 8 .fin .fin)))))))))), (13, (.take 0 (.take 2 (.take 3 (.take 4 (.take 5 (.take 1 (.take 6 (.go 7 (.take 8 .fin) .fin))))))))), (15, (.take 0 (.take 1 (.take 2 (.take 3 (.take 5 (.take 7 (.take 9 (.take 4 (.take 6 (.take 8 (.take 10 (.take 11 (.go 12 (.take 13 (.take 14 .fin)) .fin))))))))))))))], none⟩
def code := cd Tryz.f106
def top := tp Tryz.f106
variable (K : VK) (y4 : Value) (w : World)
def k17 : Prop := nk ann 87 [(4, y4)] w [1, 1] code (top K)
attribute [irreducible] k17
end F106
theorem F106.k17.to (h : (C.ay Tryz.prog (Instr.build 38 #[]) w fun a b =>
 C.ak 5 y4 a b fun c =>
 C.ao 5 y4 c fun r3 _ =>
 K r3 c)) : F106.k17 K y4 w := qq h
theorem F106.sh (h : (C.a3 (.cells (Value.cells x1) 40) w fun a b =>
 C.a3 (.cells #[.int .i64 0, .int .i64 0, .int .i64 0, .int .i64 0, .int .i64 0] 38) b fun c d =>
 C.ab 0 a d fun f g =>
 C.ai f g fun i j =>
 C.aj .eql i (.int .i64 17) j fun k m =>
 C.am k (C.ad x0 m fun o p =>
 C.ab 12 o p fun q r =>
 C.ai q r fun s t =>
 C.q Tryz.prog 162 #[s] t fun u v =>
 C.bg u v fun x y =>
 C.am x (C.q Tryz.prog 54 #[(.int .i64 9)] y fun z aa =>
 C.ak 5 c z aa fun ab =>
 C.ao 5 c ab fun r13 _ =>
 K r13 ab) (F106.k17 K c y)) (C.ab 6 a m fun ac ad =>
 C.ai ac ad fun ae af =>
 C.q Tryz.prog 150 #[ae, (.int .i64 1), (.int .i64 64)] af fun ag ah =>
 C.am ag (C.q Tryz.prog 54 #[(.int .i64 4)] ah fun ai aj =>
 C.ak 5 c ai aj fun ak =>
 C.ao 5 c ak fun r19 _ =>
 K r19 ak) (C.ab 0 a ah fun al am =>
 C.ai al am fun an ao =>
 C.aj .eql an (.int .i64 13) ao fun ap aq =>
 C.am ap (C.a9 aq fun S ar =>
 C.ad x0 ar fun au av =>
 C.ab 0 au av fun aw ax =>
 C.ab 1 a ax fun ay az =>
 C.ab 6 a az fun ba bb =>
 C.bm S 2 aw bb fun bc bd =>
 C.ap S ay bd fun be bf =>
 C.ap S ba bf fun bg bh =>
 (C.q Tryz.prog 58 #[bc, be, bg] bh fun bi bj =>
 (S bj ∧
 F106.k17 K c bj)) ∧ True) (C.ab 0 a aq fun bk bl =>
 C.ai bk bl fun bm bn =>
 C.aj .eql bm (.int .i64 16) bn fun bo bp =>
 C.am bo (C.ab 6 a bp fun bq br =>
 C.ai bq br fun bs bt =>
 C.q Tryz.prog 163 #[x0, bs] bt fun bu bv =>
 C.ak 5 c bu bv fun bw =>
 C.ao 5 c bw fun r39 _ =>
 K r39 bw) (C.a9 bp fun S bx =>
 C.ab 5 a bx fun bz ca =>
 C.ad x0 ca fun cb cc =>
 C.ab 2 cb cc fun ce cf =>
 C.ab 3 ce cf fun cg ch =>
 C.ap S bz ch fun ci cj =>
 C.ap S cg cj fun ck cl =>
 (C.q Tryz.prog 150 #[ci, (.int .i64 1), ck] cl fun cm cn =>
 (S cn ∧
 C.am cm (C.q Tryz.prog 54 #[(.int .i64 4)] cn fun co cp =>
 C.ak 5 c co cp fun cq =>
 C.ao 5 c cq fun r50 _ =>
 K r50 cq) (C.a9 cn fun S cr =>
 C.ad x0 cr fun cs ct =>
 C.ab 0 cs ct fun cu cv =>
 C.ab 0 cu cv fun cw cx =>
 C.ab 1 a cx fun cy cz =>
 C.ab 6 a cz fun da db =>
 C.ab 5 a db fun dc dd =>
 C.ap S cw dd fun de df =>
 C.ap S cy df fun dg dh =>
 C.ap S da dh fun di dj =>
 C.ap S dc dj fun dk dl =>
 C.aj .mul di dk dl fun dm dn =>
 (C.q Tryz.prog 164 #[de, dg, dm] dn fun dp dq =>
 (S dq ∧
 C.bg dp dq fun dr ds =>
 C.am dr (C.q Tryz.prog 54 #[(.int .i64 21)] ds fun dt du =>
 C.ak 5 c dt du fun dv =>
 C.ao 5 c dv fun r67 _ =>
 K r67 dv) (C.ab 6 a ds fun dw dx =>
 C.ai dw dx fun dy dz =>
 C.q Tryz.prog 163 #[x0, dy] dz fun ea eb =>
 C.a3 (.cells #[.int .i64 0, .int .i64 0, .int .i64 0, .int .i64 0, .int .i64 0] 38) eb fun ec ed =>
 C.ak 5 ec ea ed fun ee =>
 C.a9 ee fun S ef =>
 C.ad x0 ef fun eg eh =>
 C.ab 0 eg eh fun ei ej =>
 C.ab 1 a ej fun ek el =>
 C.ab 3 ec el fun em en =>
 C.ab 5 a en fun eo ep =>
 C.bm S 2 ei ep fun eq er =>
 C.ap S ek er fun es et =>
 C.ap S em et fun eu ev =>
 C.ap S eo ev fun ew ex =>
 C.aj .mul eu ew ex fun ey ez =>
 (C.q Tryz.prog 165 #[eq, es, ey] ez fun fa fb =>
 (S fb ∧
 C.ao 5 ec fb fun fc fd =>
 C.ak 5 c fc fd fun fe =>
 C.ao 5 c fe fun r87 _ =>
 K r87 fe)) ∧ True))) ∧ True))) ∧ True)))))) : C.q Tryz.prog 106 #[x0, x1] w K := q9 (A := F106.ann) (args := [x0, x1]) (qq h)

theorem F150.sh (h : (C.aj .lss x0 x1 w fun a b =>
 C.i false a (fun K => K x0 b) b fun c d =>
 C.i false a (fun K => K x2 d) d fun f g =>
 C.i false a (fun K => C.aj .gtr c f g K) g fun i j =>
 C.a2 (some a) (some (.bool true)) (some i) j fun k m =>
 K k m)) : C.q Tryz.prog 150 #[x0, x1, x2] w K := q9 (A := A0) (args := [x0, x1, x2]) (qq h)
namespace F152
def ann : Ann := ⟨[(3, [0, 3, 5]), (6, [0, 3, 5, 6])], [], [], [(1, (.take 0 (.take 1 (.take 2 (.take 3 (.go 4 (.take 5 (.take 6 (.take 7 (.take 8 (.take 9 (.take 12 (.take 13 (.take 14 (.take 15 (.take 10 (.take 16 (.go 11 (.take 17 (.take 18 .fin)) .fin)))))))))))) .fin)))))), (5, (.take 1 (.take 0 (.go 2 .fin .fin)))), (6, (.take 0 (.take 1 (.take 2 (.take 4 (.take 6 (.take 3 (.take 5 (.take 7 (.go 8 (.take 9 (.take 10 (.take 11 (.take 12 (.take 13 .fin))))) .fin)))))))))), (8, (.take 0 (.take 2 (.take 1 (.go 3 .fin .fin)))))], none⟩
def code := cd Tryz.f152
def top := tp Tryz.f152
variable (K : VK) (y0 y3 y5 y6 : Value) (w : World)
def k3 : Prop := nk ann 56 [(0, y0), (3, y3), (5, y5)] w [1, 1] code (top K)
def k6 : Prop := nk ann 56 [(0, y0), (3, y3), (5, y5), (6, y6)] w [1, 1, 1, 1] code (top K)
attribute [irreducible] k3 k6
end F152
theorem F152.k3.to (h : (C.ao 7 y3 w fun a b =>
 C.q Tryz.prog 222 #[y0, a] b fun c d =>
 C.a3 (.cells #[.int .i64 0, .int .i64 0, .int .i64 0, .int .i64 0, .int .i64 0] 38) d fun f g =>
 C.ak 5 f c g fun i =>
 C.ab 0 f i fun j k =>
 C.ai j k fun m o =>
 C.aj .neq m (.int .i64 0) o fun p q =>
 C.am p (C.a9 q fun S r =>
 C.bm S 5 f r fun s t =>
 (C.ak 5 y5 s t fun u =>
 (S u ∧
 C.ao 5 y5 u fun r11 _ =>
 K (.tuple #[(.int .i64 0), r11]) u)) ∧ True) (F152.k6 K y0 y3 y5 f q))) : F152.k3 K y0 y3 y5 w := qq h
theorem F152.k6.to (h : (C.a9 w fun S a =>
 C.ad y0 a fun b c =>
 C.ab 12 b c fun d f =>
 C.ab 1 y3 f fun g i =>
 C.ab 6 y3 i fun j k =>
 C.ap S d k fun m o =>
 C.ap S g o fun p q =>
 C.ap S j q fun r s =>
 (C.q Tryz.prog 223 #[m, p, r] s fun t u =>
 (S u ∧
 C.a0 0 t u fun v x =>
 C.a0 1 t x fun y z =>
 C.ab 0 y6 z fun aa ab =>
 C.ak 1 aa y ab fun ac =>
 C.a9 ac fun S ad =>
 C.bm S 5 y6 ad fun ae af =>
 (C.ak 5 y5 ae af fun ag =>
 (S ag ∧
 C.ao 5 y5 ag fun r17 _ =>
 K (.tuple #[v, r17]) ag)) ∧ True)) ∧ True)) : F152.k6 K y0 y3 y5 y6 w := qq h
theorem F152.sh (h : (C.a3 (.cells (Value.cells x1) 40) w fun a b =>
 C.a3 (.cells #[.int .i64 0, .int .i64 0, .int .i64 0, .int .i64 0, .int .i64 0] 38) b fun c d =>
 C.a9 d fun S f =>
 C.ad x0 f fun g i =>
 C.ab 12 g i fun j k =>
 C.ap S j k fun m o =>
 (C.q Tryz.prog 59 #[m] o fun p q =>
 (S q ∧
 C.aj .eql p (.int .i64 0) q fun r s =>
 C.i true r (fun K => K x0 s) s fun t u =>
 C.i true r (fun K => C.ad t u K) u fun v x =>
 C.i true r (fun K => C.ab 12 v x K) x fun y z =>
 C.i true r (fun K => K x0 z) z fun aa ab =>
 C.i true r (fun K => C.ad aa ab K) ab fun ac ad =>
 C.i true r (fun K => C.ab 2 ac ad K) ad fun ae af =>
 C.i true r (fun K => C.ab 9 ae af K) af fun ag ah =>
 C.i true r (fun K => C.ap S y ah K) ah fun ai aj =>
 C.i true r (fun K => C.ap S ag aj K) aj fun ak al =>
 (C.i true r (fun K => C.q Tryz.prog 221 #[ai] al K) al fun am an =>
 (S an ∧
 C.i true r (fun K => C.aj .lss am ak an K) an fun ao ap =>
 C.a2 (some r) (some ao) (some (.bool false)) ap fun aq ar =>
 C.am aq (C.ad x0 ar fun au av =>
 C.ab 12 au av fun aw ax =>
 C.ai aw ax fun ay az =>
 C.q Tryz.prog 162 #[ay] az fun ba bb =>
 F152.k3 K x0 a c bb) (F152.k3 K x0 a c ar))) ∧ True)) ∧ True)) : C.q Tryz.prog 152 #[x0, x1] w K := q9 (A := F152.ann) (args := [x0, x1]) (qq h)
namespace F155
def ann : Ann := ⟨[(14, [0, 3, 4, 6, 8]), (15, [4, 6, 7]), (17, [4, 6])], [], [], [(14, (.take 0 (.take 1 (.take 2 (.take 4 (.take 5 (.take 3 (.take 6 (.go 7 (.take 8 (.take 9 (.take 10 (.go 11 (.take 12 .fin) .fin)))) .fin)))))))))], none⟩
def code := cd Tryz.f155
def top := tp Tryz.f155
variable (K : VK) (y0 y3 y4 y6 y7 y8 : Value) (w : World)
def k15 : Prop := nk ann 67 [(4, y4), (6, y6), (7, y7)] w [1, 1, 1] code (top K)
def k14 : Prop := nk ann 67 [(0, y0), (3, y3), (4, y4), (6, y6), (8, y8)] w [1, 1, 0, 1, 0, 1, 1, 1, 1, 1, 1, 1, 0, 1, 1] code (top K)
def k17 : Prop := nk ann 67 [(4, y4), (6, y6)] w [1, 1, 1, 1] code (top K)
attribute [irreducible] k15 k14 k17
end F155
theorem F155.k15.to (h : (C.bg y7 w fun a b =>
 C.am a (C.ay Tryz.prog (Instr.build 60 #[]) b fun c d =>
 C.ak 2 y4 c d fun f =>
 C.ao 2 y4 f fun r4 _ =>
 K (.tuple #[r4, (.int .i64 4)]) f) (F155.k17 K y4 y6 b))) : F155.k15 K y4 y6 y7 w := qq h
theorem F155.k14.to (h : (C.a9 w fun S a =>
 C.ad y0 a fun b c =>
 C.ab 12 b c fun d f =>
 C.ab 3 y3 f fun g i =>
 C.ap S d i fun j k =>
 C.ap S g k fun m o =>
 (C.q Tryz.prog 91 #[j, y8, m] o fun p q =>
 (S q ∧
 C.a0 0 p q fun r s =>
 C.a0 1 p s fun t u =>
 (C.ak 2 y6 r u fun v =>
 (S v ∧
 F155.k15 K y4 y6 t v)) ∧ True)) ∧ True)) : F155.k14 K y0 y3 y4 y6 y8 w := qq h
theorem F155.k17.to (h : (C.ao 2 y6 w fun a b =>
 C.ak 2 y4 a b fun c =>
 C.ao 2 y4 c fun r3 _ =>
 K (.tuple #[r3, (.int .i64 0)]) c)) : F155.k17 K y4 y6 w := qq h
theorem F155.sh (h : (C.a3 (.cells (Value.cells x1) 40) w fun a b =>
 C.a3 (.cells #[.int .i64 0, .int .i64 0] 60) b fun c d =>
 C.ay Tryz.prog (Instr.build 60 #[]) d fun f g =>
 C.a3 (.cells #[.int .i64 0, .int .i64 0] 60) g fun i j =>
 C.ak 2 i f j fun k =>
 C.ab 0 a k fun m o =>
 C.ai m o fun p q =>
 C.aj .eql p (.int .i64 4) q fun r s =>
 C.am r (C.ab 6 a s fun t u =>
 C.ai t u fun v x =>
 C.ay Tryz.prog (Instr.build 60 #[(0, (.int .i64 1)), (1, v)]) x fun y z =>
 C.ak 2 i y z fun aa =>
 C.ao 2 i aa fun ab ac =>
 C.q Tryz.prog 227 #[ab] ac fun ad ae =>
 C.aj .eql ad (.int .i64 0) ae fun af ag =>
 F155.k15 K c i af ag) (C.aj .eql p (.int .i64 6) s fun ah ai =>
 C.am ah (C.ad x0 ai fun aj ak =>
 C.ab 12 aj ak fun al am =>
 C.ai al am fun an ao =>
 C.q Tryz.prog 83 #[an] ao fun ap aq =>
 C.q Tryz.prog 153 #[ap] aq fun ar au =>
 C.ak 2 i ar au fun av =>
 F155.k15 K c i (.bool true) av) (C.aj .eql p (.int .i64 7) ai fun aw ax =>
 C.am aw (C.ab 1 a ax fun ay az =>
 C.ai ay az fun ba bb =>
 C.ab 2 a bb fun bc bd =>
 C.ai bc bd fun be bf =>
 C.q Tryz.prog 158 #[x0, ba, be] bf fun bg bh =>
 C.a0 0 bg bh fun bi bj =>
 C.a0 1 bg bj fun bk bl =>
 C.ak 2 i bi bl fun bm =>
 F155.k15 K c i bk bm) (C.aj .eql p (.int .i64 9) ax fun bn bo =>
 C.am bn (C.ao 7 a bo fun bp bq =>
 C.q Tryz.prog 157 #[x0, bp] bq fun br bs =>
 C.a0 0 br bs fun bt bu =>
 C.a0 1 br bu fun bv bw =>
 C.aj .neq bv (.int .i64 0) bw fun bx bz =>
 C.am bx (C.ay Tryz.prog (Instr.build 60 #[]) bz fun ca cb =>
 C.ak 2 c ca cb fun cc =>
 C.ao 2 c cc fun r40 _ =>
 K (.tuple #[r40, bv]) cc) (F155.k14 K x0 a c i bt bz)) (F155.k15 K c i (.bool true) bo)))))) : C.q Tryz.prog 155 #[x0, x1] w K := q9 (A := F155.ann) (args := [x0, x1]) (qq h)
namespace F157
def ann : Ann := ⟨[(6, [6])], [], [], [], none⟩
def code := cd Tryz.f157
def top := tp Tryz.f157
variable (K : VK) (y6 : Value) (w : World)
def k6 : Prop := nk ann 26 [(6, y6)] w [1, 1, 1] code (top K)
attribute [irreducible] k6
end F157
theorem F157.k6.to (h : (C.ab 1 y6 w fun a b =>
 C.ai a b fun c d =>
 K (.tuple #[c, (.int .i64 0)]) d)) : F157.k6 K y6 w := qq h
theorem F157.sh (h : (C.a3 (.cells (Value.cells x1) 40) w fun a b =>
 C.ab 1 a b fun c d =>
 C.ai c d fun f g =>
 C.ab 2 a g fun i j =>
 C.ai i j fun k m =>
 C.q Tryz.prog 158 #[x0, f, k] m fun o p =>
 C.a0 0 o p fun q r =>
 C.a0 1 o r fun s t =>
 C.a3 (.cells #[.int .i64 0, .int .i64 0] 60) t fun u v =>
 C.ak 2 u q v fun x =>
 C.bg s x fun y z =>
 C.am y (K (.tuple #[(.int .i64 0), (.int .i64 4)]) z) (C.ab 0 u z fun aa ab =>
 C.ai aa ab fun ac ad =>
 C.aj .neq ac (.int .i64 2) ad fun ae af =>
 C.am ae (K (.tuple #[(.int .i64 0), (.int .i64 12)]) af) (F157.k6 K u af)))) : C.q Tryz.prog 157 #[x0, x1] w K := q9 (A := F157.ann) (args := [x0, x1]) (qq h)
namespace F158
def ann : Ann := ⟨[(4, [2, 6, 8])], [], [], [], none⟩
def code := cd Tryz.f158
def top := tp Tryz.f158
variable (K : VK) (y2 y6 y8 : Value) (w : World)
def k4 : Prop := nk ann 24 [(2, y2), (6, y6), (8, y8)] w [1, 1, 1] code (top K)
attribute [irreducible] k4
end F158
theorem F158.k4.to (h : (C.bj 2 y8 y2 w fun a b =>
 C.ao 2 a b fun c d =>
 C.ak 2 y6 c d fun f =>
 C.ao 2 y6 f fun r4 _ =>
 K (.tuple #[r4, (.bool true)]) f)) : F158.k4 K y2 y6 y8 w := qq h
theorem F158.sh (h : (C.a3 (.cells #[.int .i64 0, .int .i64 0] 60) w fun a b =>
 C.ad x0 b fun c d =>
 C.ab 12 c d fun f g =>
 C.ai f g fun i j =>
 C.q Tryz.prog 47 #[i, x1] j fun k m =>
 C.bk k m fun o p =>
 C.aj .geq x2 o p fun q r =>
 C.am q (C.ay Tryz.prog (Instr.build 60 #[]) r fun s t =>
 C.ak 2 a s t fun u =>
 C.ao 2 a u fun r10 _ =>
 K (.tuple #[r10, (.bool false)]) u) (F158.k4 K x2 a k r))) : C.q Tryz.prog 158 #[x0, x1, x2] w K := q9 (A := F158.ann) (args := [x0, x1, x2]) (qq h)

theorem F163.sh (h : (C.a3 (.cells #[.int .i64 0, .int .i64 0, .int .i64 0, .int .i64 0, .int .i64 0] 38) w fun a b =>
 C.q Tryz.prog 234 #[x0, x1] b fun c d =>
 C.ad x0 d fun f g =>
 C.ab 0 f g fun i j =>
 C.ab 1 i j fun k m =>
 C.ai k m fun o p =>
 C.q Tryz.prog 235 #[o, c] p fun q r =>
 C.ay Tryz.prog (Instr.build 38 #[(3, c)]) r fun s t =>
 C.ak 5 a s t fun u =>
 C.ao 5 a u fun r10 _ =>
 K r10 u)) : C.q Tryz.prog 163 #[x0, x1] w K := q9 (A := A0) (args := [x0, x1]) (qq h)

theorem F165.sh (h : (C.a3 (.cells (Value.cells x0) 94) w fun a b =>
 C.ab 0 a b fun c d =>
 C.ai c d fun f g =>
 C.q Tryz.prog 237 #[f, x1, x2] g fun i j =>
 K (.tuple #[]) j)) : C.q Tryz.prog 165 #[x0, x1, x2] w K := q9 (A := A0) (args := [x0, x1, x2]) (qq h)
namespace F222
def ann : Ann := ⟨[(4, [0, 3, 4]), (8, [0, 3, 4, 6, 7])], [], [], [(4, (.take 0 (.take 1 (.take 2 (.take 3 (.take 6 (.take 7 (.take 8 (.take 9 (.take 4 (.take 10 (.go 5 (.take 11 (.take 12 .fin)) .fin)))))))))))), (6, (.take 0 (.take 1 (.take 2 (.take 3 (.take 5 (.take 7 (.take 8 (.take 4 (.take 6 (.take 9 (.take 10 (.go 11 (.take 12 .fin) .fin))))))))))))), (10, (.take 0 (.take 1 (.take 2 (.take 4 (.take 6 (.take 7 (.take 3 (.take 5 (.take 8 (.take 9 (.go 10 .fin .fin))))))))))))], none⟩
def code := cd Tryz.f222
def top := tp Tryz.f222
variable (K : VK) (y0 y3 y4 y6 y7 : Value) (w : World)
def k4 : Prop := nk ann 78 [(0, y0), (3, y3), (4, y4)] w [1, 1] code (top K)
def k8 : Prop := nk ann 78 [(0, y0), (3, y3), (4, y4), (6, y6), (7, y7)] w [1, 1, 1, 1, 1] code (top K)
attribute [irreducible] k4 k8
end F222
theorem F222.k4.to (h : (C.a9 w fun S a =>
 C.ad y0 a fun b c =>
 C.ab 0 b c fun d f =>
 C.ab 1 d f fun g i =>
 C.ad y0 i fun j k =>
 C.ab 2 j k fun m o =>
 C.ab 6 m o fun p q =>
 C.ap S g q fun r s =>
 C.ap S p s fun t u =>
 (C.q Tryz.prog 274 #[r] u fun v x =>
 (S x ∧
 ∃ y, (∀ w', S w' → (builtin .min #[3, 3] 3 #[false, false] #[v, t]).run Tryz.prog w' = .ok (.value y) w') ∧ (C.ad y0 x fun z aa =>
 C.ab 2 z aa fun ab ac =>
 C.ab 6 ab ac fun ad ae =>
 C.ai ad ae fun af ag =>
 C.aj .sub af y ag fun ah ai =>
 C.a9 ai fun S aj =>
 C.ad y0 aj fun ak al =>
 C.ab 0 ak al fun am an =>
 C.ab 0 am an fun ao ap =>
 C.ab 1 y3 ap fun aq ar =>
 C.ab 5 y3 ar fun au av =>
 C.ap S ao av fun aw ax =>
 C.ap S aq ax fun ay az =>
 C.ap S au az fun ba bb =>
 C.aj .mul ah ba bb fun bc bd =>
 (C.q Tryz.prog 164 #[aw, ay, bc] bd fun be bf =>
 (S bf ∧
 C.bg be bf fun bg bh =>
 C.am bg (C.q Tryz.prog 54 #[(.int .i64 21)] bh fun bi bj =>
 C.ak 5 y4 bi bj fun bk =>
 C.ao 5 y4 bk fun r31 _ =>
 K r31 bk) (F222.k8 K y0 y3 y4 y ah bh))) ∧ True))) ∧ True)) : F222.k4 K y0 y3 y4 w := qq h
theorem F222.k8.to (h : (C.ad y0 w fun a b =>
 C.ab 0 a b fun c d =>
 C.ab 1 c d fun f g =>
 C.ai f g fun i j =>
 C.q Tryz.prog 275 #[i, y6] j fun k m =>
 C.q Tryz.prog 234 #[y0, y7] m fun o p =>
 C.a9 p fun S q =>
 C.ad y0 q fun r s =>
 C.ab 0 r s fun t u =>
 C.ab 1 y3 u fun v x =>
 C.ab 5 y3 x fun y z =>
 C.bm S 2 t z fun aa ab =>
 C.ap S v ab fun ac ad =>
 C.ap S y ad fun ae af =>
 C.aj .mul o ae af fun ag ah =>
 (C.q Tryz.prog 165 #[aa, ac, ag] ah fun ai aj =>
 (S aj ∧
 C.ay Tryz.prog (Instr.build 38 #[(3, o), (4, y6)]) aj fun ak al =>
 C.ak 5 y4 ak al fun am =>
 C.ao 5 y4 am fun r19 _ =>
 K r19 am)) ∧ True)) : F222.k8 K y0 y3 y4 y6 y7 w := qq h
theorem F222.sh (h : (C.a3 (.cells (Value.cells x1) 40) w fun a b =>
 C.a3 (.cells #[.int .i64 0, .int .i64 0, .int .i64 0, .int .i64 0, .int .i64 0] 38) b fun c d =>
 C.ad x0 d fun f g =>
 C.ab 12 f g fun i j =>
 C.ai i j fun k m =>
 C.q Tryz.prog 59 #[k] m fun o p =>
 C.aj .neq o (.int .i64 3) p fun q r =>
 C.i true q (fun K => K o r) r fun s t =>
 C.i true q (fun K => C.aj .neq s (.int .i64 5) t K) t fun u v =>
 C.a2 (some q) (some u) (some (.bool false)) v fun x y =>
 C.am x (C.ay Tryz.prog (Instr.build 38 #[]) y fun z aa =>
 C.ak 5 c z aa fun ab =>
 C.ao 5 c ab fun r13 _ =>
 K r13 ab) (F222.k4 K x0 a c y))) : C.q Tryz.prog 222 #[x0, x1] w K := q9 (A := F222.ann) (args := [x0, x1]) (qq h)
namespace F234
def ann : Ann := ⟨[(3, [0, 1, 6, 7]), (6, [0, 1, 6, 7]), (7, [1])], [(2, [0, 1, 6, 7])], [], [], none⟩
def code := cd Tryz.f234
def top := tp Tryz.f234
variable (K : VK) (y0 y1 y6 y7 : Value) (w : World)
def k7 : Prop := nk ann 19 [(1, y1)] w [1, 1] code (top K)
def l2 : Prop := nl ann 19 [(0, y0), (1, y1), (6, y6), (7, y7)] w [1, 0, 1, 0] code (top K)
def k3 : Prop := nk ann 19 [(0, y0), (1, y1), (6, y6), (7, y7)] w [1, 0, 1, 0, 0, 1, 1] code (top K)
def k6 : Prop := nk ann 19 [(0, y0), (1, y1), (6, y6), (7, y7)] w [1, 0, 1, 0, 0, 1, 1, 1] code (top K)
attribute [irreducible] k7 l2 k3 k6
end F234
theorem F234.k7.to (h : (K y1 w)) : F234.k7 K y1 w := qq h
theorem F234.l2.to (h : (C.aj .lss y7 y6 w fun a b =>
 C.am a (F234.k3 K y0 y1 y6 y7 b) (F234.k7 K y1 b))) : F234.l2 K y0 y1 y6 y7 w := by unfold F234.l2 nl; exact qag (qq h)
theorem F234.k3.to (h : (C.ad y0 w fun a b =>
 C.ab 12 a b fun c d =>
 C.ai c d fun f g =>
 C.q Tryz.prog 280 #[f] g fun i j =>
 C.bg i j fun k m =>
 C.am k (K y7 m) (F234.k6 K y0 y1 y6 y7 m))) : F234.k3 K y0 y1 y6 y7 w := qq h
theorem F234.k6.to (h : (C.aj .add y7 (.int .i64 1) w fun a b =>
 F234.l2 K y0 y1 y6 a b)) : F234.k6 K y0 y1 y6 y7 w := qq h
theorem F234.sh (h : (F234.l2 K x0 x1 x1 (.int .i64 0) w)) : C.q Tryz.prog 234 #[x0, x1] w K := q9 (A := F234.ann) (args := [x0, x1]) (qq h)
end
end Go.Proofs.YtcakfaakbpdklaaGreatDoorV
namespace Go.Proofs.YtcakfaakbpdklaaGreatDoorV
open Go Go.Proofs Go.RowKit
set_option linter.unusedVariables false
set_option linter.unusedSimpArgs false
set_option maxRecDepth 10000
structure Mad where
  Q : Kad
  ma : Nat
  lg : Nat
  bb : Nat
  bn : Nat
def Mad.fix (A : Mad) : List Nat := [A.ma, A.lg, A.bb, A.bn]
def Mad.low (A : Mad) : List Nat := A.Q.fix ++ (A.Q.H.fix ++ A.Q.H.D.all)
structure Mad.Ok (A : Mad) : Prop where
  nd : A.fix.Nodup
  dj : ∀ x ∈ A.fix, x ∉ A.low
  lo : ∀ x ∈ A.fix, x < A.Q.H.N
structure Gw where
  m : Mv
  S : Nat → Value
def qj7 (T : Nat) (S : Nat → Value) : List Nat := (List.range T).flatMap fun t => qab (S t)
theorem qcq {T : Nat} {S : Nat → Value} {x : Nat} : x ∈ qj7 T S ↔ ∃ t, t < T ∧ x ∈ qab (S t) := by simp [qj7]
def Gw.all (T : Nat) (g : Gw) : List Nat := g.m.all ++ qj7 T g.S
def Mad.S (A : Mad) (T : Nat) (g : Gw) : List Nat := A.fix ++ (A.Q.fix ++ (A.Q.H.fix ++ (A.Q.H.D.all.tail ++ g.all T)))
def Mad.all (A : Mad) (T : Nat) (g : Gw) : List Nat := A.fix ++ (A.low ++ g.all T)
structure MTo (A : Mad) (T : Nat) (g : Gw) (w : World) (g' : Gw) (w' : World) : Prop where
  fr : Fr (A.S T g) w w'
  gr : ∀ x ∈ g'.all T, x ∈ g.all T ∨ w.heap.size ≤ x
section
variable {A : Mad} {T : Nat} {g g' g'' : Gw}
theorem MTo.refl (A : Mad) (T : Nat) (g : Gw) (w : World) : MTo A T g w g w := ⟨Fr.refl _ _, fun x hx => .inl hx⟩
theorem MTo.w {a b : World} (h : Fr [] a b) : MTo A T g a g b := ⟨h.w, fun x hx => .inl hx⟩
theorem MTo.trans {w w' w'' : World} (h : MTo A T g w g' w') (k : MTo A T g' w' g'' w'') : MTo A T g w g'' w'' :=
  ⟨h.fr.then k.fr fun x hx => by
    simp only [Mad.S, List.mem_append] at hx ⊢
    rcases hx with c | c | c | c | c
    · exact .inl (.inl c)
    · exact .inl (.inr (.inl c))
    · exact .inl (.inr (.inr (.inl c)))
    · exact .inl (.inr (.inr (.inr (.inl c))))
    · rcases h.gr x c with d | d
      · exact .inl (.inr (.inr (.inr (.inr d))))
      · exact .inr d, fun x hx => by
    rcases k.gr x hx with c | c
    · exact h.gr x c
    · have := h.fr.size; exact .inr (by omega)⟩
theorem MTo.c {m' : Mv} {a b : World} (h : CTo A.Q g.m a m' b) : MTo A T g a { g with m := m' } b :=
  ⟨h.fr.mono fun x hx => by
    simp only [Kad.S, List.mem_append] at hx
    simp only [Mad.S, Gw.all, List.mem_append]
    rcases hx with c | c | c | c
    · exact .inr (.inl c)
    · exact .inr (.inr (.inl c))
    · exact .inr (.inr (.inr (.inl c)))
    · exact .inr (.inr (.inr (.inr (.inl c)))), fun x hx => by
    simp only [Gw.all, List.mem_append] at hx ⊢
    rcases hx with c | c
    · rcases h.gr x c with d | d
      · exact .inl (.inl d)
      · exact .inr d
    · exact .inl (.inr c)⟩
theorem MTo.b {a b : World} (h : Fr [A.bn] a b) : MTo A T g a g b := ⟨h.mono fun x hx => by simp only [List.mem_singleton] at hx; simp [Mad.S, Mad.fix, hx], fun x hx => .inl hx⟩
theorem MTo.l {t : Nat} {s : Value} {a b : World} (ht : t < T) (h : LNx a b A.bb t g.S s) : MTo A T g a { g with S := upd g.S t s } b :=
  ⟨h.fr.mono fun x hx => by
    simp only [List.mem_cons] at hx
    simp only [Mad.S, Mad.fix, Gw.all, List.mem_append, List.mem_cons]
    rcases hx with c | c
    · exact .inl (.inr (.inr (.inl c)))
    · exact .inr (.inr (.inr (.inr (.inr (qcq.2 ⟨t, ht, c⟩))))), fun x hx => by
    simp only [Gw.all, List.mem_append] at hx ⊢
    rcases hx with c | c
    · exact .inl (.inl c)
    · obtain ⟨u, hu, c⟩ := qcq.1 c
      by_cases e : u = t
      · subst e
        simp only [upd] at c
        exact .inr (h.new x c)
      · simp only [upd, if_neg e] at c
        exact .inl (.inr (qcq.2 ⟨u, hu, c⟩))⟩
end
structure Cf.Fine (cf : Cf) : Prop where
  th : 1 ≤ cf.threads ∧ cf.threads ≤ 8
  wi : 1 ≤ cf.window ∧ cf.window ≤ 64
  mo : 0 ≤ cf.most ∧ cf.most ≤ cf.window
  qu : 1 ≤ cf.quantum ∧ cf.quantum ≤ 64
  ca : 0 ≤ cf.cap ∧ cf.cap ≤ 65535
  ta : 0 ≤ cf.tax ∧ cf.tax ≤ 64
def cfV (cf : Cf) : List Value := [.int .i64 cf.pages, .int .i64 cf.threads, .int .i64 cf.window, .int .i64 cf.quantum, .int .i64 cf.target, .int .i64 cf.cap, .int .i64 cf.tax, .int .i64 cf.chunk, .int .i64 cf.stack, .int .i64 cf.trigger]
def maB (A : Mad) (cf : Cf) : Obj := .cells #[.pointer (some ⟨A.lg, 0, none⟩), .pointer (some ⟨A.bn, 0, none⟩), .int .i64 cf.pages, .int .i64 cf.threads, .int .i64 cf.window, .int .i64 cf.quantum, .int .i64 cf.target, .int .i64 cf.cap, .int .i64 cf.tax, .int .i64 cf.chunk, .int .i64 cf.stack, .int .i64 cf.trigger, .pointer (some ⟨A.Q.co, 0, none⟩)] 96 (0, 0)
structure qae (A : Mad) (g : Gw) (cf : Cf) (B : Int) (w : World) (x : Ma) : Prop where
  ok : A.Ok
  fine : cf.Fine
  co : qah A.Q g.m cf w x.co
  blk : w.heap[A.ma]? = some (maB A cf)
  led : Led w A.lg A.bb cf.threads.toNat cf.window cf.most g.S x.lg
  bnk : w.heap[A.bn]? = some (bk x.bi x.bo x.bl true cf.cap)
  bin : qlc B x.bi x.bo x.bl cf.cap
  l64 : ∀ t, (x.lg t).length ≤ 64
  hs : ∀ y ∈ qj7 cf.threads.toNat g.S, A.Q.H.N ≤ y
  rl : x.co.r.l.length = cf.threads.toNat
section
variable {A : Mad} {g : Gw} {cf : Cf} {B : Int} {w w' : World} {x : Ma}
theorem qae.keep {S : List Nat} (h : qae A g cf B w x) (hf : Fr S w w') (ha : ∀ y ∈ A.all cf.threads.toNat g, y ∉ S) : qae A g cf B w' x := by
  refine ⟨h.ok, h.fine, h.co.keep hf (fun y hy => ha y ?_), hf.at_ h.blk (ha _ (by simp [Mad.all, Mad.fix])), h.led.keep hf (ha _ (by simp [Mad.all, Mad.fix])) (ha _ (by simp [Mad.all, Mad.fix])) (fun t ht y hy => ha y ?_), hf.at_ h.bnk (ha _ (by simp [Mad.all, Mad.fix])), h.bin, h.l64, h.hs, h.rl⟩
  · simp only [Kad.all, List.mem_append] at hy
    simp only [Mad.all, Mad.low, Gw.all, List.mem_append]
    rcases hy with d | d | d | d
    · exact .inr (.inl (.inl d))
    · exact .inr (.inl (.inr (.inl d)))
    · exact .inr (.inl (.inr (.inr d)))
    · exact .inr (.inr (.inl d))
  · simp only [Mad.all, Gw.all, List.mem_append]
    exact .inr (.inr (.inr (qcq.2 ⟨t, ht, hy⟩)))
theorem qae.keep0 (h : qae A g cf B w x) (hf : Fr [] w w') : qae A g cf B w' x := h.keep hf (by simp)
theorem qae.setC {m' : Mv} {c' : Co} (h : qae A g cf B w x) (hf : CTo A.Q g.m w m' w') (hc : qah A.Q m' cf w' c') (hl : c'.r.l.length = x.co.r.l.length) : qae A { g with m := m' } cf B w' { x with co := c' } := by
  obtain ⟨cs, b1, b2⟩ := h.led.bk
  have sub : ∀ y ∈ A.Q.S g.m, y ∈ A.low ∨ y ∈ g.m.all := fun y hy => by
    simp only [Kad.S, List.mem_append] at hy
    simp only [Mad.low, List.mem_append]
    rcases hy with d | d | d | d
    · exact .inl (.inl d)
    · exact .inl (.inr (.inl d))
    · exact .inl (.inr (.inr (List.mem_of_mem_tail d)))
    · exact .inr d
  have hi : ∀ y ∈ g.m.all, A.Q.H.N ≤ y := fun y hy => by
    simp only [Mv.all, List.mem_append] at hy
    rcases hy with d | d | d
    · exact h.co.hp.hi y d
    · exact h.co.hv y d
    · exact h.co.ht y d
  have nf : ∀ y ∈ A.fix, y ∉ A.Q.S g.m := fun y hy e => by
    rcases sub y e with d | d
    · exact h.ok.dj y hy d
    · have h1 := h.ok.lo y hy; have h2 := hi y d; omega
  have ns : ∀ t, t < cf.threads.toNat → ∀ y ∈ qab (g.S t), y ∉ A.Q.S g.m := fun t ht y hy e => by
    rcases sub y e with d | d
    · have h1 := h.co.low (x := y) d
      have h2 := h.hs y (qcq.2 ⟨t, ht, hy⟩); omega
    · have ho := h.led.own t ht
      simp only [Mv.all, List.mem_append] at d
      rcases d with d | d | d
      · exact ho.ne h.co.hp.gy.stk.own (by decide) y hy d
      · exact h.co.fb.fam.ne ho (by decide) y d hy
      · exact h.co.th.ne ho (by decide) y d hy
  exact ⟨h.ok, h.fine, hc, hf.fr.at_ h.blk (nf _ (by simp [Mad.fix])), h.led.keep hf.fr (nf _ (by simp [Mad.fix])) (nf _ (by simp [Mad.fix])) ns, hf.fr.at_ h.bnk (nf _ (by simp [Mad.fix])), h.bin, h.l64, h.hs, hl.trans h.rl⟩
theorem qae.nfC (h : qae A g cf B w x) {y : Nat} (hy : y ∈ A.fix ∨ ∃ t, t < cf.threads.toNat ∧ y ∈ qab (g.S t)) : y ∉ A.Q.all g.m := fun e => by
  have e' : y ∈ A.low ∨ y ∈ g.m.all := by
    simp only [Kad.all, List.mem_append] at e
    simp only [Mad.low, List.mem_append]
    rcases e with d | d | d | d
    · exact .inl (.inl d)
    · exact .inl (.inr (.inl d))
    · exact .inl (.inr (.inr d))
    · exact .inr d
  have hi : ∀ y ∈ g.m.all, A.Q.H.N ≤ y := fun y hy => by
    simp only [Mv.all, List.mem_append] at hy
    rcases hy with d | d | d
    · exact h.co.hp.hi y d
    · exact h.co.hv y d
    · exact h.co.ht y d
  rcases hy with hy | ⟨t, ht, hy⟩
  · rcases e' with d | d
    · exact h.ok.dj y hy d
    · have h1 := h.ok.lo y hy; have h2 := hi y d; omega
  · rcases e' with d | d
    · have h1 := h.co.low (x := y) d
      have h2 := h.hs y (qcq.2 ⟨t, ht, hy⟩); omega
    · have ho := h.led.own t ht
      simp only [Mv.all, List.mem_append] at d
      rcases d with d | d | d
      · exact ho.ne h.co.hp.gy.stk.own (by decide) y hy d
      · exact h.co.fb.fam.ne ho (by decide) y d hy
      · exact h.co.th.ne ho (by decide) y d hy
theorem qae.setB {B' bi bo bl : Int} (h : qae A g cf B w x) (hf : Fr [A.bn] w w') (hb : w'.heap[A.bn]? = some (bk bi bo bl true cf.cap)) (hk : qlc B' bi bo bl cf.cap) : qae A g cf B' w' { x with bi := bi, bo := bo, bl := bl } := by
  have nd := h.ok.nd
  simp only [Mad.fix, List.nodup_cons, List.mem_cons, List.not_mem_nil, or_false, not_or] at nd
  have lt := h.ok.lo
  exact ⟨h.ok, h.fine, h.co.keep hf (fun y hy e => by simp only [List.mem_singleton] at e; subst e; exact h.nfC (.inl (by simp [Mad.fix])) hy), hf.at_ h.blk (by simp only [List.mem_singleton]; exact nd.1.2.2), h.led.keep hf (by simp only [List.mem_singleton]; exact nd.2.1.2) (by simp only [List.mem_singleton]; exact nd.2.2.1) (fun t ht y hy e => by
    simp only [List.mem_singleton] at e; subst e
    exact (h.led.own t ht).nb h.bnk (by decide) hy), hb, hk, h.l64, h.hs, h.rl⟩
theorem qae.setL {t : Nat} {s : Value} {l : List Bool} (h : qae A g cf B w x) (ht : t < cf.threads.toNat) (hf : LNx w w' A.bb t g.S s) (hl : Led w' A.lg A.bb cf.threads.toNat cf.window cf.most (upd g.S t s) (upd x.lg t l)) (h64 : l.length ≤ 64) : qae A { g with S := upd g.S t s } cf B w' { x with lg := upd x.lg t l } := by
  have nd := h.ok.nd
  simp only [Mad.fix, List.nodup_cons, List.mem_cons, List.not_mem_nil, or_false, not_or] at nd
  have ho := h.led.own t ht
  refine ⟨h.ok, h.fine, h.co.keep hf.fr (fun y hy e => ?_), hf.fr.at_ h.blk ?_, hl, hf.fr.at_ h.bnk ?_, h.bin, fun u => ?_, fun y hy => ?_, h.rl⟩
  · simp only [List.mem_cons] at e
    rcases e with e | e
    · subst e; exact h.nfC (.inl (by simp [Mad.fix])) hy
    · exact h.nfC (.inr ⟨t, ht, e⟩) hy
  · simp only [List.mem_cons, not_or]; exact ⟨nd.1.2.1, ho.nb h.blk (by decide)⟩
  · simp only [List.mem_cons, not_or]; exact ⟨fun e => nd.2.2.1 e.symm, ho.nb h.bnk (by decide)⟩
  · show (upd x.lg t l u).length ≤ 64
    by_cases e : u = t
    · simp only [upd, if_pos e]; exact h64
    · simp only [upd, if_neg e]; exact h.l64 u
  · obtain ⟨u, hu, c⟩ := qcq.1 hy
    by_cases e : u = t
    · subst e
      simp only [upd] at c
      have := hf.new y c
      have := h.co.hp.le
      omega
    · simp only [upd, if_neg e] at c
      exact h.hs y (qcq.2 ⟨u, hu, c⟩)
end
end Go.Proofs.YtcakfaakbpdklaaGreatDoorV
