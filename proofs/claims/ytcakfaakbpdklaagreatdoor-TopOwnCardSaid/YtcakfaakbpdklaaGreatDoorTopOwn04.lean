/- Part 4 of what the law needs: own lemmas, in the order in which they build. -/
import Derived.Shelf.Spec.TrailingZeros
import Derived.Test.YtcakfaakbpdklaaGreatDoorProg
import Derived.Test.YtcakfaakbpdklaaGreatDoorTopOwn03
namespace Go.Proofs.YtcakfaakbpdklaaGreatDoorV
open Go Go.Proofs
set_option linter.unusedVariables false
set_option maxRecDepth 100000
noncomputable section
variable {K : VK} {w : World} {x0 x1 x2 x3 x4 y0 y1 y4 y5 y6 y7 y8 y9 y10 y11 y12 y13 y34 y35 : Value}
namespace F248
def ann : Ann := ⟨[(4, [7, 9, 11]), (7, [7, 9, 13])], [], [], [(7, (.take 0 (.take 2 (.take 3 (.take 1 (.take 7 (.take 4 (.take 5 (.take 6 (.go 8 (.take 9 .fin) .fin))))))))))], none⟩
def code := cd Tryz.f248
def top := tp Tryz.f248
variable (K : VK) (y7 y9 y11 y13 : Value) (w : World)
def k4 : Prop := nk ann 53 [(7, y7), (9, y9), (11, y11)] w [1, 1, 1] code (top K)
def k7 : Prop := nk ann 53 [(7, y7), (9, y9), (13, y13)] w [1, 1, 1, 1, 1] code (top K)
attribute [irreducible] k4 k7
end F248
theorem F248.k4.to (h : (C.ao 4 y11 w fun a b =>
 C.ab 0 y7 b fun c d =>
 C.ai c d fun f g =>
 C.q Tryz.prog 288 #[a, f] g fun i j =>
 C.a0 0 i j fun k m =>
 C.a0 1 i m fun o p =>
 C.bg o p fun q r =>
 C.am q (C.ay Tryz.prog (Instr.build 241 #[]) r fun s t =>
 C.ak 2 y9 s t fun u =>
 C.ao 2 y9 u fun r10 _ =>
 K (.tuple #[(.int .i64 0), r10, (.bool false)]) u) (F248.k7 K y7 y9 k r))) : F248.k4 K y7 y9 y11 w := qq h
theorem F248.k7.to (h : (C.a9 w fun S a =>
 C.ab 0 y7 a fun b c =>
 C.ab 1 y7 c fun d f =>
 C.ap S b f fun g i =>
 C.ap S d i fun j k =>
 C.aj .sub j (.int .i64 1) k fun m o =>
 ∃ p, (∀ w', S w' → (Instr.build 241 #[(0, y13), (1, m)]).run Tryz.prog w' = .ok p w') ∧ ((C.ak 2 y9 p o fun q =>
 (S q ∧
 C.ao 2 y9 q fun r9 _ =>
 K (.tuple #[g, r9, (.bool true)]) q)) ∧ True))) : F248.k7 K y7 y9 y13 w := qq h
theorem F248.sh (h : (C.a3 (.cells (Value.cells x3) 241) w fun a b =>
 C.a3 (.cells #[.int .i64 0, .int .i64 0] 241) b fun c d =>
 C.q Tryz.prog 286 #[x0, x1, x2] d fun f g =>
 C.a0 0 f g fun i j =>
 C.a0 1 f j fun k m =>
 C.a3 (.cells #[.pointer none, .int .i64 0, .int .i64 0, .int .i64 0] 319) m fun o p =>
 C.ak 4 o i p fun q =>
 C.bg k q fun r s =>
 C.i false r (fun K => C.ab 1 a s K) s fun t u =>
 C.i false r (fun K => C.ai t u K) u fun v x =>
 C.i false r (fun K => C.aj .lss v (.int .i64 1) x K) x fun y z =>
 C.a2 (some r) (some (.bool true)) (some y) z fun aa ab =>
 C.i false aa (fun K => C.ao 4 o ab K) ab fun ac ad =>
 C.i false aa (fun K => C.ab 0 a ad K) ad fun ae af =>
 C.i false aa (fun K => C.ai ae af K) af fun ag ah =>
 C.i false aa (fun K => C.q Tryz.prog 287 #[ac, ag] ah K) ah fun ai aj =>
 C.i false aa (fun K => C.bg ai aj K) aj fun ak al =>
 C.a2 (some aa) (some (.bool true)) (some ak) al fun am an =>
 C.am am (C.ay Tryz.prog (Instr.build 241 #[]) an fun ao ap =>
 C.ak 2 c ao ap fun aq =>
 C.ao 2 c aq fun r21 _ =>
 K (.tuple #[(.int .i64 0), r21, (.bool false)]) aq) (F248.k4 K a c o an))) : C.q Tryz.prog 248 #[x0, x1, x2, x3] w K := q9 (A := F248.ann) (args := [x0, x1, x2, x3]) (qq h)
namespace F253
def ann : Ann := ⟨[(4, [0, 1, 6, 8]), (8, [6, 8, 34, 35]), (10, [6, 8, 34, 35]), (11, [6, 8])], [(7, [6, 8, 34, 35])], [], [], none⟩
def code := cd Tryz.f253
def top := tp Tryz.f253
variable (K : VK) (y0 y1 y6 y8 y34 y35 : Value) (w : World)
def k4 : Prop := nk ann 47 [(0, y0), (1, y1), (6, y6), (8, y8)] w [1, 1, 1] code (top K)
def k11 : Prop := nk ann 47 [(6, y6), (8, y8)] w [1, 1, 1, 1, 1, 1] code (top K)
def l7 : Prop := nl ann 47 [(6, y6), (8, y8), (34, y34), (35, y35)] w [1, 1, 1, 1, 1, 0, 1, 0] code (top K)
def k8 : Prop := nk ann 47 [(6, y6), (8, y8), (34, y34), (35, y35)] w [1, 1, 1, 1, 1, 0, 1, 0, 0, 1, 1] code (top K)
def k10 : Prop := nk ann 47 [(6, y6), (8, y8), (34, y34), (35, y35)] w [1, 1, 1, 1, 1, 0, 1, 0, 0, 1, 1, 1] code (top K)
attribute [irreducible] k4 k11 l7 k8 k10
end F253
theorem F253.k4.to (h : (C.q Tryz.prog 177 #[y1, (.int .i64 1)] w fun a b =>
 C.a0 0 a b fun c d =>
 C.a0 1 a d fun f g =>
 C.a0 2 a g fun i j =>
 C.q Tryz.prog 179 #[y0, c, (.int .i64 32), (.int .i64 0)] j fun k m =>
 C.ab 3 y8 m fun o p =>
 C.ai o p fun q r =>
 F253.l7 K y6 y8 q (.int .i64 0) r)) : F253.k4 K y0 y1 y6 y8 w := qq h
theorem F253.k11.to (h : (C.ab 3 y8 w fun a b =>
 C.ai a b fun c d =>
 C.ay Tryz.prog (Instr.build 241 #[(0, (.int .i64 0)), (1, c)]) d fun f g =>
 C.ak 2 y6 f g fun i =>
 C.ao 2 y6 i fun r5 _ =>
 K (.tuple #[r5, (.bool true)]) i)) : F253.k11 K y6 y8 w := qq h
theorem F253.l7.to (h : (C.aj .lss y35 y34 w fun a b =>
 C.am a (F253.k8 K y6 y8 y34 y35 b) (F253.k11 K y6 y8 b))) : F253.l7 K y6 y8 y34 y35 w := by unfold F253.l7 nl; exact qag (qq h)
theorem F253.k8.to (h : (C.ao 4 y8 w fun a b =>
 C.aj .add y35 (.int .i64 1) b fun c d =>
 C.q Tryz.prog 289 #[a, y35, c] d fun f g =>
 F253.k10 K y6 y8 y34 y35 g)) : F253.k8 K y6 y8 y34 y35 w := qq h
theorem F253.k10.to (h : (C.aj .add y35 (.int .i64 1) w fun a b =>
 F253.l7 K y6 y8 y34 a b)) : F253.k10 K y6 y8 y34 y35 w := qq h
theorem F253.sh (h : (C.a3 (.cells #[.int .i64 0, .int .i64 0] 241) w fun a b =>
 C.q Tryz.prog 286 #[x0, x1, x2] b fun c d =>
 C.a0 0 c d fun f g =>
 C.a0 1 c g fun i j =>
 C.a3 (.cells #[.pointer none, .int .i64 0, .int .i64 0, .int .i64 0] 319) j fun k m =>
 C.ak 4 k f m fun o =>
 C.bg i o fun p q =>
 C.am p (C.ay Tryz.prog (Instr.build 241 #[]) q fun r s =>
 C.ak 2 a r s fun t =>
 C.ao 2 a t fun r10 _ =>
 K (.tuple #[r10, (.bool false)]) t) (F253.k4 K x0 x1 a k q))) : C.q Tryz.prog 253 #[x0, x1, x2] w K := q9 (A := F253.ann) (args := [x0, x1, x2]) (qq h)
namespace F286
def ann : Ann := ⟨[], [], [], [(3, (.take 1 (.take 2 (.take 3 (.take 0 (.take 4 (.take 5 (.take 6 (.take 7 (.take 8 (.take 9 (.go 10 (.take 11 (.take 12 (.go 13 (.take 14 .fin) .fin))) .fin))))))))))))], none⟩
end F286
theorem F286.sh (h : (C.a3 (.cells #[.pointer none, .int .i64 0, .int .i64 0, .int .i64 0] 319) w fun a b =>
 C.q Tryz.prog 263 #[x2] b fun c d =>
 C.ay Tryz.prog (Instr.build 319 #[(0, x0), (1, x1), (2, x2), (3, c)]) d fun f g =>
 C.a3 (.cells #[.pointer none, .int .i64 0, .int .i64 0, .int .i64 0] 319) g fun i j =>
 C.ak 4 i f j fun k =>
 C.q Tryz.prog 177 #[x1, (.int .i64 1)] k fun m o =>
 C.a0 0 m o fun p q =>
 C.a0 1 m q fun r s =>
 C.a0 2 m s fun t u =>
 C.a9 u fun S v =>
 C.i true t (fun K => C.ab 3 i v K) v fun x y =>
 C.bm S 4 i y fun z aa =>
 C.i true t (fun K => C.ap S x aa K) aa fun ab ac =>
 C.i true t (fun K => C.aj .gtr ab (.int .i64 0) ac K) ac fun ad ae =>
 C.a2 (some t) (some ad) (some (.bool false)) ae fun af ag =>
 C.i true af (fun K => K r ag) ag fun ah ai =>
 C.i true af (fun K => K x0 ai) ai fun aj ak =>
 (C.i true af (fun K => C.q Tryz.prog 308 #[aj] ak K) ak fun al am =>
 (S am ∧
 C.i true af (fun K => C.aj .lss ah al am K) am fun an ao =>
 C.a2 (some af) (some an) (some (.bool false)) ao fun ap aq =>
 (C.ak 4 a z aq fun ar =>
 (S ar ∧
 C.ao 4 a ar fun r22 _ =>
 K (.tuple #[r22, ap]) ar)) ∧ True)) ∧ True)) : C.q Tryz.prog 286 #[x0, x1, x2] w K := q9 (A := F286.ann) (args := [x0, x1, x2]) (qq h)

theorem F287.sh (h : (C.a3 (.cells (Value.cells x0) 319) w fun a b =>
 C.aj .geq x1 (.int .i64 0) b fun c d =>
 C.i true c (fun K => K x1 d) d fun f g =>
 C.i true c (fun K => C.ab 3 a g K) g fun i j =>
 C.i true c (fun K => C.ai i j K) j fun k m =>
 C.i true c (fun K => C.aj .lss f k m K) m fun o p =>
 C.a2 (some c) (some o) (some (.bool false)) p fun q r =>
 K q r)) : C.q Tryz.prog 287 #[x0, x1] w K := q9 (A := A0) (args := [x0, x1]) (qq h)
namespace F288
def ann : Ann := ⟨[(5, [8])], [], [], [], none⟩
def code := cd Tryz.f288
def top := tp Tryz.f288
variable (K : VK) (y8 : Value) (w : World)
def k5 : Prop := nk ann 37 [(8, y8)] w [1, 1, 1, 1] code (top K)
attribute [irreducible] k5
end F288
theorem F288.k5.to (h : (C.aj .sub (.int .i64 (-1)) y8 w fun a b =>
 K (.tuple #[a, (.bool true)]) b)) : F288.k5 K y8 w := qq h
theorem F288.sh (h : (C.a3 (.cells (Value.cells x0) 319) w fun a b =>
 C.ab 1 a b fun c d =>
 C.ai c d fun f g =>
 C.ab 2 a g fun i j =>
 C.ai i j fun k m =>
 C.q Tryz.prog 249 #[f, k, x1] m fun o p =>
 C.a0 0 o p fun q r =>
 C.a0 1 o r fun s t =>
 C.ab 0 a t fun u v =>
 C.ai u v fun x y =>
 C.q Tryz.prog 257 #[x, q] y fun z aa =>
 C.a0 0 z aa fun ab ac =>
 C.a0 1 z ac fun ad ae =>
 C.aj .geq ab (.int .i64 0) ae fun af ag =>
 C.i false af (fun K => K ab ag) ag fun ah ai =>
 C.i false af (fun K => C.ab 3 a ai K) ai fun aj ak =>
 C.i false af (fun K => C.ai aj ak K) ak fun al am =>
 C.i false af (fun K => C.aj .sub (.int .i64 (-1)) al am K) am fun an ao =>
 C.i false af (fun K => C.aj .lss ah an ao K) ao fun ap aq =>
 C.a2 (some af) (some (.bool true)) (some ap) aq fun ar au =>
 C.am ar (K (.tuple #[(.int .i64 0), (.bool false)]) au) (F288.k5 K ab au))) : C.q Tryz.prog 288 #[x0, x1] w K := q9 (A := F288.ann) (args := [x0, x1]) (qq h)

theorem F289.sh (h : (C.a3 (.cells (Value.cells x0) 319) w fun a b =>
 C.ab 1 a b fun c d =>
 C.ai c d fun f g =>
 C.ab 2 a g fun i j =>
 C.ai i j fun k m =>
 C.q Tryz.prog 249 #[f, k, x1] m fun o p =>
 C.a0 0 o p fun q r =>
 C.a0 1 o r fun s t =>
 C.ab 0 a t fun u v =>
 C.ai u v fun x y =>
 C.aj .sub (.int .i64 (-1)) x2 y fun z aa =>
 C.q Tryz.prog 247 #[x, q, z] aa fun ab ac =>
 K (.tuple #[]) ac)) : C.q Tryz.prog 289 #[x0, x1, x2] w K := q9 (A := A0) (args := [x0, x1, x2]) (qq h)
namespace F344
def ann : Ann := ⟨[(4, [4, 8, 10, 12])], [], [], [], none⟩
def code := cd Tryz.f344
def top := tp Tryz.f344
variable (K : VK) (y4 y8 y10 y12 : Value) (w : World)
def k4 : Prop := nk ann 64 [(4, y4), (8, y8), (10, y10), (12, y12)] w [1, 1, 1] code (top K)
attribute [irreducible] k4
end F344
theorem F344.k4.to (h : (C.ao 4 y12 w fun a b =>
 C.ab 0 y8 b fun c d =>
 C.ai c d fun f g =>
 C.q Tryz.prog 289 #[a, y4, f] g fun i j =>
 C.ab 1 y8 j fun k m =>
 C.ai k m fun o p =>
 C.aj .add o (.int .i64 1) p fun q r =>
 C.ay Tryz.prog (Instr.build 241 #[(0, y4), (1, q)]) r fun s t =>
 C.ak 2 y10 s t fun u =>
 C.ao 2 y10 u fun r10 _ =>
 K (.tuple #[r10, (.bool true)]) u)) : F344.k4 K y4 y8 y10 y12 w := qq h
theorem F344.sh (h : (C.a3 (.cells (Value.cells x3) 241) w fun a b =>
 C.a3 (.cells #[.int .i64 0, .int .i64 0] 241) b fun c d =>
 C.q Tryz.prog 286 #[x0, x1, x2] d fun f g =>
 C.a0 0 f g fun i j =>
 C.a0 1 f j fun k m =>
 C.a3 (.cells #[.pointer none, .int .i64 0, .int .i64 0, .int .i64 0] 319) m fun o p =>
 C.ak 4 o i p fun q =>
 C.bg k q fun r s =>
 C.i false r (fun K => C.ao 4 o s K) s fun t u =>
 C.i false r (fun K => K x4 u) u fun v x =>
 C.i false r (fun K => C.q Tryz.prog 287 #[t, v] x K) x fun y z =>
 C.i false r (fun K => C.bg y z K) z fun aa ab =>
 C.a2 (some r) (some (.bool true)) (some aa) ab fun ac ad =>
 C.i false ac (fun K => C.ab 1 a ad K) ad fun ae af =>
 C.i false ac (fun K => C.ai ae af K) af fun ag ah =>
 C.i false ac (fun K => C.aj .lss ag (.int .i64 0) ah K) ah fun ai aj =>
 C.a2 (some ac) (some (.bool true)) (some ai) aj fun ak al =>
 C.i false ak (fun K => C.ab 1 a al K) al fun am an =>
 C.i false ak (fun K => C.ai am an K) an fun ao ap =>
 C.i false ak (fun K => C.ab 3 o ap K) ap fun aq ar =>
 C.i false ak (fun K => C.ai aq ar K) ar fun au av =>
 C.i false ak (fun K => C.aj .geq ao au av K) av fun aw ax =>
 C.a2 (some ak) (some (.bool true)) (some aw) ax fun ay az =>
 C.i false ay (fun K => C.ab 0 a az K) az fun ba bb =>
 C.i false ay (fun K => C.ai ba bb K) bb fun bc bd =>
 C.i false ay (fun K => C.aj .lss bc (.int .i64 0) bd K) bd fun be bf =>
 C.a2 (some ay) (some (.bool true)) (some be) bf fun bg bh =>
 C.i false bg (fun K => C.ab 0 a bh K) bh fun bi bj =>
 C.i false bg (fun K => C.ai bi bj K) bj fun bk bl =>
 C.i false bg (fun K => C.ab 3 o bl K) bl fun bm bn =>
 C.i false bg (fun K => C.ai bm bn K) bn fun bo bp =>
 C.i false bg (fun K => C.aj .gtr bk bo bp K) bp fun bq br =>
 C.a2 (some bg) (some (.bool true)) (some bq) br fun bs bt =>
 C.am bs (C.ay Tryz.prog (Instr.build 241 #[]) bt fun bu bv =>
 C.ak 2 c bu bv fun bw =>
 C.ao 2 c bw fun r36 _ =>
 K (.tuple #[r36, (.bool false)]) bw) (F344.k4 K x4 a c o bt))) : C.q Tryz.prog 344 #[x0, x1, x2, x3, x4] w K := q9 (A := F344.ann) (args := [x0, x1, x2, x3, x4]) (qq h)

theorem F112.sh (h : (C.q Tryz.prog 170 #[x0] w fun a b =>
 C.q Tryz.prog 171 #[a] b fun c d =>
 C.bk c d fun f g =>
 C.aj .mul f (.int .i64 32) g fun i j =>
 C.ay Tryz.prog (Instr.build 237 #[(0, a)]) j fun k m =>
 C.q Tryz.prog 172 #[i] m fun o p =>
 C.q Tryz.prog 116 #[i] p fun q r =>
 C.ay Tryz.prog (Instr.build 244 #[(0, k), (1, o), (3, q)]) r fun s t =>
 C.a3 (.cells (Value.cells s) 244) t fun u v =>
 K u v)) : C.q Tryz.prog 112 #[x0] w K := q9 (A := A0) (args := [x0]) (qq h)
namespace F114
def ann : Ann := ⟨[(3, [0])], [], [], [], none⟩
def code := cd Tryz.f114
def top := tp Tryz.f114
variable (K : VK) (y0 : Value) (w : World)
def k3 : Prop := nk ann 11 [(0, y0)] w [1, 1] code (top K)
attribute [irreducible] k3
end F114
theorem F114.k3.to (h : (C.ad y0 w fun a b =>
 C.ab 0 a b fun c d =>
 C.ao 1 c d fun f g =>
 C.q Tryz.prog 174 #[f] g fun i j =>
 K i j)) : F114.k3 K y0 w := qq h
theorem F114.sh (h : (C.q Tryz.prog 173 #[x0] w fun a b =>
 C.bg a b fun c d =>
 C.am c (K (.int .i64 0) d) (F114.k3 K x0 d))) : C.q Tryz.prog 114 #[x0] w K := q9 (A := F114.ann) (args := [x0]) (qq h)
namespace F119
def ann : Ann := ⟨[(3, [0, 1]), (6, [0, 1, 6])], [], [], [], none⟩
def code := cd Tryz.f119
def top := tp Tryz.f119
variable (K : VK) (y0 y1 y6 : Value) (w : World)
def k3 : Prop := nk ann 48 [(0, y0), (1, y1)] w [1, 1] code (top K)
def k6 : Prop := nk ann 48 [(0, y0), (1, y1), (6, y6)] w [1, 1, 1, 1] code (top K)
attribute [irreducible] k3 k6
end F119
theorem F119.k3.to (h : (C.ad y0 w fun a b =>
 C.ab 0 a b fun c d =>
 C.ab 0 c d fun f g =>
 C.ai f g fun i j =>
 C.q Tryz.prog 176 #[i, y1] j fun k m =>
 C.a0 0 k m fun o p =>
 C.a0 1 k p fun q r =>
 C.bg q r fun s t =>
 C.am s (K (.tuple #[(.int .i64 0), (.bool false)]) t) (F119.k6 K y0 y1 o t))) : F119.k3 K y0 y1 w := qq h
theorem F119.k6.to (h : (C.q Tryz.prog 177 #[y6, y1] w fun a b =>
 C.a0 0 a b fun c d =>
 C.a0 1 a d fun f g =>
 C.a0 2 a g fun i j =>
 C.ad y0 j fun k m =>
 C.ab 130 k m fun o p =>
 C.ai o p fun q r =>
 C.q Tryz.prog 178 #[q, c] r fun s t =>
 C.ad y0 t fun u v =>
 C.ab 1 u v fun x y =>
 C.ai x y fun z aa =>
 C.aj .mul y1 (.int .i64 32) aa fun ab ac =>
 C.q Tryz.prog 179 #[z, c, ab, (.int .i64 0)] ac fun ad ae =>
 K (.tuple #[c, (.bool true)]) ae)) : F119.k6 K y0 y1 y6 w := qq h
theorem F119.sh (h : (C.q Tryz.prog 173 #[x0] w fun a b =>
 C.bg a b fun c d =>
 C.am c (K (.tuple #[(.int .i64 0), (.bool false)]) d) (F119.k3 K x0 x1 d))) : C.q Tryz.prog 119 #[x0, x1] w K := q9 (A := F119.ann) (args := [x0, x1]) (qq h)
namespace F130
def ann : Ann := ⟨[(3, [0])], [], [], [], none⟩
def code := cd Tryz.f130
def top := tp Tryz.f130
variable (K : VK) (y0 : Value) (w : World)
def k3 : Prop := nk ann 11 [(0, y0)] w [1, 1] code (top K)
attribute [irreducible] k3
end F130
theorem F130.k3.to (h : (C.ad y0 w fun a b =>
 C.ab 130 a b fun c d =>
 C.ai c d fun f g =>
 C.q Tryz.prog 202 #[f] g fun i j =>
 K i j)) : F130.k3 K y0 w := qq h
theorem F130.sh (h : (C.q Tryz.prog 173 #[x0] w fun a b =>
 C.bg a b fun c d =>
 C.am c (K (.slice none 0 0) d) (F130.k3 K x0 d))) : C.q Tryz.prog 130 #[x0] w K := q9 (A := F130.ann) (args := [x0]) (qq h)

theorem F173.sh (h : (C.bi Tryz.prog .neq 166 (.tmp 3) (.const (.pointer none)) x0 (.pointer none) w fun a b =>
 C.i true a (fun K => K x0 b) b fun c d =>
 C.i true a (fun K => C.ad c d K) d fun f g =>
 C.i true a (fun K => C.ab 1 f g K) g fun i j =>
 C.i true a (fun K => C.ai i j K) j fun k m =>
 C.i true a (fun K => C.bi Tryz.prog .neq 238 (.tmp 9) (.const (.pointer none)) k (.pointer none) m K) m fun o p =>
 C.a2 (some a) (some o) (some (.bool false)) p fun q r =>
 K q r)) : C.q Tryz.prog 173 #[x0] w K := q9 (A := A0) (args := [x0]) (qq h)

theorem F174.sh (h : (C.a3 (.cells (Value.cells x0) 237) w fun a b =>
 C.ab 0 a b fun c d =>
 C.ai c d fun f g =>
 C.q Tryz.prog 241 #[f] g fun i j =>
 K i j)) : C.q Tryz.prog 174 #[x0] w K := q9 (A := A0) (args := [x0]) (qq h)

theorem F181.sh (h : (C.q Tryz.prog 246 #[x0, x1] w fun a b =>
 C.aj .geq a (.int .i64 0) b fun c d =>
 C.i true c (fun K => K x0 d) d fun f g =>
 C.i true c (fun K => C.ad f g K) g fun i j =>
 C.i true c (fun K => C.ab 1 i j K) j fun k m =>
 C.i true c (fun K => C.ai k m K) m fun o p =>
 C.i true c (fun K => K x1 p) p fun q r =>
 C.i true c (fun K => K x2 r) r fun s t =>
 C.i true c (fun K => C.q Tryz.prog 247 #[o, q, s] t K) t fun u v =>
 C.a2 (some c) (some u) (some (.bool false)) v fun x y =>
 K x y)) : C.q Tryz.prog 181 #[x0, x1, x2] w K := q9 (A := A0) (args := [x0, x1, x2]) (qq h)
namespace F183
def ann : Ann := ⟨[(3, [0, 1]), (5, [0, 1, 6, 7, 8])], [], [], [(4, (.take 0 (.take 1 (.take 2 (.take 4 (.take 5 (.take 6 (.take 7 (.take 8 (.take 9 (.take 10 (.take 3 (.take 11 (.go 12 (.take 13 (.take 14 (.take 15 (.take 16 (.go 17 (.take 18 (.go 19 (.take 20 .fin) .fin)) .fin))))) (.go 17 (.go 12 (.take 13 (.take 14 (.take 15 (.take 16 (.take 18 (.go 19 (.take 20 .fin) .fin)))))) .fin) .fin))))))))))))))), (6, (.take 0 (.take 1 (.take 3 (.take 4 (.take 2 (.take 5 (.go 6 .fin .fin)))))))), (8, (.take 0 (.take 1 (.take 2 (.take 4 (.take 5 (.take 3 (.go 6 (.go 7 .fin .fin) .fin))))))))], none⟩
def code := cd Tryz.f183
def top := tp Tryz.f183
variable (K : VK) (y0 y1 y6 y7 y8 : Value) (w : World)
def k3 : Prop := nk ann 64 [(0, y0), (1, y1)] w [1, 1] code (top K)
def k5 : Prop := nk ann 64 [(0, y0), (1, y1), (6, y6), (7, y7), (8, y8)] w [1, 1, 1, 1] code (top K)
attribute [irreducible] k3 k5
end F183
theorem F183.k3.to (h : (C.q Tryz.prog 186 #[y0, y1] w fun a b =>
 C.a9 b fun S c =>
 C.ad y0 c fun d f =>
 C.ab 1 d f fun g i =>
 C.ad y0 i fun j k =>
 C.ab 2 j k fun m o =>
 C.bt 64 2 m y1 o fun p q =>
 C.ap S g q fun r s =>
 C.bm S 2 p s fun t u =>
 (C.q Tryz.prog 248 #[r, y1, a, t] u fun v x =>
 (S x ∧
 C.a0 0 v x fun y z =>
 C.a0 1 v z fun aa ab =>
 C.a0 2 v ab fun ac ad =>
 (C.a3 (.cells #[.int .i64 0, .int .i64 0] 241) ad fun ae af =>
 (S af ∧
 (C.ak 2 ae aa af fun ag =>
 (S ag ∧
 F183.k5 K y0 y1 a y ae ag)) ∧ True)) ∧ True)) ∧ ((C.a3 (.cells #[.int .i64 0, .int .i64 0] 241) u fun ah ai =>
 (S ai ∧
 (C.q Tryz.prog 248 #[r, y1, a, t] ai fun aj ak =>
 (S ak ∧
 C.a0 0 aj ak fun al am =>
 C.a0 1 aj am fun an ao =>
 C.a0 2 aj ao fun ap aq =>
 (C.ak 2 ah an aq fun ar =>
 (S ar ∧
 F183.k5 K y0 y1 a al ah ar)) ∧ True)) ∧ True)) ∧ True))) : F183.k3 K y0 y1 w := qq h
theorem F183.k5.to (h : (C.q Tryz.prog 249 #[y1, y6, y7] w fun a b =>
 C.a0 0 a b fun c d =>
 C.a0 1 a d fun f g =>
 C.a9 g fun S i =>
 C.ad y0 i fun j k =>
 C.ab 2 j k fun m o =>
 C.bm S 2 y8 o fun p q =>
 C.bt 64 2 m y1 q fun r s =>
 (C.ak 2 r p s fun t =>
 (S t ∧
 C.ad y0 t fun u v =>
 C.ab 130 u v fun x y =>
 C.ai x y fun z aa =>
 C.q Tryz.prog 178 #[z, c] aa fun ab ac =>
 C.a9 ac fun S ad =>
 C.ad y0 ad fun ae af =>
 C.ab 1 ae af fun ag ah =>
 C.ap S ag ah fun ai aj =>
 (C.q Tryz.prog 175 #[y6] aj fun ak al =>
 (S al ∧
 (C.q Tryz.prog 179 #[ai, c, ak, (.int .i64 0)] al fun am an =>
 (S an ∧
 K (.tuple #[c, (.bool true)]) an)) ∧ True)) ∧ True)) ∧ True)) : F183.k5 K y0 y1 y6 y7 y8 w := qq h
theorem F183.sh (h : (C.q Tryz.prog 187 #[x0, x1] w fun a b =>
 C.aj .eql a (.int .i64 0) b fun c d =>
 C.am c (K (.tuple #[(.int .i64 0), (.bool false)]) d) (F183.k3 K x0 x1 d))) : C.q Tryz.prog 183 #[x0, x1] w K := q9 (A := F183.ann) (args := [x0, x1]) (qq h)
namespace F186
def ann : Ann := ⟨[(3, [0, 1])], [], [], [], none⟩
def code := cd Tryz.f186
def top := tp Tryz.f186
variable (K : VK) (y0 y1 : Value) (w : World)
def k3 : Prop := nk ann 14 [(0, y0), (1, y1)] w [1, 1] code (top K)
attribute [irreducible] k3
end F186
theorem F186.k3.to (h : (C.ad y0 w fun a b =>
 C.ab 0 a b fun c d =>
 C.ao 1 c d fun f g =>
 C.q Tryz.prog 250 #[f, y1] g fun i j =>
 K i j)) : F186.k3 K y0 y1 w := qq h
theorem F186.sh (h : (C.q Tryz.prog 173 #[x0] w fun a b =>
 C.bg a b fun c d =>
 C.am c (K (.int .i64 (-1)) d) (F186.k3 K x0 x1 d))) : C.q Tryz.prog 186 #[x0, x1] w K := q9 (A := F186.ann) (args := [x0, x1]) (qq h)
namespace F187
def ann : Ann := ⟨[(3, [0, 1])], [], [], [], none⟩
def code := cd Tryz.f187
def top := tp Tryz.f187
variable (K : VK) (y0 y1 : Value) (w : World)
def k3 : Prop := nk ann 16 [(0, y0), (1, y1)] w [1, 1] code (top K)
attribute [irreducible] k3
end F187
theorem F187.k3.to (h : (C.ad y0 w fun a b =>
 C.ab 2 a b fun c d =>
 C.bt 64 2 c y1 d fun f g =>
 C.ab 1 f g fun i j =>
 C.ai i j fun k m =>
 K k m)) : F187.k3 K y0 y1 w := qq h
theorem F187.sh (h : (C.q Tryz.prog 251 #[x0, x1] w fun a b =>
 C.bg a b fun c d =>
 C.am c (K (.int .i64 0) d) (F187.k3 K x0 x1 d))) : C.q Tryz.prog 187 #[x0, x1] w K := q9 (A := F187.ann) (args := [x0, x1]) (qq h)
namespace F188
def ann : Ann := ⟨[(3, [0, 1]), (6, [6, 7])], [], [], [(5, (.take 0 (.take 1 (.take 2 (.take 3 (.take 4 (.take 6 (.take 7 (.take 12 (.take 13 (.go 5 (.go 8 (.take 9 (.take 10 (.take 11 (.take 14 (.go 15 .fin .fin))))) .fin) .fin)))))))))))], none⟩
def code := cd Tryz.f188
def top := tp Tryz.f188
variable (K : VK) (y0 y1 y6 y7 : Value) (w : World)
def k3 : Prop := nk ann 39 [(0, y0), (1, y1)] w [1, 1] code (top K)
def k6 : Prop := nk ann 39 [(6, y6), (7, y7)] w [1, 1, 1, 1] code (top K)
attribute [irreducible] k3 k6
end F188
theorem F188.k3.to (h : (C.ad y0 w fun a b =>
 C.ab 0 a b fun c d =>
 C.ab 0 c d fun f g =>
 C.ai f g fun i j =>
 C.q Tryz.prog 252 #[i, y1] j fun k m =>
 C.a0 0 k m fun o p =>
 C.a0 1 k p fun q r =>
 C.am q (C.a9 r fun S s =>
 C.ad y0 s fun t u =>
 C.ab 1 t u fun v x =>
 C.ad y0 x fun y z =>
 C.ab 2 y z fun aa ab =>
 (C.ai v ab fun ac ad =>
 (S ad ∧
 (C.q Tryz.prog 253 #[ac, o, y1] ad fun ae af =>
 (S af ∧
 C.a0 0 ae af fun ag ah =>
 C.a0 1 ae ah fun ai aj =>
 C.bt 64 2 aa o aj fun ak al =>
 (C.ak 2 ak ag al fun am =>
 (S am ∧
 F188.k6 K o q am)) ∧ True)) ∧ True)) ∧ True) (F188.k6 K o q r))) : F188.k3 K y0 y1 w := qq h
theorem F188.k6.to (h : (K (.tuple #[y6, y7]) w)) : F188.k6 K y6 y7 w := qq h
theorem F188.sh (h : (C.q Tryz.prog 173 #[x0] w fun a b =>
 C.bg a b fun c d =>
 C.am c (K (.tuple #[(.int .i64 0), (.bool false)]) d) (F188.k3 K x0 x1 d))) : C.q Tryz.prog 188 #[x0, x1] w K := q9 (A := F188.ann) (args := [x0, x1]) (qq h)

theorem F197.sh (h : (C.q Tryz.prog 173 #[x0] w fun a b =>
 C.i true a (fun K => K x0 b) b fun c d =>
 C.i true a (fun K => C.ad c d K) d fun f g =>
 C.i true a (fun K => C.ab 130 f g K) g fun i j =>
 C.i true a (fun K => C.ai i j K) j fun k m =>
 C.i true a (fun K => K x1 m) m fun o p =>
 C.i true a (fun K => C.q Tryz.prog 244 #[k, o] p K) p fun q r =>
 C.a2 (some a) (some q) (some (.bool false)) r fun s t =>
 K s t)) : C.q Tryz.prog 197 #[x0, x1] w K := q9 (A := A0) (args := [x0, x1]) (qq h)
namespace F198
def ann : Ann := ⟨[(3, [0, 1])], [], [], [], none⟩
def code := cd Tryz.f198
def top := tp Tryz.f198
variable (K : VK) (y0 y1 : Value) (w : World)
def k3 : Prop := nk ann 17 [(0, y0), (1, y1)] w [1, 1] code (top K)
attribute [irreducible] k3
end F198
theorem F198.k3.to (h : (C.ad y0 w fun a b =>
 C.ab 1 a b fun c d =>
 C.ai c d fun f g =>
 C.q Tryz.prog 257 #[f, y1] g fun i j =>
 C.a0 0 i j fun k m =>
 C.a0 1 i m fun o p =>
 K (.tuple #[k, o]) p)) : F198.k3 K y0 y1 w := qq h
theorem F198.sh (h : (C.q Tryz.prog 173 #[x0] w fun a b =>
 C.bg a b fun c d =>
 C.am c (K (.tuple #[(.int .i64 0), (.bool false)]) d) (F198.k3 K x0 x1 d))) : C.q Tryz.prog 198 #[x0, x1] w K := q9 (A := F198.ann) (args := [x0, x1]) (qq h)
namespace F212
def ann : Ann := ⟨[(3, [0, 1])], [], [], [], none⟩
def code := cd Tryz.f212
def top := tp Tryz.f212
variable (K : VK) (y0 y1 : Value) (w : World)
def k3 : Prop := nk ann 26 [(0, y0), (1, y1)] w [1, 1] code (top K)
attribute [irreducible] k3
end F212
theorem F212.k3.to (h : (C.ad y0 w fun a b =>
 C.ab 0 a b fun c d =>
 C.ab 0 c d fun f g =>
 C.ai f g fun i j =>
 C.q Tryz.prog 264 #[i, y1] j fun k m =>
 K (.bool true) m)) : F212.k3 K y0 y1 w := qq h
theorem F212.sh (h : (C.q Tryz.prog 251 #[x0, x1] w fun a b =>
 C.bg a b fun c d =>
 C.i false c (fun K => K x0 d) d fun f g =>
 C.i false c (fun K => K x1 g) g fun i j =>
 C.i false c (fun K => C.q Tryz.prog 187 #[f, i] j K) j fun k m =>
 C.i false c (fun K => K x0 m) m fun o p =>
 C.i false c (fun K => K x1 p) p fun q r =>
 C.i false c (fun K => C.q Tryz.prog 186 #[o, q] r K) r fun s t =>
 C.i false c (fun K => C.q Tryz.prog 263 #[s] t K) t fun u v =>
 C.i false c (fun K => C.aj .lss k u v K) v fun x y =>
 C.a2 (some c) (some (.bool true)) (some x) y fun z aa =>
 C.am z (K (.bool false) aa) (F212.k3 K x0 x1 aa))) : C.q Tryz.prog 212 #[x0, x1] w K := q9 (A := F212.ann) (args := [x0, x1]) (qq h)
namespace F246
def ann : Ann := ⟨[(3, [0, 1]), (8, [0, 6]), (10, [6])], [], [], [], none⟩
def code := cd Tryz.f246
def top := tp Tryz.f246
variable (K : VK) (y0 y1 y6 : Value) (w : World)
def k3 : Prop := nk ann 42 [(0, y0), (1, y1)] w [1, 1] code (top K)
def k8 : Prop := nk ann 42 [(0, y0), (6, y6)] w [1, 1, 1, 1, 1] code (top K)
def k10 : Prop := nk ann 42 [(6, y6)] w [1, 1, 1, 1, 1, 1] code (top K)
attribute [irreducible] k3 k8 k10
end F246
theorem F246.k3.to (h : (C.q Tryz.prog 272 #[y1] w fun a b =>
 C.q Tryz.prog 186 #[y0, a] b fun c d =>
 C.q Tryz.prog 284 #[c, y1] d fun f g =>
 C.ad y0 g fun i j =>
 C.ab 0 i j fun k m =>
 C.ab 0 k m fun o p =>
 C.ai o p fun q r =>
 C.q Tryz.prog 285 #[q, a] r fun s t =>
 C.aj .lss f (.int .i64 0) t fun u v =>
 C.i true u (fun K => K s v) v fun x y =>
 C.i true u (fun K => C.aj .geq x (.int .i64 0) y K) y fun z aa =>
 C.a2 (some u) (some z) (some (.bool false)) aa fun ab ac =>
 C.am ab (C.q Tryz.prog 177 #[s, (.int .i64 1)] ac fun ad ae =>
 C.a0 0 ad ae fun af ag =>
 C.a0 1 ad ag fun ah ai =>
 C.a0 2 ad ai fun aj ak =>
 F246.k8 K y0 af ak) (F246.k8 K y0 f ac))) : F246.k3 K y0 y1 w := qq h
theorem F246.k8.to (h : (C.q Tryz.prog 197 #[y0, y6] w fun a b =>
 C.bg a b fun c d =>
 C.am c (K (.int .i64 (-1)) d) (F246.k10 K y6 d))) : F246.k8 K y0 y6 w := qq h
theorem F246.k10.to (h : (K y6 w)) : F246.k10 K y6 w := qq h
theorem F246.sh (h : (C.q Tryz.prog 173 #[x0] w fun a b =>
 C.bg a b fun c d =>
 C.am c (K (.int .i64 (-1)) d) (F246.k3 K x0 x1 d))) : C.q Tryz.prog 246 #[x0, x1] w K := q9 (A := F246.ann) (args := [x0, x1]) (qq h)

theorem F250.sh (h : (C.a3 (.cells (Value.cells x0) 237) w fun a b =>
 C.ab 0 a b fun c d =>
 C.ai c d fun f g =>
 C.q Tryz.prog 283 #[f, x1] g fun i j =>
 K i j)) : C.q Tryz.prog 250 #[x0, x1] w K := q9 (A := A0) (args := [x0, x1]) (qq h)

theorem F251.sh (h : (C.q Tryz.prog 186 #[x0, x1] w fun a b =>
 C.q Tryz.prog 175 #[a] b fun c d =>
 C.aj .gtr c (.int .i64 0) d fun f g =>
 K f g)) : C.q Tryz.prog 251 #[x0, x1] w K := q9 (A := A0) (args := [x0, x1]) (qq h)
namespace F338
def ann : Ann := ⟨[(3, [0, 1]), (9, [0, 1, 5, 6]), (11, [])], [], [], [(10, (.take 0 (.take 1 (.take 2 (.take 3 (.take 4 (.take 6 (.take 7 (.take 8 (.take 9 (.take 10 (.take 11 (.take 12 (.take 14 (.take 19 (.take 20 (.go 5 (.go 13 (.go 15 (.take 16 (.take 17 (.take 18 (.take 21 (.go 22 .fin .fin))))) .fin) .fin) (.go 13 (.go 5 (.go 15 (.take 16 (.take 17 (.take 18 (.take 21 (.go 22 .fin .fin))))) .fin) .fin) .fin))))))))))))))))))], none⟩
def code := cd Tryz.f338
def top := tp Tryz.f338
variable (K : VK) (y0 y1 y5 y6 : Value) (w : World)
def k3 : Prop := nk ann 61 [(0, y0), (1, y1)] w [1, 1] code (top K)
def k9 : Prop := nk ann 61 [(0, y0), (1, y1), (5, y5), (6, y6)] w [1, 1, 1, 1, 1, 1] code (top K)
def k11 : Prop := nk ann 61 [] w [1, 1, 1, 1, 1, 1, 1, 1] code (top K)
attribute [irreducible] k3 k9 k11
end F338
theorem F338.k3.to (h : (C.ad y0 w fun a b =>
 C.ab 130 a b fun c d =>
 C.ai c d fun f g =>
 C.q Tryz.prog 337 #[f, y1] g fun i j =>
 C.q Tryz.prog 272 #[y1] j fun k m =>
 C.q Tryz.prog 186 #[y0, k] m fun o p =>
 C.aj .eql o (.int .i64 5) p fun q r =>
 C.am q (C.ad y0 r fun s t =>
 C.ab 0 s t fun u v =>
 C.ab 0 u v fun x y =>
 C.ai x y fun z aa =>
 C.q Tryz.prog 264 #[z, k] aa fun ab ac =>
 K (.bool true) ac) (F338.k9 K y0 y1 k o r))) : F338.k3 K y0 y1 w := qq h
theorem F338.k9.to (h : (C.q Tryz.prog 343 #[y6, y1] w fun a b =>
 C.a0 0 a b fun c d =>
 C.a0 1 a d fun f g =>
 C.a9 g fun S i =>
 C.ad y0 i fun j k =>
 C.ab 1 j k fun m o =>
 C.ad y0 o fun p q =>
 C.ab 2 p q fun r s =>
 C.bt 64 2 r y5 s fun t u =>
 C.ad y0 u fun v x =>
 C.ab 2 v x fun y z =>
 (C.ai m z fun aa ab =>
 (S ab ∧
 (C.ao 2 t ab fun ac ad =>
 (S ad ∧
 (C.q Tryz.prog 344 #[aa, y5, y6, ac, c] ad fun ae af =>
 (S af ∧
 C.a0 0 ae af fun ag ah =>
 C.a0 1 ae ah fun ai aj =>
 C.bt 64 2 y y5 aj fun ak al =>
 (C.ak 2 ak ag al fun am =>
 (S am ∧
 F338.k11 K am)) ∧ True)) ∧ True)) ∧ True)) ∧ ((C.ao 2 t z fun an ao =>
 (S ao ∧
 (C.ai m ao fun ap aq =>
 (S aq ∧
 (C.q Tryz.prog 344 #[ap, y5, y6, an, c] aq fun ar au =>
 (S au ∧
 C.a0 0 ar au fun av aw =>
 C.a0 1 ar aw fun ax ay =>
 C.bt 64 2 y y5 ay fun az ba =>
 (C.ak 2 az av ba fun bb =>
 (S bb ∧
 F338.k11 K bb)) ∧ True)) ∧ True)) ∧ True)) ∧ True))) : F338.k9 K y0 y1 y5 y6 w := qq h
theorem F338.k11.to (h : (K (.bool true) w)) : F338.k11 K w := qq h
theorem F338.sh (h : (C.q Tryz.prog 197 #[x0, x1] w fun a b =>
 C.bg a b fun c d =>
 C.am c (K (.bool false) d) (F338.k3 K x0 x1 d))) : C.q Tryz.prog 338 #[x0, x1] w K := q9 (A := F338.ann) (args := [x0, x1]) (qq h)
end
end Go.Proofs.YtcakfaakbpdklaaGreatDoorV
namespace Go.Proofs.YtcakfaakbpdklaaGreatDoorV
open Go Go.Proofs Go.RowKit
set_option linter.unusedVariables false
set_option linter.unusedSimpArgs false
set_option maxRecDepth 10000
def clV (b : Nat) (p k : Int) : Value := .agg #[.pointer (some ⟨b, 0, none⟩), .int .i64 p, .int .i64 k, .int .i64 (qai k)]
def chV (l : Int × Int) : Value := .agg #[.int .i64 l.1, .int .i64 l.2]
theorem qei {b : Nat} {p k : Int} : ∀ v ∈ (clV b p k).cells.toList, v.oneCell' = true := by
  intro v hv
  simp only [clV, Value.cells, List.mem_cons, List.not_mem_nil, or_false] at hv
  rcases hv with rfl | rfl | rfl | rfl <;> rfl
theorem qbz {l : Int × Int} : ∀ v ∈ (chV l).cells.toList, v.oneCell' = true := by
  intro v hv
  simp only [chV, Value.cells, List.mem_cons, List.not_mem_nil, or_false] at hv
  rcases hv with rfl | rfl <;> rfl
section
variable {K : VK} {w : World} {b : Nat} {mv : Value} {m : List Int} {p k : Int}
theorem bCl (b : Nat) (p k : Int) : (Instr.build 319 #[(0, .pointer (some ⟨b, 0, none⟩)), (1, .int .i64 p), (2, .int .i64 k), (3, .int .i64 (qai k))]).run Tryz.prog w = .ok (clV b p k) w := by
  unfold clV
  generalize qai k = n
  kernel_rfl
theorem bCh (a n : Int) : (Instr.build 241 #[(0, .int .i64 a), (1, .int .i64 n)]).run Tryz.prog w = .ok (chV (a, n)) w := by kernel_rfl
theorem qsz : (Instr.build 241 #[]).run Tryz.prog w = .ok (chV (0, 0)) w := by kernel_rfl
theorem qmj (h : qat w b mv m) (hp : 0 ≤ p ∧ p < 64) (hk : ∀ w', Fr [] w w' → K (.tuple #[clV b p k, .bool (decide (qdj m p k))]) w') : C.q Tryz.prog 286 #[.pointer (some ⟨b, 0, none⟩), .int .i64 p, .int .i64 k] w K := by
  have hc := qby k
  have hle := h.le
  refine F286.sh (C.av fun x6 w1 hn1 => qjp (C.a5 (bCl b p k) (C.av fun x8 w2 hn2 => C.a1 (x := clV b p k) hn2.at_ rfl qei rfl fun w3 hu3 => qhm hp (by omega) ?_)))
  have i1 := hn1.is; have i2 := hn2.is; have z1 := hn1.sz; have z2 := hn2.sz
  have f3 : Fr [] w w3 := (hn1.fr.trans hn2.fr).then hu3.fr fun z hz => .inr (by simp only [List.mem_singleton] at hz; omega)
  simp only [C.aw, C.af, C.b0, C.b4, C.b5, C.al, Nat.zero_add]
  refine C.a4 (fun w' => w'.heap[x8]? = some (.cells #[.pointer (some ⟨b, 0, none⟩), .int .i64 p, .int .i64 k, .int .i64 (qai k)] 319 (0, 0))) fun w4 hf4 _ => ⟨hf4.at_ hu3.at_ (by simp), ?_⟩
  have f4 := f3.trans hf4
  have c8 := hf4.at_ hu3.at_ (by simp)
  have c6 : w4.heap[x6]? = some (.cells #[.pointer none, .int .i64 0, .int .i64 0, .int .i64 0] 319 (0, 0)) := hf4.at_ (hu3.fr.at_ (hn2.fr.at_ hn1.at_ (by simp)) (by simp; omega)) (by simp)
  simp only []
  refine C.bn (vs := [.pointer (some ⟨b, 0, none⟩), .int .i64 p, .int .i64 k, .int .i64 (qai k)]) (fun w' hw => ⟨_, _, _, hw, by simp, rfl⟩) (C.an (v := .int .i64 (qai k)) (fun w' hw => ⟨_, _, _, hw, rfl⟩) ?_)
  have h4 := h.keep0 f4
  have fin : ∀ ok : Bool, ok = decide (qdj m p k) → (C.ak 4 (.pointer (some ⟨x6, 0, none⟩)) (.agg [Value.pointer (some ⟨b, 0, none⟩), .int .i64 p, .int .i64 k, .int .i64 (qai k)].toArray) w4 fun w21 =>
      (w21.heap[x8]? = some (.cells #[.pointer (some ⟨b, 0, none⟩), .int .i64 p, .int .i64 k, .int .i64 (qai k)] 319 (0, 0)) ∧ C.ao 4 (.pointer (some ⟨x6, 0, none⟩)) w21 fun r22 _ => K (.tuple #[r22, .bool ok]) w21)) := fun ok e => by
    refine C.a1 (x := clV b p k) c6 rfl qei rfl fun w5 hu5 => ⟨hu5.fr.at_ c8 (by simp; omega), C.ax hu5.at_ rfl ?_⟩
    rw [e]
    exact hk w5 (f4.then hu5.fr fun z hz => .inr (by simp only [List.mem_singleton] at hz; omega))
  by_cases c1 : qai k > 0
  · simp only [C.aw, C.bl, C.al, decide_true, c1]
    refine ⟨qyk h4 ⟨c8, ?_⟩, trivial⟩
    simp only [C.au]
    refine ⟨fin _ (decide_eq_decide.2 ?_), trivial⟩
    unfold qdj
    omega
  · simp only [C.ar, C.bl, C.bf, decide_false, c1]
    refine ⟨⟨c8, fin false (decide_eq_false ?_).symm, trivial⟩, trivial⟩
    unfold qdj
    omega
theorem quc {i : Int} (hk : ∀ w', Fr [] w w' → K (.bool (decide (0 ≤ i ∧ i < qai k))) w') : C.q Tryz.prog 287 #[clV b p k, .int .i64 i] w K := by
  refine F287.sh (C.av fun x2 w1 hn1 => ?_)
  by_cases c : i ≥ 0
  · simp only [C.aw, C.af, C.bc, C.al, Nat.zero_add, decide_true, c]
    refine C.ae (v := .int .i64 (qai k)) hn1.at_ rfl ?_
    simp only [C.au]
    have := hk w1 hn1.fr
    rwa [show decide (0 ≤ i ∧ i < qai k) = decide (i < qai k) from decide_eq_decide.2 (by omega)] at this
  · simp only [C.ar, C.af, C.bc, C.bf, Nat.zero_add, decide_false, c]
    have := hk w1 hn1.fr
    rwa [decide_eq_false (by omega)] at this
theorem qx0 {i : Int} (h : qat w b mv m) (hp : 0 ≤ p ∧ p < 64) (hi : 0 ≤ i ∧ i < qai k) (hk : ∀ w', Fr [] w w' → K (match qk7 m p k i with | some x => .tuple #[.int .i64 x, .bool true] | none => .tuple #[.int .i64 0, .bool false]) w') : C.q Tryz.prog 288 #[clV b p k, .int .i64 i] w K := by
  have hc := qby k
  refine F288.sh (C.av fun x2 w1 hn1 => ?_)
  have hb : w1.heap[x2]? = some (.cells #[.pointer (some ⟨b, 0, none⟩), .int .i64 p, .int .i64 k, .int .i64 (qai k)] 319 (0, 0)) := hn1.at_
  simp only [C.af, Nat.zero_add]
  refine C.ae (v := .int .i64 p) hb rfl (C.ae (v := .int .i64 k) hb rfl (qol hp hi ?_))
  simp only [C.a7, C.a8]
  refine C.ae (v := .pointer (some ⟨b, 0, none⟩)) hb rfl (qp0 (h.keep0 hn1.fr) fun ok => ?_)
  have hk := hk w1 hn1.fr
  unfold qk7 at hk
  have hx := qha (a := (gAt p k i).1) h
  generalize qc0 m (gAt p k i).1 = x at *
  simp only [C.bc, C.a7, C.a8] at hk ⊢
  by_cases c1 : x ≥ 0
  · simp only [C.ah, C.aw, C.ba, decide_true, c1]
    rwa [if_pos (.inl c1)] at hk
  simp only [C.ar, C.al, decide_false, c1]
  refine C.ae (v := .int .i64 (qai k)) hb rfl ?_
  simp only [C.bo, C.au]
  rw [qaa (n := -1 - qai k) (by omega)]
  by_cases c2 : x < -1 - qai k
  · simp only [C.ah, decide_true, c2]
    rwa [if_pos (.inr c2)] at hk
  simp only [C.ac, decide_false, c2]
  rw [if_neg (by omega)] at hk
  refine F288.k5.to ?_
  simp only [C.bo]
  rw [qaa (n := -1 - x) (by omega)]
  exact hk
theorem qrf {i x : Int} (h : qat w b mv m) (hp : 0 ≤ p ∧ p < 64) (hi : 0 ≤ i ∧ i < qai k) (hx : -1000 ≤ x ∧ x ≤ 1000) (hk : ∀ w', Fr (qab mv) w w' → qat w' b mv (qi7 m p k i x) → K (.tuple #[]) w') :
    C.q Tryz.prog 289 #[clV b p k, .int .i64 i, .int .i64 x] w K := by
  refine F289.sh (C.av fun x2 w1 hn1 => ?_)
  have hb : w1.heap[x2]? = some (.cells #[.pointer (some ⟨b, 0, none⟩), .int .i64 p, .int .i64 k, .int .i64 (qai k)] 319 (0, 0)) := hn1.at_
  simp only [C.af, C.bo, Nat.zero_add]
  refine C.ae (v := .int .i64 p) hb rfl (C.ae (v := .int .i64 k) hb rfl (qol hp hi ?_))
  simp only [C.a7, C.a8]
  refine C.ae (v := .pointer (some ⟨b, 0, none⟩)) hb rfl ?_
  rw [qaa (n := -1 - x) (by omega)]
  exact qnv (h.keep0 hn1.fr) (by omega) fun w2 hf2 h2 => hk w2 (hn1.fr.w.trans hf2) h2
end
section
variable {K : VK} {w : World} {b : Nat} {mv : Value} {m : List Int} {p k : Int}
theorem qi8 (m : List Int) (p k : Int) : ∀ n, (qfy m p k n).length = m.length
  | 0 => rfl
  | n + 1 => by
    show (qi7 (qfy m p k n) p k n (n + 1)).length = _
    unfold qi7
    rw [qgk, qi8 m p k n]
theorem qoy {W : World} {x6 x8 : Nat} (hlt : ∀ g ∈ qab mv, g < W.heap.size) (hp : 0 ≤ p ∧ p < 64) (h8 : W.heap.size ≤ x8) (h6 : W.heap.size ≤ x6) (hne : x6 ≠ x8)
    (hk : ∀ w', Fr (qab mv) W w' → qat w' b mv (qfy m p k (qai k).toNat) → w'.heap[x8]? = some (.cells #[.pointer (some ⟨b, 0, none⟩), .int .i64 p, .int .i64 k, .int .i64 (qai k)] 319 (0, 0)) → w'.heap[x6]? = some (.cells #[.int .i64 0, .int .i64 0] 241 (0, 0)) → F253.k11 K (.pointer (some ⟨x6, 0, none⟩)) (.pointer (some ⟨x8, 0, none⟩)) w') :
    ∀ (d j : Nat) (w : World), (qai k).toNat = j + d → Fr (qab mv) W w → qat w b mv (qfy m p k j) → w.heap[x8]? = some (.cells #[.pointer (some ⟨b, 0, none⟩), .int .i64 p, .int .i64 k, .int .i64 (qai k)] 319 (0, 0)) → w.heap[x6]? = some (.cells #[.int .i64 0, .int .i64 0] 241 (0, 0)) →
      F253.l7 K (.pointer (some ⟨x6, 0, none⟩)) (.pointer (some ⟨x8, 0, none⟩)) (.int .i64 (qai k)) (.int .i64 (j : Int)) w := by
  have hc := qby k
  intro d
  induction d with
  | zero =>
    intro j w hd hf hM h8' h6'
    refine F253.l7.to ?_
    simp only [C.ac, C.au, decide_false, show ¬ ((j : Int) < qai k) by omega]
    rw [show j = (qai k).toNat by omega] at hM
    exact hk w hf hM h8' h6'
  | succ d ih =>
    intro j w hd hf hM h8' h6'
    refine F253.l7.to ?_
    simp only [C.ah, C.au, decide_true, show ((j : Int) < qai k) by omega]
    refine F253.k8.to (C.ax h8' rfl ?_)
    simp only [C.a6]
    rw [qaa (n := (j : Int) + 1) (by omega)]
    refine qrf (p := p) (k := k) (i := (j : Int)) (x := (j : Int) + 1) hM hp (by omega) (by omega) fun w1 hf1 hM1 => ?_
    refine F253.k10.to ?_
    simp only [C.a6]
    rw [qaa (n := (j : Int) + 1) (by omega), show (j : Int) + 1 = ((j + 1 : Nat) : Int) by omega]
    exact ih (j + 1) w1 (by omega) (hf.trans hf1) hM1 (hf1.at_ h8' fun hg => by have := hlt _ hg; omega) (hf1.at_ h6' fun hg => by have := hlt _ hg; omega)
theorem quk (h : qat w b mv m) (hp : 0 ≤ p ∧ p < 64) (hk : ∀ w' ok, Fr (qab mv) w w' → qat w' b mv (qc4 m p k).1 → K (.tuple #[chV (qc4 m p k).2, .bool ok]) w') :
    C.q Tryz.prog 253 #[.pointer (some ⟨b, 0, none⟩), .int .i64 p, .int .i64 k] w K := by
  have hlt := h.own.mem_lt
  refine F253.sh (C.av fun x6 w1 hn1 => qmj (h.keep0 hn1.fr) hp fun w2 hf2 => ?_)
  simp only [C.aq, C.a7, C.a8]
  refine C.av fun x8 w3 hn3 => C.a1 (x := clV b p k) hn3.at_ rfl qei rfl fun w4 hu4 => ?_
  have i1 := hn1.is; have z1 := hn1.sz; have s2 := hf2.size; have i3 := hn3.is
  have f14 : Fr [] w1 w4 := (hf2.trans hn3.fr).then hu4.fr fun z hz => .inr (by simp only [List.mem_singleton] at hz; omega)
  have f4 := hn1.fr.trans f14
  have h4 := h.keep0 f4
  have c6 := f14.at_ hn1.at_ (by simp)
  unfold qc4 at hk
  by_cases c : qdj m p k
  · rw [if_pos c] at hk
    simp only [C.ac, Bool.not_true, decide_true, c]
    have hc := qby k
    refine F253.k4.to (qhm hp (by omega) ?_)
    try simp only [C.af, C.b0, C.b4, C.b5, Nat.zero_add]
    refine qiv h4 (by omega) fun w5 hf5 h5 => ?_
    have off : ∀ z, w.heap.size ≤ z → z ∉ qab mv := fun z hz hg => by have := hlt z hg; omega
    have c8 := hf5.at_ hu4.at_ (off x8 (by omega))
    have c6' := hf5.at_ c6 (off x6 (by omega))
    refine C.ae (v := .int .i64 (qai k)) c8 rfl ?_
    have s5 := hf5.size
    have f5 : Fr (qab mv) w w5 := f4.w.trans hf5
    refine qoy (x6 := x6) (x8 := x8) (W := w) (m := qbj m (p * 32) 32 0) hlt hp (by omega) (by omega) (by omega) (fun w6 hf6 h6 c8' c6'' => ?_) _ 0 w5 (by rw [Nat.zero_add]) f5 h5 c8 c6'
    refine F253.k11.to ?_
    simp only [C.af, Nat.zero_add]
    refine C.ae (v := .int .i64 (qai k)) c8' rfl (C.a5 (bCh 0 (qai k)) (C.a1 (x := chV (0, qai k)) c6'' rfl qbz rfl fun w7 hu7 => C.ax hu7.at_ rfl ?_))
    exact hk w7 true (hf6.then hu7.fr fun z hz => .inr (by simp only [List.mem_singleton] at hz; omega)) (h6.keep hu7.fr (by simp only [List.mem_singleton]; exact fun e => by have := qac h.blk; omega) fun g hg e => by simp only [List.mem_singleton] at e; have := hlt g hg; omega)
  · rw [if_neg c] at hk
    simp only [C.ah, Bool.not_false, decide_false, c]
    refine C.a5 qsz (C.a1 (x := chV (0, 0)) c6 rfl qbz rfl fun w5 hu5 => C.ax hu5.at_ rfl ?_)
    exact hk w5 false (f4.w.then hu5.fr fun z hz => .inr (by simp only [List.mem_singleton] at hz; omega)) (h4.keep hu5.fr (by simp only [List.mem_singleton]; exact fun e => by have := qac h.blk; omega) fun g hg e => by simp only [List.mem_singleton] at e; have := hlt g hg; omega)
theorem qnh {l : Int × Int} (h : qat w b mv m) (hp : 0 ≤ p ∧ p < 64) (hl : -9223372036854775808 ≤ l.2 ∧ l.2 ≤ 9223372036854775807) (hk : ∀ w' ok, Fr [] w w' → K (.tuple #[.int .i64 (qb0 m p k l).1, chV (qb0 m p k l).2, .bool ok]) w') :
    C.q Tryz.prog 248 #[.pointer (some ⟨b, 0, none⟩), .int .i64 p, .int .i64 k, chV l] w K := by
  obtain ⟨l1, l2⟩ := l
  have hc := qby k
  refine F248.sh (C.av fun x7 w1 hn1 => C.av fun x9 w2 hn2 => qmj (h.keep0 (hn1.fr.trans hn2.fr)) hp fun w3 hf3 => ?_)
  simp only [C.aq, C.af, C.a7, C.a8, Nat.zero_add]
  refine C.av fun x11 w4 hn4 => C.a1 (x := clV b p k) hn4.at_ rfl qei rfl fun w5 hu5 => ?_
  have i1 := hn1.is; have z1 := hn1.sz; have i2 := hn2.is; have z2 := hn2.sz; have s3 := hf3.size; have i4 := hn4.is; have z4 := hn4.sz
  have f25 : Fr [] w2 w5 := (hf3.trans hn4.fr).then hu5.fr fun z hz => .inr (by simp only [List.mem_singleton] at hz; omega)
  have f5 : Fr [] w w5 := hn1.fr.trans (hn2.fr.trans f25)
  have c7 : w5.heap[x7]? = some (.cells #[.int .i64 l1, .int .i64 l2] 241 (0, 0)) := f25.at_ (hn2.fr.at_ hn1.at_ (by simp)) (by simp)
  have c9 : w5.heap[x9]? = some (.cells #[.int .i64 0, .int .i64 0] 241 (0, 0)) := f25.at_ hn2.at_ (by simp)
  have c11 : w5.heap[x11]? = some (.cells (clV b p k).cells 319 (0, 0)) := hu5.at_
  unfold qb0 at hk
  have no : ∀ w6, Fr [] w5 w6 → (∀ w' ok, Fr [] w w' → K (.tuple #[.int .i64 0, chV (0, 0), .bool ok]) w') → C.ay Tryz.prog (Instr.build 241 #[]) w6 fun x35_19 w19 => C.ak 2 (.pointer (some ⟨x9, 0, none⟩)) x35_19 w19 fun w20 => C.ao 2 (.pointer (some ⟨x9, 0, none⟩)) w20 fun r21 _ => K (.tuple #[(.int .i64 0), r21, (.bool false)]) w20 := fun w6 hf6 hk => by
    refine C.a5 qsz (C.a1 (x := chV (0, 0)) (hf6.at_ c9 (by simp)) rfl qbz rfl fun w7 hu7 => C.ax hu7.at_ rfl ?_)
    exact hk w7 false ((f5.trans hf6).then hu7.fr fun z hz => .inr (by simp only [List.mem_singleton] at hz; omega))
  by_cases o1 : qdj m p k
  · simp only [C.ar, C.al, Bool.not_true, decide_true, o1]
    refine C.ae (v := .int .i64 l2) c7 rfl ?_
    by_cases o2 : l2 < 1
    · simp only [C.ah, C.aw, C.au, C.ba, decide_true, o2]
      rw [if_neg (by omega)] at hk
      exact no w5 (Fr.refl _ _) hk
    simp only [C.ar, C.au, C.al, decide_false, o2]
    refine C.ax c11 rfl (C.ae (v := .int .i64 l1) c7 rfl (quc (b := b) (p := p) (k := k) fun w6 hf6 => ?_))
    by_cases o3 : 0 ≤ l1 ∧ l1 < qai k
    · simp only [C.ac, C.aq, Bool.not_true, decide_true, o3, and_self]
      rw [if_pos ⟨o1, by omega, o3.1, o3.2⟩] at hk
      refine F248.k4.to (C.ax (hf6.at_ c11 (by simp)) rfl ?_)
      simp only [C.af, Nat.zero_add]
      refine C.ae (v := .int .i64 l1) (hf6.at_ c7 (by simp)) rfl ?_
      refine qx0 (b := b) (p := p) (k := k) (h.keep0 (f5.trans hf6)) hp o3 fun w7 hf7 => ?_
      have f67 := hf6.trans hf7
      cases hnx : qk7 m p k l1 with
      | none =>
        rw [hnx] at hk
        simp only [C.ah, C.aq, C.a7, C.a8, Bool.not_false]
        exact no w7 f67 hk
      | some x =>
        rw [hnx] at hk
        simp only [C.ac, C.aq, C.a7, C.a8, Bool.not_true]
        refine F248.k7.to (C.a4 (fun w' => w'.heap[x7]? = some (.cells #[.int .i64 l1, .int .i64 l2] 241 (0, 0))) fun w8 hf8 _ => ⟨hf8.at_ (f67.at_ c7 (by simp)) (by simp), ?_⟩)
        have f8 := f67.trans hf8
        simp only [C.af, Nat.zero_add]
        refine C.an (v := .int .i64 l1) (fun w' hw => ⟨_, _, _, hw, rfl⟩) (C.an (v := .int .i64 l2) (fun w' hw => ⟨_, _, _, hw, rfl⟩) ?_)
        simp only [C.bo]
        rw [qaa (n := l2 - 1) (by simp only at hl; omega)]
        refine ⟨_, fun w' _ => bCh x (l2 - 1), ⟨C.a1 (x := chV (x, l2 - 1)) (f8.at_ c9 (by simp)) rfl qbz rfl fun w9 hu9 => ⟨hu9.fr.at_ (f8.at_ c7 (by simp)) (by simp; omega), C.ax hu9.at_ rfl ?_⟩, trivial⟩⟩
        exact hk w9 true ((f5.trans f8).then hu9.fr fun z hz => .inr (by simp only [List.mem_singleton] at hz; omega))
    · simp only [C.ah, C.aq, Bool.not_false, decide_false, o3]
      rw [if_neg (fun e => o3 ⟨e.2.2.1, e.2.2.2⟩)] at hk
      exact no w6 hf6 hk
  · simp only [C.ah, C.aw, C.ba, Bool.not_false, decide_false, o1]
    rw [if_neg (fun e => o1 e.1)] at hk
    exact no w5 (Fr.refl _ _) hk
theorem qnf {l : Int × Int} {i : Int} (h : qat w b mv m) (hp : 0 ≤ p ∧ p < 64) (hk : ∀ w' ok, Fr (qab mv) w w' → qat w' b mv (qdw m p k l i).1 → K (.tuple #[chV (qdw m p k l i).2, .bool ok]) w') :
    C.q Tryz.prog 344 #[.pointer (some ⟨b, 0, none⟩), .int .i64 p, .int .i64 k, chV l, .int .i64 i] w K := by
  obtain ⟨l1, l2⟩ := l
  have hc := qby k
  have hlt := h.own.mem_lt
  refine F344.sh (C.av fun x8 w1 hn1 => C.av fun x10 w2 hn2 => qmj (h.keep0 (hn1.fr.trans hn2.fr)) hp fun w3 hf3 => ?_)
  simp only [C.aq, C.af, C.a7, C.a8, Nat.zero_add]
  refine C.av fun x12 w4 hn4 => C.a1 (x := clV b p k) hn4.at_ rfl qei rfl fun w5 hu5 => ?_
  have i1 := hn1.is; have z1 := hn1.sz; have i2 := hn2.is; have z2 := hn2.sz; have s3 := hf3.size; have i4 := hn4.is; have z4 := hn4.sz
  have f25 : Fr [] w2 w5 := (hf3.trans hn4.fr).then hu5.fr fun z hz => .inr (by simp only [List.mem_singleton] at hz; omega)
  have f5 : Fr [] w w5 := hn1.fr.trans (hn2.fr.trans f25)
  have c8 : w5.heap[x8]? = some (.cells #[.int .i64 l1, .int .i64 l2] 241 (0, 0)) := f25.at_ (hn2.fr.at_ hn1.at_ (by simp)) (by simp)
  have c10 : w5.heap[x10]? = some (.cells #[.int .i64 0, .int .i64 0] 241 (0, 0)) := f25.at_ hn2.at_ (by simp)
  have c12 : w5.heap[x12]? = some (.cells #[.pointer (some ⟨b, 0, none⟩), .int .i64 p, .int .i64 k, .int .i64 (qai k)] 319 (0, 0)) := hu5.at_
  have off : ∀ z, w.heap.size ≤ z → z ∉ qab mv := fun z hz hg => by have := hlt z hg; omega
  have hbl := qac h.blk
  unfold qdw at hk
  have no : ∀ w6, Fr [] w5 w6 → (∀ w' ok, Fr (qab mv) w w' → qat w' b mv m → K (.tuple #[chV (0, 0), .bool ok]) w') → C.ay Tryz.prog (Instr.build 241 #[]) w6 fun x53_34 w34 => C.ak 2 (.pointer (some ⟨x10, 0, none⟩)) x53_34 w34 fun w35 => C.ao 2 (.pointer (some ⟨x10, 0, none⟩)) w35 fun r36 _ => K (.tuple #[r36, (.bool false)]) w35 := fun w6 hf6 hk => by
    refine C.a5 qsz (C.a1 (x := chV (0, 0)) (hf6.at_ c10 (by simp)) rfl qbz rfl fun w7 hu7 => C.ax hu7.at_ rfl ?_)
    have f7 : Fr [] w w7 := (f5.trans hf6).then hu7.fr fun z hz => .inr (by simp only [List.mem_singleton] at hz; omega)
    exact hk w7 false f7.w (h.keep0 f7)
  by_cases o1 : qdj m p k
  · simp only [C.ar, C.af, C.al, Bool.not_true, Nat.zero_add, decide_true, o1]
    refine C.ax c12 rfl (quc (b := b) (p := p) (k := k) fun w6 hf6 => ?_)
    have c8' := hf6.at_ c8 (by simp)
    have c12' := hf6.at_ c12 (by simp)
    by_cases o2 : 0 ≤ i ∧ i < qai k
    · simp only [C.ar, C.aq, C.al, Bool.not_true, decide_true, o2, and_self]
      refine C.ae (v := .int .i64 l2) c8' rfl ?_
      by_cases o3 : l2 < 0
      · simp only [C.ah, C.aw, C.au, C.ba, decide_true, o3]
        rw [if_neg (by simp only; omega)] at hk
        exact no w6 hf6 hk
      simp only [C.ar, C.au, C.al, decide_false, o3]
      refine C.ae (v := .int .i64 l2) c8' rfl (C.ae (v := .int .i64 (qai k)) c12' rfl ?_)
      by_cases o4 : l2 ≥ qai k
      · simp only [C.ah, C.aw, C.bc, C.ba, decide_true, o4]
        rw [if_neg (by simp only; omega)] at hk
        exact no w6 hf6 hk
      simp only [C.ar, C.bc, C.al, decide_false, o4]
      refine C.ae (v := .int .i64 l1) c8' rfl ?_
      by_cases o5 : l1 < 0
      · simp only [C.ah, C.aw, C.au, C.ba, decide_true, o5]
        rw [if_neg (by simp only; omega)] at hk
        exact no w6 hf6 hk
      simp only [C.ar, C.au, C.al, decide_false, o5]
      refine C.ae (v := .int .i64 l1) c8' rfl (C.ae (v := .int .i64 (qai k)) c12' rfl ?_)
      by_cases o6 : l1 > qai k
      · simp only [C.ah, C.bl, decide_true, o6]
        rw [if_neg (by simp only; omega)] at hk
        exact no w6 hf6 hk
      simp only [C.ac, C.bl, decide_false, o6]
      rw [if_pos ⟨o1, o2.1, o2.2, by simp only; omega, by simp only; omega, by simp only; omega, by simp only; omega⟩] at hk
      refine F344.k4.to (C.ax c12' rfl ?_)
      try simp only [C.af, Nat.zero_add]
      refine C.ae (v := .int .i64 l1) c8' rfl (qrf (b := b) (p := p) (k := k) (h.keep0 (f5.trans hf6)) hp o2 (by omega) fun w7 hf7 h7 => ?_)
      refine C.ae (v := .int .i64 l2) (hf7.at_ c8' (off _ (by omega))) rfl ?_
      try simp only [C.a6]
      rw [qaa (n := l2 + 1) (by omega)]
      refine C.a5 (bCh i (l2 + 1)) (C.a1 (x := chV (i, l2 + 1)) (hf7.at_ (hf6.at_ c10 (by simp)) (off _ (by omega))) rfl qbz rfl fun w8 hu8 => C.ax hu8.at_ rfl ?_)
      refine hk w8 true (((f5.trans hf6).w.trans hf7).then hu8.fr fun z hz => .inr (by simp only [List.mem_singleton] at hz; omega)) (h7.keep hu8.fr (by simp; omega) fun g hg e => by simp only [List.mem_singleton] at e; have := hlt g hg; omega)
    · simp only [C.ah, C.aw, C.aq, C.ba, Bool.not_false, decide_false, o2]
      rw [if_neg (fun e => o2 ⟨e.2.1, e.2.2.1⟩)] at hk
      exact no w6 hf6 hk
  · simp only [C.ah, C.aw, C.af, C.ba, Bool.not_false, Nat.zero_add, decide_false, o1]
    rw [if_neg (fun e => o1 e.1)] at hk
    exact no w5 (Fr.refl _ _) hk
end
end Go.Proofs.YtcakfaakbpdklaaGreatDoorV
namespace Go.Proofs.YtcakfaakbpdklaaGreatDoorV
open Go
set_option linter.unusedVariables false
set_option linter.unusedSimpArgs false
theorem qbf {n : Int} (h : 0 ≤ n ∧ n < 18446744073709551616) : IntKind.u64.wrap n = n := by
  unfold IntKind.wrap IntKind.bits IntKind.signed
  simp
  omega
section
variable {P : Program} {w : World} {t : TypeId}
theorem qg1 (x y : Operand) (a : Int) (h0 : 0 ≤ a) (h1 : a < 18446744073709551616) : (do eqGuard .and t x y (.int .u64 a) (.int .u64 4294967295); binOp .and t (.int .u64 a) (.int .u64 4294967295) : Sem Value).run P w = .ok (.int .u64 (a % 4294967296)) w := by
  have hm : (BitVec.ofInt 64 4294967295).toNat = 2 ^ 32 - 1 := by decide
  have key : (BitVec.ofInt 64 a &&& BitVec.ofInt 64 4294967295).toNat = (a % ((2 ^ 64 : Nat) : Int)).toNat % 2 ^ 32 := by
    rw [BitVec.toNat_and, BitVec.toNat_ofInt, hm, Nat.and_two_pow_sub_one_eq_mod]
  have e : IntKind.u64.wrap ((BitVec.ofInt 64 a &&& BitVec.ofInt 64 4294967295).toNat : Nat) = a % 4294967296 := by
    rw [key, qbf (by omega)]
    omega
  have e' : (Op.intBits .and .u64 a 4294967295 : Sem Value) = pure (.int .u64 (IntKind.u64.wrap ((BitVec.ofInt 64 a &&& BitVec.ofInt 64 4294967295).toNat : Nat))) := rfl
  simp only [Sem.run_bind, qaq, Result.andThen_ok]
  show (Op.intBits .and .u64 a 4294967295).run P w = _
  rw [e', e]
  rfl
theorem qeo (x y : Operand) (a : Int) : (do eqGuard .shr t x y (.int .u64 a) (.int .u64 32); binOp .shr t (.int .u64 a) (.int .u64 32) : Sem Value).run P w = .ok (.int .u64 (a / 4294967296)) w := by
  simp only [Sem.run_bind, qaq, Result.andThen_ok]
  show (Op.shift .shr .u64 a .u64 32).run P w = _
  have : a.fdiv 4294967296 = a / 4294967296 := by rw [Int.fdiv_eq_ediv_of_nonneg _ (by decide)]
  simp [Op.shift, IntKind.bits, this]
end
end Go.Proofs.YtcakfaakbpdklaaGreatDoorV
namespace Go.Proofs.YtcakfaakbpdklaaGreatDoorV
open Go Go.Proofs Go.RowKit
set_option linter.unusedVariables false
set_option linter.unusedSimpArgs false
set_option maxRecDepth 10000
section
variable {P : Program} {w : World} {t : TypeId}
theorem qmq (x y : Operand) (a j : Nat) (hj : j < 64) : (do eqGuard .shr t x y (.int .u64 (a : Int)) (.int .i64 (j : Int)); binOp .shr t (.int .u64 (a : Int)) (.int .i64 (j : Int)) : Sem Value).run P w = .ok (.int .u64 ((a / 2 ^ j : Nat) : Int)) w := by
  simp only [Sem.run_bind, qaq, Result.andThen_ok]
  show (Op.shift .shr .u64 a .i64 j).run P w = _
  have h1 : ¬ ((j : Int) < 0) := by omega
  have h2 : min (j : Int).toNat 64 = j := by omega
  have h3 : ((a : Int)).fdiv (2 ^ j) = ((a / 2 ^ j : Nat) : Int) := by
    rw [Int.fdiv_eq_ediv_of_nonneg _ (Int.pow_nonneg (by decide))]
    push_cast
    rfl
  simp []
theorem qis (x y : Operand) (a j : Nat) (hj : j < 64) : (do eqGuard .shl t x y (.int .u64 (a : Int)) (.int .i64 (j : Int)); binOp .shl t (.int .u64 (a : Int)) (.int .i64 (j : Int)) : Sem Value).run P w = .ok (.int .u64 ((a * 2 ^ j % 18446744073709551616 : Nat) : Int)) w := by
  simp only [Sem.run_bind, qaq, Result.andThen_ok]
  show (Op.shift .shl .u64 a .i64 j).run P w = _
  have h1 : ¬ ((j : Int) < 0) := by omega
  have h2 : min (j : Int).toNat 64 = j := by omega
  have h3 : IntKind.u64.wrap ((a : Int) * 2 ^ j) = ((a * 2 ^ j % 18446744073709551616 : Nat) : Int) := by
    have e : (a : Int) * 2 ^ j = ((a * 2 ^ j : Nat) : Int) := by push_cast; rfl
    rw [IntKind.wrap_u64, e]
    generalize a * 2 ^ j = z
    omega
  simp [h3]
theorem qdq {a : Nat} (h : a < 2 ^ 64) : (BitVec.ofInt 64 (a : Int)).toNat = a := by
  rw [BitVec.toNat_ofInt]
  have : ((a : Int) % ((2 ^ 64 : Nat) : Int)).toNat = a := by omega
  exact this
theorem qsx (x y : Operand) (a b : Nat) (ha : a < 2 ^ 64) (hb : b < 2 ^ 64) : (do eqGuard .and t x y (.int .u64 (a : Int)) (.int .u64 (b : Int)); binOp .and t (.int .u64 (a : Int)) (.int .u64 (b : Int)) : Sem Value).run P w = .ok (.int .u64 ((a &&& b : Nat) : Int)) w := by
  have e' : (Op.intBits .and .u64 a b : Sem Value) = pure (.int .u64 (IntKind.u64.wrap ((BitVec.ofInt 64 a &&& BitVec.ofInt 64 b).toNat : Nat))) := rfl
  simp only [Sem.run_bind, qaq, Result.andThen_ok]
  show (Op.intBits .and .u64 a b).run P w = _
  have hl : a &&& b < 2 ^ 64 := Nat.and_lt_two_pow _ hb
  rw [e', BitVec.toNat_and, qdq ha, qdq hb, qbf (by omega)]
  rfl
theorem qv3 (x y : Operand) (a b : Nat) (ha : a < 2 ^ 64) (hb : b < 2 ^ 64) : (do eqGuard .or t x y (.int .u64 (a : Int)) (.int .u64 (b : Int)); binOp .or t (.int .u64 (a : Int)) (.int .u64 (b : Int)) : Sem Value).run P w = .ok (.int .u64 ((a ||| b : Nat) : Int)) w := by
  have e' : (Op.intBits .or .u64 a b : Sem Value) = pure (.int .u64 (IntKind.u64.wrap ((BitVec.ofInt 64 a ||| BitVec.ofInt 64 b).toNat : Nat))) := rfl
  simp only [Sem.run_bind, qaq, Result.andThen_ok]
  show (Op.intBits .or .u64 a b).run P w = _
  have hl : a ||| b < 2 ^ 64 := Nat.or_lt_two_pow ha hb
  rw [e', BitVec.toNat_or, qdq ha, qdq hb, qbf (by omega)]
  rfl
theorem qm3 (x y : Operand) (a b : Nat) (ha : a < 2 ^ 64) (hb : b < 2 ^ 64) : ∃ r : Nat, r < 2 ^ 64 ∧ (∀ i, i < 64 → r.testBit i = (a.testBit i && !b.testBit i)) ∧ ∀ w, (do eqGuard .andNot t x y (.int .u64 (a : Int)) (.int .u64 (b : Int)); binOp .andNot t (.int .u64 (a : Int)) (.int .u64 (b : Int)) : Sem Value).run P w = .ok (.int .u64 (r : Int)) w := by
  refine ⟨(BitVec.ofInt 64 a &&& ~~~ BitVec.ofInt 64 b).toNat, BitVec.isLt _, fun i hi => ?_, fun w => ?_⟩
  · rw [BitVec.testBit_toNat, BitVec.getLsbD_and, BitVec.getLsbD_not, ← BitVec.testBit_toNat, ← BitVec.testBit_toNat, qdq ha, qdq hb]
    simp [hi]
  · have e' : (Op.intBits .andNot .u64 a b : Sem Value) = pure (.int .u64 (IntKind.u64.wrap ((BitVec.ofInt 64 a &&& ~~~ BitVec.ofInt 64 b).toNat : Nat))) := rfl
    simp only [Sem.run_bind, qaq, Result.andThen_ok]
    show (Op.intBits .andNot .u64 a b).run P w = _
    have hl := (BitVec.ofInt 64 (a : Int) &&& ~~~ BitVec.ofInt 64 (b : Int)).isLt
    rw [e', qbf (by omega)]
    rfl
end
structure qa2 (w : World) (b : Nat) (n : Int) (s : Bs) : Prop where
  blk : ∃ cs : Array Value, w.heap[b]? = some (.cells cs 255 (0, 0)) ∧ cs.size = 34 ∧ cs[0]? = some (.bool true) ∧ cs[1]? = some (.int .i64 n) ∧ ∀ k, k < 32 → ∃ x : Nat, cs[2 + k]? = some (.int .u64 (x : Int)) ∧ x < 2 ^ 64 ∧ ∀ j, j < 64 → x.testBit j = s (64 * k + j)
  rng : 0 ≤ n ∧ n ≤ 2048
  sup : ∀ i : Nat, s i = true → (i : Int) < n
theorem qa2.keep {S : List Nat} {w w' : World} {b : Nat} {n : Int} {s : Bs} (h : qa2 w b n s) (hf : Fr S w w') (hb : b ∉ S) : qa2 w' b n s := by
  obtain ⟨cs, h1, h2⟩ := h.blk
  exact ⟨⟨cs, hf.at_ h1 hb, h2⟩, h.rng, h.sup⟩
theorem C.bp {K : VK} {w : World} {ln n g o : Nat} {k : IntKind} {j : Int} (h0 : 0 ≤ j) (h1 : j < (ln : Int)) (h : K (.pointer (some ⟨g, o + j.toNat * n, none⟩)) w) : C.bt ln n (.pointer (some ⟨g, o, none⟩)) (.int k j) w K := by
  refine ⟨⟨g, o, none⟩, k, j, rfl, rfl, h0, h1, ?_⟩
  rw [Go.Proofs.YtcakfaakbpdklaaGreatDoorV.add_mk]
  exact h
section
variable {K : VK} {w : World} {b : Nat} {n : Int} {s : Bs}
theorem qxw {i : Int} (h : qa2 w b n s) (hk : K (.bool (decide (0 ≤ i) && decide (i < n))) w) : C.q Tryz.prog 243 #[.pointer (some ⟨b, 0, none⟩), .int .i64 i] w K := by
  obtain ⟨cs, c1, c2, c3, c4, c5⟩ := h.blk
  refine F243.sh ⟨_, qau _ _ _ Tryz.underlying177, ?_⟩
  simp only [C.aw, C.af, C.ag, C.al, Nat.zero_add]
  refine C.ae (v := .bool true) c1 c3 ?_
  simp only [C.aw, C.bc, C.al]
  by_cases h1 : i ≥ 0
  · simp only [C.aw, C.af, C.ag, C.al, Nat.zero_add, decide_true, h1]
    refine C.ae (v := .int .i64 n) c1 c4 ?_
    simp only [C.au]
    rwa [decide_eq_true h1, Bool.true_and] at hk
  · simp only [C.ar, C.bf, decide_false, h1]
    rwa [decide_eq_false h1, Bool.false_and] at hk
theorem qk4 {i : Int} (h : qa2 w b n s) (hk : K (.bool (qd5 n s i)) w) : C.q Tryz.prog 244 #[.pointer (some ⟨b, 0, none⟩), .int .i64 i] w K := by
  obtain ⟨cs, c1, c2, c3, c4, c5⟩ := h.blk
  have hn := h.rng
  refine F244.sh (qxw h ?_)
  unfold qd5 at hk
  by_cases hi : 0 ≤ i ∧ i < n
  · rw [decide_eq_true hi.1, decide_eq_true hi.2] at hk ⊢
    simp only [C.aw, C.af, C.ag, C.al, Nat.zero_add, Bool.and_self, Bool.true_and] at hk ⊢
    refine ⟨_, qbr _ _ i 64 (by decide), ?_⟩
    rw [Int.tdiv_eq_ediv_of_nonneg hi.1, qaa (by omega)]
    refine C.bp (by omega) (by omega) ?_
    obtain ⟨x, x1, x2, x3⟩ := c5 (i / 64).toNat (by omega)
    refine C.ae (v := .int .u64 (x : Int)) c1 (by rw [Nat.mul_one]; exact x1) ⟨_, qdr _ _ i 64 (by decide), ?_⟩
    rw [Int.tmod_eq_emod_of_nonneg hi.1]
    obtain ⟨j, hj⟩ := Int.eq_ofNat_of_zero_le (show 0 ≤ i % 64 by omega)
    rw [hj]
    refine ⟨_, qmq _ _ x j (by omega), ⟨_, qsx _ _ (x / 2 ^ j) 1 (Nat.lt_of_le_of_lt (Nat.div_le_self _ _) x2) (by decide), ?_⟩⟩
    simp only [C.az]
    have e : decide (((x / 2 ^ j &&& 1 : Nat) : Int) = 1) = s i.toNat := by
      have := x3 j (by omega)
      rw [show 64 * (i / 64).toNat + j = i.toNat by omega] at this
      rw [← this, Nat.testBit_eq_decide_div_mod_eq, Nat.and_one_is_mod]
      exact decide_eq_decide.2 (by omega)
    rw [e]
    exact hk
  · have e : (decide (0 ≤ i) && decide (i < n)) = false := by
      rw [Bool.and_eq_false_iff]
      simp only [decide_eq_false_iff_not]
      omega
    rw [e] at hk ⊢
    simp only [C.ar, C.bf, Bool.false_and] at hk ⊢
    exact hk
end
end Go.Proofs.YtcakfaakbpdklaaGreatDoorV
namespace Go.Proofs.YtcakfaakbpdklaaGreatDoorV
open Go Go.Proofs Go.Shelf
def qv6 : Go.Shelf.Ren := ⟨fun | 29 => 291 | n => n, fun | 22 => 210 | 3 => 3 | 4 => 4 | 25 => 157 | 54 => 334 | 0 => 0 | 5 => 5 | n => n, fun | 1 => 0 | n => n⟩
theorem tzL : Lays7.n29 Tryz.prog qv6 := {
  mixed := by kernel_rfl,
  f29 := Tryz.func291.trans (congrArg some (by kernel_rfl)),
  t0 := Tryz.underlying0,
  a0 := Tryz.isAgg0,
  z0 := Tryz.sizeOf0,
  v0 := Tryz.zeroValue0,
  i0 := by kernel_rfl,
  t3 := Tryz.underlying3,
  a3 := Tryz.isAgg3,
  z3 := Tryz.sizeOf3,
  v3 := Tryz.zeroValue3,
  i3 := by kernel_rfl,
  t4 := Tryz.underlying4,
  a4 := Tryz.isAgg4,
  z4 := Tryz.sizeOf4,
  v4 := Tryz.zeroValue4,
  i4 := by kernel_rfl,
  t5 := Tryz.underlying5,
  a5 := Tryz.isAgg5,
  z5 := Tryz.sizeOf5,
  v5 := Tryz.zeroValue5,
  i5 := by kernel_rfl,
  t22 := Tryz.underlying210,
  a22 := Tryz.isAgg210,
  z22 := Tryz.sizeOf210,
  v22 := Tryz.zeroValue210,
  i22 := by kernel_rfl,
  t25 := Tryz.underlying157,
  a25 := Tryz.isAgg157,
  z25 := Tryz.sizeOf157,
  v25 := Tryz.zeroValue157,
  i25 := by kernel_rfl,
  t54 := Tryz.underlying334,
  a54 := Tryz.isAgg334,
  z54 := Tryz.sizeOf334,
  g1 := by kernel_rfl }
end Go.Proofs.YtcakfaakbpdklaaGreatDoorV
namespace Go.Proofs.YtcakfaakbpdklaaGreatDoorV
open Go Go.Proofs Go.RowKit
set_option linter.unusedVariables false
set_option linter.unusedSimpArgs false
set_option maxRecDepth 10000
def TzB (w : World) : Prop := ∃ cs e fz, w.heap[0]? = some (.cells cs e fz) ∧ ∀ j, j < Lib.deBruijn64tab.length → cs[j]? = some (.int .u8 (Lib.deBruijn64tab.getD j 0 : Nat))
theorem TzB.keep {S : List Nat} {w w' : World} (h : TzB w) (hf : Fr S w w') (h0 : 0 ∉ S) : TzB w' := by
  obtain ⟨cs, e, fz, h1, h2⟩ := h
  exact ⟨cs, e, fz, hf.at_ h1 h0, h2⟩
theorem qta {x : Nat} (h0 : x ≠ 0) (h : x < 2 ^ 64) : Lib.ctz 64 x < 64 ∧ x.testBit (Lib.ctz 64 x) = true ∧ ∀ j, j < Lib.ctz 64 x → x.testBit j = false := by
  have e : Lib.ctz 64 x = Lib.ctzFrom 64 x := by unfold Lib.ctz; rw [if_neg h0]
  obtain ⟨m, h1, h2⟩ := Lib.ctzFrom_spec 64 x (by omega) h
  rw [e]
  generalize Lib.ctzFrom 64 x = c at *
  subst h1
  refine ⟨h2, ?_, fun j hj => ?_⟩
  · rw [Nat.mul_comm, Nat.testBit_mul_two_pow]
    simp
  · rw [Nat.mul_comm, Nat.testBit_mul_two_pow]
    simp
    omega
section
variable {K : VK} {w : World} {b : Nat} {n : Int} {s : Bs}
theorem qy9 {x : Nat} (hT : TzB w) (hx : x < 2 ^ 64) (h : K (.int .i64 (Lib.ctz 64 x : Nat)) w) : C.q Tryz.prog 291 #[.int .u64 (x : Int)] w K := by
  obtain ⟨cs, e, fz, h1, h2⟩ := hT
  refine (Any7.bits_TrailingZeros64 tzL x hx w fun _ j hj => ?_).mono ?_
  · show w.cell? ⟨0, j, none⟩ = _
    rw [qcw h1, h2 j hj]
  · rintro e w' ⟨rfl, rfl⟩
    exact ⟨_, rfl, h⟩
theorem qa2.word {w' : World} {cs : Array Value} {i : Nat} {v : Bool} {x : Nat} (h : qa2 w b n s) (hb : w.heap[b]? = some (.cells cs 255 (0, 0))) (hi : (i : Int) < n) (hx : x < 2 ^ 64)
    (hbit : ∀ j, j < 64 → x.testBit j = qdg s i v (64 * (i / 64) + j)) (hu : Upd w b (.cells (cs.setIfInBounds (2 + i / 64) (.int .u64 (x : Int))) 255 (0, 0)) w') : qa2 w' b n (qdg s i v) := by
  obtain ⟨cs', c1, c2, c3, c4, c5⟩ := h.blk
  rw [hb] at c1
  simp only [Option.some.injEq, Obj.cells.injEq, and_true] at c1
  subst c1
  have hr := h.rng
  refine ⟨⟨_, hu.at_, by simpa using c2, ?_, ?_, fun k hk => ?_⟩, hr, fun j hj => ?_⟩
  · rw [Array.getElem?_setIfInBounds_ne (by omega)]; exact c3
  · rw [Array.getElem?_setIfInBounds_ne (by omega)]; exact c4
  · by_cases e : k = i / 64
    · subst e
      refine ⟨x, ?_, hx, hbit⟩
      rw [Array.getElem?_setIfInBounds_self_of_lt (by omega)]
    · obtain ⟨y, y1, y2, y3⟩ := c5 k hk
      refine ⟨y, ?_, y2, fun j hj => ?_⟩
      · rw [Array.getElem?_setIfInBounds_ne (by omega)]; exact y1
      · rw [y3 j hj]
        unfold qdg
        rw [if_neg (by omega)]
  · unfold qdg at hj
    by_cases e : j = i
    · subst e; exact hi
    · rw [if_neg e] at hj; exact h.sup j hj
theorem qqr {i : Nat} {v : Bool} (h : s i = v) : qdg s i v = s := by
  funext j
  unfold qdg
  by_cases e : j = i
  · rw [if_pos e, e, h]
  · rw [if_neg e]
theorem qoj {i : Int} (h : qa2 w b n s) (hk : ∀ w', Fr [b] w w' → qa2 w' b n (qjx n s i) → K (.bool (decide (0 ≤ i) && decide (i < n) && !s i.toNat)) w') : C.q Tryz.prog 178 #[.pointer (some ⟨b, 0, none⟩), .int .i64 i] w K := by
  obtain ⟨cs, c1, c2, c3, c4, c5⟩ := h.blk
  have hn := h.rng
  refine F178.sh (qxw h ?_)
  unfold qjx at hk
  by_cases hi : 0 ≤ i ∧ i < n
  · rw [if_pos hi, decide_eq_true hi.1, decide_eq_true hi.2] at hk
    rw [decide_eq_true hi.1, decide_eq_true hi.2]
    simp only [C.ar, C.aq, C.al, Bool.not_true, Bool.and_self, Bool.true_and] at hk ⊢
    refine qk4 h ?_
    have hb : qd5 n s i = s i.toNat := by simp [qd5, hi.1, hi.2]
    rw [hb]
    cases hs : s i.toNat with
    | true =>
      simp only [C.ah]
      have := hk w (Fr.refl _ _) (by rw [qqr hs]; exact h)
      rw [hs] at this
      simpa using this
    | false =>
      simp only [C.ac]
      refine F178.k3.to (C.a4 (fun _ => True) fun w1 hf1 _ => ⟨trivial, ?_⟩)
      have h1 := h.keep hf1 (by simp)
      have d1 := hf1.at_ c1 (by simp)
      simp only [C.af, C.ag, Nat.zero_add]
      refine ⟨_, fun w' _ => qbr _ _ i 64 (by decide), ?_⟩
      rw [Int.tdiv_eq_ediv_of_nonneg hi.1, qaa (by omega)]
      refine C.bp (by omega) (by omega) ⟨_, fun w' _ => qdr _ _ i 64 (by decide), ?_⟩
      rw [Int.tmod_eq_emod_of_nonneg hi.1]
      obtain ⟨j, hj⟩ := Int.eq_ofNat_of_zero_le (show 0 ≤ i % 64 by omega)
      obtain ⟨i, rfl⟩ := Int.eq_ofNat_of_zero_le hi.1
      rw [hj]
      obtain ⟨x, x1, x2, x3⟩ := c5 (i / 64) (by omega)
      have ek : ((i : Int) / 64).toNat * 1 = i / 64 := by omega
      have hj64 : j < 64 := by omega
      have hp : 1 * 2 ^ j % 18446744073709551616 = 2 ^ j := by
        have : 2 ^ j < 2 ^ 64 := Nat.pow_lt_pow_right (by decide) hj64
        rw [Nat.one_mul, Nat.mod_eq_of_lt this]
      have hp64 : 2 ^ j < 2 ^ 64 := Nat.pow_lt_pow_right (by decide) hj64
      refine ⟨_, fun w' _ => qis _ _ 1 j hj64, ⟨C.ae (v := .int .u64 (x : Int)) d1 (by rw [ek]; exact x1) ⟨trivial, ?_⟩, trivial⟩⟩
      rw [hp]
      refine ⟨_, fun w' _ => qv3 _ _ x (2 ^ j) x2 hp64, C.bp (by omega) (by omega) ⟨?_, trivial⟩⟩
      refine C.bb d1 rfl rfl (by omega) fun w2 hu => ⟨trivial, ?_⟩
      rw [ek] at hu
      have h2 : qa2 w2 b n (qdg s i true) := by
        refine h1.word d1 hi.2 (Nat.or_lt_two_pow x2 hp64) (fun t ht => ?_) hu
        rw [Nat.testBit_or, x3 t ht, Nat.testBit_two_pow]
        unfold qdg
        by_cases e : 64 * (i / 64) + t = i
        · rw [if_pos e, decide_eq_true (by omega), Bool.or_true]
        · rw [if_neg e, decide_eq_false (by omega), Bool.or_false]
      rw [Int.toNat_natCast] at hk hs
      have := hk w2 (hf1.w.trans hu.fr) h2
      rw [hs] at this
      exact this
  · have e : (decide (0 ≤ i) && decide (i < n)) = false := by
      rw [Bool.and_eq_false_iff]
      simp only [decide_eq_false_iff_not]
      omega
    rw [if_neg hi, e] at hk
    rw [e]
    simp only [C.ah, C.aw, C.aq, C.ba, Bool.not_false, Bool.false_and] at hk ⊢
    exact hk w (Fr.refl _ _) h
theorem qlm {i : Int} (h : qa2 w b n s) (hk : ∀ w', Fr [b] w w' → qa2 w' b n (qlu n s i) → K (.bool (qd5 n s i)) w') : C.q Tryz.prog 337 #[.pointer (some ⟨b, 0, none⟩), .int .i64 i] w K := by
  obtain ⟨cs, c1, c2, c3, c4, c5⟩ := h.blk
  have hn := h.rng
  refine F337.sh (qk4 h ?_)
  unfold qlu at hk
  cases hb : qd5 n s i with
  | false =>
    rw [hb] at hk
    simp only [C.ah, C.aq, Bool.not_false]
    exact hk w (Fr.refl _ _) h
  | true =>
    rw [hb] at hk
    have hi : 0 ≤ i ∧ i < n := by simp [qd5] at hb; exact hb.1
    simp only [C.ac, C.aq, Bool.not_true]
    refine F337.k3.to (C.a4 (fun _ => True) fun w1 hf1 _ => ⟨trivial, ?_⟩)
    have h1 := h.keep hf1 (by simp)
    have d1 := hf1.at_ c1 (by simp)
    simp only [C.af, C.ag, Nat.zero_add]
    refine ⟨_, fun w' _ => qbr _ _ i 64 (by decide), ?_⟩
    rw [Int.tdiv_eq_ediv_of_nonneg hi.1, qaa (by omega)]
    refine C.bp (by omega) (by omega) ⟨_, fun w' _ => qdr _ _ i 64 (by decide), ?_⟩
    rw [Int.tmod_eq_emod_of_nonneg hi.1]
    obtain ⟨j, hj⟩ := Int.eq_ofNat_of_zero_le (show 0 ≤ i % 64 by omega)
    obtain ⟨i, rfl⟩ := Int.eq_ofNat_of_zero_le hi.1
    rw [hj]
    obtain ⟨x, x1, x2, x3⟩ := c5 (i / 64) (by omega)
    have ek : ((i : Int) / 64).toNat * 1 = i / 64 := by omega
    have hj64 : j < 64 := by omega
    have hp : 1 * 2 ^ j % 18446744073709551616 = 2 ^ j := by
      have : 2 ^ j < 2 ^ 64 := Nat.pow_lt_pow_right (by decide) hj64
      rw [Nat.one_mul, Nat.mod_eq_of_lt this]
    have hp64 : 2 ^ j < 2 ^ 64 := Nat.pow_lt_pow_right (by decide) hj64
    refine ⟨_, fun w' _ => qis _ _ 1 j hj64, ⟨C.ae (v := .int .u64 (x : Int)) d1 (by rw [ek]; exact x1) ⟨trivial, ?_⟩, trivial⟩⟩
    rw [hp]
    obtain ⟨r, r1, r2, r3⟩ := qm3 (P := Tryz.prog) (t := 210) (.tmp 15) (.tmp 18) x (2 ^ j) x2 hp64
    refine ⟨_, fun w' _ => r3 w', C.bp (by omega) (by omega) ⟨?_, trivial⟩⟩
    refine C.bb d1 rfl rfl (by omega) fun w2 hu => ⟨trivial, ?_⟩
    rw [ek] at hu
    have h2 : qa2 w2 b n (qdg s i false) := by
      refine h1.word d1 hi.2 r1 (fun t ht => ?_) hu
      rw [r2 t ht, x3 t ht, Nat.testBit_two_pow]
      unfold qdg
      by_cases e : 64 * (i / 64) + t = i
      · rw [if_pos e, decide_eq_true (by omega)]; simp
      · rw [if_neg e, decide_eq_false (by omega)]; simp
    simp only [if_true, Int.toNat_natCast] at hk
    exact hk w2 (hf1.w.trans hu.fr) h2
end
section
variable {K : VK} {w : World} {b : Nat} {n : Int} {s : Bs}
theorem qp4 {i : Nat} (h : qa2 w b n s) (hT : TzB w) (h1 : ∀ j : Nat, i ≤ j → s j = true → (∀ t, i ≤ t → t < j → s t = false) → K (.int .i64 (j : Int)) w) (h2 : (∀ t, i ≤ t → s t = false) → K (.int .i64 (-1)) w) :
    ∀ (d k x : Nat), k + d = 31 → i ≤ 64 * (k + 1) → x < 2 ^ 64 → (∀ j, j < 64 → x.testBit j = (s (64 * k + j) && decide (i ≤ 64 * k + j))) → (∀ t, i ≤ t → t < 64 * k → s t = false) →
      F258.l7 K (.pointer (some ⟨b, 0, none⟩)) (.int .u64 (x : Int)) (.int .i64 (k : Int)) w := by
  obtain ⟨cs, c1, c2, c3, c4, c5⟩ := h.blk
  have hn := h.rng
  have out : ∀ (k x : Nat), k ≤ 31 → x < 2 ^ 64 → (∀ j, j < 64 → x.testBit j = (s (64 * k + j) && decide (i ≤ 64 * k + j))) → (∀ t, i ≤ t → t < 64 * k → s t = false) →
      (x = 0 → (∀ t, i ≤ t → t < 64 * (k + 1) → s t = false) → F258.k9 K (.pointer (some ⟨b, 0, none⟩)) (.int .i64 (k : Int)) w) → F258.l7 K (.pointer (some ⟨b, 0, none⟩)) (.int .u64 (x : Int)) (.int .i64 (k : Int)) w := by
    intro k x hk hx hb hlo hnext
    refine F258.l7.to ?_
    by_cases e : x = 0
    · subst e
      simp only [C.ac, C.bq, C.be, decide_false, show (((0 : Nat) : Int) ≠ 0) = False by simp]
      refine hnext rfl fun t t1 t2 => ?_
      by_cases ht : t < 64 * k
      · exact hlo t t1 ht
      · have := hb (t - 64 * k) (by omega)
        rw [show 64 * k + (t - 64 * k) = t by omega, Nat.zero_testBit, decide_eq_true t1, Bool.and_true] at this
        exact this.symm
    · obtain ⟨z1, z2, z3⟩ := qta e hx
      simp only [C.ah, C.bq, C.be, decide_true, show ((x : Int) ≠ 0) = True by simp; exact e]
      rw [qaa (n := (k : Int) * 64) (by omega)]
      refine qy9 hT hx ?_
      simp only [C.a6]
      generalize Lib.ctz 64 x = c at *
      rw [qaa (n := (k : Int) * 64 + c) (by omega), show (k : Int) * 64 + c = ((64 * k + c : Nat) : Int) by omega]
      have hc := hb c z1
      rw [z2] at hc
      have hc' := hc.symm
      rw [Bool.and_eq_true, decide_eq_true_eq] at hc'
      refine h1 _ hc'.2 hc'.1 fun t t1 t2 => ?_
      by_cases ht : t < 64 * k
      · exact hlo t t1 ht
      · have := hb (t - 64 * k) (by omega)
        rw [show 64 * k + (t - 64 * k) = t by omega, z3 _ (by omega), decide_eq_true t1, Bool.and_true] at this
        exact this.symm
  intro d
  induction d with
  | zero =>
    intro k x hk hik hx hb hlo
    refine out k x (by omega) hx hb hlo fun _ hall => ?_
    refine F258.k9.to ?_
    simp only [C.a6, C.az]
    rw [qaa (n := (k : Int) + 1) (by omega)]
    simp only [C.ah, eq_self, decide_true, show ((k : Int) + 1 = 32) by omega]
    refine h2 fun t ht => ?_
    by_cases c : t < 64 * (k + 1)
    · exact hall t ht c
    · apply Classical.byContradiction
      intro hc
      have := h.sup t (by simpa using hc)
      omega
  | succ d ih =>
    intro k x hk hik hx hb hlo
    refine out k x (by omega) hx hb hlo fun _ hall => ?_
    refine F258.k9.to ?_
    simp only [C.a6, C.az]
    rw [qaa (n := (k : Int) + 1) (by omega)]
    simp only [C.ac, decide_false, show ¬ ((k : Int) + 1 = 32) by omega]
    refine F258.k11.to ?_
    simp only [C.af, C.ag, C.a6, Nat.zero_add]
    rw [qaa (n := (k : Int) + 1) (by omega)]
    obtain ⟨y, y1, y2, y3⟩ := c5 (k + 1) (by omega)
    refine C.bp (by omega) (by omega) (C.ae (v := .int .u64 (y : Int)) c1 (by rw [Nat.mul_one, show ((k : Int) + 1).toNat = k + 1 by omega]; exact y1) ?_)
    refine F258.k6.to ?_
    simp only [C.a6]
    rw [qaa (n := (k : Int) + 1) (by omega), show (k : Int) + 1 = ((k + 1 : Nat) : Int) by omega]
    refine ih (k + 1) y (by omega) (by omega) y2 (fun j hj => ?_) hall
    rw [y3 j hj]
    rw [decide_eq_true (by omega), Bool.and_true]
theorem qpl (x j t : Nat) (hj : j < 64) (ht : t < 64) (hx : x < 2 ^ 64) : (x / 2 ^ j * 2 ^ j % 18446744073709551616).testBit t = (x.testBit t && decide (j ≤ t)) := by
  have e : x / 2 ^ j * 2 ^ j < 18446744073709551616 := Nat.lt_of_le_of_lt (Nat.div_mul_le_self _ _) hx
  rw [Nat.mod_eq_of_lt e, Nat.testBit_mul_two_pow, Nat.testBit_div_two_pow]
  by_cases c : j ≤ t
  · rw [show t - j + j = t by omega]; simp [c]
  · simp [c]
theorem qp3 {i : Nat} (h : qa2 w b n s) (hT : TzB w) (h1 : ∀ j : Nat, i ≤ j → s j = true → (∀ t, i ≤ t → t < j → s t = false) → K (.int .i64 (j : Int)) w) (h2 : (∀ t, i ≤ t → s t = false) → K (.int .i64 (-1)) w) :
    C.q Tryz.prog 258 #[.pointer (some ⟨b, 0, none⟩), .int .i64 (i : Int)] w K := by
  obtain ⟨cs, c1, c2, c3, c4, c5⟩ := h.blk
  have hn := h.rng
  refine F258.sh ⟨_, qam _ _ _ Tryz.underlying177, ?_⟩
  simp only [C.ar, C.af, C.ag, C.al, Nat.zero_add]
  refine C.ae (v := .bool true) c1 c3 ?_
  simp only [C.ar, C.aq, C.af, C.ag, C.al, Bool.not_true, Nat.zero_add]
  refine C.ae (v := .int .i64 n) c1 c4 ?_
  by_cases c : (i : Int) ≥ n
  · simp only [C.ah, C.bc, decide_true, c]
    refine h2 fun t ht => ?_
    apply Classical.byContradiction
    intro hc
    have := h.sup t (by simpa using hc)
    omega
  simp only [C.ac, C.bc, decide_false, c]
  refine F258.k3.to (C.a5 (qip _ _ .i64 (i : Int) 0) ?_)
  rw [show max (i : Int) 0 = (i : Int) by omega]
  refine ⟨_, qbr _ _ (i : Int) 64 (by decide), ?_⟩
  rw [Int.tdiv_eq_ediv_of_nonneg (by omega), qaa (by omega), show (i : Int) / 64 = ((i / 64 : Nat) : Int) by omega]
  simp only [C.af, C.ag, Nat.zero_add]
  obtain ⟨x, x1, x2, x3⟩ := c5 (i / 64) (by omega)
  refine C.bp (by omega) (by omega) (C.ae (v := .int .u64 (x : Int)) c1 (by rw [Nat.mul_one, Int.toNat_natCast]; exact x1) ⟨_, qdr _ _ (i : Int) 64 (by decide), ?_⟩)
  rw [Int.tmod_eq_emod_of_nonneg (by omega), show (i : Int) % 64 = ((i % 64 : Nat) : Int) by omega]
  refine ⟨_, qmq _ _ x (i % 64) (by omega), ⟨_, qdr _ _ (i : Int) 64 (by decide), ?_⟩⟩
  rw [Int.tmod_eq_emod_of_nonneg (by omega), show (i : Int) % 64 = ((i % 64 : Nat) : Int) by omega]
  refine ⟨_, qis _ _ (x / 2 ^ (i % 64)) (i % 64) (by omega), ⟨_, qbr _ _ (i : Int) 64 (by decide), ?_⟩⟩
  rw [Int.tdiv_eq_ediv_of_nonneg (by omega), qaa (by omega), show (i : Int) / 64 = ((i / 64 : Nat) : Int) by omega]
  refine qp4 h hT h1 h2 (31 - i / 64) (i / 64) _ (by omega) (by omega) (by have := Nat.mod_lt (x / 2 ^ (i % 64) * 2 ^ (i % 64)) (show 18446744073709551616 > 0 by decide); omega) (fun j hj => ?_) fun t t1 t2 => by omega
  rw [qpl x (i % 64) j (by omega) hj x2, x3 j hj]
  congr 1
  exact decide_eq_decide.2 (by omega)
theorem qh5 {s : Bs} {c j : Nat} (hcj : c ≤ j) (hs : s j = true) (hno : ∀ t, c ≤ t → t < j → s t = false) : (List.range (j + 1)).filter s = (List.range c).filter s ++ [j] := by
  have key : ∀ d, c + d ≤ j → (List.range (c + d)).filter s = (List.range c).filter s := fun d => by
    induction d with
    | zero => intro _; rfl
    | succ d ih =>
      intro hd
      rw [show c + (d + 1) = c + d + 1 by omega, List.range_succ, List.filter_append, ih (by omega)]
      simp [hno (c + d) (by omega) (by omega)]
  have := key (j - c) (by omega)
  rw [show c + (j - c) = j by omega] at this
  rw [List.range_succ, List.filter_append, this]
  simp [hs]
theorem qe3 {s : Bs} {c m : Nat} (hcm : c ≤ m) (hno : ∀ t, c ≤ t → s t = false) : (List.range m).filter s = (List.range c).filter s := by
  have key : ∀ d, (List.range (c + d)).filter s = (List.range c).filter s := fun d => by
    induction d with
    | zero => rfl
    | succ d ih =>
      rw [show c + (d + 1) = c + d + 1 by omega, List.range_succ, List.filter_append, ih]
      simp [hno (c + d) (by omega)]
  have := key (m - c)
  rwa [show c + (m - c) = m by omega] at this
theorem qvq {n : Int} {s : Bs} {c : Nat} (h0 : 0 ≤ n) (hsup : ∀ i : Nat, s i = true → (i : Int) < n) (hno : ∀ t, c ≤ t → s t = false) : qij n s = ((List.range c).filter s).map Int.ofNat := by
  unfold qij
  congr 1
  by_cases h : c ≤ n.toNat
  · exact qe3 h hno
  · exact (qe3 (by omega) fun t ht => by
      apply Classical.byContradiction
      intro hc
      have := hsup t (by simpa using hc)
      omega).symm
theorem qsy {n : Int} {s : Bs} (c : Nat) : (((List.range c).filter s).map Int.ofNat).length ≤ c := by
  rw [List.length_map]
  have := List.length_filter_le s (List.range c)
  rwa [List.length_range] at this
theorem qr6 {W : World} (h : qa2 W b n s) (hT : TzB W) (hk : ∀ v w', Fr [] W w' → qal W v → qad w' v 3 1 (qaf (qij n s)) → K v w') :
    ∀ (d c : Nat) (w : World) (v : Value), 2049 ≤ c + d → Fr [] W w → qal W v → qad w v 3 1 (qaf (((List.range c).filter s).map Int.ofNat)) →
      (∀ j : Nat, c ≤ j → s j = true → (∀ t, c ≤ t → t < j → s t = false) → F202.l3 K (.pointer (some ⟨b, 0, none⟩)) v (.int .i64 (j : Int)) w) ∧
      ((∀ t, c ≤ t → s t = false) → F202.l3 K (.pointer (some ⟨b, 0, none⟩)) v (.int .i64 (-1)) w) := by
  have hn := h.rng
  have fin : ∀ (c : Nat) (w : World) (v : Value), Fr [] W w → qal W v → qad w v 3 1 (qaf (((List.range c).filter s).map Int.ofNat)) → (∀ t, c ≤ t → s t = false) → F202.l3 K (.pointer (some ⟨b, 0, none⟩)) v (.int .i64 (-1)) w := by
    intro c w v hf hnv ho hno
    refine F202.l3.to ?_
    simp only [C.ac, C.bc, decide_false, show ¬ ((-1 : Int) ≥ 0) by omega]
    refine F202.k6.to (hk v w hf hnv ?_)
    rw [qvq hn.1 h.sup hno]
    exact ho
  intro d
  induction d with
  | zero =>
    intro c w v hd hf hnv ho
    exact ⟨fun j hj hs _ => by have := h.sup j hs; omega, fin c w v hf hnv ho⟩
  | succ d ih =>
    intro c w v hd hf hnv ho
    refine ⟨fun j hj hs hno => ?_, fin c w v hf hnv ho⟩
    have hjn := h.sup j hs
    have hl := qsy (n := n) (s := s) c
    refine F202.l3.to ?_
    simp only [C.ah, C.bc, decide_true, show ((j : Int) ≥ 0) by omega]
    refine F202.k5.to (C.cy ho (by omega) fun v' w1 ho1 hf1 hg1 => ?_)
    have f1 : Fr [] W w1 := hf.then hf1 fun z hz => .inr (hnv.blk z hz)
    have n1 := qj6 hnv hf.size hg1
    have e : ((List.range c).filter s).map Int.ofNat ++ [(j : Int)] = ((List.range (j + 1)).filter s).map Int.ofNat := by
      rw [qh5 hj hs hno, List.map_append]
      rfl
    rw [e] at ho1
    refine F202.k4.to ?_
    simp only [C.a6]
    rw [qaa (n := (j : Int) + 1) (by omega), show (j : Int) + 1 = ((j + 1 : Nat) : Int) by omega]
    obtain ⟨a1, a2⟩ := ih (j + 1) w1 v' (by omega) f1 n1 ho1
    exact qp3 (h.keep f1 (by simp)) (hT.keep f1 (by simp)) a1 a2
theorem qwd (h : qa2 w b n s) (hT : TzB w) (hk : ∀ v w', Fr [] w w' → qal w v → qad w' v 3 1 (qaf (qij n s)) → K v w') : C.q Tryz.prog 202 #[.pointer (some ⟨b, 0, none⟩)] w K := by
  obtain ⟨a1, a2⟩ := qr6 h hT hk 2049 0 w _ (by omega) (Fr.refl _ _) (qal.nil _) (by simpa [qaf] using qad.nil _ _ _)
  exact F202.sh (qp3 h hT a1 a2)
def qkc (n : Int) : Array Value := #[.bool true, .int .i64 n, .int .u64 0, .int .u64 0, .int .u64 0, .int .u64 0, .int .u64 0, .int .u64 0, .int .u64 0, .int .u64 0, .int .u64 0, .int .u64 0, .int .u64 0, .int .u64 0, .int .u64 0, .int .u64 0, .int .u64 0, .int .u64 0, .int .u64 0, .int .u64 0, .int .u64 0, .int .u64 0, .int .u64 0, .int .u64 0, .int .u64 0, .int .u64 0, .int .u64 0, .int .u64 0, .int .u64 0, .int .u64 0, .int .u64 0, .int .u64 0, .int .u64 0, .int .u64 0]
theorem qyu (n : Int) : (Instr.build 255 #[(0, .bool true), (1, .int .i64 n)]).run Tryz.prog w = .ok (.agg (qkc n)) w := by kernel_rfl
theorem qm9 (n : Int) : ∀ k, k < 32 → (qkc n)[2 + k]? = some (.int .u64 0)
  | 0, _ | 1, _ | 2, _ | 3, _ | 4, _ | 5, _ | 6, _ | 7, _ | 8, _ | 9, _ | 10, _ | 11, _ | 12, _ | 13, _ | 14, _ | 15, _ | 16, _ | 17, _ | 18, _ | 19, _ | 20, _ | 21, _ | 22, _ | 23, _ | 24, _ | 25, _ | 26, _ | 27, _ | 28, _ | 29, _ | 30, _ | 31, _ => rfl
  | k + 32, h => by omega
theorem qpo {n : Int} (h0 : 0 ≤ n) (h1 : n ≤ 2048) (hk : ∀ b w', Fr [] w w' → b = w.heap.size → w'.heap.size = w.heap.size + 1 → qa2 w' b n (fun _ => false) → K (.pointer (some ⟨b, 0, none⟩)) w') : C.q Tryz.prog 116 #[.int .i64 n] w K := by
  refine F116.sh (qca ?_)
  rw [if_neg (by omega), if_neg (by omega)]
  refine C.a5 (qyu n) (C.av fun b w1 hn => hk b w1 hn.fr hn.is hn.sz ⟨⟨qkc n, hn.at_, rfl, rfl, rfl, fun k hk => ⟨0, qm9 n k hk, by decide, fun j _ => by simp⟩⟩, ⟨h0, h1⟩, fun i hi => by cases hi⟩)
end
end Go.Proofs.YtcakfaakbpdklaaGreatDoorV
namespace Go.Proofs.YtcakfaakbpdklaaGreatDoorV
open Go Go.Proofs
set_option linter.unusedVariables false
set_option maxRecDepth 100000
noncomputable section
variable {K : VK} {w : World} {x0 x1 y0 y1 y2 y3 y4 y5 y6 y10 y11 y13 y14 y4294967291 : Value}

theorem F170.sh (h : (C.q Tryz.prog 66 #[x0, (.int .i64 0), (.int .i64 64)] w fun a b =>
 C.ay Tryz.prog (Instr.makeSlice 54 a a) b fun c d =>
 C.ay Tryz.prog (Instr.build 292 #[(0, (.bool true)), (1, c)]) d fun f g =>
 C.a3 (.cells (Value.cells f) 292) g fun i j =>
 K i j)) : C.q Tryz.prog 170 #[x0] w K := q9 (A := A0) (args := [x0]) (qq h)
namespace F171
def ann : Ann := ⟨[(3, [0])], [], [], [], none⟩
def code := cd Tryz.f171
def top := tp Tryz.f171
variable (K : VK) (y0 : Value) (w : World)
def k3 : Prop := nk ann 10 [(0, y0)] w [1, 1] code (top K)
attribute [irreducible] k3
end F171
theorem F171.k3.to (h : (C.ad y0 w fun a b =>
 C.ab 1 a b fun c d =>
 C.ai c d fun f g =>
 C.q Tryz.prog 240 #[f] g fun i j =>
 K i j)) : F171.k3 K y0 w := qq h
theorem F171.sh (h : (C.bi Tryz.prog .eql 234 (.tmp 3) (.const (.pointer none)) x0 (.pointer none) w fun a b =>
 C.am a (K (.slice none 0 0) b) (F171.k3 K x0 b))) : C.q Tryz.prog 171 #[x0] w K := q9 (A := F171.ann) (args := [x0]) (qq h)
namespace F176
def ann : Ann := ⟨[(3, [2, 3, 4, 5]), (14, [4, 5, 4294967291])], [], [], [], none⟩
def code := cd Tryz.f176
def top := tp Tryz.f176
variable (K : VK) (y2 y3 y4 y5 y4294967291 : Value) (w : World)
def as4 : Code := qxi (qc3 [1, 1, 0, 1, 0] code)
def bd4 : Code := qxm (qc3 [1, 1, 0, 1, 0] code)
def k3 : Prop := nk ann 38 [(2, y2), (3, y3), (4, y4), (5, y5)] w [1, 1] code (top K)
def k14 : Prop := nk ann 38 [(4, y4), (5, y5), (4294967291, y4294967291)] w [1, 1, 1] code (top K)
attribute [irreducible] k3 k14
end F176
theorem F176.k3.to (h : (C.ai y2 w fun a b =>
 C.cg Tryz.prog 38 (.func (.func 242) #[a] #[]) #[13, 14] F176.as4 F176.bd4 [(12, (.func (.func 242) #[a] #[])), (11, a), (2, y2), (3, y3), (4, y4), (5, y5)] b fun D2 j c =>
 C.c0 j (F176.k14 K y4 y5 (.int .i64 (D2 : Int)) c) (C.cd (.int .i64 (D2 : Int)) c fun d =>
 C.ai y4 d fun r4 _ =>
 C.ai y5 d fun r5 _ =>
 K (.tuple #[r4, r5]) d) (fun id => cond (Nat.beq id 0) (F176.k14 K y4 y5 (.int .i64 (D2 : Int)) c) (False)))) : F176.k3 K y2 y3 y4 y5 w := qq h
theorem F176.k14.to (h : (C.ak 1 y4 (.int .i64 0) w fun a =>
 C.ak 1 y5 (.bool false) a fun b =>
 C.cd y4294967291 b fun c =>
 C.ai y4 c fun r4 _ =>
 C.ai y5 c fun r5 _ =>
 K (.tuple #[r4, r5]) c)) : F176.k14 K y4 y5 y4294967291 w := qq h
theorem F176.sh (h : (C.a3 (.cells (Value.cells x0) 234) w fun a b =>
 C.a3 (.cells (Value.cells x1) 3) b fun c d =>
 C.a3 (.cells #[.int .i64 0] 3) d fun f g =>
 C.a3 (.cells #[.bool false] 4) g fun i j =>
 C.ai c j fun k m =>
 C.aj .lss k (.int .i64 1) m fun o p =>
 C.am o (C.ak 1 f (.int .i64 0) p fun q =>
 C.ak 1 i (.bool false) q fun r =>
 C.ai f r fun r9 _ =>
 C.ai i r fun r10 _ =>
 K (.tuple #[r9, r10]) r) (F176.k3 K a c f i p))) : C.q Tryz.prog 176 #[x0, x1] w K := q9 (A := F176.ann) (args := [x0, x1]) (qq h)
namespace R176_4
def ann (l : Nat) : Ann := ⟨[(7, [2, 3, 4, 5, 6]), (9, [2, 4, 5, 6, 18, 19]), (11, [2, 4, 5, 6, 18, 19]), (12, [2, 4, 5, 6])], [(8, [2, 4, 5, 6, 18, 19])], [], [], some l⟩
noncomputable def top (l : Nat) (K : VK) : QE := qmp l K
noncomputable def k7 (l : Nat) (K : VK) (y2 y3 y4 y5 y6 : Value) (w : World) : Prop := nav (ann l) Tryz.prog 38 (fun c Q => qa7 (ann l) Tryz.prog 38 c Q [(2, y2), (3, y3), (4, y4), (5, y5), (6, y6)] w) [0, 1] F176.bd4 (top l K)
attribute [irreducible] k7
noncomputable def k12 (l : Nat) (K : VK) (y2 y4 y5 y6 : Value) (w : World) : Prop := nav (ann l) Tryz.prog 38 (fun c Q => qa7 (ann l) Tryz.prog 38 c Q [(2, y2), (4, y4), (5, y5), (6, y6)] w) [0, 1, 1] F176.bd4 (top l K)
attribute [irreducible] k12
noncomputable def l8 (l : Nat) (K : VK) (y2 y4 y5 y6 y18 y19 : Value) (w : World) : Prop := nav (ann l) Tryz.prog 38 (ql9 (ann l) Tryz.prog 38 [(2, y2), (4, y4), (5, y5), (6, y6), (18, y18), (19, y19)] w) [0, 1, 0, 1, 0] F176.bd4 (top l K)
attribute [irreducible] l8
noncomputable def k9 (l : Nat) (K : VK) (y2 y4 y5 y6 y18 y19 : Value) (w : World) : Prop := nav (ann l) Tryz.prog 38 (fun c Q => qa7 (ann l) Tryz.prog 38 c Q [(2, y2), (4, y4), (5, y5), (6, y6), (18, y18), (19, y19)] w) [0, 1, 0, 1, 0, 0, 1, 1] F176.bd4 (top l K)
attribute [irreducible] k9
noncomputable def k11 (l : Nat) (K : VK) (y2 y4 y5 y6 y18 y19 : Value) (w : World) : Prop := nav (ann l) Tryz.prog 38 (fun c Q => qa7 (ann l) Tryz.prog 38 c Q [(2, y2), (4, y4), (5, y5), (6, y6), (18, y18), (19, y19)] w) [0, 1, 0, 1, 0, 0, 1, 1, 1] F176.bd4 (top l K)
attribute [irreducible] k11
end R176_4
theorem R176_4.k7.to {l : Nat} {K : VK} {y2 y3 y4 y5 y6 : Value} {w : World} (h : (C.ai y3 w fun x18_1 w1 =>
  R176_4.l8 l K y2 y4 y5 y6 x18_1 (.int .i64 0) w1)) : R176_4.k7 l K y2 y3 y4 y5 y6 w := Eq.mpr (by kernel_rfl) h
theorem R176_4.k12.to {l : Nat} {K : VK} {y2 y4 y5 y6 : Value} {w : World} (h : (C.ai y2 w fun x31_1 w1 =>
  C.ad x31_1 w1 fun x32_2 w2 =>
  C.ab 1 x32_2 w2 fun x33_3 w3 =>
  C.ai x33_3 w3 fun x34_4 w4 =>
  C.bj 1 x34_4 y6 w4 fun x36_5 w5 =>
  C.ak 1 x36_5 (.int .i64 5) w5 fun w6 =>
  C.ak 1 y4 y6 w6 fun w7 =>
  C.ak 1 y5 (.bool true) w7 fun w8 =>
  C.cw l (some .ret) false (.done) w8 K)) : R176_4.k12 l K y2 y4 y5 y6 w := Eq.mpr (by kernel_rfl) h
theorem R176_4.l8.to {l : Nat} {K : VK} {y2 y4 y5 y6 y18 y19 : Value} {w : World} (h : (C.aj .lss y19 y18 w fun x20_1 w1 =>
  C.am x20_1 (R176_4.k9 l K y2 y4 y5 y6 y18 y19 w1) (R176_4.k12 l K y2 y4 y5 y6 w1))) : R176_4.l8 l K y2 y4 y5 y6 y18 y19 w := by unfold R176_4.l8; exact qag (Eq.mpr (by kernel_rfl) h)
theorem R176_4.k9.to {l : Nat} {K : VK} {y2 y4 y5 y6 y18 y19 : Value} {w : World} (h : (C.ai y2 w fun x22_1 w1 =>
  C.ad x22_1 w1 fun x23_2 w2 =>
  C.ab 1 x23_2 w2 fun x24_3 w3 =>
  C.ai x24_3 w3 fun x25_4 w4 =>
  C.aj .add y6 y19 w4 fun x28_5 w5 =>
  C.bj 1 x25_4 x28_5 w5 fun x29_6 w6 =>
  C.ak 1 x29_6 (.int .i64 6) w6 fun w7 =>
  R176_4.k11 l K y2 y4 y5 y6 y18 y19 w7)) : R176_4.k9 l K y2 y4 y5 y6 y18 y19 w := Eq.mpr (by kernel_rfl) h
theorem R176_4.k11.to {l : Nat} {K : VK} {y2 y4 y5 y6 y18 y19 : Value} {w : World} (h : (C.aj .add y19 (.int .i64 1) w fun x30_1 w1 =>
  R176_4.l8 l K y2 y4 y5 y6 y18 x30_1 w1)) : R176_4.k11 l K y2 y4 y5 y6 y18 y19 w := Eq.mpr (by kernel_rfl) h
theorem R176_4.yield {l : Nat} {r : Loop} {K : VK} {y2 y3 y4 y5 a13 a14 : Value} {w : World} (hr : w.heap[l]? = some (.loop r)) (hn : r.tmps.size = 38) (hp : r.params = #[13, 14]) (ha : r.assign = F176.as4) (hb : r.body = F176.bd4)
    (he : ∀ t v, lkT [(2, y2), (3, y3), (4, y4), (5, y5)] t = some v → r.tmps[t]? = some v) (h : (C.cz l w fun w1 =>
  C.ai y3 w1 fun x16_2 w2 =>
  C.aj .lss a14 x16_2 w2 fun x17_3 w3 =>
  C.am x17_3 (C.cw l none true (.ready) w3 K) (R176_4.k7 l K y2 y3 y4 y5 a13 w3))) : C.ch Tryz.prog l #[a13, a14] w K :=
  qmy (A := R176_4.ann l) (env := [(2, y2), (3, y3), (4, y4), (5, y5)]) rfl hr hn (by rw [hp]; rfl) he rfl (by rw [hp]; decide) (by rw [ha, hb, hp]; exact Eq.mpr (by kernel_rfl) h)
namespace F241
def ann : Ann := ⟨[(5, [3, 4294967291])], [], [], [], none⟩
def code := cd Tryz.f241
def top := tp Tryz.f241
variable (K : VK) (y3 y4294967291 : Value) (w : World)
def as3 : Code := qxi (qc3 [1, 1, 0, 1, 0] code)
def bd3 : Code := qxm (qc3 [1, 1, 0, 1, 0] code)
def k5 : Prop := nk ann 14 [(3, y3), (4294967291, y4294967291)] w [1, 1, 1] code (top K)
attribute [irreducible] k5
end F241
theorem F241.k5.to (h : (C.ai y3 w fun a b =>
 C.cd y4294967291 b fun c =>
 K a c)) : F241.k5 K y3 y4294967291 w := qq h
theorem F241.sh (h : (C.a3 (.cells #[.int .i64 0] 3) w fun a b =>
 C.ak 1 a (.int .i64 0) b fun c =>
 C.cg Tryz.prog 14 (.func (.func 242) #[x0] #[]) #[8, 9] F241.as3 F241.bd3 [(7, (.func (.func 242) #[x0] #[])), (6, x0), (3, a), (2, (.int .i64 0)), (0, x0)] c fun D3 j d =>
 C.c0 j (F241.k5 K a (.int .i64 (D3 : Int)) d) (C.cd (.int .i64 (D3 : Int)) d fun f =>
 K (.int .i64 0) f) (fun id => cond (Nat.beq id 0) (F241.k5 K a (.int .i64 (D3 : Int)) d) (False)))) : C.q Tryz.prog 241 #[x0] w K := q9 (A := F241.ann) (args := [x0]) (qq h)
namespace R241_3
def ann (l : Nat) : Ann := ⟨[], [], [], [], some l⟩
noncomputable def top (l : Nat) (K : VK) : QE := qmp l K
end R241_3
theorem R241_3.yield {l : Nat} {r : Loop} {K : VK} {y3 a8 a9 : Value} {w : World} (hr : w.heap[l]? = some (.loop r)) (hn : r.tmps.size = 14) (hp : r.params = #[8, 9]) (ha : r.assign = F241.as3) (hb : r.body = F241.bd3)
    (he : ∀ t v, lkT [(3, y3)] t = some v → r.tmps[t]? = some v) (h : (C.cz l w fun w1 =>
  C.ai y3 w1 fun x10_2 w2 =>
  C.aj .add x10_2 a9 w2 fun x12_3 w3 =>
  C.ak 1 y3 x12_3 w3 fun w4 =>
  C.cw l none true (.ready) w4 K)) : C.ch Tryz.prog l #[a8, a9] w K :=
  qmy (A := R241_3.ann l) (env := [(3, y3)]) rfl hr hn (by rw [hp]; rfl) he rfl (by rw [hp]; decide) (by rw [ha, hb, hp]; exact Eq.mpr (by kernel_rfl) h)
namespace F242
def ann : Ann := ⟨[(1, [0, 1]), (4, [0, 1, 4, 13, 14]), (7, [0, 1, 4, 5, 13, 14]), (8, [0, 1, 13, 14]), (9, [0, 1, 4, 13, 14])], [(3, [0, 1, 4, 13, 14])], [], [], none⟩
def code := cd Tryz.f242
def top := tp Tryz.f242
variable (K : VK) (y0 y1 y4 y5 y13 y14 : Value) (w : World)
def k1 : Prop := nk ann 35 [(0, y0), (1, y1)] w [1] code (top K)
def l3 : Prop := nl ann 35 [(0, y0), (1, y1), (4, y4), (13, y13), (14, y14)] w [1, 1, 1, 0] code (top K)
def k4 : Prop := nk ann 35 [(0, y0), (1, y1), (4, y4), (13, y13), (14, y14)] w [1, 1, 1, 0, 0, 1, 1] code (top K)
def k9 : Prop := nk ann 35 [(0, y0), (1, y1), (4, y4), (13, y13), (14, y14)] w [1, 1, 1, 0, 0, 1, 1, 1] code (top K)
def k7 : Prop := nk ann 35 [(0, y0), (1, y1), (4, y4), (5, y5), (13, y13), (14, y14)] w [1, 1, 1, 0, 0, 1, 1, 0, 0, 1, 1] code (top K)
def k8 : Prop := nk ann 35 [(0, y0), (1, y1), (13, y13), (14, y14)] w [1, 1, 1, 0, 0, 1, 1, 0, 0, 1, 1, 1] code (top K)
attribute [irreducible] k1 l3 k4 k9 k7 k8
end F242
theorem F242.k1.to (h : (C.ad y0 w fun a b =>
 C.ab 1 a b fun c d =>
 C.ai c d fun f g =>
 C.bk f g fun i j =>
 C.aj .add i (.int .i64 1) j fun k m =>
 F242.l3 K y0 y1 (.int .i64 0) k (.int .i64 0) m)) : F242.k1 K y0 y1 w := qq h
theorem F242.l3.to (h : (C.aj .lss y14 y13 w fun a b =>
 C.am a (F242.k4 K y0 y1 y4 y13 y14 b) (K (.tuple #[]) b))) : F242.l3 K y0 y1 y4 y13 y14 w := by unfold F242.l3 nl; exact qag (qq h)
theorem F242.k4.to (h : (C.q Tryz.prog 283 #[y0, y14] w fun a b =>
 C.aj .eql a (.int .i64 0) b fun c d =>
 C.am c (C.aj .add y4 (.int .i64 1) d fun f g =>
 F242.k9 K y0 y1 f y13 y14 g) (F242.k7 K y0 y1 y4 y14 y13 y14 d))) : F242.k4 K y0 y1 y4 y13 y14 w := qq h
theorem F242.k9.to (h : (C.aj .add y14 (.int .i64 1) w fun a b =>
 F242.l3 K y0 y1 y4 y13 a b)) : F242.k9 K y0 y1 y4 y13 y14 w := qq h
theorem F242.k7.to (h : (C.aj .gtr y4 (.int .i64 0) w fun a b =>
 C.i true a (fun K => K y1 b) b fun c d =>
 C.i true a (fun K => K y5 d) d fun f g =>
 C.i true a (fun K => K y4 g) g fun i j =>
 C.i true a (fun K => C.aj .sub f i j K) j fun k m =>
 C.i true a (fun K => K y4 m) m fun o p =>
 C.i true a (fun K => qb2 Tryz.prog c [k, o] p K) p fun q r =>
 C.i true a (fun K => C.bg q r K) r fun s t =>
 C.a2 (some a) (some s) (some (.bool false)) t fun u v =>
 C.am u (K (.tuple #[]) v) (F242.k8 K y0 y1 y13 y14 v))) : F242.k7 K y0 y1 y4 y5 y13 y14 w := qq h
theorem F242.k8.to (h : (F242.k9 K y0 y1 (.int .i64 0) y13 y14 w)) : F242.k8 K y0 y1 y13 y14 w := qq h
theorem F242.sh (h : (C.bi Tryz.prog .eql 234 (.tmp 6) (.const (.pointer none)) x0 (.pointer none) w fun a b =>
 C.am a (K (.tuple #[]) b) (F242.k1 K x0 x1 b))) : C.q Tryz.prog 242 #[x0, x1] w K := q9 (A := F242.ann) (args := [x0, x1]) (qq h)
namespace F252
def ann : Ann := ⟨[(3, [0, 1]), (6, [0, 1, 6])], [], [], [], none⟩
def code := cd Tryz.f252
def top := tp Tryz.f252
variable (K : VK) (y0 y1 y6 : Value) (w : World)
def k3 : Prop := nk ann 29 [(0, y0), (1, y1)] w [1, 1] code (top K)
def k6 : Prop := nk ann 29 [(0, y0), (1, y1), (6, y6)] w [1, 1, 1, 1] code (top K)
attribute [irreducible] k3 k6
end F252
theorem F252.k3.to (h : (C.ad y0 w fun a b =>
 C.ab 1 a b fun c d =>
 C.ai c d fun f g =>
 C.q Tryz.prog 125 #[f, (.int .i64 0)] g fun i j =>
 C.aj .lss i (.int .i64 0) j fun k m =>
 C.am k (K (.tuple #[(.int .i64 0), (.bool false)]) m) (F252.k6 K y0 y1 i m))) : F252.k3 K y0 y1 w := qq h
theorem F252.k6.to (h : (C.ad y0 w fun a b =>
 C.ab 1 a b fun c d =>
 C.ai c d fun f g =>
 C.bj 1 f y6 g fun i j =>
 C.ak 1 i y1 j fun k =>
 K (.tuple #[y6, (.bool true)]) k)) : F252.k6 K y0 y1 y6 w := qq h
theorem F252.sh (h : (C.bi Tryz.prog .eql 234 (.tmp 7) (.const (.pointer none)) x0 (.pointer none) w fun a b =>
 C.i false a (fun K => K x1 b) b fun c d =>
 C.i false a (fun K => C.q Tryz.prog 175 #[c] d K) d fun f g =>
 C.i false a (fun K => C.aj .eql f (.int .i64 0) g K) g fun i j =>
 C.a2 (some a) (some (.bool true)) (some i) j fun k m =>
 C.am k (K (.tuple #[(.int .i64 0), (.bool false)]) m) (F252.k3 K x0 x1 m))) : C.q Tryz.prog 252 #[x0, x1] w K := q9 (A := F252.ann) (args := [x0, x1]) (qq h)
namespace F264
def ann : Ann := ⟨[(4, [0, 1, 5, 10, 11]), (6, [0, 1, 5, 10, 11]), (7, [5])], [(3, [0, 1, 5, 10, 11])], [], [], none⟩
def code := cd Tryz.f264
def top := tp Tryz.f264
variable (K : VK) (y0 y1 y5 y10 y11 : Value) (w : World)
def k7 : Prop := nk ann 24 [(5, y5)] w [1, 1, 1] code (top K)
def l3 : Prop := nl ann 24 [(0, y0), (1, y1), (5, y5), (10, y10), (11, y11)] w [1, 1, 0, 1, 0] code (top K)
def k4 : Prop := nk ann 24 [(0, y0), (1, y1), (5, y5), (10, y10), (11, y11)] w [1, 1, 0, 1, 0, 0, 1, 1] code (top K)
def k6 : Prop := nk ann 24 [(0, y0), (1, y1), (5, y5), (10, y10), (11, y11)] w [1, 1, 0, 1, 0, 0, 1, 1, 1] code (top K)
attribute [irreducible] k7 l3 k4 k6
end F264
theorem F264.k7.to (h : (K y5 w)) : F264.k7 K y5 w := qq h
theorem F264.l3.to (h : (C.aj .lss y11 y10 w fun a b =>
 C.am a (F264.k4 K y0 y1 y5 y10 y11 b) (F264.k7 K y5 b))) : F264.l3 K y0 y1 y5 y10 y11 w := by unfold F264.l3 nl; exact qag (qq h)
theorem F264.k4.to (h : (C.ad y0 w fun a b =>
 C.ab 1 a b fun c d =>
 C.ai c d fun f g =>
 C.aj .add y1 y11 g fun i j =>
 C.bj 1 f i j fun k m =>
 C.ak 1 k (.int .i64 0) m fun o =>
 F264.k6 K y0 y1 y5 y10 y11 o)) : F264.k4 K y0 y1 y5 y10 y11 w := qq h
theorem F264.k6.to (h : (C.aj .add y11 (.int .i64 1) w fun a b =>
 F264.l3 K y0 y1 y5 y10 a b)) : F264.k6 K y0 y1 y5 y10 y11 w := qq h
theorem F264.sh (h : (C.q Tryz.prog 295 #[x0, x1] w fun a b =>
 F264.l3 K x0 x1 a a (.int .i64 0) b)) : C.q Tryz.prog 264 #[x0, x1] w K := q9 (A := F264.ann) (args := [x0, x1]) (qq h)
namespace F283
def ann : Ann := ⟨[(3, [0, 1])], [], [], [], none⟩
def code := cd Tryz.f283
def top := tp Tryz.f283
variable (K : VK) (y0 y1 : Value) (w : World)
def k3 : Prop := nk ann 27 [(0, y0), (1, y1)] w [1, 1] code (top K)
attribute [irreducible] k3
end F283
theorem F283.k3.to (h : (C.ad y0 w fun a b =>
 C.ab 1 a b fun c d =>
 C.ai c d fun f g =>
 C.bj 1 f y1 g fun i j =>
 C.ai i j fun k m =>
 K k m)) : F283.k3 K y0 y1 w := qq h
theorem F283.sh (h : (C.bi Tryz.prog .eql 234 (.tmp 5) (.const (.pointer none)) x0 (.pointer none) w fun a b =>
 C.i false a (fun K => K x1 b) b fun c d =>
 C.i false a (fun K => C.aj .lss c (.int .i64 0) d K) d fun f g =>
 C.a2 (some a) (some (.bool true)) (some f) g fun i j =>
 C.i false i (fun K => K x1 j) j fun k m =>
 C.i false i (fun K => K x0 m) m fun o p =>
 C.i false i (fun K => C.ad o p K) p fun q r =>
 C.i false i (fun K => C.ab 1 q r K) r fun s t =>
 C.i false i (fun K => C.ai s t K) t fun u v =>
 C.i false i (fun K => C.bk u v K) v fun x y =>
 C.i false i (fun K => C.aj .geq k x y K) y fun z aa =>
 C.a2 (some i) (some (.bool true)) (some z) aa fun ab ac =>
 C.am ab (K (.int .i64 (-1)) ac) (F283.k3 K x0 x1 ac))) : C.q Tryz.prog 283 #[x0, x1] w K := q9 (A := F283.ann) (args := [x0, x1]) (qq h)
namespace F285
def ann : Ann := ⟨[(2, [0, 1]), (3, [0, 1]), (5, [1])], [(1, [0, 1])], [], [], none⟩
def code := cd Tryz.f285
def top := tp Tryz.f285
variable (K : VK) (y0 y1 : Value) (w : World)
def k3 : Prop := nk ann 16 [(0, y0), (1, y1)] w [1, 1] code (top K)
def l1 : Prop := nl ann 16 [(0, y0), (1, y1)] w [1, 0, 0] code (top K)
def k2 : Prop := nk ann 16 [(0, y0), (1, y1)] w [1, 0, 0, 0, 1] code (top K)
def k5 : Prop := nk ann 16 [(1, y1)] w [1, 1, 1] code (top K)
attribute [irreducible] k3 l1 k2 k5
end F285
theorem F285.k3.to (h : (C.q Tryz.prog 295 #[y0, y1] w fun a b =>
 C.aj .eql a (.int .i64 0) b fun c d =>
 C.am c (K (.int .i64 (-1)) d) (F285.k5 K y1 d))) : F285.k3 K y0 y1 w := qq h
theorem F285.l1.to (h : (C.q Tryz.prog 283 #[y0, y1] w fun a b =>
 C.aj .eql a (.int .i64 6) b fun c d =>
 C.am c (F285.k2 K y0 y1 d) (F285.k3 K y0 y1 d))) : F285.l1 K y0 y1 w := by unfold F285.l1 nl; exact qag (qq h)
theorem F285.k2.to (h : (C.aj .sub y1 (.int .i64 1) w fun a b =>
 F285.l1 K y0 a b)) : F285.k2 K y0 y1 w := qq h
theorem F285.k5.to (h : (K y1 w)) : F285.k5 K y1 w := qq h
theorem F285.sh (h : (F285.l1 K x0 x1 w)) : C.q Tryz.prog 285 #[x0, x1] w K := q9 (A := F285.ann) (args := [x0, x1]) (qq h)
namespace F295
def ann : Ann := ⟨[(4, [0, 1, 5]), (6, [0, 1]), (8, [0, 1, 6]), (9, [6])], [(7, [0, 1, 6])], [], [], none⟩
def code := cd Tryz.f295
def top := tp Tryz.f295
variable (K : VK) (y0 y1 y5 y6 : Value) (w : World)
def k4 : Prop := nk ann 24 [(0, y0), (1, y1), (5, y5)] w [1, 1, 1] code (top K)
def k6 : Prop := nk ann 24 [(0, y0), (1, y1)] w [1, 1, 1, 1] code (top K)
def k9 : Prop := nk ann 24 [(6, y6)] w [1, 1, 1, 1, 1, 1] code (top K)
def l7 : Prop := nl ann 24 [(0, y0), (1, y1), (6, y6)] w [1, 1, 1, 1, 1, 0, 0] code (top K)
def k8 : Prop := nk ann 24 [(0, y0), (1, y1), (6, y6)] w [1, 1, 1, 1, 1, 0, 0, 0, 1] code (top K)
attribute [irreducible] k4 k6 k9 l7 k8
end F295
theorem F295.k4.to (h : (C.aj .neq y5 (.int .i64 5) w fun a b =>
 C.am a (K (.int .i64 0) b) (F295.k6 K y0 y1 b))) : F295.k4 K y0 y1 y5 w := qq h
theorem F295.k6.to (h : (F295.l7 K y0 y1 (.int .i64 1) w)) : F295.k6 K y0 y1 w := qq h
theorem F295.k9.to (h : (K y6 w)) : F295.k9 K y6 w := qq h
theorem F295.l7.to (h : (C.aj .add y1 y6 w fun a b =>
 C.q Tryz.prog 283 #[y0, a] b fun c d =>
 C.aj .eql c (.int .i64 6) d fun f g =>
 C.am f (F295.k8 K y0 y1 y6 g) (F295.k9 K y6 g))) : F295.l7 K y0 y1 y6 w := by unfold F295.l7 nl; exact qag (qq h)
theorem F295.k8.to (h : (C.aj .add y6 (.int .i64 1) w fun a b =>
 F295.l7 K y0 y1 a b)) : F295.k8 K y0 y1 y6 w := qq h
theorem F295.sh (h : (C.q Tryz.prog 283 #[x0, x1] w fun a b =>
 C.q Tryz.prog 175 #[a] b fun c d =>
 C.aj .gtr c (.int .i64 0) d fun f g =>
 C.am f (K (.int .i64 1) g) (F295.k4 K x0 x1 a g))) : C.q Tryz.prog 295 #[x0, x1] w K := q9 (A := F295.ann) (args := [x0, x1]) (qq h)
end
noncomputable section
variable {K : VK} {w : World} {x0 x1 y0 y1 y7 y8 : Value}
namespace F125
def ann : Ann := ⟨[(3, [0, 1, 7, 8]), (6, [0, 1, 7, 8]), (7, [])], [(2, [0, 1, 7, 8])], [], [], none⟩
def code := cd Tryz.f125
def top := tp Tryz.f125
variable (K : VK) (y0 y1 y7 y8 : Value) (w : World)
def k7 : Prop := nk ann 19 [] w [1, 1] code (top K)
def l2 : Prop := nl ann 19 [(0, y0), (1, y1), (7, y7), (8, y8)] w [1, 0, 1, 0] code (top K)
def k3 : Prop := nk ann 19 [(0, y0), (1, y1), (7, y7), (8, y8)] w [1, 0, 1, 0, 0, 1, 1] code (top K)
def k6 : Prop := nk ann 19 [(0, y0), (1, y1), (7, y7), (8, y8)] w [1, 0, 1, 0, 0, 1, 1, 1] code (top K)
attribute [irreducible] k7 l2 k3 k6
end F125
theorem F125.k7.to (h : (K (.int .i64 (-1)) w)) : F125.k7 K w := qq h
theorem F125.l2.to (h : (C.aj .lss y8 y7 w fun a b =>
 C.am a (F125.k3 K y0 y1 y7 y8 b) (F125.k7 K b))) : F125.l2 K y0 y1 y7 y8 w := by unfold F125.l2 nl; exact qag (qq h)
theorem F125.k3.to (h : (C.bj 1 y0 y8 w fun a b =>
 C.ai a b fun c d =>
 C.aj .eql y1 c d fun f g =>
 C.am f (K y8 g) (F125.k6 K y0 y1 y7 y8 g))) : F125.k3 K y0 y1 y7 y8 w := qq h
theorem F125.k6.to (h : (C.aj .add y8 (.int .i64 1) w fun a b =>
 F125.l2 K y0 y1 y7 a b)) : F125.k6 K y0 y1 y7 y8 w := qq h
theorem F125.sh (h : (C.bk x0 w fun a b =>
 F125.l2 K x0 x1 a (.int .i64 0) b)) : C.q Tryz.prog 125 #[x0, x1] w K := q9 (A := F125.ann) (args := [x0, x1]) (qq h)

theorem F85.sh (h : (C.q Tryz.prog 125 #[x0, x1] w fun a b =>
 C.aj .geq a (.int .i64 0) b fun c d =>
 K c d)) : C.q Tryz.prog 85 #[x0, x1] w K := q9 (A := A0) (args := [x0, x1]) (qq h)
end
end Go.Proofs.YtcakfaakbpdklaaGreatDoorV
