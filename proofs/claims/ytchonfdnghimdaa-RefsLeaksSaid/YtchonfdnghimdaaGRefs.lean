/- What the bodies of these functions ask, as plain statements. Written by gen.py (own work) for the seat Ytchonfdnghimdaa. -/
import Derived.Test.YtchonfdnghimdaaVc3
import Derived.Test.YtchonfdnghimdaaProg
namespace Go.Proofs.YtchonfdnghimdaaV
open Go Go.Proofs
set_option linter.unusedVariables false
set_option maxRecDepth 100000

/-! ### 6 scutage/scutagelaw35.RefsLeaks (25) -/
namespace F6
def ann : Ann := ⟨[(3, [1]), (7, [1, 3, 4, 5]), (8, [1, 3, 4, 5]), (11, [1, 3, 4, 5, 6, 7]), (12, [1, 3, 4, 5, 6, 7]), (13, [1, 3, 4, 5, 6]), (15, [3, 4])], [(6, [1, 3, 4, 5]), (10, [1, 3, 4, 5, 6, 7])], [], [(4, (.take 0 (.take 2 (.go 1 (.go 3 (.take 4 (.take 5 .fin)) .fin) .fin)))), (12, (.take 0 (.take 1 (.take 2 (.take 3 (.take 4 (.take 5 (.take 6 (.go 7 (.take 8 (.take 9 (.take 12 (.take 13 (.take 14 (.take 17 (.take 18 (.take 19 (.take 10 (.take 11 (.take 15 (.take 20 (.go 16 (.take 21 (.go 22 (.take 23 (.take 24 (.take 25 .fin))) .fin)) .fin))))))))))))) .fin)))))))))], none⟩
noncomputable def code : Code := match Try.f6.body with | some c => c | none => .skip
noncomputable def top (K : VK) : QE := retQ Try.prog Try.f6.results.toList K
noncomputable def k3 (K : VK) (y1 : Value) (w : World) : Prop := nav ann Try.prog 63 (fun c Q => vcCode ann Try.prog 63 c Q [(1, y1)] w) [1, 1] code (top K)
attribute [irreducible] k3
noncomputable def k15 (K : VK) (y3 y4 : Value) (w : World) : Prop := nav ann Try.prog 63 (fun c Q => vcCode ann Try.prog 63 c Q [(3, y3), (4, y4)] w) [1, 1, 1, 1, 1] code (top K)
attribute [irreducible] k15
noncomputable def l6 (K : VK) (y1 y3 y4 y5 : Value) (w : World) : Prop := nav ann Try.prog 63 (isLoop ann Try.prog 63 [(1, y1), (3, y3), (4, y4), (5, y5)] w) [1, 1, 1, 1, 0, 1, 0] code (top K)
attribute [irreducible] l6
noncomputable def k8 (K : VK) (y1 y3 y4 y5 : Value) (w : World) : Prop := nav ann Try.prog 63 (fun c Q => vcCode ann Try.prog 63 c Q [(1, y1), (3, y3), (4, y4), (5, y5)] w) [1, 1, 1, 1, 0, 1, 0, 0, 1] code (top K)
attribute [irreducible] k8
noncomputable def k7 (K : VK) (y1 y3 y4 y5 : Value) (w : World) : Prop := nav ann Try.prog 63 (fun c Q => vcCode ann Try.prog 63 c Q [(1, y1), (3, y3), (4, y4), (5, y5)] w) [1, 1, 1, 1, 0, 1, 0, 0, 1, 1] code (top K)
attribute [irreducible] k7
noncomputable def k13 (K : VK) (y1 y3 y4 y5 y6 : Value) (w : World) : Prop := nav ann Try.prog 63 (fun c Q => vcCode ann Try.prog 63 c Q [(1, y1), (3, y3), (4, y4), (5, y5), (6, y6)] w) [1, 1, 1, 1, 0, 1, 0, 0, 1, 0, 0, 1, 1] code (top K)
attribute [irreducible] k13
noncomputable def l10 (K : VK) (y1 y3 y4 y5 y6 y7 : Value) (w : World) : Prop := nav ann Try.prog 63 (isLoop ann Try.prog 63 [(1, y1), (3, y3), (4, y4), (5, y5), (6, y6), (7, y7)] w) [1, 1, 1, 1, 0, 1, 0, 0, 1, 0, 0, 1, 0, 1, 0] code (top K)
attribute [irreducible] l10
noncomputable def k12 (K : VK) (y1 y3 y4 y5 y6 y7 : Value) (w : World) : Prop := nav ann Try.prog 63 (fun c Q => vcCode ann Try.prog 63 c Q [(1, y1), (3, y3), (4, y4), (5, y5), (6, y6), (7, y7)] w) [1, 1, 1, 1, 0, 1, 0, 0, 1, 0, 0, 1, 0, 1, 0, 0, 1] code (top K)
attribute [irreducible] k12
noncomputable def k11 (K : VK) (y1 y3 y4 y5 y6 y7 : Value) (w : World) : Prop := nav ann Try.prog 63 (fun c Q => vcCode ann Try.prog 63 c Q [(1, y1), (3, y3), (4, y4), (5, y5), (6, y6), (7, y7)] w) [1, 1, 1, 1, 0, 1, 0, 0, 1, 0, 0, 1, 0, 1, 0, 0, 1, 1] code (top K)
attribute [irreducible] k11
end F6
theorem F6.k3.to {K : VK} {y1 : Value} {w : World} (h : (C.loadA 2 y1 w fun x10_1 w1 =>
  C.call Try.prog 18 #[x10_1] w1 fun x11_2 w2 =>
  C.store 2 y1 x11_2 w2 fun w3 =>
  C.draw w3 fun S w4 =>
  C.loadAS S 2 y1 w4 fun x12_5 w5 =>
  C.loadAS S 2 y1 w5 fun x14_6 w6 =>
  (C.call Try.prog 19 #[x12_5] w6 fun x13_7 w7 =>
  (S w7 ∧
  (C.call Try.prog 13 #[x14_6] w7 fun x15_8 w8 =>
  (S w8 ∧
  F6.l6 K y1 x13_7 x15_8 (.int .i64 0) w8)) ∧ True)) ∧ True)) : F6.k3 K y1 w := Eq.mpr (by kernel_rfl) h
theorem F6.k15.to {K : VK} {y3 y4 : Value} {w : World} (h : (C.len y4 w fun x56_1 w1 =>
  C.int .gtr x56_1 (.int .i64 0) w1 fun x57_2 w2 =>
  C.guarded false x57_2 (fun K => K y3 w2) w2 fun x59_3 w3 =>
  C.guarded false x57_2 (fun K => C.len x59_3 w3 K) w3 fun x60_4 w4 =>
  C.guarded false x57_2 (fun K => C.int .eql x60_4 (.int .i64 0) w4 K) w4 fun x61_5 w5 =>
  C.pick (some x57_2) (some (.bool true)) (some x61_5) w5 fun x62_6 w6 =>
  K x62_6 w6)) : F6.k15 K y3 y4 w := Eq.mpr (by kernel_rfl) h
theorem F6.l6.to {K : VK} {y1 y3 y4 y5 : Value} {w : World} (h : (C.len y3 w fun x18_1 w1 =>
  C.int .lss y5 x18_1 w1 fun x19_2 w2 =>
  C.ite x19_2 (F6.k8 K y1 y3 y4 y5 w2) (F6.k15 K y3 y4 w2))) : F6.l6 K y1 y3 y4 y5 w := by unfold F6.l6; exact nav_round (Eq.mpr (by kernel_rfl) h)
theorem F6.k8.to {K : VK} {y1 y3 y4 y5 : Value} {w : World} (h : (F6.l10 K y1 y3 y4 y5 (.bool false) (.int .i64 0) w)) : F6.k8 K y1 y3 y4 y5 w := Eq.mpr (by kernel_rfl) h
theorem F6.k7.to {K : VK} {y1 y3 y4 y5 : Value} {w : World} (h : (C.int .add y5 (.int .i64 1) w fun x21_1 w1 =>
  F6.l6 K y1 y3 y4 x21_1 w1)) : F6.k7 K y1 y3 y4 y5 w := Eq.mpr (by kernel_rfl) h
theorem F6.k13.to {K : VK} {y1 y3 y4 y5 y6 : Value} {w : World} (h : (C.not y6 w fun x54_1 w1 =>
  C.ite x54_1 (K (.bool false) w1) (F6.k7 K y1 y3 y4 y5 w1))) : F6.k13 K y1 y3 y4 y5 y6 w := Eq.mpr (by kernel_rfl) h
theorem F6.l10.to {K : VK} {y1 y3 y4 y5 y6 y7 : Value} {w : World} (h : (C.len y4 w fun x24_1 w1 =>
  C.int .lss y7 x24_1 w1 fun x25_2 w2 =>
  C.ite x25_2 (F6.k12 K y1 y3 y4 y5 y6 y7 w2) (F6.k13 K y1 y3 y4 y5 y6 w2))) : F6.l10 K y1 y3 y4 y5 y6 y7 w := by unfold F6.l10; exact nav_round (Eq.mpr (by kernel_rfl) h)
theorem F6.k12.to {K : VK} {y1 y3 y4 y5 y6 y7 : Value} {w : World} (h : (C.draw w fun S w1 =>
  C.guarded false y6 (fun K => K y3 w1) w1 fun x30_2 w2 =>
  C.guarded false y6 (fun K => K y4 w2) w2 fun x31_3 w3 =>
  C.guarded false y6 (fun K => K y7 w3) w3 fun x32_4 w4 =>
  C.guarded false y6 (fun K => C.idx 1 x31_3 x32_4 w4 K) w4 fun x33_5 w5 =>
  C.guarded false y6 (fun K => C.load1S S x33_5 w5 K) w5 fun x34_6 w6 =>
  (C.guarded false y6 (fun K => C.call Try.prog 20 #[x30_2, x34_6] w6 K) w6 fun x35_7 w7 =>
  (S w7 ∧
  C.guarded false y6 (fun K => K x35_7 w7) w7 fun x36_8 w8 =>
  C.guarded true x36_8 (fun K => C.field 0 y1 w8 K) w8 fun x37_9 w9 =>
  C.guarded true x36_8 (fun K => K y4 w9) w9 fun x40_10 w10 =>
  C.guarded true x36_8 (fun K => K y7 w10) w10 fun x41_11 w11 =>
  C.guarded true x36_8 (fun K => C.idx 1 x40_10 x41_11 w11 K) w11 fun x42_12 w12 =>
  C.guarded true x36_8 (fun K => K y3 w12) w12 fun x45_13 w13 =>
  C.guarded true x36_8 (fun K => K y5 w13) w13 fun x46_14 w14 =>
  C.guarded true x36_8 (fun K => C.idx 1 x45_13 x46_14 w14 K) w14 fun x47_15 w15 =>
  C.guarded true x36_8 (fun K => C.load1S S x37_9 w15 K) w15 fun x38_16 w16 =>
  C.guarded true x36_8 (fun K => ∃ x39_17, (∀ w', S w' → (Instr.build 30 #[(0, x38_16)]).run Try.prog w' = .ok x39_17 w') ∧ K x39_17 w16) w16 fun x39_17 w17 =>
  C.guarded true x36_8 (fun K => C.load1S S x42_12 w17 K) w17 fun x43_18 w18 =>
  C.guarded true x36_8 (fun K => C.load1S S x47_15 w18 K) w18 fun x48_19 w19 =>
  (C.guarded true x36_8 (fun K => C.call Try.prog 9 #[x39_17, x43_18] w19 K) w19 fun x44_20 w20 =>
  (S w20 ∧
  C.guarded true x36_8 (fun K => C.idx 1 x44_20 x48_19 w20 K) w20 fun x49_21 w21 =>
  (C.guarded true x36_8 (fun K => C.load1 x49_21 w21 K) w21 fun x50_22 w22 =>
  (S w22 ∧
  C.guarded false y6 (fun K => C.pick (some x36_8) (some x50_22) (some (.bool false)) w22 K) w22 fun x51_23 w23 =>
  C.pick (some y6) (some (.bool true)) (some x51_23) w23 fun x52_24 w24 =>
  F6.k11 K y1 y3 y4 y5 x52_24 y7 w24)) ∧ True)) ∧ True)) ∧ True)) : F6.k12 K y1 y3 y4 y5 y6 y7 w := Eq.mpr (by kernel_rfl) h
theorem F6.k11.to {K : VK} {y1 y3 y4 y5 y6 y7 : Value} {w : World} (h : (C.int .add y7 (.int .i64 1) w fun x27_1 w1 =>
  F6.l10 K y1 y3 y4 y5 y6 x27_1 w1)) : F6.k11 K y1 y3 y4 y5 y6 y7 w := Eq.mpr (by kernel_rfl) h
theorem F6.sh {K : VK} {x0 : Value} {w : World} (h : (C.new (.cells (Value.cells x0) 25) w fun x1_1 w1 =>
  C.call Try.prog 17 #[] w1 fun x8_2 w2 =>
  C.not x8_2 w2 fun x9_3 w3 =>
  C.ite x9_3 (K (.bool false) w3) (F6.k3 K x1_1 w3))) : C.call Try.prog 6 #[x0] w K := calls_of_vc (A := F6.ann) (args := [x0]) (Eq.mpr (by kernel_rfl) h)

/-! ### 17 scutage/scutagelaw35.alive () -/
namespace F17
def ann : Ann := ⟨[], [], [], [], none⟩
noncomputable def code : Code := match Try.f17.body with | some c => c | none => .skip
noncomputable def top (K : VK) : QE := retQ Try.prog Try.f17.results.toList K
end F17
theorem F17.sh {K : VK} {w : World} (h : (C.run Try.prog (Instr.buildSlice 23 1 #[(0, (.int .i64 1))]) w fun x2_1 w1 =>
  C.run Try.prog (Instr.buildSlice 23 1 #[(0, (.int .i64 0))]) w1 fun x3_2 w2 =>
  C.run Try.prog (Instr.buildSlice 23 1 #[(0, (.int .i64 3))]) w2 fun x4_3 w3 =>
  C.run Try.prog (Instr.buildSlice 22 5 #[(0, x2_1), (1, x3_2), (2, x4_3), (3, (.slice none 0 0)), (4, (.slice none 0 0))]) w3 fun x5_4 w4 =>
  C.run Try.prog (Instr.buildSlice 23 2 #[(0, (.int .i64 4)), (1, (.int .i64 4))]) w4 fun x6_5 w5 =>
  C.run Try.prog (Instr.build 25 #[(0, x5_4), (1, x6_5)]) w5 fun x7_6 w6 =>
  C.new (.cells #[.slice none 0 0, .slice none 0 0] 25) w6 fun x1_7 w7 =>
  C.store 2 x1_7 x7_6 w7 fun w8 =>
  C.loadA 2 x1_7 w8 fun x8_9 w9 =>
  C.call Try.prog 34 #[x8_9] w9 fun x9_10 w10 =>
  C.run Try.prog (Instr.buildSlice 23 5 #[(0, (.int .i64 1)), (1, (.int .i64 1)), (2, (.int .i64 0)), (3, (.int .i64 1)), (4, (.int .i64 2))]) w10 fun x10_11 w11 =>
  C.call Try.prog 12 #[x9_10, x10_11] w11 fun x11_12 w12 =>
  C.guarded true x11_12 (fun K => C.loadA 2 x1_7 w12 K) w12 fun x13_13 w13 =>
  C.guarded true x11_12 (fun K => C.call Try.prog 35 #[x13_13] w13 K) w13 fun x14_14 w14 =>
  C.guarded true x11_12 (fun K => C.run Try.prog (Instr.buildSlice 23 2 #[(0, (.int .i64 2)), (1, (.int .i64 3))]) w14 K) w14 fun x15_15 w15 =>
  C.guarded true x11_12 (fun K => C.call Try.prog 12 #[x14_14, x15_15] w15 K) w15 fun x16_16 w16 =>
  C.pick (some x11_12) (some x16_16) (some (.bool false)) w16 fun x17_17 w17 =>
  C.guarded true x17_17 (fun K => C.loadA 2 x1_7 w17 K) w17 fun x19_18 w18 =>
  C.guarded true x17_17 (fun K => C.call Try.prog 19 #[x19_18] w18 K) w18 fun x20_19 w19 =>
  C.guarded true x17_17 (fun K => C.run Try.prog (Instr.buildSlice 23 2 #[(0, (.int .i64 0)), (1, (.int .i64 1))]) w19 K) w19 fun x21_20 w20 =>
  C.guarded true x17_17 (fun K => C.call Try.prog 12 #[x20_19, x21_20] w20 K) w20 fun x22_21 w21 =>
  C.pick (some x17_17) (some x22_21) (some (.bool false)) w21 fun x23_22 w22 =>
  K x23_22 w22)) : C.call Try.prog 17 #[] w K := calls_of_vc (A := F17.ann) (args := []) (Eq.mpr (by kernel_rfl) h)

/-! ### 18 scutage/scutagelaw35.few (25) -/
namespace F18
def ann : Ann := ⟨[(3, [1, 2])], [], [], [], none⟩
noncomputable def code : Code := match Try.f18.body with | some c => c | none => .skip
noncomputable def top (K : VK) : QE := retQ Try.prog Try.f18.results.toList K
noncomputable def k3 (K : VK) (y1 y2 : Value) (w : World) : Prop := nav ann Try.prog 12 (fun c Q => vcCode ann Try.prog 12 c Q [(1, y1), (2, y2)] w) [1, 1] code (top K)
attribute [irreducible] k3
end F18
theorem F18.k3.to {K : VK} {y1 y2 : Value} {w : World} (h : (C.loadA 2 y1 w fun x11_1 w1 =>
  C.store 2 y2 x11_1 w1 fun w2 =>
  C.loadA 2 y2 w2 fun r3 _ =>
  K r3 w2)) : F18.k3 K y1 y2 w := Eq.mpr (by kernel_rfl) h
theorem F18.sh {K : VK} {x0 : Value} {w : World} (h : (C.new (.cells (Value.cells x0) 25) w fun x1_1 w1 =>
  C.new (.cells #[.slice none 0 0, .slice none 0 0] 25) w1 fun x2_2 w2 =>
  C.field 0 x1_1 w2 fun x3_3 w3 =>
  C.load1 x3_3 w3 fun x4_4 w4 =>
  C.len x4_4 w4 fun x5_5 w5 =>
  C.int .gtr x5_5 (.int .i64 20) w5 fun x6_6 w6 =>
  C.ite x6_6 (C.field 0 x1_1 w6 fun x7_7 w7 =>
  C.load1 x7_7 w7 fun x8_8 w8 =>
  C.run Try.prog (Instr.sliceAt 22 x8_8 none (some (.int .i64 20)) none) w8 fun x9_9 w9 =>
  C.field 0 x1_1 w9 fun x10_10 w10 =>
  C.store 1 x10_10 x9_9 w10 fun w11 =>
  F18.k3 K x1_1 x2_2 w11) (F18.k3 K x1_1 x2_2 w6))) : C.call Try.prog 18 #[x0] w K := calls_of_vc (A := F18.ann) (args := [x0]) (Eq.mpr (by kernel_rfl) h)

/-! ### 19 scutage/refs.Leaks (25) -/
namespace F19
def ann : Ann := ⟨[], [], [], [], none⟩
noncomputable def code : Code := match Try.f19.body with | some c => c | none => .skip
noncomputable def top (K : VK) : QE := retQ Try.prog Try.f19.results.toList K
end F19
theorem F19.sh {K : VK} {x0 : Value} {w : World} (h : (C.new (.cells (Value.cells x0) 25) w fun x1_1 w1 =>
  C.loadA 2 x1_1 w1 fun x4_2 w2 =>
  C.call Try.prog 36 #[x4_2] w2 fun x5_3 w3 =>
  C.new (.cells #[.slice none 0 0] 28) w3 fun x3_4 w4 =>
  C.store 1 x3_4 x5_3 w4 fun w5 =>
  C.loadA 2 x1_1 w5 fun x6_6 w6 =>
  C.call Try.prog 38 #[x6_6] w6 fun x7_7 w7 =>
  C.call Try.prog 37 #[x7_7, (.func (.func 39) #[] #[x3_4])] w7 fun x9_8 w8 =>
  K x9_8 w8)) : C.call Try.prog 19 #[x0] w K := calls_of_vc (A := F19.ann) (args := [x0]) (Eq.mpr (by kernel_rfl) h)

/-! ### 34 scutage/refs.Counts (25) -/
namespace F34
def ann : Ann := ⟨[], [], [], [], none⟩
noncomputable def code : Code := match Try.f34.body with | some c => c | none => .skip
noncomputable def top (K : VK) : QE := retQ Try.prog Try.f34.results.toList K
end F34
theorem F34.sh {K : VK} {x0 : Value} {w : World} (h : (C.new (.cells (Value.cells x0) 25) w fun x1_1 w1 =>
  C.field 0 x1_1 w1 fun x4_2 w2 =>
  C.load1 x4_2 w2 fun x5_3 w3 =>
  C.len x5_3 w3 fun x6_4 w4 =>
  C.run Try.prog (Instr.makeSlice 23 x6_4 x6_4) w4 fun x7_5 w5 =>
  C.new (.cells #[.slice none 0 0] 23) w5 fun x3_6 w6 =>
  C.store 1 x3_6 x7_5 w6 fun w7 =>
  C.loadA 2 x1_1 w7 fun x8_8 w8 =>
  C.call Try.prog 50 #[x8_8, (.func (.func 51) #[] #[x3_6])] w8 fun x10_9 w9 =>
  C.load1 x3_6 w9 fun x11_10 w10 =>
  K x11_10 w10)) : C.call Try.prog 34 #[x0] w K := calls_of_vc (A := F34.ann) (args := [x0]) (Eq.mpr (by kernel_rfl) h)

/-! ### 35 scutage/refs.Falls (25) -/
namespace F35
def ann : Ann := ⟨[(4, [3, 7, 8, 9]), (7, [3, 7, 8, 9]), (8, [3])], [(3, [3, 7, 8, 9])], [], [], none⟩
noncomputable def code : Code := match Try.f35.body with | some c => c | none => .skip
noncomputable def top (K : VK) : QE := retQ Try.prog Try.f35.results.toList K
noncomputable def k8 (K : VK) (y3 : Value) (w : World) : Prop := nav ann Try.prog 21 (fun c Q => vcCode ann Try.prog 21 c Q [(3, y3)] w) [1, 1, 1] code (top K)
attribute [irreducible] k8
noncomputable def l3 (K : VK) (y3 y7 y8 y9 : Value) (w : World) : Prop := nav ann Try.prog 21 (isLoop ann Try.prog 21 [(3, y3), (7, y7), (8, y8), (9, y9)] w) [1, 1, 0, 1, 0] code (top K)
attribute [irreducible] l3
noncomputable def k4 (K : VK) (y3 y7 y8 y9 : Value) (w : World) : Prop := nav ann Try.prog 21 (fun c Q => vcCode ann Try.prog 21 c Q [(3, y3), (7, y7), (8, y8), (9, y9)] w) [1, 1, 0, 1, 0, 0, 1, 1] code (top K)
attribute [irreducible] k4
noncomputable def k7 (K : VK) (y3 y7 y8 y9 : Value) (w : World) : Prop := nav ann Try.prog 21 (fun c Q => vcCode ann Try.prog 21 c Q [(3, y3), (7, y7), (8, y8), (9, y9)] w) [1, 1, 0, 1, 0, 0, 1, 1, 1] code (top K)
attribute [irreducible] k7
end F35
theorem F35.k8.to {K : VK} {y3 : Value} {w : World} (h : (K y3 w)) : F35.k8 K y3 w := Eq.mpr (by kernel_rfl) h
theorem F35.l3.to {K : VK} {y3 y7 y8 y9 : Value} {w : World} (h : (C.int .lss y9 y8 w fun x10_1 w1 =>
  C.ite x10_1 (F35.k4 K y3 y7 y8 y9 w1) (F35.k8 K y3 w1))) : F35.l3 K y3 y7 y8 y9 w := by unfold F35.l3; exact nav_round (Eq.mpr (by kernel_rfl) h)
theorem F35.k4.to {K : VK} {y3 y7 y8 y9 : Value} {w : World} (h : (C.idx 1 y7 y9 w fun x12_1 w1 =>
  C.load1 x12_1 w1 fun x13_2 w2 =>
  C.ite x13_2 (C.run Try.prog (Instr.buildSlice 23 1 #[(0, y9)]) w2 fun x17_3 w3 =>
  C.run Try.prog (Builtin.append_ #[23, 23] 23 #[y3, x17_3]) w3 fun x18_4 w4 =>
  F35.k7 K x18_4 y7 y8 y9 w4) (F35.k7 K y3 y7 y8 y9 w2))) : F35.k4 K y3 y7 y8 y9 w := Eq.mpr (by kernel_rfl) h
theorem F35.k7.to {K : VK} {y3 y7 y8 y9 : Value} {w : World} (h : (C.int .add y9 (.int .i64 1) w fun x19_1 w1 =>
  F35.l3 K y3 y7 y8 x19_1 w1)) : F35.k7 K y3 y7 y8 y9 w := Eq.mpr (by kernel_rfl) h
theorem F35.sh {K : VK} {x0 : Value} {w : World} (h : (C.new (.cells (Value.cells x0) 25) w fun x1_1 w1 =>
  C.loadA 2 x1_1 w1 fun x6_2 w2 =>
  C.call Try.prog 36 #[x6_2] w2 fun x7_3 w3 =>
  C.len x7_3 w3 fun x8_4 w4 =>
  F35.l3 K (.slice none 0 0) x7_3 x8_4 (.int .i64 0) w4)) : C.call Try.prog 35 #[x0] w K := calls_of_vc (A := F35.ann) (args := [x0]) (Eq.mpr (by kernel_rfl) h)

/-! ### 36 scutage/refs.falls (25) -/
namespace F36
def ann : Ann := ⟨[(2, [1, 3, 4]), (5, [1, 3, 4, 5, 16, 17, 18]), (8, [1, 3, 4, 5, 16, 17, 18]), (9, [1, 3, 4, 5]), (11, [1, 3, 4, 5, 8]), (12, [1, 3, 4, 5, 8]), (15, [4])], [(4, [1, 3, 4, 5, 16, 17, 18]), (10, [1, 3, 4, 5, 8])], [], [(1, (.take 2 (.take 0 (.take 3 (.take 4 (.go 1 (.go 5 (.go 6 (.go 7 (.take 8 .fin) .fin) .fin) (.go 6 (.go 5 (.go 7 (.take 8 .fin) .fin) (.go 7 (.go 5 (.take 8 .fin) .fin) .fin)) .fin)) (.go 5 (.go 1 (.go 6 (.go 7 (.take 8 .fin) .fin) .fin) (.go 6 (.go 1 (.go 7 (.take 8 .fin) .fin) .fin) .fin)) (.go 6 (.go 1 (.go 5 (.go 7 (.take 8 .fin) .fin) (.go 7 (.go 5 (.take 8 .fin) .fin) .fin)) (.go 5 (.go 1 (.go 7 (.take 8 .fin) .fin) .fin) .fin)) .fin)))))))), (14, (.take 0 (.take 4 (.take 6 (.take 10 (.take 1 (.take 2 (.take 5 (.take 7 (.take 8 (.go 3 (.take 9 (.go 11 .fin .fin)) .fin)))))))))))], none⟩
noncomputable def code : Code := match Try.f36.body with | some c => c | none => .skip
noncomputable def top (K : VK) : QE := retQ Try.prog Try.f36.results.toList K
noncomputable def k2 (K : VK) (y1 y3 y4 : Value) (w : World) : Prop := nav ann Try.prog 56 (fun c Q => vcCode ann Try.prog 56 c Q [(1, y1), (3, y3), (4, y4)] w) [1, 1] code (top K)
attribute [irreducible] k2
noncomputable def k9 (K : VK) (y1 y3 y4 y5 : Value) (w : World) : Prop := nav ann Try.prog 56 (fun c Q => vcCode ann Try.prog 56 c Q [(1, y1), (3, y3), (4, y4), (5, y5)] w) [1, 1, 1, 1] code (top K)
attribute [irreducible] k9
noncomputable def l4 (K : VK) (y1 y3 y4 y5 y16 y17 y18 : Value) (w : World) : Prop := nav ann Try.prog 56 (isLoop ann Try.prog 56 [(1, y1), (3, y3), (4, y4), (5, y5), (16, y16), (17, y17), (18, y18)] w) [1, 1, 1, 0, 1, 0] code (top K)
attribute [irreducible] l4
noncomputable def k5 (K : VK) (y1 y3 y4 y5 y16 y17 y18 : Value) (w : World) : Prop := nav ann Try.prog 56 (fun c Q => vcCode ann Try.prog 56 c Q [(1, y1), (3, y3), (4, y4), (5, y5), (16, y16), (17, y17), (18, y18)] w) [1, 1, 1, 0, 1, 0, 0, 1, 1] code (top K)
attribute [irreducible] k5
noncomputable def k8 (K : VK) (y1 y3 y4 y5 y16 y17 y18 : Value) (w : World) : Prop := nav ann Try.prog 56 (fun c Q => vcCode ann Try.prog 56 c Q [(1, y1), (3, y3), (4, y4), (5, y5), (16, y16), (17, y17), (18, y18)] w) [1, 1, 1, 0, 1, 0, 0, 1, 1, 1] code (top K)
attribute [irreducible] k8
noncomputable def k15 (K : VK) (y4 : Value) (w : World) : Prop := nav ann Try.prog 56 (fun c Q => vcCode ann Try.prog 56 c Q [(4, y4)] w) [1, 1, 1, 1, 1] code (top K)
attribute [irreducible] k15
noncomputable def l10 (K : VK) (y1 y3 y4 y5 y8 : Value) (w : World) : Prop := nav ann Try.prog 56 (isLoop ann Try.prog 56 [(1, y1), (3, y3), (4, y4), (5, y5), (8, y8)] w) [1, 1, 1, 1, 0, 1, 0] code (top K)
attribute [irreducible] l10
noncomputable def k12 (K : VK) (y1 y3 y4 y5 y8 : Value) (w : World) : Prop := nav ann Try.prog 56 (fun c Q => vcCode ann Try.prog 56 c Q [(1, y1), (3, y3), (4, y4), (5, y5), (8, y8)] w) [1, 1, 1, 1, 0, 1, 0, 0, 1] code (top K)
attribute [irreducible] k12
noncomputable def k11 (K : VK) (y1 y3 y4 y5 y8 : Value) (w : World) : Prop := nav ann Try.prog 56 (fun c Q => vcCode ann Try.prog 56 c Q [(1, y1), (3, y3), (4, y4), (5, y5), (8, y8)] w) [1, 1, 1, 1, 0, 1, 0, 0, 1, 1] code (top K)
attribute [irreducible] k11
end F36
theorem F36.k2.to {K : VK} {y1 y3 y4 : Value} {w : World} (h : (C.new (.cells #[.slice none 0 0] 23) w fun x5_1 w1 =>
  C.load1 y3 w1 fun x16_2 w2 =>
  C.len x16_2 w2 fun x17_3 w3 =>
  F36.l4 K y1 y3 y4 x5_1 x16_2 x17_3 (.int .i64 0) w3)) : F36.k2 K y1 y3 y4 w := Eq.mpr (by kernel_rfl) h
theorem F36.k9.to {K : VK} {y1 y3 y4 y5 : Value} {w : World} (h : (F36.l10 K y1 y3 y4 y5 (.int .i64 0) w)) : F36.k9 K y1 y3 y4 y5 w := Eq.mpr (by kernel_rfl) h
theorem F36.l4.to {K : VK} {y1 y3 y4 y5 y16 y17 y18 : Value} {w : World} (h : (C.int .lss y18 y17 w fun x19_1 w1 =>
  C.ite x19_1 (F36.k5 K y1 y3 y4 y5 y16 y17 y18 w1) (F36.k9 K y1 y3 y4 y5 w1))) : F36.l4 K y1 y3 y4 y5 y16 y17 y18 w := by unfold F36.l4; exact nav_round (Eq.mpr (by kernel_rfl) h)
theorem F36.k5.to {K : VK} {y1 y3 y4 y5 y16 y17 y18 : Value} {w : World} (h : (C.idx 1 y16 y18 w fun x21_1 w1 =>
  C.load1 x21_1 w1 fun x22_2 w2 =>
  C.int .eql x22_2 (.int .i64 0) w2 fun x24_3 w3 =>
  C.ite x24_3 (C.load1 y5 w3 fun x25_4 w4 =>
  C.run Try.prog (Instr.buildSlice 23 1 #[(0, y18)]) w4 fun x27_5 w5 =>
  C.run Try.prog (Builtin.append_ #[23, 23] 23 #[x25_4, x27_5]) w5 fun x28_6 w6 =>
  C.store 1 y5 x28_6 w6 fun w7 =>
  F36.k8 K y1 y3 y4 y5 y16 y17 y18 w7) (F36.k8 K y1 y3 y4 y5 y16 y17 y18 w3))) : F36.k5 K y1 y3 y4 y5 y16 y17 y18 w := Eq.mpr (by kernel_rfl) h
theorem F36.k8.to {K : VK} {y1 y3 y4 y5 y16 y17 y18 : Value} {w : World} (h : (C.int .add y18 (.int .i64 1) w fun x29_1 w1 =>
  F36.l4 K y1 y3 y4 y5 y16 y17 x29_1 w1)) : F36.k8 K y1 y3 y4 y5 y16 y17 y18 w := Eq.mpr (by kernel_rfl) h
theorem F36.k15.to {K : VK} {y4 : Value} {w : World} (h : (K y4 w)) : F36.k15 K y4 w := Eq.mpr (by kernel_rfl) h
theorem F36.l10.to {K : VK} {y1 y3 y4 y5 y8 : Value} {w : World} (h : (C.load1 y5 w fun x31_1 w1 =>
  C.len x31_1 w1 fun x32_2 w2 =>
  C.int .lss y8 x32_2 w2 fun x33_3 w3 =>
  C.ite x33_3 (F36.k12 K y1 y3 y4 y5 y8 w3) (F36.k15 K y4 w3))) : F36.l10 K y1 y3 y4 y5 y8 w := by unfold F36.l10; exact nav_round (Eq.mpr (by kernel_rfl) h)
theorem F36.k12.to {K : VK} {y1 y3 y4 y5 y8 : Value} {w : World} (h : (C.load1 y5 w fun x36_1 w1 =>
  C.idx 1 x36_1 y8 w1 fun x38_2 w2 =>
  C.load1 x38_2 w2 fun x39_3 w3 =>
  C.idx 1 y4 x39_3 w3 fun x42_4 w4 =>
  C.store 1 x42_4 (.bool true) w4 fun w5 =>
  C.draw w5 fun S w6 =>
  C.field 0 y1 w6 fun x43_7 w7 =>
  C.field 0 y1 w7 fun x47_8 w8 =>
  C.load1S S x43_7 w8 fun x44_9 w9 =>
  C.len x44_9 w9 fun x45_10 w10 =>
  C.load1S S x47_8 w10 fun x48_11 w11 =>
  C.idx 1 x48_11 x39_3 w11 fun x50_12 w12 =>
  C.load1S S x50_12 w12 fun x51_13 w13 =>
  (C.run Try.prog (Instr.makeSlice 22 x45_10 x45_10) w13 fun x46_14 w14 =>
  (S w14 ∧
  ∃ x52_15, (∀ w', S w' → (Instr.build 25 #[(0, x46_14), (1, x51_13)]).run Try.prog w' = .ok x52_15 w') ∧ ((C.call Try.prog 50 #[x52_15, (.func (.func 52) #[] #[y3, y5])] w14 fun x54_16 w16 =>
  (S w16 ∧
  F36.k11 K y1 y3 y4 y5 y8 w16)) ∧ True))) ∧ True)) : F36.k12 K y1 y3 y4 y5 y8 w := Eq.mpr (by kernel_rfl) h
theorem F36.k11.to {K : VK} {y1 y3 y4 y5 y8 : Value} {w : World} (h : (C.int .add y8 (.int .i64 1) w fun x35_1 w1 =>
  F36.l10 K y1 y3 y4 y5 x35_1 w1)) : F36.k11 K y1 y3 y4 y5 y8 w := Eq.mpr (by kernel_rfl) h
theorem F36.sh {K : VK} {x0 : Value} {w : World} (h : (C.new (.cells (Value.cells x0) 25) w fun x1_1 w1 =>
  C.draw w1 fun S w2 =>
  C.field 0 x1_1 w2 fun x12_3 w3 =>
  C.loadAS S 2 x1_1 w3 fun x10_4 w4 =>
  C.load1S S x12_3 w4 fun x13_5 w5 =>
  C.len x13_5 w5 fun x14_6 w6 =>
  (C.call Try.prog 34 #[x10_4] w6 fun x11_23 w23 =>
  (S w23 ∧
  (C.run Try.prog (Instr.makeSlice 28 x14_6 x14_6) w23 fun x15_29 w29 =>
  (S w29 ∧
  (C.new (.cells #[.slice none 0 0] 23) w29 fun x3_30 w30 =>
  (S w30 ∧
  (C.store 1 x3_30 x11_23 w30 fun w31 =>
  (S w31 ∧
  F36.k2 K x1_1 x3_30 x15_29 w31)) ∧ True)) ∧ True)) ∧ ((C.new (.cells #[.slice none 0 0] 23) w23 fun x3_24 w24 =>
  (S w24 ∧
  (C.run Try.prog (Instr.makeSlice 28 x14_6 x14_6) w24 fun x15_27 w27 =>
  (S w27 ∧
  (C.store 1 x3_24 x11_23 w27 fun w28 =>
  (S w28 ∧
  F36.k2 K x1_1 x3_24 x15_27 w28)) ∧ True)) ∧ ((C.store 1 x3_24 x11_23 w24 fun w25 =>
  (S w25 ∧
  (C.run Try.prog (Instr.makeSlice 28 x14_6 x14_6) w25 fun x15_26 w26 =>
  (S w26 ∧
  F36.k2 K x1_1 x3_24 x15_26 w26)) ∧ True)) ∧ True))) ∧ True))) ∧ ((C.run Try.prog (Instr.makeSlice 28 x14_6 x14_6) w6 fun x15_16 w16 =>
  (S w16 ∧
  (C.call Try.prog 34 #[x10_4] w16 fun x11_20 w20 =>
  (S w20 ∧
  (C.new (.cells #[.slice none 0 0] 23) w20 fun x3_21 w21 =>
  (S w21 ∧
  (C.store 1 x3_21 x11_20 w21 fun w22 =>
  (S w22 ∧
  F36.k2 K x1_1 x3_21 x15_16 w22)) ∧ True)) ∧ True)) ∧ ((C.new (.cells #[.slice none 0 0] 23) w16 fun x3_17 w17 =>
  (S w17 ∧
  (C.call Try.prog 34 #[x10_4] w17 fun x11_18 w18 =>
  (S w18 ∧
  (C.store 1 x3_17 x11_18 w18 fun w19 =>
  (S w19 ∧
  F36.k2 K x1_1 x3_17 x15_16 w19)) ∧ True)) ∧ True)) ∧ True))) ∧ ((C.new (.cells #[.slice none 0 0] 23) w6 fun x3_7 w7 =>
  (S w7 ∧
  (C.call Try.prog 34 #[x10_4] w7 fun x11_11 w11 =>
  (S w11 ∧
  (C.run Try.prog (Instr.makeSlice 28 x14_6 x14_6) w11 fun x15_14 w14 =>
  (S w14 ∧
  (C.store 1 x3_7 x11_11 w14 fun w15 =>
  (S w15 ∧
  F36.k2 K x1_1 x3_7 x15_14 w15)) ∧ True)) ∧ ((C.store 1 x3_7 x11_11 w11 fun w12 =>
  (S w12 ∧
  (C.run Try.prog (Instr.makeSlice 28 x14_6 x14_6) w12 fun x15_13 w13 =>
  (S w13 ∧
  F36.k2 K x1_1 x3_7 x15_13 w13)) ∧ True)) ∧ True))) ∧ ((C.run Try.prog (Instr.makeSlice 28 x14_6 x14_6) w7 fun x15_8 w8 =>
  (S w8 ∧
  (C.call Try.prog 34 #[x10_4] w8 fun x11_9 w9 =>
  (S w9 ∧
  (C.store 1 x3_7 x11_9 w9 fun w10 =>
  (S w10 ∧
  F36.k2 K x1_1 x3_7 x15_8 w10)) ∧ True)) ∧ True)) ∧ True))) ∧ True)))) : C.call Try.prog 36 #[x0] w K := calls_of_vc (A := F36.ann) (args := [x0]) (Eq.mpr (by kernel_rfl) h)

/-! ### 37 slices.DeleteFunc[[]int,int] (23, 54) -/
namespace F37
def ann : Ann := ⟨[(4, [0, 1, 5]), (6, [0, 1, 5, 6]), (7, [0, 1, 5, 6]), (11, [0, 5])], [(5, [0, 1, 5, 6])], [], [], none⟩
noncomputable def code : Code := match Try.f37.body with | some c => c | none => .skip
noncomputable def top (K : VK) : QE := retQ Try.prog Try.f37.results.toList K
noncomputable def k4 (K : VK) (y0 y1 y5 : Value) (w : World) : Prop := nav ann Try.prog 42 (fun c Q => vcCode ann Try.prog 42 c Q [(0, y0), (1, y1), (5, y5)] w) [1, 1, 1] code (top K)
attribute [irreducible] k4
noncomputable def k11 (K : VK) (y0 y5 : Value) (w : World) : Prop := nav ann Try.prog 42 (fun c Q => vcCode ann Try.prog 42 c Q [(0, y0), (5, y5)] w) [1, 1, 1, 1] code (top K)
attribute [irreducible] k11
noncomputable def l5 (K : VK) (y0 y1 y5 y6 : Value) (w : World) : Prop := nav ann Try.prog 42 (isLoop ann Try.prog 42 [(0, y0), (1, y1), (5, y5), (6, y6)] w) [1, 1, 1, 0, 1, 0] code (top K)
attribute [irreducible] l5
noncomputable def k7 (K : VK) (y0 y1 y5 y6 : Value) (w : World) : Prop := nav ann Try.prog 42 (fun c Q => vcCode ann Try.prog 42 c Q [(0, y0), (1, y1), (5, y5), (6, y6)] w) [1, 1, 1, 0, 1, 0, 0, 1] code (top K)
attribute [irreducible] k7
noncomputable def k6 (K : VK) (y0 y1 y5 y6 : Value) (w : World) : Prop := nav ann Try.prog 42 (fun c Q => vcCode ann Try.prog 42 c Q [(0, y0), (1, y1), (5, y5), (6, y6)] w) [1, 1, 1, 0, 1, 0, 0, 1, 1] code (top K)
attribute [irreducible] k6
end F37
theorem F37.k4.to {K : VK} {y0 y1 y5 : Value} {w : World} (h : (C.int .add y5 (.int .i64 1) w fun x15_1 w1 =>
  F37.l5 K y0 y1 y5 x15_1 w1)) : F37.k4 K y0 y1 y5 w := Eq.mpr (by kernel_rfl) h
theorem F37.k11.to {K : VK} {y0 y5 : Value} {w : World} (h : (C.run Try.prog (Instr.sliceAt 23 y0 (some y5) none none) w fun x38_1 w1 =>
  C.run Try.prog (Builtin.clear_ #[23] 0 #[x38_1]) w1 fun _ w2 =>
  C.run Try.prog (Instr.sliceAt 23 y0 none (some y5) none) w2 fun x41_3 w3 =>
  K x41_3 w3)) : F37.k11 K y0 y5 w := Eq.mpr (by kernel_rfl) h
theorem F37.l5.to {K : VK} {y0 y1 y5 y6 : Value} {w : World} (h : (C.len y0 w fun x18_1 w1 =>
  C.int .lss y6 x18_1 w1 fun x19_2 w2 =>
  C.ite x19_2 (F37.k7 K y0 y1 y5 y6 w2) (F37.k11 K y0 y5 w2))) : F37.l5 K y0 y1 y5 y6 w := by unfold F37.l5; exact nav_round (Eq.mpr (by kernel_rfl) h)
theorem F37.k7.to {K : VK} {y0 y1 y5 y6 : Value} {w : World} (h : (C.idx 1 y0 y6 w fun x24_1 w1 =>
  C.load1 x24_1 w1 fun x25_2 w2 =>
  vcCall Try.prog y1 [x25_2] w2 fun x28_3 w3 =>
  C.not x28_3 w3 fun x29_4 w4 =>
  C.ite x29_4 (C.idx 1 y0 y5 w4 fun x33_5 w5 =>
  C.store 1 x33_5 x25_2 w5 fun w6 =>
  C.int .add y5 (.int .i64 1) w6 fun x35_7 w7 =>
  F37.k6 K y0 y1 x35_7 y6 w7) (F37.k6 K y0 y1 y5 y6 w4))) : F37.k7 K y0 y1 y5 y6 w := Eq.mpr (by kernel_rfl) h
theorem F37.k6.to {K : VK} {y0 y1 y5 y6 : Value} {w : World} (h : (C.int .add y6 (.int .i64 1) w fun x21_1 w1 =>
  F37.l5 K y0 y1 y5 x21_1 w1)) : F37.k6 K y0 y1 y5 y6 w := Eq.mpr (by kernel_rfl) h
theorem F37.sh {K : VK} {x0 x1 : Value} {w : World} (h : (C.call Try.prog 49 #[x0, x1] w fun x10_1 w1 =>
  C.int .eql x10_1 (.int .i64 (-1)) w1 fun x12_2 w2 =>
  C.ite x12_2 (K x0 w2) (F37.k4 K x0 x1 x10_1 w2))) : C.call Try.prog 37 #[x0, x1] w K := calls_of_vc (A := F37.ann) (args := [x0, x1]) (Eq.mpr (by kernel_rfl) h)

/-! ### 38 scutage/reach.Dead (25) -/
namespace F38
def ann : Ann := ⟨[], [], [], [], none⟩
noncomputable def code : Code := match Try.f38.body with | some c => c | none => .skip
noncomputable def top (K : VK) : QE := retQ Try.prog Try.f38.results.toList K
end F38
theorem F38.sh {K : VK} {x0 : Value} {w : World} (h : (C.new (.cells (Value.cells x0) 25) w fun x1_1 w1 =>
  C.loadA 2 x1_1 w1 fun x3_2 w2 =>
  C.call Try.prog 53 #[x3_2, (.func (.func 54) #[] #[])] w2 fun x4_3 w3 =>
  K x4_3 w3)) : C.call Try.prog 38 #[x0] w K := calls_of_vc (A := F38.ann) (args := [x0]) (Eq.mpr (by kernel_rfl) h)

/-! ### 39 scutage/refs.Leaks$1 (3) -/
namespace F39
def ann : Ann := ⟨[], [], [], [], none⟩
noncomputable def code : Code := match Try.f39.body with | some c => c | none => .skip
noncomputable def top (K : VK) : QE := retQ Try.prog Try.f39.results.toList K
end F39
theorem F39.sh {K : VK} {x0 x1 : Value} {w : World} (h : (C.load1 x1 w fun x4_1 w1 =>
  C.idx 1 x4_1 x0 w1 fun x6_2 w2 =>
  C.load1 x6_2 w2 fun x7_3 w3 =>
  K x7_3 w3)) : C.call Try.prog 39 #[x0, x1] w K := calls_of_vc (A := F39.ann) (args := [x0, x1]) (Eq.mpr (by kernel_rfl) h)

/-! ### 50 scutage/refs.lead (25, 69) -/
namespace F50
def ann : Ann := ⟨[(3, [1, 2, 14, 15, 16]), (6, [1, 2, 14, 15, 16, 20, 21, 22]), (9, [1, 2, 14, 15, 16, 20, 21, 22]), (10, [1, 2, 14, 15, 16])], [(2, [1, 2, 14, 15, 16]), (5, [1, 2, 14, 15, 16, 20, 21, 22])], [], [], none⟩
noncomputable def code : Code := match Try.f50.body with | some c => c | none => .skip
noncomputable def top (K : VK) : QE := retQ Try.prog Try.f50.results.toList K
noncomputable def l2 (K : VK) (y1 y2 y14 y15 y16 : Value) (w : World) : Prop := nav ann Try.prog 40 (isLoop ann Try.prog 40 [(1, y1), (2, y2), (14, y14), (15, y15), (16, y16)] w) [1, 1, 0] code (top K)
attribute [irreducible] l2
noncomputable def k3 (K : VK) (y1 y2 y14 y15 y16 : Value) (w : World) : Prop := nav ann Try.prog 40 (fun c Q => vcCode ann Try.prog 40 c Q [(1, y1), (2, y2), (14, y14), (15, y15), (16, y16)] w) [1, 1, 0, 0, 1, 1] code (top K)
attribute [irreducible] k3
noncomputable def k10 (K : VK) (y1 y2 y14 y15 y16 : Value) (w : World) : Prop := nav ann Try.prog 40 (fun c Q => vcCode ann Try.prog 40 c Q [(1, y1), (2, y2), (14, y14), (15, y15), (16, y16)] w) [1, 1, 0, 0, 1, 1, 1] code (top K)
attribute [irreducible] k10
noncomputable def l5 (K : VK) (y1 y2 y14 y15 y16 y20 y21 y22 : Value) (w : World) : Prop := nav ann Try.prog 40 (isLoop ann Try.prog 40 [(1, y1), (2, y2), (14, y14), (15, y15), (16, y16), (20, y20), (21, y21), (22, y22)] w) [1, 1, 0, 0, 1, 1, 0, 0, 1, 1, 0] code (top K)
attribute [irreducible] l5
noncomputable def k6 (K : VK) (y1 y2 y14 y15 y16 y20 y21 y22 : Value) (w : World) : Prop := nav ann Try.prog 40 (fun c Q => vcCode ann Try.prog 40 c Q [(1, y1), (2, y2), (14, y14), (15, y15), (16, y16), (20, y20), (21, y21), (22, y22)] w) [1, 1, 0, 0, 1, 1, 0, 0, 1, 1, 0, 0, 1, 1] code (top K)
attribute [irreducible] k6
noncomputable def k9 (K : VK) (y1 y2 y14 y15 y16 y20 y21 y22 : Value) (w : World) : Prop := nav ann Try.prog 40 (fun c Q => vcCode ann Try.prog 40 c Q [(1, y1), (2, y2), (14, y14), (15, y15), (16, y16), (20, y20), (21, y21), (22, y22)] w) [1, 1, 0, 0, 1, 1, 0, 0, 1, 1, 0, 0, 1, 1, 1] code (top K)
attribute [irreducible] k9
end F50
theorem F50.l2.to {K : VK} {y1 y2 y14 y15 y16 : Value} {w : World} (h : (C.int .lss y16 y15 w fun x17_1 w1 =>
  C.ite x17_1 (F50.k3 K y1 y2 y14 y15 y16 w1) (K (.tuple #[]) w1))) : F50.l2 K y1 y2 y14 y15 y16 w := by unfold F50.l2; exact nav_round (Eq.mpr (by kernel_rfl) h)
theorem F50.k3.to {K : VK} {y1 y2 y14 y15 y16 : Value} {w : World} (h : (C.idx 1 y14 y16 w fun x18_1 w1 =>
  C.load1 x18_1 w1 fun x19_2 w2 =>
  C.len x19_2 w2 fun x21_3 w3 =>
  F50.l5 K y1 y2 y14 y15 y16 x19_2 x21_3 (.int .i64 0) w3)) : F50.k3 K y1 y2 y14 y15 y16 w := Eq.mpr (by kernel_rfl) h
theorem F50.k10.to {K : VK} {y1 y2 y14 y15 y16 : Value} {w : World} (h : (C.int .add y16 (.int .i64 1) w fun x39_1 w1 =>
  F50.l2 K y1 y2 y14 y15 x39_1 w1)) : F50.k10 K y1 y2 y14 y15 y16 w := Eq.mpr (by kernel_rfl) h
theorem F50.l5.to {K : VK} {y1 y2 y14 y15 y16 y20 y21 y22 : Value} {w : World} (h : (C.int .lss y22 y21 w fun x23_1 w1 =>
  C.ite x23_1 (F50.k6 K y1 y2 y14 y15 y16 y20 y21 y22 w1) (F50.k10 K y1 y2 y14 y15 y16 w1))) : F50.l5 K y1 y2 y14 y15 y16 y20 y21 y22 w := by unfold F50.l5; exact nav_round (Eq.mpr (by kernel_rfl) h)
theorem F50.k6.to {K : VK} {y1 y2 y14 y15 y16 y20 y21 y22 : Value} {w : World} (h : (C.idx 1 y20 y22 w fun x24_1 w1 =>
  C.load1 x24_1 w1 fun x25_2 w2 =>
  C.int .geq x25_2 (.int .i64 0) w2 fun x27_3 w3 =>
  C.guarded true x27_3 (fun K => K x25_2 w3) w3 fun x29_4 w4 =>
  C.guarded true x27_3 (fun K => C.field 0 y2 w4 K) w4 fun x30_5 w5 =>
  C.guarded true x27_3 (fun K => C.load1 x30_5 w5 K) w5 fun x31_6 w6 =>
  C.guarded true x27_3 (fun K => C.len x31_6 w6 K) w6 fun x32_7 w7 =>
  C.guarded true x27_3 (fun K => C.int .lss x29_4 x32_7 w7 K) w7 fun x33_8 w8 =>
  C.pick (some x27_3) (some x33_8) (some (.bool false)) w8 fun x34_9 w9 =>
  C.ite x34_9 (vcCall Try.prog y1 [x25_2] w9 fun x37_10 w10 =>
  F50.k9 K y1 y2 y14 y15 y16 y20 y21 y22 w10) (F50.k9 K y1 y2 y14 y15 y16 y20 y21 y22 w9))) : F50.k6 K y1 y2 y14 y15 y16 y20 y21 y22 w := Eq.mpr (by kernel_rfl) h
theorem F50.k9.to {K : VK} {y1 y2 y14 y15 y16 y20 y21 y22 : Value} {w : World} (h : (C.int .add y22 (.int .i64 1) w fun x38_1 w1 =>
  F50.l5 K y1 y2 y14 y15 y16 y20 y21 x38_1 w1)) : F50.k9 K y1 y2 y14 y15 y16 y20 y21 y22 w := Eq.mpr (by kernel_rfl) h
theorem F50.sh {K : VK} {x0 x1 : Value} {w : World} (h : (C.new (.cells (Value.cells x0) 25) w fun x2_1 w1 =>
  C.field 1 x2_1 w1 fun x8_2 w2 =>
  C.load1 x8_2 w2 fun x9_3 w3 =>
  C.run Try.prog (Instr.buildSlice 22 1 #[(0, x9_3)]) w3 fun x10_4 w4 =>
  C.field 0 x2_1 w4 fun x11_5 w5 =>
  C.load1 x11_5 w5 fun x12_6 w6 =>
  C.run Try.prog (Instr.buildSlice 97 2 #[(0, x10_4), (1, x12_6)]) w6 fun x13_7 w7 =>
  C.call Try.prog 74 #[x13_7] w7 fun x14_8 w8 =>
  C.len x14_8 w8 fun x15_9 w9 =>
  F50.l2 K x1 x2_1 x14_8 x15_9 (.int .i64 0) w9)) : C.call Try.prog 50 #[x0, x1] w K := calls_of_vc (A := F50.ann) (args := [x0, x1]) (Eq.mpr (by kernel_rfl) h)

/-! ### 51 scutage/refs.Counts$1 (3) -/
namespace F51
def ann : Ann := ⟨[], [], [], [], none⟩
noncomputable def code : Code := match Try.f51.body with | some c => c | none => .skip
noncomputable def top (K : VK) : QE := retQ Try.prog Try.f51.results.toList K
end F51
theorem F51.sh {K : VK} {x0 x1 : Value} {w : World} (h : (C.load1 x1 w fun x3_1 w1 =>
  C.idx 1 x3_1 x0 w1 fun x5_2 w2 =>
  C.load1 x5_2 w2 fun x6_3 w3 =>
  C.int .add x6_3 (.int .i64 1) w3 fun x7_4 w4 =>
  C.idx 1 x3_1 x0 w4 fun x8_5 w5 =>
  C.store 1 x8_5 x7_4 w5 fun w6 =>
  K (.tuple #[]) w6)) : C.call Try.prog 51 #[x0, x1] w K := calls_of_vc (A := F51.ann) (args := [x0, x1]) (Eq.mpr (by kernel_rfl) h)

/-! ### 52 scutage/refs.falls$1 (3) -/
namespace F52
def ann : Ann := ⟨[], [], [], [], none⟩
noncomputable def code : Code := match Try.f52.body with | some c => c | none => .skip
noncomputable def top (K : VK) : QE := retQ Try.prog Try.f52.results.toList K
end F52
theorem F52.sh {K : VK} {x0 x1 x2 : Value} {w : World} (h : (C.load1 x1 w fun x4_1 w1 =>
  C.idx 1 x4_1 x0 w1 fun x6_2 w2 =>
  C.load1 x6_2 w2 fun x7_3 w3 =>
  C.int .sub x7_3 (.int .i64 1) w3 fun x8_4 w4 =>
  C.idx 1 x4_1 x0 w4 fun x9_5 w5 =>
  C.store 1 x9_5 x8_4 w5 fun w6 =>
  C.load1 x1 w6 fun x10_7 w7 =>
  C.idx 1 x10_7 x0 w7 fun x12_8 w8 =>
  C.load1 x12_8 w8 fun x13_9 w9 =>
  C.int .eql x13_9 (.int .i64 0) w9 fun x14_10 w10 =>
  C.ite x14_10 (C.load1 x2 w10 fun x15_11 w11 =>
  C.run Try.prog (Instr.buildSlice 23 1 #[(0, x0)]) w11 fun x17_12 w12 =>
  C.run Try.prog (Builtin.append_ #[23, 23] 23 #[x15_11, x17_12]) w12 fun x18_13 w13 =>
  C.store 1 x2 x18_13 w13 fun w14 =>
  K (.tuple #[]) w14) (K (.tuple #[]) w10))) : C.call Try.prog 52 #[x0, x1, x2] w K := calls_of_vc (A := F52.ann) (args := [x0, x1, x2]) (Eq.mpr (by kernel_rfl) h)

/-! ### 53 scutage/reach.where (25, 54) -/
namespace F53
def ann : Ann := ⟨[(4, [1, 5, 9, 10, 11]), (7, [1, 5, 9, 10, 11]), (8, [5])], [(3, [1, 5, 9, 10, 11])], [], [], none⟩
noncomputable def code : Code := match Try.f53.body with | some c => c | none => .skip
noncomputable def top (K : VK) : QE := retQ Try.prog Try.f53.results.toList K
noncomputable def k8 (K : VK) (y5 : Value) (w : World) : Prop := nav ann Try.prog 25 (fun c Q => vcCode ann Try.prog 25 c Q [(5, y5)] w) [1, 1, 1] code (top K)
attribute [irreducible] k8
noncomputable def l3 (K : VK) (y1 y5 y9 y10 y11 : Value) (w : World) : Prop := nav ann Try.prog 25 (isLoop ann Try.prog 25 [(1, y1), (5, y5), (9, y9), (10, y10), (11, y11)] w) [1, 1, 0, 1, 0] code (top K)
attribute [irreducible] l3
noncomputable def k4 (K : VK) (y1 y5 y9 y10 y11 : Value) (w : World) : Prop := nav ann Try.prog 25 (fun c Q => vcCode ann Try.prog 25 c Q [(1, y1), (5, y5), (9, y9), (10, y10), (11, y11)] w) [1, 1, 0, 1, 0, 0, 1, 1] code (top K)
attribute [irreducible] k4
noncomputable def k7 (K : VK) (y1 y5 y9 y10 y11 : Value) (w : World) : Prop := nav ann Try.prog 25 (fun c Q => vcCode ann Try.prog 25 c Q [(1, y1), (5, y5), (9, y9), (10, y10), (11, y11)] w) [1, 1, 0, 1, 0, 0, 1, 1, 1] code (top K)
attribute [irreducible] k7
end F53
theorem F53.k8.to {K : VK} {y5 : Value} {w : World} (h : (K y5 w)) : F53.k8 K y5 w := Eq.mpr (by kernel_rfl) h
theorem F53.l3.to {K : VK} {y1 y5 y9 y10 y11 : Value} {w : World} (h : (C.int .lss y11 y10 w fun x12_1 w1 =>
  C.ite x12_1 (F53.k4 K y1 y5 y9 y10 y11 w1) (F53.k8 K y5 w1))) : F53.l3 K y1 y5 y9 y10 y11 w := by unfold F53.l3; exact nav_round (Eq.mpr (by kernel_rfl) h)
theorem F53.k4.to {K : VK} {y1 y5 y9 y10 y11 : Value} {w : World} (h : (C.idx 1 y9 y11 w fun x14_1 w1 =>
  C.load1 x14_1 w1 fun x15_2 w2 =>
  vcCall Try.prog y1 [x15_2] w2 fun x18_3 w3 =>
  C.ite x18_3 (C.run Try.prog (Instr.buildSlice 23 1 #[(0, y11)]) w3 fun x21_4 w4 =>
  C.run Try.prog (Builtin.append_ #[23, 23] 23 #[y5, x21_4]) w4 fun x22_5 w5 =>
  F53.k7 K y1 x22_5 y9 y10 y11 w5) (F53.k7 K y1 y5 y9 y10 y11 w3))) : F53.k4 K y1 y5 y9 y10 y11 w := Eq.mpr (by kernel_rfl) h
theorem F53.k7.to {K : VK} {y1 y5 y9 y10 y11 : Value} {w : World} (h : (C.int .add y11 (.int .i64 1) w fun x23_1 w1 =>
  F53.l3 K y1 y5 y9 y10 x23_1 w1)) : F53.k7 K y1 y5 y9 y10 y11 w := Eq.mpr (by kernel_rfl) h
theorem F53.sh {K : VK} {x0 x1 : Value} {w : World} (h : (C.new (.cells (Value.cells x0) 25) w fun x2_1 w1 =>
  C.loadA 2 x2_1 w1 fun x8_2 w2 =>
  C.call Try.prog 75 #[x8_2] w2 fun x9_3 w3 =>
  C.len x9_3 w3 fun x10_4 w4 =>
  F53.l3 K x1 (.slice none 0 0) x9_3 x10_4 (.int .i64 0) w4)) : C.call Try.prog 53 #[x0, x1] w K := calls_of_vc (A := F53.ann) (args := [x0, x1]) (Eq.mpr (by kernel_rfl) h)

/-! ### 54 scutage/reach.Dead$1 (3) -/
namespace F54
def ann : Ann := ⟨[], [], [], [], none⟩
noncomputable def code : Code := match Try.f54.body with | some c => c | none => .skip
noncomputable def top (K : VK) : QE := retQ Try.prog Try.f54.results.toList K
end F54
theorem F54.sh {K : VK} {x0 : Value} {w : World} (h : (C.int .eql x0 (.int .i64 (-1)) w fun x4_1 w1 =>
  K x4_1 w1)) : C.call Try.prog 54 #[x0] w K := calls_of_vc (A := F54.ann) (args := [x0]) (Eq.mpr (by kernel_rfl) h)

/-! ### 74 slices.Concat[[][]int,[]int] (97) -/
namespace F74
def ann : Ann := ⟨[(4, [0, 3, 9, 10, 11]), (8, [0, 3, 9, 10, 11]), (9, [0, 3]), (12, [6, 25, 26, 27]), (14, [6, 25, 26, 27]), (15, [6])], [(3, [0, 3, 9, 10, 11]), (11, [6, 25, 26, 27])], [], [], none⟩
noncomputable def code : Code := match Try.f74.body with | some c => c | none => .skip
noncomputable def top (K : VK) : QE := retQ Try.prog Try.f74.results.toList K
noncomputable def k9 (K : VK) (y0 y3 : Value) (w : World) : Prop := nav ann Try.prog 36 (fun c Q => vcCode ann Try.prog 36 c Q [(0, y0), (3, y3)] w) [1, 1, 1] code (top K)
attribute [irreducible] k9
noncomputable def l3 (K : VK) (y0 y3 y9 y10 y11 : Value) (w : World) : Prop := nav ann Try.prog 36 (isLoop ann Try.prog 36 [(0, y0), (3, y3), (9, y9), (10, y10), (11, y11)] w) [1, 1, 0, 1, 0] code (top K)
attribute [irreducible] l3
noncomputable def k4 (K : VK) (y0 y3 y9 y10 y11 : Value) (w : World) : Prop := nav ann Try.prog 36 (fun c Q => vcCode ann Try.prog 36 c Q [(0, y0), (3, y3), (9, y9), (10, y10), (11, y11)] w) [1, 1, 0, 1, 0, 0, 1, 1] code (top K)
attribute [irreducible] k4
noncomputable def k8 (K : VK) (y0 y3 y9 y10 y11 : Value) (w : World) : Prop := nav ann Try.prog 36 (fun c Q => vcCode ann Try.prog 36 c Q [(0, y0), (3, y3), (9, y9), (10, y10), (11, y11)] w) [1, 1, 0, 1, 0, 0, 1, 1, 1] code (top K)
attribute [irreducible] k8
noncomputable def k15 (K : VK) (y6 : Value) (w : World) : Prop := nav ann Try.prog 36 (fun c Q => vcCode ann Try.prog 36 c Q [(6, y6)] w) [1, 1, 1, 1, 1] code (top K)
attribute [irreducible] k15
noncomputable def l11 (K : VK) (y6 y25 y26 y27 : Value) (w : World) : Prop := nav ann Try.prog 36 (isLoop ann Try.prog 36 [(6, y6), (25, y25), (26, y26), (27, y27)] w) [1, 1, 1, 1, 0, 1, 0] code (top K)
attribute [irreducible] l11
noncomputable def k12 (K : VK) (y6 y25 y26 y27 : Value) (w : World) : Prop := nav ann Try.prog 36 (fun c Q => vcCode ann Try.prog 36 c Q [(6, y6), (25, y25), (26, y26), (27, y27)] w) [1, 1, 1, 1, 0, 1, 0, 0, 1, 1] code (top K)
attribute [irreducible] k12
noncomputable def k14 (K : VK) (y6 y25 y26 y27 : Value) (w : World) : Prop := nav ann Try.prog 36 (fun c Q => vcCode ann Try.prog 36 c Q [(6, y6), (25, y25), (26, y26), (27, y27)] w) [1, 1, 1, 1, 0, 1, 0, 0, 1, 1, 1] code (top K)
attribute [irreducible] k14
end F74
theorem F74.k9.to {K : VK} {y0 y3 : Value} {w : World} (h : (C.call Try.prog 85 #[(.slice none 0 0), y3] w fun x24_1 w1 =>
  C.len y0 w1 fun x26_2 w2 =>
  F74.l11 K x24_1 y0 x26_2 (.int .i64 0) w2)) : F74.k9 K y0 y3 w := Eq.mpr (by kernel_rfl) h
theorem F74.l3.to {K : VK} {y0 y3 y9 y10 y11 : Value} {w : World} (h : (C.int .lss y11 y10 w fun x12_1 w1 =>
  C.ite x12_1 (F74.k4 K y0 y3 y9 y10 y11 w1) (F74.k9 K y0 y3 w1))) : F74.l3 K y0 y3 y9 y10 y11 w := by unfold F74.l3; exact nav_round (Eq.mpr (by kernel_rfl) h)
theorem F74.k4.to {K : VK} {y0 y3 y9 y10 y11 : Value} {w : World} (h : (C.idx 1 y9 y11 w fun x13_1 w1 =>
  C.load1 x13_1 w1 fun x14_2 w2 =>
  C.len x14_2 w2 fun x17_3 w3 =>
  C.int .add y3 x17_3 w3 fun x18_4 w4 =>
  C.int .lss x18_4 (.int .i64 0) w4 fun x20_5 w5 =>
  C.ite x20_5 (C.run Try.prog (Instr.makeInterface 9 (.string { data := #[108, 101, 110, 32, 111, 117, 116, 32, 111, 102, 32, 114, 97, 110, 103, 101] })) w5 fun x21_6 w6 =>
  False) (F74.k8 K y0 x18_4 y9 y10 y11 w5))) : F74.k4 K y0 y3 y9 y10 y11 w := Eq.mpr (by kernel_rfl) h
theorem F74.k8.to {K : VK} {y0 y3 y9 y10 y11 : Value} {w : World} (h : (C.int .add y11 (.int .i64 1) w fun x22_1 w1 =>
  F74.l3 K y0 y3 y9 y10 x22_1 w1)) : F74.k8 K y0 y3 y9 y10 y11 w := Eq.mpr (by kernel_rfl) h
theorem F74.k15.to {K : VK} {y6 : Value} {w : World} (h : (K y6 w)) : F74.k15 K y6 w := Eq.mpr (by kernel_rfl) h
theorem F74.l11.to {K : VK} {y6 y25 y26 y27 : Value} {w : World} (h : (C.int .lss y27 y26 w fun x28_1 w1 =>
  C.ite x28_1 (F74.k12 K y6 y25 y26 y27 w1) (F74.k15 K y6 w1))) : F74.l11 K y6 y25 y26 y27 w := by unfold F74.l11; exact nav_round (Eq.mpr (by kernel_rfl) h)
theorem F74.k12.to {K : VK} {y6 y25 y26 y27 : Value} {w : World} (h : (C.idx 1 y25 y27 w fun x29_1 w1 =>
  C.load1 x29_1 w1 fun x30_2 w2 =>
  C.run Try.prog (Builtin.append_ #[22, 22] 22 #[y6, x30_2]) w2 fun x33_3 w3 =>
  F74.k14 K x33_3 y25 y26 y27 w3)) : F74.k12 K y6 y25 y26 y27 w := Eq.mpr (by kernel_rfl) h
theorem F74.k14.to {K : VK} {y6 y25 y26 y27 : Value} {w : World} (h : (C.int .add y27 (.int .i64 1) w fun x34_1 w1 =>
  F74.l11 K y6 y25 y26 x34_1 w1)) : F74.k14 K y6 y25 y26 y27 w := Eq.mpr (by kernel_rfl) h
theorem F74.sh {K : VK} {x0 : Value} {w : World} (h : (C.len x0 w fun x10_1 w1 =>
  F74.l3 K x0 (.int .i64 0) x0 x10_1 (.int .i64 0) w1)) : C.call Try.prog 74 #[x0] w K := calls_of_vc (A := F74.ann) (args := [x0]) (Eq.mpr (by kernel_rfl) h)

/-! ### 75 scutage/reach.Dist (25) -/
namespace F75
def ann : Ann := ⟨[(6, [1, 3, 4, 5, 19, 20, 21]), (8, [1, 3, 4, 5, 19, 20, 21]), (9, [1, 3, 4, 5]), (11, [1, 3, 4, 5, 8]), (12, [1, 3, 4, 5, 8]), (15, [1, 3, 4, 5, 8, 9, 43, 44, 45]), (17, [1, 3, 4, 5, 8, 9, 43, 44, 45]), (18, [3])], [(5, [1, 3, 4, 5, 19, 20, 21]), (10, [1, 3, 4, 5, 8]), (14, [1, 3, 4, 5, 8, 9, 43, 44, 45])], [], [], none⟩
noncomputable def code : Code := match Try.f75.body with | some c => c | none => .skip
noncomputable def top (K : VK) : QE := retQ Try.prog Try.f75.results.toList K
noncomputable def k9 (K : VK) (y1 y3 y4 y5 : Value) (w : World) : Prop := nav ann Try.prog 59 (fun c Q => vcCode ann Try.prog 59 c Q [(1, y1), (3, y3), (4, y4), (5, y5)] w) [1, 1, 1, 1, 1] code (top K)
attribute [irreducible] k9
noncomputable def l5 (K : VK) (y1 y3 y4 y5 y19 y20 y21 : Value) (w : World) : Prop := nav ann Try.prog 59 (isLoop ann Try.prog 59 [(1, y1), (3, y3), (4, y4), (5, y5), (19, y19), (20, y20), (21, y21)] w) [1, 1, 1, 1, 0, 1, 0] code (top K)
attribute [irreducible] l5
noncomputable def k6 (K : VK) (y1 y3 y4 y5 y19 y20 y21 : Value) (w : World) : Prop := nav ann Try.prog 59 (fun c Q => vcCode ann Try.prog 59 c Q [(1, y1), (3, y3), (4, y4), (5, y5), (19, y19), (20, y20), (21, y21)] w) [1, 1, 1, 1, 0, 1, 0, 0, 1, 1] code (top K)
attribute [irreducible] k6
noncomputable def k8 (K : VK) (y1 y3 y4 y5 y19 y20 y21 : Value) (w : World) : Prop := nav ann Try.prog 59 (fun c Q => vcCode ann Try.prog 59 c Q [(1, y1), (3, y3), (4, y4), (5, y5), (19, y19), (20, y20), (21, y21)] w) [1, 1, 1, 1, 0, 1, 0, 0, 1, 1, 1] code (top K)
attribute [irreducible] k8
noncomputable def k18 (K : VK) (y3 : Value) (w : World) : Prop := nav ann Try.prog 59 (fun c Q => vcCode ann Try.prog 59 c Q [(3, y3)] w) [1, 1, 1, 1, 1, 1] code (top K)
attribute [irreducible] k18
noncomputable def l10 (K : VK) (y1 y3 y4 y5 y8 : Value) (w : World) : Prop := nav ann Try.prog 59 (isLoop ann Try.prog 59 [(1, y1), (3, y3), (4, y4), (5, y5), (8, y8)] w) [1, 1, 1, 1, 1, 0, 1, 0] code (top K)
attribute [irreducible] l10
noncomputable def k12 (K : VK) (y1 y3 y4 y5 y8 : Value) (w : World) : Prop := nav ann Try.prog 59 (fun c Q => vcCode ann Try.prog 59 c Q [(1, y1), (3, y3), (4, y4), (5, y5), (8, y8)] w) [1, 1, 1, 1, 1, 0, 1, 0, 0, 1] code (top K)
attribute [irreducible] k12
noncomputable def k11 (K : VK) (y1 y3 y4 y5 y8 : Value) (w : World) : Prop := nav ann Try.prog 59 (fun c Q => vcCode ann Try.prog 59 c Q [(1, y1), (3, y3), (4, y4), (5, y5), (8, y8)] w) [1, 1, 1, 1, 1, 0, 1, 0, 0, 1, 1] code (top K)
attribute [irreducible] k11
noncomputable def l14 (K : VK) (y1 y3 y4 y5 y8 y9 y43 y44 y45 : Value) (w : World) : Prop := nav ann Try.prog 59 (isLoop ann Try.prog 59 [(1, y1), (3, y3), (4, y4), (5, y5), (8, y8), (9, y9), (43, y43), (44, y44), (45, y45)] w) [1, 1, 1, 1, 1, 0, 1, 0, 0, 1, 0, 0, 1, 1, 0] code (top K)
attribute [irreducible] l14
noncomputable def k15 (K : VK) (y1 y3 y4 y5 y8 y9 y43 y44 y45 : Value) (w : World) : Prop := nav ann Try.prog 59 (fun c Q => vcCode ann Try.prog 59 c Q [(1, y1), (3, y3), (4, y4), (5, y5), (8, y8), (9, y9), (43, y43), (44, y44), (45, y45)] w) [1, 1, 1, 1, 1, 0, 1, 0, 0, 1, 0, 0, 1, 1, 0, 0, 1, 1] code (top K)
attribute [irreducible] k15
noncomputable def k17 (K : VK) (y1 y3 y4 y5 y8 y9 y43 y44 y45 : Value) (w : World) : Prop := nav ann Try.prog 59 (fun c Q => vcCode ann Try.prog 59 c Q [(1, y1), (3, y3), (4, y4), (5, y5), (8, y8), (9, y9), (43, y43), (44, y44), (45, y45)] w) [1, 1, 1, 1, 1, 0, 1, 0, 0, 1, 0, 0, 1, 1, 0, 0, 1, 1, 1] code (top K)
attribute [irreducible] k17
end F75
theorem F75.k9.to {K : VK} {y1 y3 y4 y5 : Value} {w : World} (h : (F75.l10 K y1 y3 y4 y5 (.int .i64 0) w)) : F75.k9 K y1 y3 y4 y5 w := Eq.mpr (by kernel_rfl) h
theorem F75.l5.to {K : VK} {y1 y3 y4 y5 y19 y20 y21 : Value} {w : World} (h : (C.int .lss y21 y20 w fun x22_1 w1 =>
  C.ite x22_1 (F75.k6 K y1 y3 y4 y5 y19 y20 y21 w1) (F75.k9 K y1 y3 y4 y5 w1))) : F75.l5 K y1 y3 y4 y5 y19 y20 y21 w := by unfold F75.l5; exact nav_round (Eq.mpr (by kernel_rfl) h)
theorem F75.k6.to {K : VK} {y1 y3 y4 y5 y19 y20 y21 : Value} {w : World} (h : (C.idx 1 y19 y21 w fun x23_1 w1 =>
  C.load1 x23_1 w1 fun x24_2 w2 =>
  vcCall Try.prog y5 [x24_2, (.int .i64 0)] w2 fun x27_3 w3 =>
  F75.k8 K y1 y3 y4 y5 y19 y20 y21 w3)) : F75.k6 K y1 y3 y4 y5 y19 y20 y21 w := Eq.mpr (by kernel_rfl) h
theorem F75.k8.to {K : VK} {y1 y3 y4 y5 y19 y20 y21 : Value} {w : World} (h : (C.int .add y21 (.int .i64 1) w fun x28_1 w1 =>
  F75.l5 K y1 y3 y4 y5 y19 y20 x28_1 w1)) : F75.k8 K y1 y3 y4 y5 y19 y20 y21 w := Eq.mpr (by kernel_rfl) h
theorem F75.k18.to {K : VK} {y3 : Value} {w : World} (h : (C.load1 y3 w fun x58_1 w1 =>
  K x58_1 w1)) : F75.k18 K y3 w := Eq.mpr (by kernel_rfl) h
theorem F75.l10.to {K : VK} {y1 y3 y4 y5 y8 : Value} {w : World} (h : (C.load1 y4 w fun x30_1 w1 =>
  C.len x30_1 w1 fun x31_2 w2 =>
  C.int .lss y8 x31_2 w2 fun x32_3 w3 =>
  C.ite x32_3 (F75.k12 K y1 y3 y4 y5 y8 w3) (F75.k18 K y3 w3))) : F75.l10 K y1 y3 y4 y5 y8 w := by unfold F75.l10; exact nav_round (Eq.mpr (by kernel_rfl) h)
theorem F75.k12.to {K : VK} {y1 y3 y4 y5 y8 : Value} {w : World} (h : (C.load1 y4 w fun x35_1 w1 =>
  C.idx 1 x35_1 y8 w1 fun x37_2 w2 =>
  C.load1 x37_2 w2 fun x38_3 w3 =>
  C.field 0 y1 w3 fun x39_4 w4 =>
  C.load1 x39_4 w4 fun x40_5 w5 =>
  C.idx 1 x40_5 x38_3 w5 fun x42_6 w6 =>
  C.load1 x42_6 w6 fun x43_7 w7 =>
  C.len x43_7 w7 fun x44_8 w8 =>
  F75.l14 K y1 y3 y4 y5 y8 x38_3 x43_7 x44_8 (.int .i64 0) w8)) : F75.k12 K y1 y3 y4 y5 y8 w := Eq.mpr (by kernel_rfl) h
theorem F75.k11.to {K : VK} {y1 y3 y4 y5 y8 : Value} {w : World} (h : (C.int .add y8 (.int .i64 1) w fun x34_1 w1 =>
  F75.l10 K y1 y3 y4 y5 x34_1 w1)) : F75.k11 K y1 y3 y4 y5 y8 w := Eq.mpr (by kernel_rfl) h
theorem F75.l14.to {K : VK} {y1 y3 y4 y5 y8 y9 y43 y44 y45 : Value} {w : World} (h : (C.int .lss y45 y44 w fun x46_1 w1 =>
  C.ite x46_1 (F75.k15 K y1 y3 y4 y5 y8 y9 y43 y44 y45 w1) (F75.k11 K y1 y3 y4 y5 y8 w1))) : F75.l14 K y1 y3 y4 y5 y8 y9 y43 y44 y45 w := by unfold F75.l14; exact nav_round (Eq.mpr (by kernel_rfl) h)
theorem F75.k15.to {K : VK} {y1 y3 y4 y5 y8 y9 y43 y44 y45 : Value} {w : World} (h : (C.idx 1 y43 y45 w fun x47_1 w1 =>
  C.load1 x47_1 w1 fun x48_2 w2 =>
  C.load1 y3 w2 fun x51_3 w3 =>
  C.idx 1 x51_3 y9 w3 fun x53_4 w4 =>
  C.load1 x53_4 w4 fun x54_5 w5 =>
  C.int .add x54_5 (.int .i64 1) w5 fun x55_6 w6 =>
  vcCall Try.prog y5 [x48_2, x55_6] w6 fun x56_7 w7 =>
  F75.k17 K y1 y3 y4 y5 y8 y9 y43 y44 y45 w7)) : F75.k15 K y1 y3 y4 y5 y8 y9 y43 y44 y45 w := Eq.mpr (by kernel_rfl) h
theorem F75.k17.to {K : VK} {y1 y3 y4 y5 y8 y9 y43 y44 y45 : Value} {w : World} (h : (C.int .add y45 (.int .i64 1) w fun x57_1 w1 =>
  F75.l14 K y1 y3 y4 y5 y8 y9 y43 y44 x57_1 w1)) : F75.k17 K y1 y3 y4 y5 y8 y9 y43 y44 y45 w := Eq.mpr (by kernel_rfl) h
theorem F75.sh {K : VK} {x0 : Value} {w : World} (h : (C.new (.cells (Value.cells x0) 25) w fun x1_1 w1 =>
  C.run Try.prog (Instr.buildSlice 23 1 #[(0, (.int .i64 (-1)))]) w1 fun x12_2 w2 =>
  C.field 0 x1_1 w2 fun x13_3 w3 =>
  C.load1 x13_3 w3 fun x14_4 w4 =>
  C.len x14_4 w4 fun x15_5 w5 =>
  C.call Try.prog 86 #[x12_2, x15_5] w5 fun x16_6 w6 =>
  C.new (.cells #[.slice none 0 0] 23) w6 fun x3_7 w7 =>
  C.store 1 x3_7 x16_6 w7 fun w8 =>
  C.new (.cells #[.slice none 0 0] 23) w8 fun x4_9 w9 =>
  C.field 1 x1_1 w9 fun x18_10 w10 =>
  C.load1 x18_10 w10 fun x19_11 w11 =>
  C.len x19_11 w11 fun x20_12 w12 =>
  F75.l5 K x1_1 x3_7 x4_9 (.func (.func 87) #[] #[x1_1, x3_7, x4_9]) x19_11 x20_12 (.int .i64 0) w12)) : C.call Try.prog 75 #[x0] w K := calls_of_vc (A := F75.ann) (args := [x0]) (Eq.mpr (by kernel_rfl) h)

/-! ### 85 slices.Grow[[][]int,[]int] (22, 3) -/
namespace F85
def ann : Ann := ⟨[(3, [0, 1]), (6, [0])], [], [], [], none⟩
noncomputable def code : Code := match Try.f85.body with | some c => c | none => .skip
noncomputable def top (K : VK) : QE := retQ Try.prog Try.f85.results.toList K
noncomputable def k3 (K : VK) (y0 y1 : Value) (w : World) : Prop := nav ann Try.prog 27 (fun c Q => vcCode ann Try.prog 27 c Q [(0, y0), (1, y1)] w) [1, 1] code (top K)
attribute [irreducible] k3
noncomputable def k6 (K : VK) (y0 : Value) (w : World) : Prop := nav ann Try.prog 27 (fun c Q => vcCode ann Try.prog 27 c Q [(0, y0)] w) [1, 1, 1] code (top K)
attribute [irreducible] k6
end F85
theorem F85.k3.to {K : VK} {y0 y1 : Value} {w : World} (h : (C.run Try.prog (Builtin.cap_ #[22] 3 #[y0]) w fun x10_1 w1 =>
  C.len y0 w1 fun x12_2 w2 =>
  C.int .sub x10_1 x12_2 w2 fun x13_3 w3 =>
  C.int .sub y1 x13_3 w3 fun x14_4 w4 =>
  C.int .gtr x14_4 (.int .i64 0) w4 fun x16_5 w5 =>
  C.ite x16_5 (C.run Try.prog (Builtin.cap_ #[22] 3 #[y0]) w5 fun x19_6 w6 =>
  C.run Try.prog (Instr.sliceAt 22 y0 none (some x19_6) none) w6 fun x20_7 w7 =>
  C.run Try.prog (Builtin.append_ #[22, 3] 22 #[x20_7, x14_4]) w7 fun x22_8 w8 =>
  C.len y0 w8 fun x24_9 w9 =>
  C.run Try.prog (Instr.sliceAt 22 x22_8 none (some x24_9) none) w9 fun x25_10 w10 =>
  F85.k6 K x25_10 w10) (F85.k6 K y0 w5))) : F85.k3 K y0 y1 w := Eq.mpr (by kernel_rfl) h
theorem F85.k6.to {K : VK} {y0 : Value} {w : World} (h : (K y0 w)) : F85.k6 K y0 w := Eq.mpr (by kernel_rfl) h
theorem F85.sh {K : VK} {x0 x1 : Value} {w : World} (h : (C.int .lss x1 (.int .i64 0) w fun x6_1 w1 =>
  C.ite x6_1 (C.run Try.prog (Instr.makeInterface 9 (.string { data := #[99, 97, 110, 110, 111, 116, 32, 98, 101, 32, 110, 101, 103, 97, 116, 105, 118, 101] })) w1 fun x7_2 w2 =>
  False) (F85.k3 K x0 x1 w1))) : C.call Try.prog 85 #[x0, x1] w K := calls_of_vc (A := F85.ann) (args := [x0, x1]) (Eq.mpr (by kernel_rfl) h)

/-! ### 86 slices.Repeat[[]int,int] (23, 3) -/
namespace F86
def ann : Ann := ⟨[(3, [0, 1]), (6, [0, 6]), (9, [7, 8]), (10, [7])], [(8, [7, 8])], [], [(9, (.take 0 (.take 1 (.take 2 (.take 4 (.take 5 (.take 3 (.take 6 (.go 7 (.take 8 (.take 9 .fin)) .fin)))))))))], none⟩
noncomputable def code : Code := match Try.f86.body with | some c => c | none => .skip
noncomputable def top (K : VK) : QE := retQ Try.prog Try.f86.results.toList K
noncomputable def k3 (K : VK) (y0 y1 : Value) (w : World) : Prop := nav ann Try.prog 48 (fun c Q => vcCode ann Try.prog 48 c Q [(0, y0), (1, y1)] w) [1, 1] code (top K)
attribute [irreducible] k3
noncomputable def k6 (K : VK) (y0 y6 : Value) (w : World) : Prop := nav ann Try.prog 48 (fun c Q => vcCode ann Try.prog 48 c Q [(0, y0), (6, y6)] w) [1, 1, 1, 1] code (top K)
attribute [irreducible] k6
noncomputable def k10 (K : VK) (y7 : Value) (w : World) : Prop := nav ann Try.prog 48 (fun c Q => vcCode ann Try.prog 48 c Q [(7, y7)] w) [1, 1, 1, 1, 1, 1, 1] code (top K)
attribute [irreducible] k10
noncomputable def l8 (K : VK) (y7 y8 : Value) (w : World) : Prop := nav ann Try.prog 48 (isLoop ann Try.prog 48 [(7, y7), (8, y8)] w) [1, 1, 1, 1, 1, 1, 0, 0] code (top K)
attribute [irreducible] l8
noncomputable def k9 (K : VK) (y7 y8 : Value) (w : World) : Prop := nav ann Try.prog 48 (fun c Q => vcCode ann Try.prog 48 c Q [(7, y7), (8, y8)] w) [1, 1, 1, 1, 1, 1, 0, 0, 0, 1] code (top K)
attribute [irreducible] k9
end F86
theorem F86.k3.to {K : VK} {y0 y1 : Value} {w : World} (h : (C.len y0 w fun x14_1 w1 =>
  C.conv .u64 x14_1 w1 fun x15_2 w2 =>
  C.conv .u64 y1 w2 fun x17_3 w3 =>
  C.call Try.prog 90 #[x15_2, x17_3] w3 fun x18_4 w4 =>
  C.ext 0 x18_4 w4 fun x19_5 w5 =>
  C.ext 1 x18_4 w5 fun x20_6 w6 =>
  C.int .gtr x19_5 (.int .u64 0) w6 fun x22_7 w7 =>
  C.guarded false x22_7 (fun K => K x20_6 w7) w7 fun x24_8 w8 =>
  C.guarded false x22_7 (fun K => C.int .gtr x24_8 (.int .u64 9223372036854775807) w8 K) w8 fun x25_9 w9 =>
  C.pick (some x22_7) (some (.bool true)) (some x25_9) w9 fun x26_10 w10 =>
  C.ite x26_10 (C.run Try.prog (Instr.makeInterface 9 (.string { data := #[116, 104, 101, 32, 114, 101, 115, 117, 108, 116, 32, 111, 102, 32, 40, 108, 101, 110, 40, 120, 41, 32, 42, 32, 99, 111, 117, 110, 116, 41, 32, 111, 118, 101, 114, 102, 108, 111, 119, 115] })) w10 fun x27_11 w11 =>
  False) (F86.k6 K y0 x20_6 w10))) : F86.k3 K y0 y1 w := Eq.mpr (by kernel_rfl) h
theorem F86.k6.to {K : VK} {y0 y6 : Value} {w : World} (h : (C.conv .i64 y6 w fun x29_1 w1 =>
  C.run Try.prog (Instr.makeSlice 23 x29_1 x29_1) w1 fun x30_2 w2 =>
  C.run Try.prog (Builtin.copy_ #[23, 23] 3 #[x30_2, y0]) w2 fun x33_3 w3 =>
  F86.l8 K x30_2 x33_3 w3)) : F86.k6 K y0 y6 w := Eq.mpr (by kernel_rfl) h
theorem F86.k10.to {K : VK} {y7 : Value} {w : World} (h : (K y7 w)) : F86.k10 K y7 w := Eq.mpr (by kernel_rfl) h
theorem F86.l8.to {K : VK} {y7 y8 : Value} {w : World} (h : (C.len y7 w fun x36_1 w1 =>
  C.int .lss y8 x36_1 w1 fun x37_2 w2 =>
  C.ite x37_2 (F86.k9 K y7 y8 w2) (F86.k10 K y7 w2))) : F86.l8 K y7 y8 w := by unfold F86.l8; exact nav_round (Eq.mpr (by kernel_rfl) h)
theorem F86.k9.to {K : VK} {y7 y8 : Value} {w : World} (h : (C.draw w fun S w1 =>
  ∃ x41_2, (∀ w', S w' → (Instr.sliceAt 23 y7 (some y8) none none).run Try.prog w' = .ok x41_2 w') ∧ (∃ x44_3, (∀ w', S w' → (Instr.sliceAt 23 y7 none (some y8) none).run Try.prog w' = .ok x44_3 w') ∧ ((C.run Try.prog (Builtin.copy_ #[23, 23] 3 #[x41_2, x44_3]) w1 fun x45_4 w4 =>
  (S w4 ∧
  C.int .add y8 x45_4 w4 fun x46_5 w5 =>
  F86.l8 K y7 x46_5 w5)) ∧ True)))) : F86.k9 K y7 y8 w := Eq.mpr (by kernel_rfl) h
theorem F86.sh {K : VK} {x0 x1 : Value} {w : World} (h : (C.int .lss x1 (.int .i64 0) w fun x10_1 w1 =>
  C.ite x10_1 (C.run Try.prog (Instr.makeInterface 9 (.string { data := #[99, 97, 110, 110, 111, 116, 32, 98, 101, 32, 110, 101, 103, 97, 116, 105, 118, 101] })) w1 fun x11_2 w2 =>
  False) (F86.k3 K x0 x1 w1))) : C.call Try.prog 86 #[x0, x1] w K := calls_of_vc (A := F86.ann) (args := [x0, x1]) (Eq.mpr (by kernel_rfl) h)

/-! ### 87 scutage/reach.Dist$1 (3, 3) -/
namespace F87
def ann : Ann := ⟨[], [], [], [], none⟩
noncomputable def code : Code := match Try.f87.body with | some c => c | none => .skip
noncomputable def top (K : VK) : QE := retQ Try.prog Try.f87.results.toList K
end F87
theorem F87.sh {K : VK} {x0 x1 x2 x3 x4 : Value} {w : World} (h : (C.loadA 2 x2 w fun x7_1 w1 =>
  C.call Try.prog 42 #[x7_1, x0] w1 fun x9_2 w2 =>
  C.guarded true x9_2 (fun K => C.load1 x3 w2 K) w2 fun x11_3 w3 =>
  C.guarded true x9_2 (fun K => K x0 w3) w3 fun x12_4 w4 =>
  C.guarded true x9_2 (fun K => C.idx 1 x11_3 x12_4 w4 K) w4 fun x13_5 w5 =>
  C.guarded true x9_2 (fun K => C.load1 x13_5 w5 K) w5 fun x14_6 w6 =>
  C.guarded true x9_2 (fun K => C.int .eql x14_6 (.int .i64 (-1)) w6 K) w6 fun x15_7 w7 =>
  C.pick (some x9_2) (some x15_7) (some (.bool false)) w7 fun x16_8 w8 =>
  C.ite x16_8 (C.load1 x3 w8 fun x17_9 w9 =>
  C.idx 1 x17_9 x0 w9 fun x20_10 w10 =>
  C.store 1 x20_10 x1 w10 fun w11 =>
  C.load1 x4 w11 fun x21_12 w12 =>
  C.run Try.prog (Instr.buildSlice 23 1 #[(0, x0)]) w12 fun x23_13 w13 =>
  C.run Try.prog (Builtin.append_ #[23, 23] 23 #[x21_12, x23_13]) w13 fun x24_14 w14 =>
  C.store 1 x4 x24_14 w14 fun w15 =>
  K (.tuple #[]) w15) (K (.tuple #[]) w8))) : C.call Try.prog 87 #[x0, x1, x2, x3, x4] w K := calls_of_vc (A := F87.ann) (args := [x0, x1, x2, x3, x4]) (Eq.mpr (by kernel_rfl) h)

end Go.Proofs.YtchonfdnghimdaaV
