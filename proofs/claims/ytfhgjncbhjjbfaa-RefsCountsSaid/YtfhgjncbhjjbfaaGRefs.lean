/- What the bodies of these functions ask, as plain statements. Written by gen.py (own work) for the seat Ytfhgjncbhjjbfaa. -/
import Derived.Test.YtfhgjncbhjjbfaaVc3
import Derived.Test.YtfhgjncbhjjbfaaProg
namespace Go.Proofs.YtfhgjncbhjjbfaaV
open Go Go.Proofs
set_option linter.unusedVariables false
set_option maxRecDepth 100000

/-! ### 11 scutage/scutagelaw35.RefsCounts (46) -/
namespace F11
def ann : Ann := ⟨[(3, [1])], [], [], [(4, (.take 3 (.take 0 (.take 2 (.take 4 (.take 5 (.go 1 (.go 6 (.go 7 (.go 8 (.take 9 (.take 10 (.take 12 (.go 11 (.go 13 (.go 14 (.go 15 (.take 16 (.take 17 .fin)) .fin) .fin) .fin) .fin)))) .fin) .fin) .fin) (.go 6 (.go 1 (.go 7 (.go 8 (.take 9 (.take 10 (.take 12 (.go 11 (.go 13 (.go 14 (.go 15 (.take 16 (.take 17 .fin)) .fin) .fin) .fin) .fin)))) .fin) .fin) .fin) .fin))))))))], none⟩
noncomputable def code : Code := match Try.f11.body with | some c => c | none => .skip
noncomputable def top (K : VK) : QE := retQ Try.prog Try.f11.results.toList K
noncomputable def k3 (K : VK) (y1 : Value) (w : World) : Prop := nav ann Try.prog 24 (fun c Q => vcCode ann Try.prog 24 c Q [(1, y1)] w) [1, 1] code (top K)
attribute [irreducible] k3
end F11
theorem F11.k3.to {K : VK} {y1 : Value} {w : World} (h : (C.loadA 2 y1 w fun x5_1 w1 =>
  C.call Try.prog 41 #[x5_1] w1 fun x6_2 w2 =>
  C.store 2 y1 x6_2 w2 fun w3 =>
  C.draw w3 fun S w4 =>
  C.field 0 y1 w4 fun x10_5 w5 =>
  C.loadAS S 2 y1 w5 fun x7_6 w6 =>
  C.loadAS S 2 y1 w6 fun x9_7 w7 =>
  C.load1S S x10_5 w7 fun x11_8 w8 =>
  C.len x11_8 w8 fun x12_9 w9 =>
  (C.call Try.prog 42 #[x7_6] w9 fun x8_21 w21 =>
  (S w21 ∧
  (C.run Try.prog (Instr.makeSlice 33 x12_9 x12_9) w21 fun x13_22 w22 =>
  (S w22 ∧
  (C.call Try.prog 43 #[x9_7, x13_22] w22 fun x14_23 w23 =>
  (S w23 ∧
  (C.call Try.prog 34 #[x8_21, x14_23] w23 fun x15_24 w24 =>
  (S w24 ∧
  C.guarded true x15_24 (fun K => C.loadAS S 2 y1 w24 K) w24 fun x17_25 w25 =>
  C.guarded true x15_24 (fun K => C.loadAS S 2 y1 w25 K) w25 fun x19_26 w26 =>
  (C.guarded true x15_24 (fun K => C.call Try.prog 44 #[x17_25] w26 K) w26 fun x18_27 w27 =>
  (S w27 ∧
  (C.guarded true x15_24 (fun K => C.call Try.prog 46 #[x19_26] w27 K) w27 fun x20_28 w28 =>
  (S w28 ∧
  (C.guarded true x15_24 (fun K => C.call Try.prog 45 #[x20_28] w28 K) w28 fun x21_29 w29 =>
  (S w29 ∧
  (C.guarded true x15_24 (fun K => C.call Try.prog 34 #[x18_27, x21_29] w29 K) w29 fun x22_30 w30 =>
  (S w30 ∧
  C.pick (some x15_24) (some x22_30) (some (.bool false)) w30 fun x23_31 w31 =>
  K x23_31 w31)) ∧ True)) ∧ True)) ∧ True)) ∧ True)) ∧ True)) ∧ True)) ∧ True)) ∧ ((C.run Try.prog (Instr.makeSlice 33 x12_9 x12_9) w9 fun x13_10 w10 =>
  (S w10 ∧
  (C.call Try.prog 42 #[x7_6] w10 fun x8_11 w11 =>
  (S w11 ∧
  (C.call Try.prog 43 #[x9_7, x13_10] w11 fun x14_12 w12 =>
  (S w12 ∧
  (C.call Try.prog 34 #[x8_11, x14_12] w12 fun x15_13 w13 =>
  (S w13 ∧
  C.guarded true x15_13 (fun K => C.loadAS S 2 y1 w13 K) w13 fun x17_14 w14 =>
  C.guarded true x15_13 (fun K => C.loadAS S 2 y1 w14 K) w14 fun x19_15 w15 =>
  (C.guarded true x15_13 (fun K => C.call Try.prog 44 #[x17_14] w15 K) w15 fun x18_16 w16 =>
  (S w16 ∧
  (C.guarded true x15_13 (fun K => C.call Try.prog 46 #[x19_15] w16 K) w16 fun x20_17 w17 =>
  (S w17 ∧
  (C.guarded true x15_13 (fun K => C.call Try.prog 45 #[x20_17] w17 K) w17 fun x21_18 w18 =>
  (S w18 ∧
  (C.guarded true x15_13 (fun K => C.call Try.prog 34 #[x18_16, x21_18] w18 K) w18 fun x22_19 w19 =>
  (S w19 ∧
  C.pick (some x15_13) (some x22_19) (some (.bool false)) w19 fun x23_20 w20 =>
  K x23_20 w20)) ∧ True)) ∧ True)) ∧ True)) ∧ True)) ∧ True)) ∧ True)) ∧ True)) ∧ True))) : F11.k3 K y1 w := Eq.mpr (by kernel_rfl) h
theorem F11.sh {K : VK} {x0 : Value} {w : World} (h : (C.new (.cells (Value.cells x0) 46) w fun x1_1 w1 =>
  C.call Try.prog 40 #[] w1 fun x3_2 w2 =>
  C.not x3_2 w2 fun x4_3 w3 =>
  C.ite x4_3 (K (.bool false) w3) (F11.k3 K x1_1 w3))) : C.call Try.prog 11 #[x0] w K := calls_of_vc (A := F11.ann) (args := [x0]) (Eq.mpr (by kernel_rfl) h)

/-! ### 12 scutage/scutagelaw35.RefsFalls (46) -/
namespace F12
def ann : Ann := ⟨[(3, [1]), (8, [3, 4, 5, 6]), (9, [3, 4, 5, 6]), (12, [4, 5])], [(7, [3, 4, 5, 6])], [], [(5, (.take 0 (.take 2 (.go 1 (.go 3 (.take 4 (.take 5 .fin)) .fin) .fin))))], none⟩
noncomputable def code : Code := match Try.f12.body with | some c => c | none => .skip
noncomputable def top (K : VK) : QE := retQ Try.prog Try.f12.results.toList K
noncomputable def k3 (K : VK) (y1 : Value) (w : World) : Prop := nav ann Try.prog 65 (fun c Q => vcCode ann Try.prog 65 c Q [(1, y1)] w) [1, 1] code (top K)
attribute [irreducible] k3
noncomputable def k12 (K : VK) (y4 y5 : Value) (w : World) : Prop := nav ann Try.prog 65 (fun c Q => vcCode ann Try.prog 65 c Q [(4, y4), (5, y5)] w) [1, 1, 1, 1, 1, 1] code (top K)
attribute [irreducible] k12
noncomputable def l7 (K : VK) (y3 y4 y5 y6 : Value) (w : World) : Prop := nav ann Try.prog 65 (isLoop ann Try.prog 65 [(3, y3), (4, y4), (5, y5), (6, y6)] w) [1, 1, 1, 1, 1, 0, 1, 0] code (top K)
attribute [irreducible] l7
noncomputable def k9 (K : VK) (y3 y4 y5 y6 : Value) (w : World) : Prop := nav ann Try.prog 65 (fun c Q => vcCode ann Try.prog 65 c Q [(3, y3), (4, y4), (5, y5), (6, y6)] w) [1, 1, 1, 1, 1, 0, 1, 0, 0, 1] code (top K)
attribute [irreducible] k9
noncomputable def k8 (K : VK) (y3 y4 y5 y6 : Value) (w : World) : Prop := nav ann Try.prog 65 (fun c Q => vcCode ann Try.prog 65 c Q [(3, y3), (4, y4), (5, y5), (6, y6)] w) [1, 1, 1, 1, 1, 0, 1, 0, 0, 1, 1] code (top K)
attribute [irreducible] k8
end F12
theorem F12.k3.to {K : VK} {y1 : Value} {w : World} (h : (C.loadA 2 y1 w fun x11_1 w1 =>
  C.call Try.prog 41 #[x11_1] w1 fun x12_2 w2 =>
  C.store 2 y1 x12_2 w2 fun w3 =>
  C.field 0 y1 w3 fun x13_4 w4 =>
  C.load1 x13_4 w4 fun x14_5 w5 =>
  C.field 1 y1 w5 fun x15_6 w6 =>
  C.load1 x15_6 w6 fun x16_7 w7 =>
  C.run Try.prog (Instr.build 52 #[(0, x14_5), (1, x16_7)]) w7 fun x17_8 w8 =>
  C.call Try.prog 29 #[x17_8] w8 fun x18_9 w9 =>
  C.draw w9 fun S w10 =>
  C.loadAS S 2 y1 w10 fun x19_11 w11 =>
  C.loadAS S 2 y1 w11 fun x21_12 w12 =>
  (C.call Try.prog 44 #[x19_11] w12 fun x20_13 w13 =>
  (S w13 ∧
  (C.call Try.prog 47 #[x21_12] w13 fun x22_14 w14 =>
  (S w14 ∧
  F12.l7 K x18_9 x20_13 x22_14 (.int .i64 0) w14)) ∧ True)) ∧ True)) : F12.k3 K y1 w := Eq.mpr (by kernel_rfl) h
theorem F12.k12.to {K : VK} {y4 y5 : Value} {w : World} (h : (C.call Try.prog 49 #[y4] w fun x52_1 w1 =>
  C.len x52_1 w1 fun x53_2 w2 =>
  C.len y4 w2 fun x55_3 w3 =>
  C.int .eql x53_2 x55_3 w3 fun x56_4 w4 =>
  C.guarded true x56_4 (fun K => K y5 w4) w4 fun x58_5 w5 =>
  C.guarded true x56_4 (fun K => C.call Try.prog 49 #[x58_5] w5 K) w5 fun x59_6 w6 =>
  C.guarded true x56_4 (fun K => C.len x59_6 w6 K) w6 fun x60_7 w7 =>
  C.guarded true x56_4 (fun K => K y5 w7) w7 fun x61_8 w8 =>
  C.guarded true x56_4 (fun K => C.len x61_8 w8 K) w8 fun x62_9 w9 =>
  C.guarded true x56_4 (fun K => C.int .eql x60_7 x62_9 w9 K) w9 fun x63_10 w10 =>
  C.pick (some x56_4) (some x63_10) (some (.bool false)) w10 fun x64_11 w11 =>
  K x64_11 w11)) : F12.k12 K y4 y5 w := Eq.mpr (by kernel_rfl) h
theorem F12.l7.to {K : VK} {y3 y4 y5 y6 : Value} {w : World} (h : (C.len y3 w fun x25_1 w1 =>
  C.int .lss y6 x25_1 w1 fun x26_2 w2 =>
  C.ite x26_2 (F12.k9 K y3 y4 y5 y6 w2) (F12.k12 K y4 y5 w2))) : F12.l7 K y3 y4 y5 y6 w := by unfold F12.l7; exact nav_round (Eq.mpr (by kernel_rfl) h)
theorem F12.k9.to {K : VK} {y3 y4 y5 y6 : Value} {w : World} (h : (C.call Try.prog 48 #[y4, y6] w fun x31_1 w1 =>
  C.call Try.prog 48 #[y5, y6] w1 fun x34_2 w2 =>
  C.guarded true x31_1 (fun K => K x34_2 w2) w2 fun x37_3 w3 =>
  C.pick (some x31_1) (some x37_3) (some (.bool false)) w3 fun x38_4 w4 =>
  C.guarded false x38_4 (fun K => K y3 w4) w4 fun x40_5 w5 =>
  C.guarded false x38_4 (fun K => K y6 w5) w5 fun x41_6 w6 =>
  C.guarded false x38_4 (fun K => C.idx 1 x40_5 x41_6 w6 K) w6 fun x42_7 w7 =>
  C.guarded false x38_4 (fun K => C.load1 x42_7 w7 K) w7 fun x43_8 w8 =>
  C.guarded false x38_4 (fun K => C.int .geq x43_8 (.int .i64 0) w8 K) w8 fun x44_9 w9 =>
  C.guarded false x38_4 (fun K => K x31_1 w9) w9 fun x45_10 w10 =>
  C.guarded false x38_4 (fun K => K x45_10 w10) w10 fun x46_11 w11 =>
  C.guarded false x46_11 (fun K => K x34_2 w11) w11 fun x47_12 w12 =>
  C.guarded false x38_4 (fun K => C.pick (some x46_11) (some (.bool true)) (some x47_12) w12 K) w12 fun x48_13 w13 =>
  C.guarded false x38_4 (fun K => C.bin Try.prog .eql 4 (.tmp 44) (.tmp 48) x44_9 x48_13 w13 K) w13 fun x49_14 w14 =>
  C.pick (some x38_4) (some (.bool true)) (some x49_14) w14 fun x50_15 w15 =>
  C.ite x50_15 (K (.bool false) w15) (F12.k8 K y3 y4 y5 y6 w15))) : F12.k9 K y3 y4 y5 y6 w := Eq.mpr (by kernel_rfl) h
theorem F12.k8.to {K : VK} {y3 y4 y5 y6 : Value} {w : World} (h : (C.int .add y6 (.int .i64 1) w fun x28_1 w1 =>
  F12.l7 K y3 y4 y5 x28_1 w1)) : F12.k8 K y3 y4 y5 y6 w := Eq.mpr (by kernel_rfl) h
theorem F12.sh {K : VK} {x0 : Value} {w : World} (h : (C.new (.cells (Value.cells x0) 46) w fun x1_1 w1 =>
  C.call Try.prog 40 #[] w1 fun x9_2 w2 =>
  C.not x9_2 w2 fun x10_3 w3 =>
  C.ite x10_3 (K (.bool false) w3) (F12.k3 K x1_1 w3))) : C.call Try.prog 12 #[x0] w K := calls_of_vc (A := F12.ann) (args := [x0]) (Eq.mpr (by kernel_rfl) h)

/-! ### 40 scutage/scutagelaw35.alive () -/
namespace F40
def ann : Ann := ⟨[], [], [], [], none⟩
noncomputable def code : Code := match Try.f40.body with | some c => c | none => .skip
noncomputable def top (K : VK) : QE := retQ Try.prog Try.f40.results.toList K
end F40
theorem F40.sh {K : VK} {w : World} (h : (C.run Try.prog (Instr.buildSlice 44 1 #[(0, (.int .i64 1))]) w fun x2_1 w1 =>
  C.run Try.prog (Instr.buildSlice 44 1 #[(0, (.int .i64 0))]) w1 fun x3_2 w2 =>
  C.run Try.prog (Instr.buildSlice 44 1 #[(0, (.int .i64 3))]) w2 fun x4_3 w3 =>
  C.run Try.prog (Instr.buildSlice 43 5 #[(0, x2_1), (1, x3_2), (2, x4_3), (3, (.slice none 0 0)), (4, (.slice none 0 0))]) w3 fun x5_4 w4 =>
  C.run Try.prog (Instr.buildSlice 44 2 #[(0, (.int .i64 4)), (1, (.int .i64 4))]) w4 fun x6_5 w5 =>
  C.run Try.prog (Instr.build 46 #[(0, x5_4), (1, x6_5)]) w5 fun x7_6 w6 =>
  C.new (.cells #[.slice none 0 0, .slice none 0 0] 46) w6 fun x1_7 w7 =>
  C.store 2 x1_7 x7_6 w7 fun w8 =>
  C.loadA 2 x1_7 w8 fun x8_9 w9 =>
  C.call Try.prog 42 #[x8_9] w9 fun x9_10 w10 =>
  C.run Try.prog (Instr.buildSlice 44 5 #[(0, (.int .i64 1)), (1, (.int .i64 1)), (2, (.int .i64 0)), (3, (.int .i64 1)), (4, (.int .i64 2))]) w10 fun x10_11 w11 =>
  C.call Try.prog 34 #[x9_10, x10_11] w11 fun x11_12 w12 =>
  C.guarded true x11_12 (fun K => C.loadA 2 x1_7 w12 K) w12 fun x13_13 w13 =>
  C.guarded true x11_12 (fun K => C.call Try.prog 44 #[x13_13] w13 K) w13 fun x14_14 w14 =>
  C.guarded true x11_12 (fun K => C.run Try.prog (Instr.buildSlice 44 2 #[(0, (.int .i64 2)), (1, (.int .i64 3))]) w14 K) w14 fun x15_15 w15 =>
  C.guarded true x11_12 (fun K => C.call Try.prog 34 #[x14_14, x15_15] w15 K) w15 fun x16_16 w16 =>
  C.pick (some x11_12) (some x16_16) (some (.bool false)) w16 fun x17_17 w17 =>
  C.guarded true x17_17 (fun K => C.loadA 2 x1_7 w17 K) w17 fun x19_18 w18 =>
  C.guarded true x17_17 (fun K => C.call Try.prog 47 #[x19_18] w18 K) w18 fun x20_19 w19 =>
  C.guarded true x17_17 (fun K => C.run Try.prog (Instr.buildSlice 44 2 #[(0, (.int .i64 0)), (1, (.int .i64 1))]) w19 K) w19 fun x21_20 w20 =>
  C.guarded true x17_17 (fun K => C.call Try.prog 34 #[x20_19, x21_20] w20 K) w20 fun x22_21 w21 =>
  C.pick (some x17_17) (some x22_21) (some (.bool false)) w21 fun x23_22 w22 =>
  K x23_22 w22)) : C.call Try.prog 40 #[] w K := calls_of_vc (A := F40.ann) (args := []) (Eq.mpr (by kernel_rfl) h)

/-! ### 41 scutage/scutagelaw35.few (46) -/
namespace F41
def ann : Ann := ⟨[(3, [1, 2])], [], [], [], none⟩
noncomputable def code : Code := match Try.f41.body with | some c => c | none => .skip
noncomputable def top (K : VK) : QE := retQ Try.prog Try.f41.results.toList K
noncomputable def k3 (K : VK) (y1 y2 : Value) (w : World) : Prop := nav ann Try.prog 12 (fun c Q => vcCode ann Try.prog 12 c Q [(1, y1), (2, y2)] w) [1, 1] code (top K)
attribute [irreducible] k3
end F41
theorem F41.k3.to {K : VK} {y1 y2 : Value} {w : World} (h : (C.loadA 2 y1 w fun x11_1 w1 =>
  C.store 2 y2 x11_1 w1 fun w2 =>
  C.loadA 2 y2 w2 fun r3 _ =>
  K r3 w2)) : F41.k3 K y1 y2 w := Eq.mpr (by kernel_rfl) h
theorem F41.sh {K : VK} {x0 : Value} {w : World} (h : (C.new (.cells (Value.cells x0) 46) w fun x1_1 w1 =>
  C.new (.cells #[.slice none 0 0, .slice none 0 0] 46) w1 fun x2_2 w2 =>
  C.field 0 x1_1 w2 fun x3_3 w3 =>
  C.load1 x3_3 w3 fun x4_4 w4 =>
  C.len x4_4 w4 fun x5_5 w5 =>
  C.int .gtr x5_5 (.int .i64 20) w5 fun x6_6 w6 =>
  C.ite x6_6 (C.field 0 x1_1 w6 fun x7_7 w7 =>
  C.load1 x7_7 w7 fun x8_8 w8 =>
  C.run Try.prog (Instr.sliceAt 43 x8_8 none (some (.int .i64 20)) none) w8 fun x9_9 w9 =>
  C.field 0 x1_1 w9 fun x10_10 w10 =>
  C.store 1 x10_10 x9_9 w10 fun w11 =>
  F41.k3 K x1_1 x2_2 w11) (F41.k3 K x1_1 x2_2 w6))) : C.call Try.prog 41 #[x0] w K := calls_of_vc (A := F41.ann) (args := [x0]) (Eq.mpr (by kernel_rfl) h)

/-! ### 42 scutage/refs.Counts (46) -/
namespace F42
def ann : Ann := ⟨[], [], [], [], none⟩
noncomputable def code : Code := match Try.f42.body with | some c => c | none => .skip
noncomputable def top (K : VK) : QE := retQ Try.prog Try.f42.results.toList K
end F42
theorem F42.sh {K : VK} {x0 : Value} {w : World} (h : (C.new (.cells (Value.cells x0) 46) w fun x1_1 w1 =>
  C.field 0 x1_1 w1 fun x4_2 w2 =>
  C.load1 x4_2 w2 fun x5_3 w3 =>
  C.len x5_3 w3 fun x6_4 w4 =>
  C.run Try.prog (Instr.makeSlice 44 x6_4 x6_4) w4 fun x7_5 w5 =>
  C.new (.cells #[.slice none 0 0] 44) w5 fun x3_6 w6 =>
  C.store 1 x3_6 x7_5 w6 fun w7 =>
  C.loadA 2 x1_1 w7 fun x8_8 w8 =>
  C.call Try.prog 75 #[x8_8, (.func (.func 76) #[] #[x3_6])] w8 fun x10_9 w9 =>
  C.load1 x3_6 w9 fun x11_10 w10 =>
  K x11_10 w10)) : C.call Try.prog 42 #[x0] w K := calls_of_vc (A := F42.ann) (args := [x0]) (Eq.mpr (by kernel_rfl) h)

/-! ### 43 scutage/scutagelaw35.counts (46, 33) -/
namespace F43
def ann : Ann := ⟨[(4, [1, 2, 5, 6]), (5, [1, 2, 5, 6]), (8, [1, 2, 5, 6, 7, 8]), (9, [1, 2, 5, 6, 7, 8]), (11, [1, 2, 5, 6, 7]), (12, [5])], [(3, [1, 2, 5, 6]), (7, [1, 2, 5, 6, 7, 8])], [], [], none⟩
noncomputable def code : Code := match Try.f43.body with | some c => c | none => .skip
noncomputable def top (K : VK) : QE := retQ Try.prog Try.f43.results.toList K
noncomputable def k12 (K : VK) (y5 : Value) (w : World) : Prop := nav ann Try.prog 46 (fun c Q => vcCode ann Try.prog 46 c Q [(5, y5)] w) [1, 1, 1] code (top K)
attribute [irreducible] k12
noncomputable def l3 (K : VK) (y1 y2 y5 y6 : Value) (w : World) : Prop := nav ann Try.prog 46 (isLoop ann Try.prog 46 [(1, y1), (2, y2), (5, y5), (6, y6)] w) [1, 1, 0, 1, 0] code (top K)
attribute [irreducible] l3
noncomputable def k5 (K : VK) (y1 y2 y5 y6 : Value) (w : World) : Prop := nav ann Try.prog 46 (fun c Q => vcCode ann Try.prog 46 c Q [(1, y1), (2, y2), (5, y5), (6, y6)] w) [1, 1, 0, 1, 0, 0, 1] code (top K)
attribute [irreducible] k5
noncomputable def k4 (K : VK) (y1 y2 y5 y6 : Value) (w : World) : Prop := nav ann Try.prog 46 (fun c Q => vcCode ann Try.prog 46 c Q [(1, y1), (2, y2), (5, y5), (6, y6)] w) [1, 1, 0, 1, 0, 0, 1, 1] code (top K)
attribute [irreducible] k4
noncomputable def k11 (K : VK) (y1 y2 y5 y6 y7 : Value) (w : World) : Prop := nav ann Try.prog 46 (fun c Q => vcCode ann Try.prog 46 c Q [(1, y1), (2, y2), (5, y5), (6, y6), (7, y7)] w) [1, 1, 0, 1, 0, 0, 1, 0, 0, 1, 1] code (top K)
attribute [irreducible] k11
noncomputable def l7 (K : VK) (y1 y2 y5 y6 y7 y8 : Value) (w : World) : Prop := nav ann Try.prog 46 (isLoop ann Try.prog 46 [(1, y1), (2, y2), (5, y5), (6, y6), (7, y7), (8, y8)] w) [1, 1, 0, 1, 0, 0, 1, 0, 0, 1, 0, 1, 0] code (top K)
attribute [irreducible] l7
noncomputable def k9 (K : VK) (y1 y2 y5 y6 y7 y8 : Value) (w : World) : Prop := nav ann Try.prog 46 (fun c Q => vcCode ann Try.prog 46 c Q [(1, y1), (2, y2), (5, y5), (6, y6), (7, y7), (8, y8)] w) [1, 1, 0, 1, 0, 0, 1, 0, 0, 1, 0, 1, 0, 0, 1] code (top K)
attribute [irreducible] k9
noncomputable def k8 (K : VK) (y1 y2 y5 y6 y7 y8 : Value) (w : World) : Prop := nav ann Try.prog 46 (fun c Q => vcCode ann Try.prog 46 c Q [(1, y1), (2, y2), (5, y5), (6, y6), (7, y7), (8, y8)] w) [1, 1, 0, 1, 0, 0, 1, 0, 0, 1, 0, 1, 0, 0, 1, 1] code (top K)
attribute [irreducible] k8
end F43
theorem F43.k12.to {K : VK} {y5 : Value} {w : World} (h : (K y5 w)) : F43.k12 K y5 w := Eq.mpr (by kernel_rfl) h
theorem F43.l3.to {K : VK} {y1 y2 y5 y6 : Value} {w : World} (h : (C.field 0 y2 w fun x10_1 w1 =>
  C.load1 x10_1 w1 fun x11_2 w2 =>
  C.len x11_2 w2 fun x12_3 w3 =>
  C.int .lss y6 x12_3 w3 fun x13_4 w4 =>
  C.ite x13_4 (F43.k5 K y1 y2 y5 y6 w4) (F43.k12 K y5 w4))) : F43.l3 K y1 y2 y5 y6 w := by unfold F43.l3; exact nav_round (Eq.mpr (by kernel_rfl) h)
theorem F43.k5.to {K : VK} {y1 y2 y5 y6 : Value} {w : World} (h : (C.field 1 y2 w fun x16_1 w1 =>
  C.load1 x16_1 w1 fun x17_2 w2 =>
  C.call Try.prog 77 #[x17_2, y6] w2 fun x19_3 w3 =>
  F43.l7 K y1 y2 y5 y6 x19_3 (.int .i64 0) w3)) : F43.k5 K y1 y2 y5 y6 w := Eq.mpr (by kernel_rfl) h
theorem F43.k4.to {K : VK} {y1 y2 y5 y6 : Value} {w : World} (h : (C.int .add y6 (.int .i64 1) w fun x15_1 w1 =>
  F43.l3 K y1 y2 y5 x15_1 w1)) : F43.k4 K y1 y2 y5 y6 w := Eq.mpr (by kernel_rfl) h
theorem F43.k11.to {K : VK} {y1 y2 y5 y6 y7 : Value} {w : World} (h : (C.run Try.prog (Instr.buildSlice 44 1 #[(0, y7)]) w fun x43_1 w1 =>
  C.run Try.prog (Builtin.append_ #[44, 44] 44 #[y5, x43_1]) w1 fun x44_2 w2 =>
  F43.k4 K y1 y2 x44_2 y6 w2)) : F43.k11 K y1 y2 y5 y6 y7 w := Eq.mpr (by kernel_rfl) h
theorem F43.l7.to {K : VK} {y1 y2 y5 y6 y7 y8 : Value} {w : World} (h : (C.field 0 y2 w fun x21_1 w1 =>
  C.load1 x21_1 w1 fun x22_2 w2 =>
  C.len x22_2 w2 fun x23_3 w3 =>
  C.int .lss y8 x23_3 w3 fun x24_4 w4 =>
  C.ite x24_4 (F43.k9 K y1 y2 y5 y6 y7 y8 w4) (F43.k11 K y1 y2 y5 y6 y7 w4))) : F43.l7 K y1 y2 y5 y6 y7 y8 w := by unfold F43.l7; exact nav_round (Eq.mpr (by kernel_rfl) h)
theorem F43.k9.to {K : VK} {y1 y2 y5 y6 y7 y8 : Value} {w : World} (h : (C.idx 1 y1 y8 w fun x29_1 w1 =>
  C.load1 x29_1 w1 fun x30_2 w2 =>
  C.not x30_2 w2 fun x31_3 w3 =>
  C.ite x31_3 (C.field 0 y2 w3 fun x33_4 w4 =>
  C.load1 x33_4 w4 fun x34_5 w5 =>
  C.idx 1 x34_5 y8 w5 fun x36_6 w6 =>
  C.load1 x36_6 w6 fun x37_7 w7 =>
  C.call Try.prog 77 #[x37_7, y6] w7 fun x39_8 w8 =>
  C.int .add y7 x39_8 w8 fun x40_9 w9 =>
  F43.k8 K y1 y2 y5 y6 x40_9 y8 w9) (F43.k8 K y1 y2 y5 y6 y7 y8 w3))) : F43.k9 K y1 y2 y5 y6 y7 y8 w := Eq.mpr (by kernel_rfl) h
theorem F43.k8.to {K : VK} {y1 y2 y5 y6 y7 y8 : Value} {w : World} (h : (C.int .add y8 (.int .i64 1) w fun x26_1 w1 =>
  F43.l7 K y1 y2 y5 y6 y7 x26_1 w1)) : F43.k8 K y1 y2 y5 y6 y7 y8 w := Eq.mpr (by kernel_rfl) h
theorem F43.sh {K : VK} {x0 x1 : Value} {w : World} (h : (C.new (.cells (Value.cells x0) 46) w fun x2_1 w1 =>
  F43.l3 K x1 x2_1 (.slice none 0 0) (.int .i64 0) w1)) : C.call Try.prog 43 #[x0, x1] w K := calls_of_vc (A := F43.ann) (args := [x0, x1]) (Eq.mpr (by kernel_rfl) h)

/-! ### 44 scutage/refs.Falls (46) -/
namespace F44
def ann : Ann := ⟨[(4, [3, 7, 8, 9]), (7, [3, 7, 8, 9]), (8, [3])], [(3, [3, 7, 8, 9])], [], [], none⟩
noncomputable def code : Code := match Try.f44.body with | some c => c | none => .skip
noncomputable def top (K : VK) : QE := retQ Try.prog Try.f44.results.toList K
noncomputable def k8 (K : VK) (y3 : Value) (w : World) : Prop := nav ann Try.prog 21 (fun c Q => vcCode ann Try.prog 21 c Q [(3, y3)] w) [1, 1, 1] code (top K)
attribute [irreducible] k8
noncomputable def l3 (K : VK) (y3 y7 y8 y9 : Value) (w : World) : Prop := nav ann Try.prog 21 (isLoop ann Try.prog 21 [(3, y3), (7, y7), (8, y8), (9, y9)] w) [1, 1, 0, 1, 0] code (top K)
attribute [irreducible] l3
noncomputable def k4 (K : VK) (y3 y7 y8 y9 : Value) (w : World) : Prop := nav ann Try.prog 21 (fun c Q => vcCode ann Try.prog 21 c Q [(3, y3), (7, y7), (8, y8), (9, y9)] w) [1, 1, 0, 1, 0, 0, 1, 1] code (top K)
attribute [irreducible] k4
noncomputable def k7 (K : VK) (y3 y7 y8 y9 : Value) (w : World) : Prop := nav ann Try.prog 21 (fun c Q => vcCode ann Try.prog 21 c Q [(3, y3), (7, y7), (8, y8), (9, y9)] w) [1, 1, 0, 1, 0, 0, 1, 1, 1] code (top K)
attribute [irreducible] k7
end F44
theorem F44.k8.to {K : VK} {y3 : Value} {w : World} (h : (K y3 w)) : F44.k8 K y3 w := Eq.mpr (by kernel_rfl) h
theorem F44.l3.to {K : VK} {y3 y7 y8 y9 : Value} {w : World} (h : (C.int .lss y9 y8 w fun x10_1 w1 =>
  C.ite x10_1 (F44.k4 K y3 y7 y8 y9 w1) (F44.k8 K y3 w1))) : F44.l3 K y3 y7 y8 y9 w := by unfold F44.l3; exact nav_round (Eq.mpr (by kernel_rfl) h)
theorem F44.k4.to {K : VK} {y3 y7 y8 y9 : Value} {w : World} (h : (C.idx 1 y7 y9 w fun x12_1 w1 =>
  C.load1 x12_1 w1 fun x13_2 w2 =>
  C.ite x13_2 (C.run Try.prog (Instr.buildSlice 44 1 #[(0, y9)]) w2 fun x17_3 w3 =>
  C.run Try.prog (Builtin.append_ #[44, 44] 44 #[y3, x17_3]) w3 fun x18_4 w4 =>
  F44.k7 K x18_4 y7 y8 y9 w4) (F44.k7 K y3 y7 y8 y9 w2))) : F44.k4 K y3 y7 y8 y9 w := Eq.mpr (by kernel_rfl) h
theorem F44.k7.to {K : VK} {y3 y7 y8 y9 : Value} {w : World} (h : (C.int .add y9 (.int .i64 1) w fun x19_1 w1 =>
  F44.l3 K y3 y7 y8 x19_1 w1)) : F44.k7 K y3 y7 y8 y9 w := Eq.mpr (by kernel_rfl) h
theorem F44.sh {K : VK} {x0 : Value} {w : World} (h : (C.new (.cells (Value.cells x0) 46) w fun x1_1 w1 =>
  C.loadA 2 x1_1 w1 fun x6_2 w2 =>
  C.call Try.prog 78 #[x6_2] w2 fun x7_3 w3 =>
  C.len x7_3 w3 fun x8_4 w4 =>
  F44.l3 K (.slice none 0 0) x7_3 x8_4 (.int .i64 0) w4)) : C.call Try.prog 44 #[x0] w K := calls_of_vc (A := F44.ann) (args := [x0]) (Eq.mpr (by kernel_rfl) h)

/-! ### 45 scutage/scutagelaw35.places (33) -/
namespace F45
def ann : Ann := ⟨[(4, [0, 3, 4]), (5, [0, 3, 4]), (7, [3])], [(3, [0, 3, 4])], [], [], none⟩
noncomputable def code : Code := match Try.f45.body with | some c => c | none => .skip
noncomputable def top (K : VK) : QE := retQ Try.prog Try.f45.results.toList K
noncomputable def k7 (K : VK) (y3 : Value) (w : World) : Prop := nav ann Try.prog 20 (fun c Q => vcCode ann Try.prog 20 c Q [(3, y3)] w) [1, 1, 1] code (top K)
attribute [irreducible] k7
noncomputable def l3 (K : VK) (y0 y3 y4 : Value) (w : World) : Prop := nav ann Try.prog 20 (isLoop ann Try.prog 20 [(0, y0), (3, y3), (4, y4)] w) [1, 1, 0, 1, 0] code (top K)
attribute [irreducible] l3
noncomputable def k5 (K : VK) (y0 y3 y4 : Value) (w : World) : Prop := nav ann Try.prog 20 (fun c Q => vcCode ann Try.prog 20 c Q [(0, y0), (3, y3), (4, y4)] w) [1, 1, 0, 1, 0, 0, 1] code (top K)
attribute [irreducible] k5
noncomputable def k4 (K : VK) (y0 y3 y4 : Value) (w : World) : Prop := nav ann Try.prog 20 (fun c Q => vcCode ann Try.prog 20 c Q [(0, y0), (3, y3), (4, y4)] w) [1, 1, 0, 1, 0, 0, 1, 1] code (top K)
attribute [irreducible] k4
end F45
theorem F45.k7.to {K : VK} {y3 : Value} {w : World} (h : (K y3 w)) : F45.k7 K y3 w := Eq.mpr (by kernel_rfl) h
theorem F45.l3.to {K : VK} {y0 y3 y4 : Value} {w : World} (h : (C.len y0 w fun x7_1 w1 =>
  C.int .lss y4 x7_1 w1 fun x8_2 w2 =>
  C.ite x8_2 (F45.k5 K y0 y3 y4 w2) (F45.k7 K y3 w2))) : F45.l3 K y0 y3 y4 w := by unfold F45.l3; exact nav_round (Eq.mpr (by kernel_rfl) h)
theorem F45.k5.to {K : VK} {y0 y3 y4 : Value} {w : World} (h : (C.idx 1 y0 y4 w fun x13_1 w1 =>
  C.load1 x13_1 w1 fun x14_2 w2 =>
  C.ite x14_2 (C.run Try.prog (Instr.buildSlice 44 1 #[(0, y4)]) w2 fun x17_3 w3 =>
  C.run Try.prog (Builtin.append_ #[44, 44] 44 #[y3, x17_3]) w3 fun x18_4 w4 =>
  F45.k4 K y0 x18_4 y4 w4) (F45.k4 K y0 y3 y4 w2))) : F45.k5 K y0 y3 y4 w := Eq.mpr (by kernel_rfl) h
theorem F45.k4.to {K : VK} {y0 y3 y4 : Value} {w : World} (h : (C.int .add y4 (.int .i64 1) w fun x10_1 w1 =>
  F45.l3 K y0 y3 x10_1 w1)) : F45.k4 K y0 y3 y4 w := Eq.mpr (by kernel_rfl) h
theorem F45.sh {K : VK} {x0 : Value} {w : World} (h : (F45.l3 K x0 (.slice none 0 0) (.int .i64 0) w)) : C.call Try.prog 45 #[x0] w K := calls_of_vc (A := F45.ann) (args := [x0]) (Eq.mpr (by kernel_rfl) h)

/-! ### 46 scutage/scutagelaw35.falls (46) -/
namespace F46
def ann : Ann := ⟨[(4, [1, 3, 4]), (5, [1, 3, 4]), (8, [1, 3, 4, 5, 6]), (9, [1, 3, 4, 5, 6]), (11, [3])], [(3, [1, 3, 4]), (7, [1, 3, 4, 5, 6])], [], [], none⟩
noncomputable def code : Code := match Try.f46.body with | some c => c | none => .skip
noncomputable def top (K : VK) : QE := retQ Try.prog Try.f46.results.toList K
noncomputable def k11 (K : VK) (y3 : Value) (w : World) : Prop := nav ann Try.prog 35 (fun c Q => vcCode ann Try.prog 35 c Q [(3, y3)] w) [1, 1, 1] code (top K)
attribute [irreducible] k11
noncomputable def l3 (K : VK) (y1 y3 y4 : Value) (w : World) : Prop := nav ann Try.prog 35 (isLoop ann Try.prog 35 [(1, y1), (3, y3), (4, y4)] w) [1, 1, 0, 1, 0] code (top K)
attribute [irreducible] l3
noncomputable def k5 (K : VK) (y1 y3 y4 : Value) (w : World) : Prop := nav ann Try.prog 35 (fun c Q => vcCode ann Try.prog 35 c Q [(1, y1), (3, y3), (4, y4)] w) [1, 1, 0, 1, 0, 0, 1] code (top K)
attribute [irreducible] k5
noncomputable def k4 (K : VK) (y1 y3 y4 : Value) (w : World) : Prop := nav ann Try.prog 35 (fun c Q => vcCode ann Try.prog 35 c Q [(1, y1), (3, y3), (4, y4)] w) [1, 1, 0, 1, 0, 0, 1, 1] code (top K)
attribute [irreducible] k4
noncomputable def l7 (K : VK) (y1 y3 y4 y5 y6 : Value) (w : World) : Prop := nav ann Try.prog 35 (isLoop ann Try.prog 35 [(1, y1), (3, y3), (4, y4), (5, y5), (6, y6)] w) [1, 1, 0, 1, 0, 0, 1, 0, 0, 1, 1, 0] code (top K)
attribute [irreducible] l7
noncomputable def k9 (K : VK) (y1 y3 y4 y5 y6 : Value) (w : World) : Prop := nav ann Try.prog 35 (fun c Q => vcCode ann Try.prog 35 c Q [(1, y1), (3, y3), (4, y4), (5, y5), (6, y6)] w) [1, 1, 0, 1, 0, 0, 1, 0, 0, 1, 1, 0, 0, 1] code (top K)
attribute [irreducible] k9
noncomputable def k8 (K : VK) (y1 y3 y4 y5 y6 : Value) (w : World) : Prop := nav ann Try.prog 35 (fun c Q => vcCode ann Try.prog 35 c Q [(1, y1), (3, y3), (4, y4), (5, y5), (6, y6)] w) [1, 1, 0, 1, 0, 0, 1, 0, 0, 1, 1, 0, 0, 1, 1] code (top K)
attribute [irreducible] k8
end F46
theorem F46.k11.to {K : VK} {y3 : Value} {w : World} (h : (K y3 w)) : F46.k11 K y3 w := Eq.mpr (by kernel_rfl) h
theorem F46.l3.to {K : VK} {y1 y3 y4 : Value} {w : World} (h : (C.len y3 w fun x13_1 w1 =>
  C.int .lss y4 x13_1 w1 fun x14_2 w2 =>
  C.ite x14_2 (F46.k5 K y1 y3 y4 w2) (F46.k11 K y3 w2))) : F46.l3 K y1 y3 y4 w := by unfold F46.l3; exact nav_round (Eq.mpr (by kernel_rfl) h)
theorem F46.k5.to {K : VK} {y1 y3 y4 : Value} {w : World} (h : (C.loadA 2 y1 w fun x17_1 w1 =>
  C.call Try.prog 43 #[x17_1, y3] w1 fun x19_2 w2 =>
  F46.l7 K y1 y3 y4 x19_2 (.int .i64 0) w2)) : F46.k5 K y1 y3 y4 w := Eq.mpr (by kernel_rfl) h
theorem F46.k4.to {K : VK} {y1 y3 y4 : Value} {w : World} (h : (C.int .add y4 (.int .i64 1) w fun x16_1 w1 =>
  F46.l3 K y1 y3 x16_1 w1)) : F46.k4 K y1 y3 y4 w := Eq.mpr (by kernel_rfl) h
theorem F46.l7.to {K : VK} {y1 y3 y4 y5 y6 : Value} {w : World} (h : (C.len y5 w fun x22_1 w1 =>
  C.int .lss y6 x22_1 w1 fun x23_2 w2 =>
  C.ite x23_2 (F46.k9 K y1 y3 y4 y5 y6 w2) (F46.k4 K y1 y3 y4 w2))) : F46.l7 K y1 y3 y4 y5 y6 w := by unfold F46.l7; exact nav_round (Eq.mpr (by kernel_rfl) h)
theorem F46.k9.to {K : VK} {y1 y3 y4 y5 y6 : Value} {w : World} (h : (C.idx 1 y5 y6 w fun x28_1 w1 =>
  C.load1 x28_1 w1 fun x29_2 w2 =>
  C.int .eql x29_2 (.int .i64 0) w2 fun x30_3 w3 =>
  C.ite x30_3 (C.idx 1 y3 y6 w3 fun x33_4 w4 =>
  C.store 1 x33_4 (.bool true) w4 fun w5 =>
  F46.k8 K y1 y3 y4 y5 y6 w5) (F46.k8 K y1 y3 y4 y5 y6 w3))) : F46.k9 K y1 y3 y4 y5 y6 w := Eq.mpr (by kernel_rfl) h
theorem F46.k8.to {K : VK} {y1 y3 y4 y5 y6 : Value} {w : World} (h : (C.int .add y6 (.int .i64 1) w fun x25_1 w1 =>
  F46.l7 K y1 y3 y4 y5 x25_1 w1)) : F46.k8 K y1 y3 y4 y5 y6 w := Eq.mpr (by kernel_rfl) h
theorem F46.sh {K : VK} {x0 : Value} {w : World} (h : (C.new (.cells (Value.cells x0) 46) w fun x1_1 w1 =>
  C.field 0 x1_1 w1 fun x7_2 w2 =>
  C.load1 x7_2 w2 fun x8_3 w3 =>
  C.len x8_3 w3 fun x9_4 w4 =>
  C.run Try.prog (Instr.makeSlice 33 x9_4 x9_4) w4 fun x10_5 w5 =>
  F46.l3 K x1_1 x10_5 (.int .i64 0) w5)) : C.call Try.prog 46 #[x0] w K := calls_of_vc (A := F46.ann) (args := [x0]) (Eq.mpr (by kernel_rfl) h)

/-! ### 47 scutage/refs.Leaks (46) -/
namespace F47
def ann : Ann := ⟨[], [], [], [], none⟩
noncomputable def code : Code := match Try.f47.body with | some c => c | none => .skip
noncomputable def top (K : VK) : QE := retQ Try.prog Try.f47.results.toList K
end F47
theorem F47.sh {K : VK} {x0 : Value} {w : World} (h : (C.new (.cells (Value.cells x0) 46) w fun x1_1 w1 =>
  C.loadA 2 x1_1 w1 fun x4_2 w2 =>
  C.call Try.prog 78 #[x4_2] w2 fun x5_3 w3 =>
  C.new (.cells #[.slice none 0 0] 33) w3 fun x3_4 w4 =>
  C.store 1 x3_4 x5_3 w4 fun w5 =>
  C.loadA 2 x1_1 w5 fun x6_6 w6 =>
  C.call Try.prog 37 #[x6_6] w6 fun x7_7 w7 =>
  C.call Try.prog 79 #[x7_7, (.func (.func 80) #[] #[x3_4])] w7 fun x9_8 w8 =>
  K x9_8 w8)) : C.call Try.prog 47 #[x0] w K := calls_of_vc (A := F47.ann) (args := [x0]) (Eq.mpr (by kernel_rfl) h)

/-! ### 75 scutage/refs.lead (46, 85) -/
namespace F75
def ann : Ann := ⟨[(3, [1, 2, 14, 15, 16]), (6, [1, 2, 14, 15, 16, 20, 21, 22]), (9, [1, 2, 14, 15, 16, 20, 21, 22]), (10, [1, 2, 14, 15, 16])], [(2, [1, 2, 14, 15, 16]), (5, [1, 2, 14, 15, 16, 20, 21, 22])], [], [], none⟩
noncomputable def code : Code := match Try.f75.body with | some c => c | none => .skip
noncomputable def top (K : VK) : QE := retQ Try.prog Try.f75.results.toList K
noncomputable def l2 (K : VK) (y1 y2 y14 y15 y16 : Value) (w : World) : Prop := nav ann Try.prog 40 (isLoop ann Try.prog 40 [(1, y1), (2, y2), (14, y14), (15, y15), (16, y16)] w) [1, 1, 0] code (top K)
attribute [irreducible] l2
noncomputable def k3 (K : VK) (y1 y2 y14 y15 y16 : Value) (w : World) : Prop := nav ann Try.prog 40 (fun c Q => vcCode ann Try.prog 40 c Q [(1, y1), (2, y2), (14, y14), (15, y15), (16, y16)] w) [1, 1, 0, 0, 1, 1] code (top K)
attribute [irreducible] k3
noncomputable def k10 (K : VK) (y1 y2 y14 y15 y16 : Value) (w : World) : Prop := nav ann Try.prog 40 (fun c Q => vcCode ann Try.prog 40 c Q [(1, y1), (2, y2), (14, y14), (15, y15), (16, y16)] w) [1, 1, 0, 0, 1, 1, 1] code (top K)
attribute [irreducible] k10
noncomputable def l5 (K : VK) (y1 y2 y14 y15 y16 y20 y21 y22 : Value) (w : World) : Prop := nav ann Try.prog 40 (isLoop ann Try.prog 40 [(1, y1), (2, y2), (14, y14), (15, y15), (16, y16), (20, y20), (21, y21), (22, y22)] w) [1, 1, 0, 0, 1, 1, 0, 0, 1, 1, 0] code (top K)
attribute [irreducible] l5
noncomputable def k6 (K : VK) (y1 y2 y14 y15 y16 y20 y21 y22 : Value) (w : World) : Prop := nav ann Try.prog 40 (fun c Q => vcCode ann Try.prog 40 c Q [(1, y1), (2, y2), (14, y14), (15, y15), (16, y16), (20, y20), (21, y21), (22, y22)] w) [1, 1, 0, 0, 1, 1, 0, 0, 1, 1, 0, 0, 1, 1] code (top K)
attribute [irreducible] k6
noncomputable def k9 (K : VK) (y1 y2 y14 y15 y16 y20 y21 y22 : Value) (w : World) : Prop := nav ann Try.prog 40 (fun c Q => vcCode ann Try.prog 40 c Q [(1, y1), (2, y2), (14, y14), (15, y15), (16, y16), (20, y20), (21, y21), (22, y22)] w) [1, 1, 0, 0, 1, 1, 0, 0, 1, 1, 0, 0, 1, 1, 1] code (top K)
attribute [irreducible] k9
end F75
theorem F75.l2.to {K : VK} {y1 y2 y14 y15 y16 : Value} {w : World} (h : (C.int .lss y16 y15 w fun x17_1 w1 =>
  C.ite x17_1 (F75.k3 K y1 y2 y14 y15 y16 w1) (K (.tuple #[]) w1))) : F75.l2 K y1 y2 y14 y15 y16 w := by unfold F75.l2; exact nav_round (Eq.mpr (by kernel_rfl) h)
theorem F75.k3.to {K : VK} {y1 y2 y14 y15 y16 : Value} {w : World} (h : (C.idx 1 y14 y16 w fun x18_1 w1 =>
  C.load1 x18_1 w1 fun x19_2 w2 =>
  C.len x19_2 w2 fun x21_3 w3 =>
  F75.l5 K y1 y2 y14 y15 y16 x19_2 x21_3 (.int .i64 0) w3)) : F75.k3 K y1 y2 y14 y15 y16 w := Eq.mpr (by kernel_rfl) h
theorem F75.k10.to {K : VK} {y1 y2 y14 y15 y16 : Value} {w : World} (h : (C.int .add y16 (.int .i64 1) w fun x39_1 w1 =>
  F75.l2 K y1 y2 y14 y15 x39_1 w1)) : F75.k10 K y1 y2 y14 y15 y16 w := Eq.mpr (by kernel_rfl) h
theorem F75.l5.to {K : VK} {y1 y2 y14 y15 y16 y20 y21 y22 : Value} {w : World} (h : (C.int .lss y22 y21 w fun x23_1 w1 =>
  C.ite x23_1 (F75.k6 K y1 y2 y14 y15 y16 y20 y21 y22 w1) (F75.k10 K y1 y2 y14 y15 y16 w1))) : F75.l5 K y1 y2 y14 y15 y16 y20 y21 y22 w := by unfold F75.l5; exact nav_round (Eq.mpr (by kernel_rfl) h)
theorem F75.k6.to {K : VK} {y1 y2 y14 y15 y16 y20 y21 y22 : Value} {w : World} (h : (C.idx 1 y20 y22 w fun x24_1 w1 =>
  C.load1 x24_1 w1 fun x25_2 w2 =>
  C.int .geq x25_2 (.int .i64 0) w2 fun x27_3 w3 =>
  C.guarded true x27_3 (fun K => K x25_2 w3) w3 fun x29_4 w4 =>
  C.guarded true x27_3 (fun K => C.field 0 y2 w4 K) w4 fun x30_5 w5 =>
  C.guarded true x27_3 (fun K => C.load1 x30_5 w5 K) w5 fun x31_6 w6 =>
  C.guarded true x27_3 (fun K => C.len x31_6 w6 K) w6 fun x32_7 w7 =>
  C.guarded true x27_3 (fun K => C.int .lss x29_4 x32_7 w7 K) w7 fun x33_8 w8 =>
  C.pick (some x27_3) (some x33_8) (some (.bool false)) w8 fun x34_9 w9 =>
  C.ite x34_9 (vcCall Try.prog y1 [x25_2] w9 fun x37_10 w10 =>
  F75.k9 K y1 y2 y14 y15 y16 y20 y21 y22 w10) (F75.k9 K y1 y2 y14 y15 y16 y20 y21 y22 w9))) : F75.k6 K y1 y2 y14 y15 y16 y20 y21 y22 w := Eq.mpr (by kernel_rfl) h
theorem F75.k9.to {K : VK} {y1 y2 y14 y15 y16 y20 y21 y22 : Value} {w : World} (h : (C.int .add y22 (.int .i64 1) w fun x38_1 w1 =>
  F75.l5 K y1 y2 y14 y15 y16 y20 y21 x38_1 w1)) : F75.k9 K y1 y2 y14 y15 y16 y20 y21 y22 w := Eq.mpr (by kernel_rfl) h
theorem F75.sh {K : VK} {x0 x1 : Value} {w : World} (h : (C.new (.cells (Value.cells x0) 46) w fun x2_1 w1 =>
  C.field 1 x2_1 w1 fun x8_2 w2 =>
  C.load1 x8_2 w2 fun x9_3 w3 =>
  C.run Try.prog (Instr.buildSlice 43 1 #[(0, x9_3)]) w3 fun x10_4 w4 =>
  C.field 0 x2_1 w4 fun x11_5 w5 =>
  C.load1 x11_5 w5 fun x12_6 w6 =>
  C.run Try.prog (Instr.buildSlice 118 2 #[(0, x10_4), (1, x12_6)]) w6 fun x13_7 w7 =>
  C.call Try.prog 97 #[x13_7] w7 fun x14_8 w8 =>
  C.len x14_8 w8 fun x15_9 w9 =>
  F75.l2 K x1 x2_1 x14_8 x15_9 (.int .i64 0) w9)) : C.call Try.prog 75 #[x0, x1] w K := calls_of_vc (A := F75.ann) (args := [x0, x1]) (Eq.mpr (by kernel_rfl) h)

/-! ### 76 scutage/refs.Counts$1 (3) -/
namespace F76
def ann : Ann := ⟨[], [], [], [], none⟩
noncomputable def code : Code := match Try.f76.body with | some c => c | none => .skip
noncomputable def top (K : VK) : QE := retQ Try.prog Try.f76.results.toList K
end F76
theorem F76.sh {K : VK} {x0 x1 : Value} {w : World} (h : (C.load1 x1 w fun x3_1 w1 =>
  C.idx 1 x3_1 x0 w1 fun x5_2 w2 =>
  C.load1 x5_2 w2 fun x6_3 w3 =>
  C.int .add x6_3 (.int .i64 1) w3 fun x7_4 w4 =>
  C.idx 1 x3_1 x0 w4 fun x8_5 w5 =>
  C.store 1 x8_5 x7_4 w5 fun w6 =>
  K (.tuple #[]) w6)) : C.call Try.prog 76 #[x0, x1] w K := calls_of_vc (A := F76.ann) (args := [x0, x1]) (Eq.mpr (by kernel_rfl) h)

/-! ### 77 scutage/scutagelaw35.count (44, 3) -/
namespace F77
def ann : Ann := ⟨[(4, [0, 1, 5, 6]), (5, [0, 1, 5, 6]), (7, [5])], [(3, [0, 1, 5, 6])], [], [], none⟩
noncomputable def code : Code := match Try.f77.body with | some c => c | none => .skip
noncomputable def top (K : VK) : QE := retQ Try.prog Try.f77.results.toList K
noncomputable def k7 (K : VK) (y5 : Value) (w : World) : Prop := nav ann Try.prog 22 (fun c Q => vcCode ann Try.prog 22 c Q [(5, y5)] w) [1, 1, 1] code (top K)
attribute [irreducible] k7
noncomputable def l3 (K : VK) (y0 y1 y5 y6 : Value) (w : World) : Prop := nav ann Try.prog 22 (isLoop ann Try.prog 22 [(0, y0), (1, y1), (5, y5), (6, y6)] w) [1, 1, 0, 1, 0] code (top K)
attribute [irreducible] l3
noncomputable def k5 (K : VK) (y0 y1 y5 y6 : Value) (w : World) : Prop := nav ann Try.prog 22 (fun c Q => vcCode ann Try.prog 22 c Q [(0, y0), (1, y1), (5, y5), (6, y6)] w) [1, 1, 0, 1, 0, 0, 1] code (top K)
attribute [irreducible] k5
noncomputable def k4 (K : VK) (y0 y1 y5 y6 : Value) (w : World) : Prop := nav ann Try.prog 22 (fun c Q => vcCode ann Try.prog 22 c Q [(0, y0), (1, y1), (5, y5), (6, y6)] w) [1, 1, 0, 1, 0, 0, 1, 1] code (top K)
attribute [irreducible] k4
end F77
theorem F77.k7.to {K : VK} {y5 : Value} {w : World} (h : (K y5 w)) : F77.k7 K y5 w := Eq.mpr (by kernel_rfl) h
theorem F77.l3.to {K : VK} {y0 y1 y5 y6 : Value} {w : World} (h : (C.len y0 w fun x9_1 w1 =>
  C.int .lss y6 x9_1 w1 fun x10_2 w2 =>
  C.ite x10_2 (F77.k5 K y0 y1 y5 y6 w2) (F77.k7 K y5 w2))) : F77.l3 K y0 y1 y5 y6 w := by unfold F77.l3; exact nav_round (Eq.mpr (by kernel_rfl) h)
theorem F77.k5.to {K : VK} {y0 y1 y5 y6 : Value} {w : World} (h : (C.idx 1 y0 y6 w fun x15_1 w1 =>
  C.load1 x15_1 w1 fun x16_2 w2 =>
  C.int .eql x16_2 y1 w2 fun x18_3 w3 =>
  C.ite x18_3 (C.int .add y5 (.int .i64 1) w3 fun x20_4 w4 =>
  F77.k4 K y0 y1 x20_4 y6 w4) (F77.k4 K y0 y1 y5 y6 w3))) : F77.k5 K y0 y1 y5 y6 w := Eq.mpr (by kernel_rfl) h
theorem F77.k4.to {K : VK} {y0 y1 y5 y6 : Value} {w : World} (h : (C.int .add y6 (.int .i64 1) w fun x12_1 w1 =>
  F77.l3 K y0 y1 y5 x12_1 w1)) : F77.k4 K y0 y1 y5 y6 w := Eq.mpr (by kernel_rfl) h
theorem F77.sh {K : VK} {x0 x1 : Value} {w : World} (h : (F77.l3 K x0 x1 (.int .i64 0) (.int .i64 0) w)) : C.call Try.prog 77 #[x0, x1] w K := calls_of_vc (A := F77.ann) (args := [x0, x1]) (Eq.mpr (by kernel_rfl) h)

/-! ### 78 scutage/refs.falls (46) -/
namespace F78
def ann : Ann := ⟨[(2, [1, 3, 4]), (5, [1, 3, 4, 5, 16, 17, 18]), (8, [1, 3, 4, 5, 16, 17, 18]), (9, [1, 3, 4, 5]), (11, [1, 3, 4, 5, 8]), (12, [1, 3, 4, 5, 8]), (15, [4])], [(4, [1, 3, 4, 5, 16, 17, 18]), (10, [1, 3, 4, 5, 8])], [], [(1, (.take 2 (.take 0 (.take 3 (.take 4 (.go 1 (.go 5 (.go 6 (.go 7 (.take 8 .fin) .fin) .fin) (.go 6 (.go 5 (.go 7 (.take 8 .fin) .fin) (.go 7 (.go 5 (.take 8 .fin) .fin) .fin)) .fin)) (.go 5 (.go 1 (.go 6 (.go 7 (.take 8 .fin) .fin) .fin) (.go 6 (.go 1 (.go 7 (.take 8 .fin) .fin) .fin) .fin)) (.go 6 (.go 1 (.go 5 (.go 7 (.take 8 .fin) .fin) (.go 7 (.go 5 (.take 8 .fin) .fin) .fin)) (.go 5 (.go 1 (.go 7 (.take 8 .fin) .fin) .fin) .fin)) .fin)))))))), (14, (.take 0 (.take 4 (.take 6 (.take 10 (.take 1 (.take 2 (.take 5 (.take 7 (.take 8 (.go 3 (.take 9 (.go 11 .fin .fin)) .fin)))))))))))], none⟩
noncomputable def code : Code := match Try.f78.body with | some c => c | none => .skip
noncomputable def top (K : VK) : QE := retQ Try.prog Try.f78.results.toList K
noncomputable def k2 (K : VK) (y1 y3 y4 : Value) (w : World) : Prop := nav ann Try.prog 56 (fun c Q => vcCode ann Try.prog 56 c Q [(1, y1), (3, y3), (4, y4)] w) [1, 1] code (top K)
attribute [irreducible] k2
noncomputable def k9 (K : VK) (y1 y3 y4 y5 : Value) (w : World) : Prop := nav ann Try.prog 56 (fun c Q => vcCode ann Try.prog 56 c Q [(1, y1), (3, y3), (4, y4), (5, y5)] w) [1, 1, 1, 1] code (top K)
attribute [irreducible] k9
noncomputable def l4 (K : VK) (y1 y3 y4 y5 y16 y17 y18 : Value) (w : World) : Prop := nav ann Try.prog 56 (isLoop ann Try.prog 56 [(1, y1), (3, y3), (4, y4), (5, y5), (16, y16), (17, y17), (18, y18)] w) [1, 1, 1, 0, 1, 0] code (top K)
attribute [irreducible] l4
noncomputable def k5 (K : VK) (y1 y3 y4 y5 y16 y17 y18 : Value) (w : World) : Prop := nav ann Try.prog 56 (fun c Q => vcCode ann Try.prog 56 c Q [(1, y1), (3, y3), (4, y4), (5, y5), (16, y16), (17, y17), (18, y18)] w) [1, 1, 1, 0, 1, 0, 0, 1, 1] code (top K)
attribute [irreducible] k5
noncomputable def k8 (K : VK) (y1 y3 y4 y5 y16 y17 y18 : Value) (w : World) : Prop := nav ann Try.prog 56 (fun c Q => vcCode ann Try.prog 56 c Q [(1, y1), (3, y3), (4, y4), (5, y5), (16, y16), (17, y17), (18, y18)] w) [1, 1, 1, 0, 1, 0, 0, 1, 1, 1] code (top K)
attribute [irreducible] k8
noncomputable def k15 (K : VK) (y4 : Value) (w : World) : Prop := nav ann Try.prog 56 (fun c Q => vcCode ann Try.prog 56 c Q [(4, y4)] w) [1, 1, 1, 1, 1] code (top K)
attribute [irreducible] k15
noncomputable def l10 (K : VK) (y1 y3 y4 y5 y8 : Value) (w : World) : Prop := nav ann Try.prog 56 (isLoop ann Try.prog 56 [(1, y1), (3, y3), (4, y4), (5, y5), (8, y8)] w) [1, 1, 1, 1, 0, 1, 0] code (top K)
attribute [irreducible] l10
noncomputable def k12 (K : VK) (y1 y3 y4 y5 y8 : Value) (w : World) : Prop := nav ann Try.prog 56 (fun c Q => vcCode ann Try.prog 56 c Q [(1, y1), (3, y3), (4, y4), (5, y5), (8, y8)] w) [1, 1, 1, 1, 0, 1, 0, 0, 1] code (top K)
attribute [irreducible] k12
noncomputable def k11 (K : VK) (y1 y3 y4 y5 y8 : Value) (w : World) : Prop := nav ann Try.prog 56 (fun c Q => vcCode ann Try.prog 56 c Q [(1, y1), (3, y3), (4, y4), (5, y5), (8, y8)] w) [1, 1, 1, 1, 0, 1, 0, 0, 1, 1] code (top K)
attribute [irreducible] k11
end F78
theorem F78.k2.to {K : VK} {y1 y3 y4 : Value} {w : World} (h : (C.new (.cells #[.slice none 0 0] 44) w fun x5_1 w1 =>
  C.load1 y3 w1 fun x16_2 w2 =>
  C.len x16_2 w2 fun x17_3 w3 =>
  F78.l4 K y1 y3 y4 x5_1 x16_2 x17_3 (.int .i64 0) w3)) : F78.k2 K y1 y3 y4 w := Eq.mpr (by kernel_rfl) h
theorem F78.k9.to {K : VK} {y1 y3 y4 y5 : Value} {w : World} (h : (F78.l10 K y1 y3 y4 y5 (.int .i64 0) w)) : F78.k9 K y1 y3 y4 y5 w := Eq.mpr (by kernel_rfl) h
theorem F78.l4.to {K : VK} {y1 y3 y4 y5 y16 y17 y18 : Value} {w : World} (h : (C.int .lss y18 y17 w fun x19_1 w1 =>
  C.ite x19_1 (F78.k5 K y1 y3 y4 y5 y16 y17 y18 w1) (F78.k9 K y1 y3 y4 y5 w1))) : F78.l4 K y1 y3 y4 y5 y16 y17 y18 w := by unfold F78.l4; exact nav_round (Eq.mpr (by kernel_rfl) h)
theorem F78.k5.to {K : VK} {y1 y3 y4 y5 y16 y17 y18 : Value} {w : World} (h : (C.idx 1 y16 y18 w fun x21_1 w1 =>
  C.load1 x21_1 w1 fun x22_2 w2 =>
  C.int .eql x22_2 (.int .i64 0) w2 fun x24_3 w3 =>
  C.ite x24_3 (C.load1 y5 w3 fun x25_4 w4 =>
  C.run Try.prog (Instr.buildSlice 44 1 #[(0, y18)]) w4 fun x27_5 w5 =>
  C.run Try.prog (Builtin.append_ #[44, 44] 44 #[x25_4, x27_5]) w5 fun x28_6 w6 =>
  C.store 1 y5 x28_6 w6 fun w7 =>
  F78.k8 K y1 y3 y4 y5 y16 y17 y18 w7) (F78.k8 K y1 y3 y4 y5 y16 y17 y18 w3))) : F78.k5 K y1 y3 y4 y5 y16 y17 y18 w := Eq.mpr (by kernel_rfl) h
theorem F78.k8.to {K : VK} {y1 y3 y4 y5 y16 y17 y18 : Value} {w : World} (h : (C.int .add y18 (.int .i64 1) w fun x29_1 w1 =>
  F78.l4 K y1 y3 y4 y5 y16 y17 x29_1 w1)) : F78.k8 K y1 y3 y4 y5 y16 y17 y18 w := Eq.mpr (by kernel_rfl) h
theorem F78.k15.to {K : VK} {y4 : Value} {w : World} (h : (K y4 w)) : F78.k15 K y4 w := Eq.mpr (by kernel_rfl) h
theorem F78.l10.to {K : VK} {y1 y3 y4 y5 y8 : Value} {w : World} (h : (C.load1 y5 w fun x31_1 w1 =>
  C.len x31_1 w1 fun x32_2 w2 =>
  C.int .lss y8 x32_2 w2 fun x33_3 w3 =>
  C.ite x33_3 (F78.k12 K y1 y3 y4 y5 y8 w3) (F78.k15 K y4 w3))) : F78.l10 K y1 y3 y4 y5 y8 w := by unfold F78.l10; exact nav_round (Eq.mpr (by kernel_rfl) h)
theorem F78.k12.to {K : VK} {y1 y3 y4 y5 y8 : Value} {w : World} (h : (C.load1 y5 w fun x36_1 w1 =>
  C.idx 1 x36_1 y8 w1 fun x38_2 w2 =>
  C.load1 x38_2 w2 fun x39_3 w3 =>
  C.idx 1 y4 x39_3 w3 fun x42_4 w4 =>
  C.store 1 x42_4 (.bool true) w4 fun w5 =>
  C.draw w5 fun S w6 =>
  C.field 0 y1 w6 fun x43_7 w7 =>
  C.field 0 y1 w7 fun x47_8 w8 =>
  C.load1S S x43_7 w8 fun x44_9 w9 =>
  C.len x44_9 w9 fun x45_10 w10 =>
  C.load1S S x47_8 w10 fun x48_11 w11 =>
  C.idx 1 x48_11 x39_3 w11 fun x50_12 w12 =>
  C.load1S S x50_12 w12 fun x51_13 w13 =>
  (C.run Try.prog (Instr.makeSlice 43 x45_10 x45_10) w13 fun x46_14 w14 =>
  (S w14 ∧
  ∃ x52_15, (∀ w', S w' → (Instr.build 46 #[(0, x46_14), (1, x51_13)]).run Try.prog w' = .ok x52_15 w') ∧ ((C.call Try.prog 75 #[x52_15, (.func (.func 98) #[] #[y3, y5])] w14 fun x54_16 w16 =>
  (S w16 ∧
  F78.k11 K y1 y3 y4 y5 y8 w16)) ∧ True))) ∧ True)) : F78.k12 K y1 y3 y4 y5 y8 w := Eq.mpr (by kernel_rfl) h
theorem F78.k11.to {K : VK} {y1 y3 y4 y5 y8 : Value} {w : World} (h : (C.int .add y8 (.int .i64 1) w fun x35_1 w1 =>
  F78.l10 K y1 y3 y4 y5 x35_1 w1)) : F78.k11 K y1 y3 y4 y5 y8 w := Eq.mpr (by kernel_rfl) h
theorem F78.sh {K : VK} {x0 : Value} {w : World} (h : (C.new (.cells (Value.cells x0) 46) w fun x1_1 w1 =>
  C.draw w1 fun S w2 =>
  C.field 0 x1_1 w2 fun x12_3 w3 =>
  C.loadAS S 2 x1_1 w3 fun x10_4 w4 =>
  C.load1S S x12_3 w4 fun x13_5 w5 =>
  C.len x13_5 w5 fun x14_6 w6 =>
  (C.call Try.prog 42 #[x10_4] w6 fun x11_23 w23 =>
  (S w23 ∧
  (C.run Try.prog (Instr.makeSlice 33 x14_6 x14_6) w23 fun x15_29 w29 =>
  (S w29 ∧
  (C.new (.cells #[.slice none 0 0] 44) w29 fun x3_30 w30 =>
  (S w30 ∧
  (C.store 1 x3_30 x11_23 w30 fun w31 =>
  (S w31 ∧
  F78.k2 K x1_1 x3_30 x15_29 w31)) ∧ True)) ∧ True)) ∧ ((C.new (.cells #[.slice none 0 0] 44) w23 fun x3_24 w24 =>
  (S w24 ∧
  (C.run Try.prog (Instr.makeSlice 33 x14_6 x14_6) w24 fun x15_27 w27 =>
  (S w27 ∧
  (C.store 1 x3_24 x11_23 w27 fun w28 =>
  (S w28 ∧
  F78.k2 K x1_1 x3_24 x15_27 w28)) ∧ True)) ∧ ((C.store 1 x3_24 x11_23 w24 fun w25 =>
  (S w25 ∧
  (C.run Try.prog (Instr.makeSlice 33 x14_6 x14_6) w25 fun x15_26 w26 =>
  (S w26 ∧
  F78.k2 K x1_1 x3_24 x15_26 w26)) ∧ True)) ∧ True))) ∧ True))) ∧ ((C.run Try.prog (Instr.makeSlice 33 x14_6 x14_6) w6 fun x15_16 w16 =>
  (S w16 ∧
  (C.call Try.prog 42 #[x10_4] w16 fun x11_20 w20 =>
  (S w20 ∧
  (C.new (.cells #[.slice none 0 0] 44) w20 fun x3_21 w21 =>
  (S w21 ∧
  (C.store 1 x3_21 x11_20 w21 fun w22 =>
  (S w22 ∧
  F78.k2 K x1_1 x3_21 x15_16 w22)) ∧ True)) ∧ True)) ∧ ((C.new (.cells #[.slice none 0 0] 44) w16 fun x3_17 w17 =>
  (S w17 ∧
  (C.call Try.prog 42 #[x10_4] w17 fun x11_18 w18 =>
  (S w18 ∧
  (C.store 1 x3_17 x11_18 w18 fun w19 =>
  (S w19 ∧
  F78.k2 K x1_1 x3_17 x15_16 w19)) ∧ True)) ∧ True)) ∧ True))) ∧ ((C.new (.cells #[.slice none 0 0] 44) w6 fun x3_7 w7 =>
  (S w7 ∧
  (C.call Try.prog 42 #[x10_4] w7 fun x11_11 w11 =>
  (S w11 ∧
  (C.run Try.prog (Instr.makeSlice 33 x14_6 x14_6) w11 fun x15_14 w14 =>
  (S w14 ∧
  (C.store 1 x3_7 x11_11 w14 fun w15 =>
  (S w15 ∧
  F78.k2 K x1_1 x3_7 x15_14 w15)) ∧ True)) ∧ ((C.store 1 x3_7 x11_11 w11 fun w12 =>
  (S w12 ∧
  (C.run Try.prog (Instr.makeSlice 33 x14_6 x14_6) w12 fun x15_13 w13 =>
  (S w13 ∧
  F78.k2 K x1_1 x3_7 x15_13 w13)) ∧ True)) ∧ True))) ∧ ((C.run Try.prog (Instr.makeSlice 33 x14_6 x14_6) w7 fun x15_8 w8 =>
  (S w8 ∧
  (C.call Try.prog 42 #[x10_4] w8 fun x11_9 w9 =>
  (S w9 ∧
  (C.store 1 x3_7 x11_9 w9 fun w10 =>
  (S w10 ∧
  F78.k2 K x1_1 x3_7 x15_8 w10)) ∧ True)) ∧ True)) ∧ True))) ∧ True)))) : C.call Try.prog 78 #[x0] w K := calls_of_vc (A := F78.ann) (args := [x0]) (Eq.mpr (by kernel_rfl) h)

/-! ### 80 scutage/refs.Leaks$1 (3) -/
namespace F80
def ann : Ann := ⟨[], [], [], [], none⟩
noncomputable def code : Code := match Try.f80.body with | some c => c | none => .skip
noncomputable def top (K : VK) : QE := retQ Try.prog Try.f80.results.toList K
end F80
theorem F80.sh {K : VK} {x0 x1 : Value} {w : World} (h : (C.load1 x1 w fun x4_1 w1 =>
  C.idx 1 x4_1 x0 w1 fun x6_2 w2 =>
  C.load1 x6_2 w2 fun x7_3 w3 =>
  K x7_3 w3)) : C.call Try.prog 80 #[x0, x1] w K := calls_of_vc (A := F80.ann) (args := [x0, x1]) (Eq.mpr (by kernel_rfl) h)

/-! ### 97 slices.Concat[[][]int,[]int] (118) -/
namespace F97
def ann : Ann := ⟨[(4, [0, 3, 9, 10, 11]), (8, [0, 3, 9, 10, 11]), (9, [0, 3]), (12, [6, 25, 26, 27]), (14, [6, 25, 26, 27]), (15, [6])], [(3, [0, 3, 9, 10, 11]), (11, [6, 25, 26, 27])], [], [], none⟩
noncomputable def code : Code := match Try.f97.body with | some c => c | none => .skip
noncomputable def top (K : VK) : QE := retQ Try.prog Try.f97.results.toList K
noncomputable def k9 (K : VK) (y0 y3 : Value) (w : World) : Prop := nav ann Try.prog 36 (fun c Q => vcCode ann Try.prog 36 c Q [(0, y0), (3, y3)] w) [1, 1, 1] code (top K)
attribute [irreducible] k9
noncomputable def l3 (K : VK) (y0 y3 y9 y10 y11 : Value) (w : World) : Prop := nav ann Try.prog 36 (isLoop ann Try.prog 36 [(0, y0), (3, y3), (9, y9), (10, y10), (11, y11)] w) [1, 1, 0, 1, 0] code (top K)
attribute [irreducible] l3
noncomputable def k4 (K : VK) (y0 y3 y9 y10 y11 : Value) (w : World) : Prop := nav ann Try.prog 36 (fun c Q => vcCode ann Try.prog 36 c Q [(0, y0), (3, y3), (9, y9), (10, y10), (11, y11)] w) [1, 1, 0, 1, 0, 0, 1, 1] code (top K)
attribute [irreducible] k4
noncomputable def k8 (K : VK) (y0 y3 y9 y10 y11 : Value) (w : World) : Prop := nav ann Try.prog 36 (fun c Q => vcCode ann Try.prog 36 c Q [(0, y0), (3, y3), (9, y9), (10, y10), (11, y11)] w) [1, 1, 0, 1, 0, 0, 1, 1, 1] code (top K)
attribute [irreducible] k8
noncomputable def k15 (K : VK) (y6 : Value) (w : World) : Prop := nav ann Try.prog 36 (fun c Q => vcCode ann Try.prog 36 c Q [(6, y6)] w) [1, 1, 1, 1, 1] code (top K)
attribute [irreducible] k15
noncomputable def l11 (K : VK) (y6 y25 y26 y27 : Value) (w : World) : Prop := nav ann Try.prog 36 (isLoop ann Try.prog 36 [(6, y6), (25, y25), (26, y26), (27, y27)] w) [1, 1, 1, 1, 0, 1, 0] code (top K)
attribute [irreducible] l11
noncomputable def k12 (K : VK) (y6 y25 y26 y27 : Value) (w : World) : Prop := nav ann Try.prog 36 (fun c Q => vcCode ann Try.prog 36 c Q [(6, y6), (25, y25), (26, y26), (27, y27)] w) [1, 1, 1, 1, 0, 1, 0, 0, 1, 1] code (top K)
attribute [irreducible] k12
noncomputable def k14 (K : VK) (y6 y25 y26 y27 : Value) (w : World) : Prop := nav ann Try.prog 36 (fun c Q => vcCode ann Try.prog 36 c Q [(6, y6), (25, y25), (26, y26), (27, y27)] w) [1, 1, 1, 1, 0, 1, 0, 0, 1, 1, 1] code (top K)
attribute [irreducible] k14
end F97
theorem F97.k9.to {K : VK} {y0 y3 : Value} {w : World} (h : (C.call Try.prog 109 #[(.slice none 0 0), y3] w fun x24_1 w1 =>
  C.len y0 w1 fun x26_2 w2 =>
  F97.l11 K x24_1 y0 x26_2 (.int .i64 0) w2)) : F97.k9 K y0 y3 w := Eq.mpr (by kernel_rfl) h
theorem F97.l3.to {K : VK} {y0 y3 y9 y10 y11 : Value} {w : World} (h : (C.int .lss y11 y10 w fun x12_1 w1 =>
  C.ite x12_1 (F97.k4 K y0 y3 y9 y10 y11 w1) (F97.k9 K y0 y3 w1))) : F97.l3 K y0 y3 y9 y10 y11 w := by unfold F97.l3; exact nav_round (Eq.mpr (by kernel_rfl) h)
theorem F97.k4.to {K : VK} {y0 y3 y9 y10 y11 : Value} {w : World} (h : (C.idx 1 y9 y11 w fun x13_1 w1 =>
  C.load1 x13_1 w1 fun x14_2 w2 =>
  C.len x14_2 w2 fun x17_3 w3 =>
  C.int .add y3 x17_3 w3 fun x18_4 w4 =>
  C.int .lss x18_4 (.int .i64 0) w4 fun x20_5 w5 =>
  C.ite x20_5 (C.run Try.prog (Instr.makeInterface 9 (.string { data := #[108, 101, 110, 32, 111, 117, 116, 32, 111, 102, 32, 114, 97, 110, 103, 101] })) w5 fun x21_6 w6 =>
  False) (F97.k8 K y0 x18_4 y9 y10 y11 w5))) : F97.k4 K y0 y3 y9 y10 y11 w := Eq.mpr (by kernel_rfl) h
theorem F97.k8.to {K : VK} {y0 y3 y9 y10 y11 : Value} {w : World} (h : (C.int .add y11 (.int .i64 1) w fun x22_1 w1 =>
  F97.l3 K y0 y3 y9 y10 x22_1 w1)) : F97.k8 K y0 y3 y9 y10 y11 w := Eq.mpr (by kernel_rfl) h
theorem F97.k15.to {K : VK} {y6 : Value} {w : World} (h : (K y6 w)) : F97.k15 K y6 w := Eq.mpr (by kernel_rfl) h
theorem F97.l11.to {K : VK} {y6 y25 y26 y27 : Value} {w : World} (h : (C.int .lss y27 y26 w fun x28_1 w1 =>
  C.ite x28_1 (F97.k12 K y6 y25 y26 y27 w1) (F97.k15 K y6 w1))) : F97.l11 K y6 y25 y26 y27 w := by unfold F97.l11; exact nav_round (Eq.mpr (by kernel_rfl) h)
theorem F97.k12.to {K : VK} {y6 y25 y26 y27 : Value} {w : World} (h : (C.idx 1 y25 y27 w fun x29_1 w1 =>
  C.load1 x29_1 w1 fun x30_2 w2 =>
  C.run Try.prog (Builtin.append_ #[43, 43] 43 #[y6, x30_2]) w2 fun x33_3 w3 =>
  F97.k14 K x33_3 y25 y26 y27 w3)) : F97.k12 K y6 y25 y26 y27 w := Eq.mpr (by kernel_rfl) h
theorem F97.k14.to {K : VK} {y6 y25 y26 y27 : Value} {w : World} (h : (C.int .add y27 (.int .i64 1) w fun x34_1 w1 =>
  F97.l11 K y6 y25 y26 x34_1 w1)) : F97.k14 K y6 y25 y26 y27 w := Eq.mpr (by kernel_rfl) h
theorem F97.sh {K : VK} {x0 : Value} {w : World} (h : (C.len x0 w fun x10_1 w1 =>
  F97.l3 K x0 (.int .i64 0) x0 x10_1 (.int .i64 0) w1)) : C.call Try.prog 97 #[x0] w K := calls_of_vc (A := F97.ann) (args := [x0]) (Eq.mpr (by kernel_rfl) h)

/-! ### 98 scutage/refs.falls$1 (3) -/
namespace F98
def ann : Ann := ⟨[], [], [], [], none⟩
noncomputable def code : Code := match Try.f98.body with | some c => c | none => .skip
noncomputable def top (K : VK) : QE := retQ Try.prog Try.f98.results.toList K
end F98
theorem F98.sh {K : VK} {x0 x1 x2 : Value} {w : World} (h : (C.load1 x1 w fun x4_1 w1 =>
  C.idx 1 x4_1 x0 w1 fun x6_2 w2 =>
  C.load1 x6_2 w2 fun x7_3 w3 =>
  C.int .sub x7_3 (.int .i64 1) w3 fun x8_4 w4 =>
  C.idx 1 x4_1 x0 w4 fun x9_5 w5 =>
  C.store 1 x9_5 x8_4 w5 fun w6 =>
  C.load1 x1 w6 fun x10_7 w7 =>
  C.idx 1 x10_7 x0 w7 fun x12_8 w8 =>
  C.load1 x12_8 w8 fun x13_9 w9 =>
  C.int .eql x13_9 (.int .i64 0) w9 fun x14_10 w10 =>
  C.ite x14_10 (C.load1 x2 w10 fun x15_11 w11 =>
  C.run Try.prog (Instr.buildSlice 44 1 #[(0, x0)]) w11 fun x17_12 w12 =>
  C.run Try.prog (Builtin.append_ #[44, 44] 44 #[x15_11, x17_12]) w12 fun x18_13 w13 =>
  C.store 1 x2 x18_13 w13 fun w14 =>
  K (.tuple #[]) w14) (K (.tuple #[]) w10))) : C.call Try.prog 98 #[x0, x1, x2] w K := calls_of_vc (A := F98.ann) (args := [x0, x1, x2]) (Eq.mpr (by kernel_rfl) h)

/-! ### 109 slices.Grow[[][]int,[]int] (43, 3) -/
namespace F109
def ann : Ann := ⟨[(3, [0, 1]), (6, [0])], [], [], [], none⟩
noncomputable def code : Code := match Try.f109.body with | some c => c | none => .skip
noncomputable def top (K : VK) : QE := retQ Try.prog Try.f109.results.toList K
noncomputable def k3 (K : VK) (y0 y1 : Value) (w : World) : Prop := nav ann Try.prog 27 (fun c Q => vcCode ann Try.prog 27 c Q [(0, y0), (1, y1)] w) [1, 1] code (top K)
attribute [irreducible] k3
noncomputable def k6 (K : VK) (y0 : Value) (w : World) : Prop := nav ann Try.prog 27 (fun c Q => vcCode ann Try.prog 27 c Q [(0, y0)] w) [1, 1, 1] code (top K)
attribute [irreducible] k6
end F109
theorem F109.k3.to {K : VK} {y0 y1 : Value} {w : World} (h : (C.run Try.prog (Builtin.cap_ #[43] 3 #[y0]) w fun x10_1 w1 =>
  C.len y0 w1 fun x12_2 w2 =>
  C.int .sub x10_1 x12_2 w2 fun x13_3 w3 =>
  C.int .sub y1 x13_3 w3 fun x14_4 w4 =>
  C.int .gtr x14_4 (.int .i64 0) w4 fun x16_5 w5 =>
  C.ite x16_5 (C.run Try.prog (Builtin.cap_ #[43] 3 #[y0]) w5 fun x19_6 w6 =>
  C.run Try.prog (Instr.sliceAt 43 y0 none (some x19_6) none) w6 fun x20_7 w7 =>
  C.run Try.prog (Builtin.append_ #[43, 3] 43 #[x20_7, x14_4]) w7 fun x22_8 w8 =>
  C.len y0 w8 fun x24_9 w9 =>
  C.run Try.prog (Instr.sliceAt 43 x22_8 none (some x24_9) none) w9 fun x25_10 w10 =>
  F109.k6 K x25_10 w10) (F109.k6 K y0 w5))) : F109.k3 K y0 y1 w := Eq.mpr (by kernel_rfl) h
theorem F109.k6.to {K : VK} {y0 : Value} {w : World} (h : (K y0 w)) : F109.k6 K y0 w := Eq.mpr (by kernel_rfl) h
theorem F109.sh {K : VK} {x0 x1 : Value} {w : World} (h : (C.int .lss x1 (.int .i64 0) w fun x6_1 w1 =>
  C.ite x6_1 (C.run Try.prog (Instr.makeInterface 9 (.string { data := #[99, 97, 110, 110, 111, 116, 32, 98, 101, 32, 110, 101, 103, 97, 116, 105, 118, 101] })) w1 fun x7_2 w2 =>
  False) (F109.k3 K x0 x1 w1))) : C.call Try.prog 109 #[x0, x1] w K := calls_of_vc (A := F109.ann) (args := [x0, x1]) (Eq.mpr (by kernel_rfl) h)

end Go.Proofs.YtfhgjncbhjjbfaaV
