/- What the bodies of these functions ask, as plain statements. Written by gen.py (own work) for the seat Ytchonfdnghimdaa. -/
import Derived.Test.YtchonfdnghimdaaVc3
import Derived.Test.YtchonfdnghimdaaProg
namespace Go.Proofs.YtchonfdnghimdaaV
open Go Go.Proofs
set_option linter.unusedVariables false
set_option maxRecDepth 100000

/-! ### 13 scutage/scc.Rings (25) -/
namespace F13
def ann : Ann := ⟨[(4, [1, 3, 7, 8, 9]), (7, [1, 3, 7, 8, 9]), (8, [3])], [(3, [1, 3, 7, 8, 9])], [], [(5, (.take 0 (.take 1 (.take 2 (.take 3 (.take 4 (.take 6 (.take 7 (.take 11 (.take 12 (.take 5 (.take 8 (.take 9 (.take 10 (.take 13 (.go 14 (.take 15 .fin) .fin))))))))))))))))], none⟩
noncomputable def code : Code := match Try.f13.body with | some c => c | none => .skip
noncomputable def top (K : VK) : QE := retQ Try.prog Try.f13.results.toList K
noncomputable def k8 (K : VK) (y3 : Value) (w : World) : Prop := nav ann Try.prog 36 (fun c Q => vcCode ann Try.prog 36 c Q [(3, y3)] w) [1, 1, 1] code (top K)
attribute [irreducible] k8
noncomputable def l3 (K : VK) (y1 y3 y7 y8 y9 : Value) (w : World) : Prop := nav ann Try.prog 36 (isLoop ann Try.prog 36 [(1, y1), (3, y3), (7, y7), (8, y8), (9, y9)] w) [1, 1, 0, 1, 0] code (top K)
attribute [irreducible] l3
noncomputable def k4 (K : VK) (y1 y3 y7 y8 y9 : Value) (w : World) : Prop := nav ann Try.prog 36 (fun c Q => vcCode ann Try.prog 36 c Q [(1, y1), (3, y3), (7, y7), (8, y8), (9, y9)] w) [1, 1, 0, 1, 0, 0, 1, 1] code (top K)
attribute [irreducible] k4
noncomputable def k7 (K : VK) (y1 y3 y7 y8 y9 : Value) (w : World) : Prop := nav ann Try.prog 36 (fun c Q => vcCode ann Try.prog 36 c Q [(1, y1), (3, y3), (7, y7), (8, y8), (9, y9)] w) [1, 1, 0, 1, 0, 0, 1, 1, 1] code (top K)
attribute [irreducible] k7
end F13
theorem F13.k8.to {K : VK} {y3 : Value} {w : World} (h : (C.call Try.prog 26 #[y3] w fun x34_1 w1 =>
  K y3 w1)) : F13.k8 K y3 w := Eq.mpr (by kernel_rfl) h
theorem F13.l3.to {K : VK} {y1 y3 y7 y8 y9 : Value} {w : World} (h : (C.int .lss y9 y8 w fun x10_1 w1 =>
  C.ite x10_1 (F13.k4 K y1 y3 y7 y8 y9 w1) (F13.k8 K y3 w1))) : F13.l3 K y1 y3 y7 y8 y9 w := by unfold F13.l3; exact nav_round (Eq.mpr (by kernel_rfl) h)
theorem F13.k4.to {K : VK} {y1 y3 y7 y8 y9 : Value} {w : World} (h : (C.idx 1 y7 y9 w fun x11_1 w1 =>
  C.load1 x11_1 w1 fun x12_2 w2 =>
  C.draw w2 fun S w3 =>
  C.len x12_2 w3 fun x14_4 w4 =>
  C.int .gtr x14_4 (.int .i64 1) w4 fun x15_5 w5 =>
  C.guarded false x15_5 (fun K => C.field 0 y1 w5 K) w5 fun x17_6 w6 =>
  C.guarded false x15_5 (fun K => K x12_2 w6) w6 fun x19_7 w7 =>
  C.guarded false x15_5 (fun K => C.idx 1 x19_7 (.int .i64 0) w7 K) w7 fun x20_8 w8 =>
  C.guarded false x15_5 (fun K => K x12_2 w8) w8 fun x24_9 w9 =>
  C.guarded false x15_5 (fun K => C.idx 1 x24_9 (.int .i64 0) w9 K) w9 fun x25_10 w10 =>
  C.guarded false x15_5 (fun K => C.load1S S x17_6 w10 K) w10 fun x18_11 w11 =>
  C.guarded false x15_5 (fun K => C.load1S S x20_8 w11 K) w11 fun x21_12 w12 =>
  C.guarded false x15_5 (fun K => C.idx 1 x18_11 x21_12 w12 K) w12 fun x22_13 w13 =>
  C.guarded false x15_5 (fun K => C.load1S S x22_13 w13 K) w13 fun x23_14 w14 =>
  C.guarded false x15_5 (fun K => C.load1S S x25_10 w14 K) w14 fun x26_15 w15 =>
  (C.guarded false x15_5 (fun K => C.call Try.prog 29 #[x23_14, x26_15] w15 K) w15 fun x27_16 w16 =>
  (S w16 ∧
  C.pick (some x15_5) (some (.bool true)) (some x27_16) w16 fun x28_17 w17 =>
  C.ite x28_17 (C.run Try.prog (Builtin.append_ #[23, 23] 23 #[y3, x12_2]) w17 fun x31_18 w18 =>
  F13.k7 K y1 x31_18 y7 y8 y9 w18) (F13.k7 K y1 y3 y7 y8 y9 w17))) ∧ True)) : F13.k4 K y1 y3 y7 y8 y9 w := Eq.mpr (by kernel_rfl) h
theorem F13.k7.to {K : VK} {y1 y3 y7 y8 y9 : Value} {w : World} (h : (C.int .add y9 (.int .i64 1) w fun x32_1 w1 =>
  F13.l3 K y1 y3 y7 y8 x32_1 w1)) : F13.k7 K y1 y3 y7 y8 y9 w := Eq.mpr (by kernel_rfl) h
theorem F13.sh {K : VK} {x0 : Value} {w : World} (h : (C.new (.cells (Value.cells x0) 25) w fun x1_1 w1 =>
  C.loadA 2 x1_1 w1 fun x6_2 w2 =>
  C.call Try.prog 11 #[x6_2] w2 fun x7_3 w3 =>
  C.len x7_3 w3 fun x8_4 w4 =>
  F13.l3 K x1_1 (.slice none 0 0) x7_3 x8_4 (.int .i64 0) w4)) : C.call Try.prog 13 #[x0] w K := calls_of_vc (A := F13.ann) (args := [x0]) (Eq.mpr (by kernel_rfl) h)

/-! ### 14 scutage/scc.Same (25, 3, 3) -/
namespace F14
def ann : Ann := ⟨[], [], [], [], none⟩
noncomputable def code : Code := match Try.f14.body with | some c => c | none => .skip
noncomputable def top (K : VK) : QE := retQ Try.prog Try.f14.results.toList K
end F14
theorem F14.sh {K : VK} {x0 x1 x2 : Value} {w : World} (h : (C.new (.cells (Value.cells x0) 25) w fun x3_1 w1 =>
  C.new (.cells (Value.cells x1) 3) w1 fun x4_2 w2 =>
  C.new (.cells (Value.cells x2) 3) w2 fun x5_3 w3 =>
  C.loadA 2 x3_1 w3 fun x7_4 w4 =>
  C.call Try.prog 11 #[x7_4] w4 fun x8_5 w5 =>
  C.call Try.prog 30 #[x8_5, (.func (.func 31) #[] #[x4_2, x5_3])] w5 fun x10_6 w6 =>
  K x10_6 w6)) : C.call Try.prog 14 #[x0, x1, x2] w K := calls_of_vc (A := F14.ann) (args := [x0, x1, x2]) (Eq.mpr (by kernel_rfl) h)

/-! ### 22 scutage/scc.begin (22) -/
namespace F22
def ann : Ann := ⟨[], [], [], [], none⟩
noncomputable def code : Code := match Try.f22.body with | some c => c | none => .skip
noncomputable def top (K : VK) : QE := retQ Try.prog Try.f22.results.toList K
end F22
theorem F22.sh {K : VK} {x0 : Value} {w : World} (h : (C.len x0 w fun x5_1 w1 =>
  C.run Try.prog (Instr.makeSlice 28 x5_1 x5_1) w1 fun x6_2 w2 =>
  C.run Try.prog (Instr.build 43 #[(0, x0), (1, x6_2)]) w2 fun x7_3 w3 =>
  C.new (.cells (Value.cells x7_3) 43) w3 fun x8_4 w4 =>
  K x8_4 w4)) : C.call Try.prog 22 #[x0] w K := calls_of_vc (A := F22.ann) (args := [x0]) (Eq.mpr (by kernel_rfl) h)

/-! ### 23 (*scutage/scc.walk).from (40, 3) -/
namespace F23
def ann : Ann := ⟨[(10, [0, 5, 6, 7, 8]), (13, [5])], [], [(0, [0, 5, 6, 7])], [(5, (.take 0 (.take 1 (.take 2 (.take 3 (.take 5 (.take 6 (.take 7 (.take 4 (.take 8 (.go 9 (.take 10 (.take 11 (.take 12 (.take 13 (.take 14 (.take 15 (.take 16 .fin))))))) .fin))))))))))), (11, (.take 0 (.take 1 (.take 3 (.take 4 (.take 2 (.take 6 (.take 5 (.take 7 .fin)))))))))], none⟩
noncomputable def code : Code := match Try.f23.body with | some c => c | none => .skip
noncomputable def top (K : VK) : QE := retQ Try.prog Try.f23.results.toList K
noncomputable def k10 (K : VK) (y0 y5 y6 y7 y8 : Value) (w : World) : Prop := nav ann Try.prog 72 (fun c Q => vcCode ann Try.prog 72 c Q [(0, y0), (5, y5), (6, y6), (7, y7), (8, y8)] w) [1, 0, 1, 1, 1, 1, 1, 1] code (top K)
attribute [irreducible] k10
noncomputable def k13 (K : VK) (y5 : Value) (w : World) : Prop := nav ann Try.prog 72 (fun c Q => vcCode ann Try.prog 72 c Q [(5, y5)] w) [1, 0, 1, 1, 1, 1, 1, 1, 1, 1, 1] code (top K)
attribute [irreducible] k13
noncomputable def g0 (K : VK) (y0 y5 y6 y7 : Value) (w : World) : Prop := nav ann Try.prog 72 (isJump ann Try.prog 72 0 [(0, y0), (5, y5), (6, y6), (7, y7)] w) [1] code (top K)
attribute [irreducible] g0
end F23
theorem F23.k10.to {K : VK} {y0 y5 y6 y7 y8 : Value} {w : World} (h : (C.idx 1 y6 y8 w fun x59_1 w1 =>
  C.load1 x59_1 w1 fun x60_2 w2 =>
  C.run Try.prog (Instr.buildSlice 23 1 #[(0, x60_2)]) w2 fun x61_3 w3 =>
  C.run Try.prog (Builtin.append_ #[23, 23] 23 #[y5, x61_3]) w3 fun x62_4 w4 =>
  C.draw w4 fun S w5 =>
  ∃ x65_6, (∀ w', S w' → (Instr.sliceAt 23 y6 none (some y8) none).run Try.prog w' = .ok x65_6 w') ∧ (∃ x68_7, (∀ w', S w' → (Instr.sliceAt 23 y7 none (some y8) none).run Try.prog w' = .ok x68_7 w') ∧ (C.int .gtr y8 (.int .i64 0) w5 fun x70_8 w8 =>
  C.ite x70_8 (F23.g0 K y0 x62_4 x65_6 x68_7 w8) (F23.k13 K x62_4 w8))))) : F23.k10 K y0 y5 y6 y7 y8 w := Eq.mpr (by kernel_rfl) h
theorem F23.k13.to {K : VK} {y5 : Value} {w : World} (h : (K y5 w)) : F23.k13 K y5 w := Eq.mpr (by kernel_rfl) h
theorem F23.g0.to {K : VK} {y0 y5 y6 y7 : Value} {w : World} (h : (C.len y6 w fun x22_1 w1 =>
  C.int .sub x22_1 (.int .i64 1) w1 fun x23_2 w2 =>
  C.draw w2 fun S w3 =>
  C.idx 1 y6 x23_2 w3 fun x28_4 w4 =>
  C.idx 1 y7 x23_2 w4 fun x32_5 w5 =>
  C.load1S S x28_4 w5 fun x29_6 w6 =>
  C.load1S S x32_5 w6 fun x33_7 w7 =>
  (C.call Try.prog 41 #[y0, x29_6, x33_7] w7 fun x34_8 w8 =>
  (S w8 ∧
  C.ext 0 x34_8 w8 fun x35_9 w9 =>
  C.ext 1 x34_8 w9 fun x36_10 w10 =>
  C.ext 2 x34_8 w10 fun x37_11 w11 =>
  C.ite x37_11 (C.idx 1 y7 x23_2 w11 fun x42_12 w12 =>
  C.store 1 x42_12 x36_10 w12 fun w13 =>
  C.nilCheck y0 w13 fun x44_14 w14 =>
  C.field 1 x44_14 w14 fun x45_15 w15 =>
  C.load1 x45_15 w15 fun x46_16 w16 =>
  C.idx 1 x46_16 x35_9 w16 fun x48_17 w17 =>
  C.store 1 x48_17 (.bool true) w17 fun w18 =>
  C.run Try.prog (Instr.buildSlice 23 1 #[(0, x35_9)]) w18 fun x51_19 w19 =>
  C.run Try.prog (Builtin.append_ #[23, 23] 23 #[y6, x51_19]) w19 fun x52_20 w20 =>
  C.run Try.prog (Instr.buildSlice 23 1 #[(0, (.int .i64 0))]) w20 fun x54_21 w21 =>
  C.run Try.prog (Builtin.append_ #[23, 23] 23 #[y7, x54_21]) w21 fun x55_22 w22 =>
  F23.g0 K y0 y5 x52_20 x55_22 w22) (C.idx 1 y6 x23_2 w11 fun x59_23 w23 =>
  C.load1 x59_23 w23 fun x60_24 w24 =>
  C.run Try.prog (Instr.buildSlice 23 1 #[(0, x60_24)]) w24 fun x61_25 w25 =>
  C.run Try.prog (Builtin.append_ #[23, 23] 23 #[y5, x61_25]) w25 fun x62_26 w26 =>
  C.draw w26 fun S w27 =>
  ∃ x65_28, (∀ w', S w' → (Instr.sliceAt 23 y6 none (some x23_2) none).run Try.prog w' = .ok x65_28 w') ∧ (∃ x68_29, (∀ w', S w' → (Instr.sliceAt 23 y7 none (some x23_2) none).run Try.prog w' = .ok x68_29 w') ∧ (C.int .gtr x23_2 (.int .i64 0) w27 fun x70_30 w30 =>
  C.ite x70_30 (F23.g0 K y0 x62_26 x65_28 x68_29 w30) (K x62_26 w30)))))) ∧ True)) : F23.g0 K y0 y5 y6 y7 w := by unfold F23.g0; exact nav_pass (Eq.mpr (by kernel_rfl) h)
theorem F23.sh {K : VK} {x0 x1 : Value} {w : World} (h : (C.nilCheck x0 w fun x13_1 w1 =>
  C.field 1 x13_1 w1 fun x14_2 w2 =>
  C.load1 x14_2 w2 fun x15_3 w3 =>
  C.idx 1 x15_3 x1 w3 fun x17_4 w4 =>
  C.store 1 x17_4 (.bool true) w4 fun w5 =>
  C.run Try.prog (Instr.buildSlice 23 1 #[(0, x1)]) w5 fun x19_6 w6 =>
  C.run Try.prog (Instr.buildSlice 23 1 #[(0, (.int .i64 0))]) w6 fun x20_7 w7 =>
  C.len x19_6 w7 fun x22_8 w8 =>
  C.int .sub x22_8 (.int .i64 1) w8 fun x23_9 w9 =>
  C.draw w9 fun S w10 =>
  C.idx 1 x19_6 x23_9 w10 fun x28_11 w11 =>
  C.idx 1 x20_7 x23_9 w11 fun x32_12 w12 =>
  C.load1S S x28_11 w12 fun x29_13 w13 =>
  C.load1S S x32_12 w13 fun x33_14 w14 =>
  (C.call Try.prog 41 #[x0, x29_13, x33_14] w14 fun x34_15 w15 =>
  (S w15 ∧
  C.ext 0 x34_15 w15 fun x35_16 w16 =>
  C.ext 1 x34_15 w16 fun x36_17 w17 =>
  C.ext 2 x34_15 w17 fun x37_18 w18 =>
  C.ite x37_18 (C.idx 1 x20_7 x23_9 w18 fun x42_19 w19 =>
  C.store 1 x42_19 x36_17 w19 fun w20 =>
  C.nilCheck x0 w20 fun x44_21 w21 =>
  C.field 1 x44_21 w21 fun x45_22 w22 =>
  C.load1 x45_22 w22 fun x46_23 w23 =>
  C.idx 1 x46_23 x35_16 w23 fun x48_24 w24 =>
  C.store 1 x48_24 (.bool true) w24 fun w25 =>
  C.run Try.prog (Instr.buildSlice 23 1 #[(0, x35_16)]) w25 fun x51_26 w26 =>
  C.run Try.prog (Builtin.append_ #[23, 23] 23 #[x19_6, x51_26]) w26 fun x52_27 w27 =>
  C.run Try.prog (Instr.buildSlice 23 1 #[(0, (.int .i64 0))]) w27 fun x54_28 w28 =>
  C.run Try.prog (Builtin.append_ #[23, 23] 23 #[x20_7, x54_28]) w28 fun x55_29 w29 =>
  F23.g0 K x0 (.slice none 0 0) x52_27 x55_29 w29) (F23.k10 K x0 (.slice none 0 0) x19_6 x20_7 x23_9 w18))) ∧ True)) : C.call Try.prog 23 #[x0, x1] w K := calls_of_vc (A := F23.ann) (args := [x0, x1]) (Eq.mpr (by kernel_rfl) h)

/-! ### 24 scutage/reach.Back (25) -/
namespace F24
def ann : Ann := ⟨[(4, [1, 3, 13, 14, 15]), (7, [1, 3, 4, 13, 14, 15, 20, 21, 22]), (10, [1, 3, 4, 13, 14, 15, 20, 21, 22]), (11, [1, 3, 13, 14, 15]), (12, [3])], [(3, [1, 3, 13, 14, 15]), (6, [1, 3, 4, 13, 14, 15, 20, 21, 22])], [], [], none⟩
noncomputable def code : Code := match Try.f24.body with | some c => c | none => .skip
noncomputable def top (K : VK) : QE := retQ Try.prog Try.f24.results.toList K
noncomputable def k12 (K : VK) (y3 : Value) (w : World) : Prop := nav ann Try.prog 51 (fun c Q => vcCode ann Try.prog 51 c Q [(3, y3)] w) [1, 1, 1] code (top K)
attribute [irreducible] k12
noncomputable def l3 (K : VK) (y1 y3 y13 y14 y15 : Value) (w : World) : Prop := nav ann Try.prog 51 (isLoop ann Try.prog 51 [(1, y1), (3, y3), (13, y13), (14, y14), (15, y15)] w) [1, 1, 0, 1, 0] code (top K)
attribute [irreducible] l3
noncomputable def k4 (K : VK) (y1 y3 y13 y14 y15 : Value) (w : World) : Prop := nav ann Try.prog 51 (fun c Q => vcCode ann Try.prog 51 c Q [(1, y1), (3, y3), (13, y13), (14, y14), (15, y15)] w) [1, 1, 0, 1, 0, 0, 1, 1] code (top K)
attribute [irreducible] k4
noncomputable def k11 (K : VK) (y1 y3 y13 y14 y15 : Value) (w : World) : Prop := nav ann Try.prog 51 (fun c Q => vcCode ann Try.prog 51 c Q [(1, y1), (3, y3), (13, y13), (14, y14), (15, y15)] w) [1, 1, 0, 1, 0, 0, 1, 1, 1] code (top K)
attribute [irreducible] k11
noncomputable def l6 (K : VK) (y1 y3 y4 y13 y14 y15 y20 y21 y22 : Value) (w : World) : Prop := nav ann Try.prog 51 (isLoop ann Try.prog 51 [(1, y1), (3, y3), (4, y4), (13, y13), (14, y14), (15, y15), (20, y20), (21, y21), (22, y22)] w) [1, 1, 0, 1, 0, 0, 1, 1, 0, 0, 1, 1, 0] code (top K)
attribute [irreducible] l6
noncomputable def k7 (K : VK) (y1 y3 y4 y13 y14 y15 y20 y21 y22 : Value) (w : World) : Prop := nav ann Try.prog 51 (fun c Q => vcCode ann Try.prog 51 c Q [(1, y1), (3, y3), (4, y4), (13, y13), (14, y14), (15, y15), (20, y20), (21, y21), (22, y22)] w) [1, 1, 0, 1, 0, 0, 1, 1, 0, 0, 1, 1, 0, 0, 1, 1] code (top K)
attribute [irreducible] k7
noncomputable def k10 (K : VK) (y1 y3 y4 y13 y14 y15 y20 y21 y22 : Value) (w : World) : Prop := nav ann Try.prog 51 (fun c Q => vcCode ann Try.prog 51 c Q [(1, y1), (3, y3), (4, y4), (13, y13), (14, y14), (15, y15), (20, y20), (21, y21), (22, y22)] w) [1, 1, 0, 1, 0, 0, 1, 1, 0, 0, 1, 1, 0, 0, 1, 1, 1] code (top K)
attribute [irreducible] k10
end F24
theorem F24.k12.to {K : VK} {y3 : Value} {w : World} (h : (K y3 w)) : F24.k12 K y3 w := Eq.mpr (by kernel_rfl) h
theorem F24.l3.to {K : VK} {y1 y3 y13 y14 y15 : Value} {w : World} (h : (C.int .lss y15 y14 w fun x16_1 w1 =>
  C.ite x16_1 (F24.k4 K y1 y3 y13 y14 y15 w1) (F24.k12 K y3 w1))) : F24.l3 K y1 y3 y13 y14 y15 w := by unfold F24.l3; exact nav_round (Eq.mpr (by kernel_rfl) h)
theorem F24.k4.to {K : VK} {y1 y3 y13 y14 y15 : Value} {w : World} (h : (C.idx 1 y13 y15 w fun x18_1 w1 =>
  C.load1 x18_1 w1 fun x19_2 w2 =>
  C.len x19_2 w2 fun x21_3 w3 =>
  F24.l6 K y1 y3 y15 y13 y14 y15 x19_2 x21_3 (.int .i64 0) w3)) : F24.k4 K y1 y3 y13 y14 y15 w := Eq.mpr (by kernel_rfl) h
theorem F24.k11.to {K : VK} {y1 y3 y13 y14 y15 : Value} {w : World} (h : (C.int .add y15 (.int .i64 1) w fun x49_1 w1 =>
  F24.l3 K y1 y3 y13 y14 x49_1 w1)) : F24.k11 K y1 y3 y13 y14 y15 w := Eq.mpr (by kernel_rfl) h
theorem F24.l6.to {K : VK} {y1 y3 y4 y13 y14 y15 y20 y21 y22 : Value} {w : World} (h : (C.int .lss y22 y21 w fun x23_1 w1 =>
  C.ite x23_1 (F24.k7 K y1 y3 y4 y13 y14 y15 y20 y21 y22 w1) (F24.k11 K y1 y3 y13 y14 y15 w1))) : F24.l6 K y1 y3 y4 y13 y14 y15 y20 y21 y22 w := by unfold F24.l6; exact nav_round (Eq.mpr (by kernel_rfl) h)
theorem F24.k7.to {K : VK} {y1 y3 y4 y13 y14 y15 y20 y21 y22 : Value} {w : World} (h : (C.idx 1 y20 y22 w fun x24_1 w1 =>
  C.load1 x24_1 w1 fun x25_2 w2 =>
  C.loadA 2 y1 w2 fun x26_3 w3 =>
  C.call Try.prog 42 #[x26_3, x25_2] w3 fun x28_4 w4 =>
  C.guarded true x28_4 (fun K => K y3 w4) w4 fun x30_5 w5 =>
  C.guarded true x28_4 (fun K => K x25_2 w5) w5 fun x31_6 w6 =>
  C.guarded true x28_4 (fun K => C.idx 1 x30_5 x31_6 w6 K) w6 fun x32_7 w7 =>
  C.guarded true x28_4 (fun K => C.load1 x32_7 w7 K) w7 fun x33_8 w8 =>
  C.guarded true x28_4 (fun K => K y4 w8) w8 fun x34_9 w9 =>
  C.guarded true x28_4 (fun K => C.call Try.prog 29 #[x33_8, x34_9] w9 K) w9 fun x35_10 w10 =>
  C.guarded true x28_4 (fun K => C.not x35_10 w10 K) w10 fun x36_11 w11 =>
  C.pick (some x28_4) (some x36_11) (some (.bool false)) w11 fun x37_12 w12 =>
  C.ite x37_12 (C.idx 1 y3 x25_2 w12 fun x42_13 w13 =>
  C.load1 x42_13 w13 fun x43_14 w14 =>
  C.run Try.prog (Instr.buildSlice 23 1 #[(0, y4)]) w14 fun x45_15 w15 =>
  C.run Try.prog (Builtin.append_ #[23, 23] 23 #[x43_14, x45_15]) w15 fun x46_16 w16 =>
  C.idx 1 y3 x25_2 w16 fun x47_17 w17 =>
  C.store 1 x47_17 x46_16 w17 fun w18 =>
  F24.k10 K y1 y3 y4 y13 y14 y15 y20 y21 y22 w18) (F24.k10 K y1 y3 y4 y13 y14 y15 y20 y21 y22 w12))) : F24.k7 K y1 y3 y4 y13 y14 y15 y20 y21 y22 w := Eq.mpr (by kernel_rfl) h
theorem F24.k10.to {K : VK} {y1 y3 y4 y13 y14 y15 y20 y21 y22 : Value} {w : World} (h : (C.int .add y22 (.int .i64 1) w fun x48_1 w1 =>
  F24.l6 K y1 y3 y4 y13 y14 y15 y20 y21 x48_1 w1)) : F24.k10 K y1 y3 y4 y13 y14 y15 y20 y21 y22 w := Eq.mpr (by kernel_rfl) h
theorem F24.sh {K : VK} {x0 : Value} {w : World} (h : (C.new (.cells (Value.cells x0) 25) w fun x1_1 w1 =>
  C.field 0 x1_1 w1 fun x8_2 w2 =>
  C.load1 x8_2 w2 fun x9_3 w3 =>
  C.len x9_3 w3 fun x10_4 w4 =>
  C.run Try.prog (Instr.makeSlice 22 x10_4 x10_4) w4 fun x11_5 w5 =>
  C.field 0 x1_1 w5 fun x12_6 w6 =>
  C.load1 x12_6 w6 fun x13_7 w7 =>
  C.len x13_7 w7 fun x14_8 w8 =>
  F24.l3 K x1_1 x11_5 x13_7 x14_8 (.int .i64 0) w8)) : C.call Try.prog 24 #[x0] w K := calls_of_vc (A := F24.ann) (args := [x0]) (Eq.mpr (by kernel_rfl) h)

/-! ### 25 slices.Backward[[]int,int] (23) -/
namespace F25
def ann : Ann := ⟨[], [], [], [], none⟩
noncomputable def code : Code := match Try.f25.body with | some c => c | none => .skip
noncomputable def top (K : VK) : QE := retQ Try.prog Try.f25.results.toList K
end F25
theorem F25.sh {K : VK} {x0 : Value} {w : World} (h : (C.new (.cells (Value.cells x0) 23) w fun x1_1 w1 =>
  K (.func (.func 43) #[] #[x1_1]) w1)) : C.call Try.prog 25 #[x0] w K := calls_of_vc (A := F25.ann) (args := [x0]) (Eq.mpr (by kernel_rfl) h)

/-! ### 28 scutage/scc.Parts$1 (23, 23) -/
namespace F28
def ann : Ann := ⟨[], [], [], [(1, (.take 0 (.take 1 (.take 3 (.take 4 (.take 2 (.take 5 (.take 6 (.take 7 .fin)))))))))], none⟩
noncomputable def code : Code := match Try.f28.body with | some c => c | none => .skip
noncomputable def top (K : VK) : QE := retQ Try.prog Try.f28.results.toList K
end F28
theorem F28.sh {K : VK} {x0 x1 : Value} {w : World} (h : (C.draw w fun S w1 =>
  C.idx 1 x0 (.int .i64 0) w1 fun x6_2 w2 =>
  C.idx 1 x1 (.int .i64 0) w2 fun x9_3 w3 =>
  C.load1S S x6_2 w3 fun x7_4 w4 =>
  C.load1S S x9_3 w4 fun x10_5 w5 =>
  C.int .sub x7_4 x10_5 w5 fun x11_6 w6 =>
  K x11_6 w6)) : C.call Try.prog 28 #[x0, x1] w K := calls_of_vc (A := F28.ann) (args := [x0, x1]) (Eq.mpr (by kernel_rfl) h)

/-! ### 33 scutage/scc.Order$1 (3) -/
namespace F33
def ann : Ann := ⟨[], [], [], [], none⟩
noncomputable def code : Code := match Try.f33.body with | some c => c | none => .skip
noncomputable def top (K : VK) : QE := retQ Try.prog Try.f33.results.toList K
end F33
theorem F33.sh {K : VK} {x0 x1 : Value} {w : World} (h : (C.load1 x1 w fun x4_1 w1 =>
  C.idx 1 x4_1 x0 w1 fun x6_2 w2 =>
  C.load1 x6_2 w2 fun x7_3 w3 =>
  C.not x7_3 w3 fun x8_4 w4 =>
  K x8_4 w4)) : C.call Try.prog 33 #[x0, x1] w K := calls_of_vc (A := F33.ann) (args := [x0, x1]) (Eq.mpr (by kernel_rfl) h)

/-! ### 41 (*scutage/scc.walk).step (40, 3, 3) -/
namespace F41
def ann : Ann := ⟨[(3, [0, 1, 9]), (4, [0, 1, 9]), (7, [])], [(2, [0, 1, 9])], [], [], none⟩
noncomputable def code : Code := match Try.f41.body with | some c => c | none => .skip
noncomputable def top (K : VK) : QE := retQ Try.prog Try.f41.results.toList K
noncomputable def k7 (K : VK) (w : World) : Prop := nav ann Try.prog 58 (fun c Q => vcCode ann Try.prog 58 c Q [] w) [1, 1] code (top K)
attribute [irreducible] k7
noncomputable def l2 (K : VK) (y0 y1 y9 : Value) (w : World) : Prop := nav ann Try.prog 58 (isLoop ann Try.prog 58 [(0, y0), (1, y1), (9, y9)] w) [1, 0, 1, 0] code (top K)
attribute [irreducible] l2
noncomputable def k4 (K : VK) (y0 y1 y9 : Value) (w : World) : Prop := nav ann Try.prog 58 (fun c Q => vcCode ann Try.prog 58 c Q [(0, y0), (1, y1), (9, y9)] w) [1, 0, 1, 0, 0, 1] code (top K)
attribute [irreducible] k4
noncomputable def k3 (K : VK) (y0 y1 y9 : Value) (w : World) : Prop := nav ann Try.prog 58 (fun c Q => vcCode ann Try.prog 58 c Q [(0, y0), (1, y1), (9, y9)] w) [1, 0, 1, 0, 0, 1, 1] code (top K)
attribute [irreducible] k3
end F41
theorem F41.k7.to {K : VK} {w : World} (h : (K (.tuple #[(.int .i64 0), (.int .i64 0), (.bool false)]) w)) : F41.k7 K w := Eq.mpr (by kernel_rfl) h
theorem F41.l2.to {K : VK} {y0 y1 y9 : Value} {w : World} (h : (C.nilCheck y0 w fun x14_1 w1 =>
  C.field 0 x14_1 w1 fun x15_2 w2 =>
  C.load1 x15_2 w2 fun x16_3 w3 =>
  C.idx 1 x16_3 y1 w3 fun x18_4 w4 =>
  C.load1 x18_4 w4 fun x19_5 w5 =>
  C.len x19_5 w5 fun x20_6 w6 =>
  C.int .lss y9 x20_6 w6 fun x21_7 w7 =>
  C.ite x21_7 (F41.k4 K y0 y1 y9 w7) (F41.k7 K w7))) : F41.l2 K y0 y1 y9 w := by unfold F41.l2; exact nav_round (Eq.mpr (by kernel_rfl) h)
theorem F41.k4.to {K : VK} {y0 y1 y9 : Value} {w : World} (h : (C.nilCheck y0 w fun x25_1 w1 =>
  C.field 0 x25_1 w1 fun x26_2 w2 =>
  C.load1 x26_2 w2 fun x27_3 w3 =>
  C.idx 1 x27_3 y1 w3 fun x29_4 w4 =>
  C.load1 x29_4 w4 fun x30_5 w5 =>
  C.idx 1 x30_5 y9 w5 fun x32_6 w6 =>
  C.load1 x32_6 w6 fun x33_7 w7 =>
  C.int .geq x33_7 (.int .i64 0) w7 fun x35_8 w8 =>
  C.guarded true x35_8 (fun K => K x33_7 w8) w8 fun x37_9 w9 =>
  C.guarded true x35_8 (fun K => K y0 w9) w9 fun x38_10 w10 =>
  C.guarded true x35_8 (fun K => C.nilCheck x38_10 w10 K) w10 fun x39_11 w11 =>
  C.guarded true x35_8 (fun K => C.field 0 x39_11 w11 K) w11 fun x40_12 w12 =>
  C.guarded true x35_8 (fun K => C.load1 x40_12 w12 K) w12 fun x41_13 w13 =>
  C.guarded true x35_8 (fun K => C.len x41_13 w13 K) w13 fun x42_14 w14 =>
  C.guarded true x35_8 (fun K => C.int .lss x37_9 x42_14 w14 K) w14 fun x43_15 w15 =>
  C.pick (some x35_8) (some x43_15) (some (.bool false)) w15 fun x44_16 w16 =>
  C.guarded true x44_16 (fun K => K y0 w16) w16 fun x46_17 w17 =>
  C.guarded true x44_16 (fun K => C.nilCheck x46_17 w17 K) w17 fun x47_18 w18 =>
  C.guarded true x44_16 (fun K => C.field 1 x47_18 w18 K) w18 fun x48_19 w19 =>
  C.guarded true x44_16 (fun K => C.load1 x48_19 w19 K) w19 fun x49_20 w20 =>
  C.guarded true x44_16 (fun K => K x33_7 w20) w20 fun x50_21 w21 =>
  C.guarded true x44_16 (fun K => C.idx 1 x49_20 x50_21 w21 K) w21 fun x51_22 w22 =>
  C.guarded true x44_16 (fun K => C.load1 x51_22 w22 K) w22 fun x52_23 w23 =>
  C.guarded true x44_16 (fun K => C.not x52_23 w23 K) w23 fun x53_24 w24 =>
  C.pick (some x44_16) (some x53_24) (some (.bool false)) w24 fun x54_25 w25 =>
  C.ite x54_25 (C.int .add y9 (.int .i64 1) w25 fun x57_26 w26 =>
  K (.tuple #[x33_7, x57_26, (.bool true)]) w26) (F41.k3 K y0 y1 y9 w25))) : F41.k4 K y0 y1 y9 w := Eq.mpr (by kernel_rfl) h
theorem F41.k3.to {K : VK} {y0 y1 y9 : Value} {w : World} (h : (C.int .add y9 (.int .i64 1) w fun x23_1 w1 =>
  F41.l2 K y0 y1 x23_1 w1)) : F41.k3 K y0 y1 y9 w := Eq.mpr (by kernel_rfl) h
theorem F41.sh {K : VK} {x0 x1 x2 : Value} {w : World} (h : (F41.l2 K x0 x1 x2 w)) : C.call Try.prog 41 #[x0, x1, x2] w K := calls_of_vc (A := F41.ann) (args := [x0, x1, x2]) (Eq.mpr (by kernel_rfl) h)

/-! ### 42 (scutage/reach.Graph).is (25, 3) -/
namespace F42
def ann : Ann := ⟨[], [], [], [], none⟩
noncomputable def code : Code := match Try.f42.body with | some c => c | none => .skip
noncomputable def top (K : VK) : QE := retQ Try.prog Try.f42.results.toList K
end F42
theorem F42.sh {K : VK} {x0 x1 : Value} {w : World} (h : (C.new (.cells (Value.cells x0) 25) w fun x2_1 w1 =>
  C.int .geq x1 (.int .i64 0) w1 fun x6_2 w2 =>
  C.guarded true x6_2 (fun K => K x1 w2) w2 fun x8_3 w3 =>
  C.guarded true x6_2 (fun K => C.field 0 x2_1 w3 K) w3 fun x9_4 w4 =>
  C.guarded true x6_2 (fun K => C.load1 x9_4 w4 K) w4 fun x10_5 w5 =>
  C.guarded true x6_2 (fun K => C.len x10_5 w5 K) w5 fun x11_6 w6 =>
  C.guarded true x6_2 (fun K => C.int .lss x8_3 x11_6 w6 K) w6 fun x12_7 w7 =>
  C.pick (some x6_2) (some x12_7) (some (.bool false)) w7 fun x13_8 w8 =>
  K x13_8 w8)) : C.call Try.prog 42 #[x0, x1] w K := calls_of_vc (A := F42.ann) (args := [x0, x1]) (Eq.mpr (by kernel_rfl) h)

/-! ### 43 slices.Backward[[]int,int]$1 (60) -/
namespace F43
def ann : Ann := ⟨[(2, [0, 1, 3]), (3, [0, 1, 3])], [(1, [0, 1, 3])], [], [], none⟩
noncomputable def code : Code := match Try.f43.body with | some c => c | none => .skip
noncomputable def top (K : VK) : QE := retQ Try.prog Try.f43.results.toList K
noncomputable def l1 (K : VK) (y0 y1 y3 : Value) (w : World) : Prop := nav ann Try.prog 19 (isLoop ann Try.prog 19 [(0, y0), (1, y1), (3, y3)] w) [1, 0] code (top K)
attribute [irreducible] l1
noncomputable def k3 (K : VK) (y0 y1 y3 : Value) (w : World) : Prop := nav ann Try.prog 19 (fun c Q => vcCode ann Try.prog 19 c Q [(0, y0), (1, y1), (3, y3)] w) [1, 0, 0, 1] code (top K)
attribute [irreducible] k3
noncomputable def k2 (K : VK) (y0 y1 y3 : Value) (w : World) : Prop := nav ann Try.prog 19 (fun c Q => vcCode ann Try.prog 19 c Q [(0, y0), (1, y1), (3, y3)] w) [1, 0, 0, 1, 1] code (top K)
attribute [irreducible] k2
end F43
theorem F43.l1.to {K : VK} {y0 y1 y3 : Value} {w : World} (h : (C.int .geq y3 (.int .i64 0) w fun x8_1 w1 =>
  C.ite x8_1 (F43.k3 K y0 y1 y3 w1) (K (.tuple #[]) w1))) : F43.l1 K y0 y1 y3 w := by unfold F43.l1; exact nav_round (Eq.mpr (by kernel_rfl) h)
theorem F43.k3.to {K : VK} {y0 y1 y3 : Value} {w : World} (h : (C.load1 y1 w fun x13_1 w1 =>
  C.idx 1 x13_1 y3 w1 fun x15_2 w2 =>
  C.load1 x15_2 w2 fun x16_3 w3 =>
  vcCall Try.prog y0 [y3, x16_3] w3 fun x17_4 w4 =>
  C.not x17_4 w4 fun x18_5 w5 =>
  C.ite x18_5 (K (.tuple #[]) w5) (F43.k2 K y0 y1 y3 w5))) : F43.k3 K y0 y1 y3 w := Eq.mpr (by kernel_rfl) h
theorem F43.k2.to {K : VK} {y0 y1 y3 : Value} {w : World} (h : (C.int .sub y3 (.int .i64 1) w fun x10_1 w1 =>
  F43.l1 K y0 y1 x10_1 w1)) : F43.k2 K y0 y1 y3 w := Eq.mpr (by kernel_rfl) h
theorem F43.sh {K : VK} {x0 x1 : Value} {w : World} (h : (C.load1 x1 w fun x4_1 w1 =>
  C.len x4_1 w1 fun x5_2 w2 =>
  C.int .sub x5_2 (.int .i64 1) w2 fun x6_3 w3 =>
  F43.l1 K x0 x1 x6_3 w3)) : C.call Try.prog 43 #[x0, x1] w K := calls_of_vc (A := F43.ann) (args := [x0, x1]) (Eq.mpr (by kernel_rfl) h)

end Go.Proofs.YtchonfdnghimdaaV
