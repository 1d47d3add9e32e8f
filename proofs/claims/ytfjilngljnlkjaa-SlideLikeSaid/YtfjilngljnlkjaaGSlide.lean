/- What the bodies of these functions ask, as plain statements. Written by gen.py (own work) for the seat Ytfjilngljnlkjaa. -/
import Derived.Test.YtfjilngljnlkjaaVc3
import Derived.Test.YtfjilngljnlkjaaProg
namespace Go.Proofs.YtfjilngljnlkjaaV
open Go Go.Proofs
set_option linter.unusedVariables false
set_option maxRecDepth 100000

/-! ### 27 scutage/slide.Slide (22, 22) -/
namespace F27
def ann : Ann := ⟨[(4, [0, 1, 7]), (7, [0, 1, 7, 9, 21, 22, 23]), (9, [0, 1, 7, 9, 21, 22, 23]), (10, [1, 7, 9])], [(6, [0, 1, 7, 9, 21, 22, 23])], [], [(8, (.take 0 (.take 1 (.take 2 (.take 8 (.take 9 (.take 12 (.take 14 (.take 15 (.take 20 (.take 3 (.take 4 (.take 5 (.take 10 (.take 11 (.take 13 (.take 16 (.go 6 (.go 7 (.go 17 (.take 18 (.take 19 (.go 21 (.go 22 (.take 23 .fin) .fin) .fin))) .fin) .fin) .fin))))))))))))))))))], none⟩
noncomputable def code : Code := match Try.f27.body with | some c => c | none => .skip
noncomputable def top (K : VK) : QE := retQ Try.prog Try.f27.results.toList K
noncomputable def k4 (K : VK) (y0 y1 y7 : Value) (w : World) : Prop := nav ann Try.prog 55 (fun c Q => vcCode ann Try.prog 55 c Q [(0, y0), (1, y1), (7, y7)] w) [1, 1, 1] code (top K)
attribute [irreducible] k4
noncomputable def k10 (K : VK) (y1 y7 y9 : Value) (w : World) : Prop := nav ann Try.prog 55 (fun c Q => vcCode ann Try.prog 55 c Q [(1, y1), (7, y7), (9, y9)] w) [1, 1, 1, 1, 1] code (top K)
attribute [irreducible] k10
noncomputable def l6 (K : VK) (y0 y1 y7 y9 y21 y22 y23 : Value) (w : World) : Prop := nav ann Try.prog 55 (isLoop ann Try.prog 55 [(0, y0), (1, y1), (7, y7), (9, y9), (21, y21), (22, y22), (23, y23)] w) [1, 1, 1, 1, 0, 1, 0] code (top K)
attribute [irreducible] l6
noncomputable def k7 (K : VK) (y0 y1 y7 y9 y21 y22 y23 : Value) (w : World) : Prop := nav ann Try.prog 55 (fun c Q => vcCode ann Try.prog 55 c Q [(0, y0), (1, y1), (7, y7), (9, y9), (21, y21), (22, y22), (23, y23)] w) [1, 1, 1, 1, 0, 1, 0, 0, 1, 1] code (top K)
attribute [irreducible] k7
noncomputable def k9 (K : VK) (y0 y1 y7 y9 y21 y22 y23 : Value) (w : World) : Prop := nav ann Try.prog 55 (fun c Q => vcCode ann Try.prog 55 c Q [(0, y0), (1, y1), (7, y7), (9, y9), (21, y21), (22, y22), (23, y23)] w) [1, 1, 1, 1, 0, 1, 0, 0, 1, 1, 1] code (top K)
attribute [irreducible] k9
end F27
theorem F27.k4.to {K : VK} {y0 y1 y7 : Value} {w : World} (h : (C.len y7 w fun x22_1 w1 =>
  F27.l6 K y0 y1 y7 (.slice none 0 0) y7 x22_1 (.int .i64 0) w1)) : F27.k4 K y0 y1 y7 w := Eq.mpr (by kernel_rfl) h
theorem F27.k10.to {K : VK} {y1 y7 y9 : Value} {w : World} (h : (C.call Try.prog 47 #[y1, y7] w fun x54_1 w1 =>
  K (.tuple #[y9, x54_1, (.int .i64 0)]) w1)) : F27.k10 K y1 y7 y9 w := Eq.mpr (by kernel_rfl) h
theorem F27.l6.to {K : VK} {y0 y1 y7 y9 y21 y22 y23 : Value} {w : World} (h : (C.int .lss y23 y22 w fun x24_1 w1 =>
  C.ite x24_1 (F27.k7 K y0 y1 y7 y9 y21 y22 y23 w1) (F27.k10 K y1 y7 y9 w1))) : F27.l6 K y0 y1 y7 y9 y21 y22 y23 w := by unfold F27.l6; exact nav_round (Eq.mpr (by kernel_rfl) h)
theorem F27.k7.to {K : VK} {y0 y1 y7 y9 y21 y22 y23 : Value} {w : World} (h : (C.idx 2 y21 y23 w fun x25_1 w1 =>
  C.loadA 2 x25_1 w1 fun x26_2 w2 =>
  C.new (.cells #[.int .i64 0, .int .i64 0] 56) w2 fun x11_3 w3 =>
  C.store 2 x11_3 x26_2 w3 fun w4 =>
  C.draw w4 fun S w5 =>
  C.field 0 x11_3 w5 fun x29_6 w6 =>
  C.field 0 x11_3 w6 fun x36_7 w7 =>
  C.field 0 x11_3 w7 fun x39_8 w8 =>
  C.field 0 x11_3 w8 fun x42_9 w9 =>
  C.load1S S x29_6 w9 fun x30_10 w10 =>
  C.idx 1 y0 x30_10 w10 fun x31_11 w11 =>
  C.load1S S x31_11 w11 fun x32_12 w12 =>
  C.load1S S x36_7 w12 fun x37_13 w13 =>
  C.int .add x37_13 (.int .i64 1) w13 fun x38_14 w14 =>
  C.load1S S x39_8 w14 fun x40_15 w15 =>
  C.load1S S x42_9 w15 fun x43_16 w16 =>
  (C.run Try.prog (Instr.buildSlice 22 1 #[(0, x32_12)]) w16 fun x33_17 w17 =>
  (S w17 ∧
  (C.run Try.prog (Builtin.append_ #[22, 22] 22 #[y9, x33_17]) w17 fun x34_18 w18 =>
  (S w18 ∧
  (C.call Try.prog 48 #[y0, x43_16] w18 fun x44_19 w19 =>
  (S w19 ∧
  C.int .add x40_15 x44_19 w19 fun x45_20 w20 =>
  ∃ x46_21, (∀ w', S w' → (Instr.sliceAt 22 y0 (some x38_14) (some x45_20) none).run Try.prog w' = .ok x46_21 w') ∧ ((C.call Try.prog 47 #[x46_21, y7] w20 fun x48_22 w22 =>
  (S w22 ∧
  (C.run Try.prog (Builtin.append_ #[22, 22] 22 #[x34_18, x48_22]) w22 fun x49_23 w23 =>
  (S w23 ∧
  F27.k9 K y0 y1 y7 x49_23 y21 y22 y23 w23)) ∧ True)) ∧ True))) ∧ True)) ∧ True)) ∧ True)) : F27.k7 K y0 y1 y7 y9 y21 y22 y23 w := Eq.mpr (by kernel_rfl) h
theorem F27.k9.to {K : VK} {y0 y1 y7 y9 y21 y22 y23 : Value} {w : World} (h : (C.int .add y23 (.int .i64 1) w fun x50_1 w1 =>
  F27.l6 K y0 y1 y7 y9 y21 y22 x50_1 w1)) : F27.k9 K y0 y1 y7 y9 y21 y22 y23 w := Eq.mpr (by kernel_rfl) h
theorem F27.sh {K : VK} {x0 x1 : Value} {w : World} (h : (C.call Try.prog 28 #[x0, x1] w fun x15_1 w1 =>
  C.ext 0 x15_1 w1 fun x16_2 w2 =>
  C.ext 1 x15_1 w2 fun x17_3 w3 =>
  C.int .neq x17_3 (.int .i64 0) w3 fun x19_4 w4 =>
  C.ite x19_4 (K (.tuple #[(.slice none 0 0), (.slice none 0 0), x17_3]) w4) (F27.k4 K x0 x1 x16_2 w4))) : C.call Try.prog 27 #[x0, x1] w K := calls_of_vc (A := F27.ann) (args := [x0, x1]) (Eq.mpr (by kernel_rfl) h)

/-! ### 28 scutage/slide.Moves (22, 22) -/
namespace F28
def ann : Ann := ⟨[(4, [0, 1]), (8, [0, 9, 10, 25, 26, 27]), (11, [0, 9, 10, 25, 26, 27]), (12, [9])], [(7, [0, 9, 10, 25, 26, 27])], [], [], none⟩
noncomputable def code : Code := match Try.f28.body with | some c => c | none => .skip
noncomputable def top (K : VK) : QE := retQ Try.prog Try.f28.results.toList K
noncomputable def k4 (K : VK) (y0 y1 : Value) (w : World) : Prop := nav ann Try.prog 44 (fun c Q => vcCode ann Try.prog 44 c Q [(0, y0), (1, y1)] w) [1, 1] code (top K)
attribute [irreducible] k4
noncomputable def k12 (K : VK) (y9 : Value) (w : World) : Prop := nav ann Try.prog 44 (fun c Q => vcCode ann Try.prog 44 c Q [(9, y9)] w) [1, 1, 1, 1, 1] code (top K)
attribute [irreducible] k12
noncomputable def l7 (K : VK) (y0 y9 y10 y25 y26 y27 : Value) (w : World) : Prop := nav ann Try.prog 44 (isLoop ann Try.prog 44 [(0, y0), (9, y9), (10, y10), (25, y25), (26, y26), (27, y27)] w) [1, 1, 1, 1, 0, 1, 0] code (top K)
attribute [irreducible] l7
noncomputable def k8 (K : VK) (y0 y9 y10 y25 y26 y27 : Value) (w : World) : Prop := nav ann Try.prog 44 (fun c Q => vcCode ann Try.prog 44 c Q [(0, y0), (9, y9), (10, y10), (25, y25), (26, y26), (27, y27)] w) [1, 1, 1, 1, 0, 1, 0, 0, 1, 1] code (top K)
attribute [irreducible] k8
noncomputable def k11 (K : VK) (y0 y9 y10 y25 y26 y27 : Value) (w : World) : Prop := nav ann Try.prog 44 (fun c Q => vcCode ann Try.prog 44 c Q [(0, y0), (9, y9), (10, y10), (25, y25), (26, y26), (27, y27)] w) [1, 1, 1, 1, 0, 1, 0, 0, 1, 1, 1] code (top K)
attribute [irreducible] k11
end F28
theorem F28.k4.to {K : VK} {y0 y1 : Value} {w : World} (h : (C.call Try.prog 49 #[y0, y1] w fun x25_1 w1 =>
  C.len x25_1 w1 fun x26_2 w2 =>
  F28.l7 K y0 (.slice none 0 0) (.int .i64 0) x25_1 x26_2 (.int .i64 0) w2)) : F28.k4 K y0 y1 w := Eq.mpr (by kernel_rfl) h
theorem F28.k12.to {K : VK} {y9 : Value} {w : World} (h : (K (.tuple #[y9, (.int .i64 0)]) w)) : F28.k12 K y9 w := Eq.mpr (by kernel_rfl) h
theorem F28.l7.to {K : VK} {y0 y9 y10 y25 y26 y27 : Value} {w : World} (h : (C.int .lss y27 y26 w fun x28_1 w1 =>
  C.ite x28_1 (F28.k8 K y0 y9 y10 y25 y26 y27 w1) (F28.k12 K y9 w1))) : F28.l7 K y0 y9 y10 y25 y26 y27 w := by unfold F28.l7; exact nav_round (Eq.mpr (by kernel_rfl) h)
theorem F28.k8.to {K : VK} {y0 y9 y10 y25 y26 y27 : Value} {w : World} (h : (C.idx 1 y25 y27 w fun x29_1 w1 =>
  C.load1 x29_1 w1 fun x30_2 w2 =>
  C.run Try.prog (Instr.build 56 #[(0, x30_2), (1, y10)]) w2 fun x34_3 w3 =>
  C.run Try.prog (Instr.buildSlice 52 1 #[(0, x34_3)]) w3 fun x35_4 w4 =>
  C.run Try.prog (Builtin.append_ #[52, 52] 52 #[y9, x35_4]) w4 fun x36_5 w5 =>
  C.call Try.prog 48 #[y0, x30_2] w5 fun x40_6 w6 =>
  C.int .add y10 x40_6 w6 fun x41_7 w7 =>
  F28.k11 K y0 x36_5 x41_7 y25 y26 y27 w7)) : F28.k8 K y0 y9 y10 y25 y26 y27 w := Eq.mpr (by kernel_rfl) h
theorem F28.k11.to {K : VK} {y0 y9 y10 y25 y26 y27 : Value} {w : World} (h : (C.int .add y27 (.int .i64 1) w fun x42_1 w1 =>
  F28.l7 K y0 y9 y10 y25 y26 x42_1 w1)) : F28.k11 K y0 y9 y10 y25 y26 y27 w := Eq.mpr (by kernel_rfl) h
theorem F28.sh {K : VK} {x0 x1 : Value} {w : World} (h : (C.call Try.prog 16 #[x0, x1] w fun x16_1 w1 =>
  C.ext 0 x16_1 w1 fun x17_2 w2 =>
  C.ext 1 x16_1 w2 fun x18_3 w3 =>
  C.ext 2 x16_1 w3 fun x19_4 w4 =>
  C.int .neq x19_4 (.int .i64 0) w4 fun x21_5 w5 =>
  C.ite x21_5 (K (.tuple #[(.slice none 0 0), x19_4]) w5) (F28.k4 K x0 x1 w5))) : C.call Try.prog 28 #[x0, x1] w K := calls_of_vc (A := F28.ann) (args := [x0, x1]) (Eq.mpr (by kernel_rfl) h)

/-! ### 47 scutage/slide.moved (22, 52) -/
namespace F47
def ann : Ann := ⟨[(4, [1, 5, 13, 14, 15]), (7, [1, 5, 6, 8, 13, 14, 15]), (9, [1, 5, 13, 14, 15]), (10, [5])], [(3, [1, 5, 13, 14, 15])], [], [], none⟩
noncomputable def code : Code := match Try.f47.body with | some c => c | none => .skip
noncomputable def top (K : VK) : QE := retQ Try.prog Try.f47.results.toList K
noncomputable def k10 (K : VK) (y5 : Value) (w : World) : Prop := nav ann Try.prog 45 (fun c Q => vcCode ann Try.prog 45 c Q [(5, y5)] w) [1, 1, 1] code (top K)
attribute [irreducible] k10
noncomputable def l3 (K : VK) (y1 y5 y13 y14 y15 : Value) (w : World) : Prop := nav ann Try.prog 45 (isLoop ann Try.prog 45 [(1, y1), (5, y5), (13, y13), (14, y14), (15, y15)] w) [1, 1, 0, 1, 0] code (top K)
attribute [irreducible] l3
noncomputable def k4 (K : VK) (y1 y5 y13 y14 y15 : Value) (w : World) : Prop := nav ann Try.prog 45 (fun c Q => vcCode ann Try.prog 45 c Q [(1, y1), (5, y5), (13, y13), (14, y14), (15, y15)] w) [1, 1, 0, 1, 0, 0, 1, 1] code (top K)
attribute [irreducible] k4
noncomputable def k9 (K : VK) (y1 y5 y13 y14 y15 : Value) (w : World) : Prop := nav ann Try.prog 45 (fun c Q => vcCode ann Try.prog 45 c Q [(1, y1), (5, y5), (13, y13), (14, y14), (15, y15)] w) [1, 1, 0, 1, 0, 0, 1, 1, 1] code (top K)
attribute [irreducible] k9
noncomputable def k7 (K : VK) (y1 y5 y6 y8 y13 y14 y15 : Value) (w : World) : Prop := nav ann Try.prog 45 (fun c Q => vcCode ann Try.prog 45 c Q [(1, y1), (5, y5), (6, y6), (8, y8), (13, y13), (14, y14), (15, y15)] w) [1, 1, 0, 1, 0, 0, 1, 1, 0, 0, 1, 1, 1] code (top K)
attribute [irreducible] k7
end F47
theorem F47.k10.to {K : VK} {y5 : Value} {w : World} (h : (K y5 w)) : F47.k10 K y5 w := Eq.mpr (by kernel_rfl) h
theorem F47.l3.to {K : VK} {y1 y5 y13 y14 y15 : Value} {w : World} (h : (C.int .lss y15 y14 w fun x16_1 w1 =>
  C.ite x16_1 (F47.k4 K y1 y5 y13 y14 y15 w1) (F47.k10 K y5 w1))) : F47.l3 K y1 y5 y13 y14 y15 w := by unfold F47.l3; exact nav_round (Eq.mpr (by kernel_rfl) h)
theorem F47.k4.to {K : VK} {y1 y5 y13 y14 y15 : Value} {w : World} (h : (C.idx 1 y13 y15 w fun x18_1 w1 =>
  C.load1 x18_1 w1 fun x19_2 w2 =>
  C.call Try.prog 63 #[x19_2] w2 fun x22_3 w3 =>
  C.ext 0 x22_3 w3 fun x23_4 w4 =>
  C.ext 1 x22_3 w4 fun x24_5 w5 =>
  C.new (.cells #[.int .i64 0] 3) w5 fun x8_6 w6 =>
  C.store 1 x8_6 x23_4 w6 fun w7 =>
  C.not x24_5 w7 fun x26_8 w8 =>
  C.ite x26_8 (F47.k9 K y1 y5 y13 y14 y15 w8) (F47.k7 K y1 y5 y15 x8_6 y13 y14 y15 w8))) : F47.k4 K y1 y5 y13 y14 y15 w := Eq.mpr (by kernel_rfl) h
theorem F47.k9.to {K : VK} {y1 y5 y13 y14 y15 : Value} {w : World} (h : (C.int .add y15 (.int .i64 1) w fun x43_1 w1 =>
  F47.l3 K y1 y5 y13 y14 x43_1 w1)) : F47.k9 K y1 y5 y13 y14 y15 w := Eq.mpr (by kernel_rfl) h
theorem F47.k7.to {K : VK} {y1 y5 y6 y8 y13 y14 y15 : Value} {w : World} (h : (C.call Try.prog 64 #[y1, (.func (.func 65) #[] #[y8])] w fun x29_1 w1 =>
  C.idx 2 y1 x29_1 w1 fun x35_2 w2 =>
  C.field 1 x35_2 w2 fun x36_3 w3 =>
  C.load1 x36_3 w3 fun x37_4 w4 =>
  C.call Try.prog 67 #[x37_4] w4 fun x38_5 w5 =>
  C.call Try.prog 66 #[x38_5] w5 fun x39_6 w6 =>
  C.ext 0 x39_6 w6 fun x40_7 w7 =>
  C.ext 1 x39_6 w7 fun x41_8 w8 =>
  C.idx 1 y5 y6 w8 fun x42_9 w9 =>
  C.store 1 x42_9 x40_7 w9 fun w10 =>
  F47.k9 K y1 y5 y13 y14 y15 w10)) : F47.k7 K y1 y5 y6 y8 y13 y14 y15 w := Eq.mpr (by kernel_rfl) h
theorem F47.sh {K : VK} {x0 x1 : Value} {w : World} (h : (C.call Try.prog 62 #[x0] w fun x12_1 w1 =>
  C.len x12_1 w1 fun x14_2 w2 =>
  F47.l3 K x1 x12_1 x12_1 x14_2 (.int .i64 0) w2)) : C.call Try.prog 47 #[x0, x1] w K := calls_of_vc (A := F47.ann) (args := [x0, x1]) (Eq.mpr (by kernel_rfl) h)

/-! ### 48 scutage/slide.long (22, 3) -/
namespace F48
def ann : Ann := ⟨[], [], [], [], none⟩
noncomputable def code : Code := match Try.f48.body with | some c => c | none => .skip
noncomputable def top (K : VK) : QE := retQ Try.prog Try.f48.results.toList K
end F48
theorem F48.sh {K : VK} {x0 x1 : Value} {w : World} (h : (C.idx 1 x0 x1 w fun x11_1 w1 =>
  C.load1 x11_1 w1 fun x12_2 w2 =>
  C.call Try.prog 40 #[x12_2] w2 fun x13_3 w3 =>
  C.ext 0 x13_3 w3 fun x14_4 w4 =>
  C.ext 1 x13_3 w4 fun x15_5 w5 =>
  C.ext 2 x13_3 w5 fun x16_6 w6 =>
  C.int .add (.int .i64 1) x15_5 w6 fun x18_7 w7 =>
  K x18_7 w7)) : C.call Try.prog 48 #[x0, x1] w K := calls_of_vc (A := F48.ann) (args := [x0, x1]) (Eq.mpr (by kernel_rfl) h)

/-! ### 49 scutage/slide.reached (22, 22) -/
namespace F49
def ann : Ann := ⟨[(5, [0, 5, 6, 7]), (6, [0, 5, 6, 7]), (8, [0, 5, 6, 7, 8]), (10, [5])], [(4, [0, 5, 6, 7])], [], [], none⟩
noncomputable def code : Code := match Try.f49.body with | some c => c | none => .skip
noncomputable def top (K : VK) : QE := retQ Try.prog Try.f49.results.toList K
noncomputable def k10 (K : VK) (y5 : Value) (w : World) : Prop := nav ann Try.prog 51 (fun c Q => vcCode ann Try.prog 51 c Q [(5, y5)] w) [1, 1, 1, 1] code (top K)
attribute [irreducible] k10
noncomputable def l4 (K : VK) (y0 y5 y6 y7 : Value) (w : World) : Prop := nav ann Try.prog 51 (isLoop ann Try.prog 51 [(0, y0), (5, y5), (6, y6), (7, y7)] w) [1, 1, 1, 0, 1, 0] code (top K)
attribute [irreducible] l4
noncomputable def k6 (K : VK) (y0 y5 y6 y7 : Value) (w : World) : Prop := nav ann Try.prog 51 (fun c Q => vcCode ann Try.prog 51 c Q [(0, y0), (5, y5), (6, y6), (7, y7)] w) [1, 1, 1, 0, 1, 0, 0, 1] code (top K)
attribute [irreducible] k6
noncomputable def k5 (K : VK) (y0 y5 y6 y7 : Value) (w : World) : Prop := nav ann Try.prog 51 (fun c Q => vcCode ann Try.prog 51 c Q [(0, y0), (5, y5), (6, y6), (7, y7)] w) [1, 1, 1, 0, 1, 0, 0, 1, 1] code (top K)
attribute [irreducible] k5
noncomputable def k8 (K : VK) (y0 y5 y6 y7 y8 : Value) (w : World) : Prop := nav ann Try.prog 51 (fun c Q => vcCode ann Try.prog 51 c Q [(0, y0), (5, y5), (6, y6), (7, y7), (8, y8)] w) [1, 1, 1, 0, 1, 0, 0, 1, 0, 0, 1, 1] code (top K)
attribute [irreducible] k8
end F49
theorem F49.k10.to {K : VK} {y5 : Value} {w : World} (h : (C.call Try.prog 39 #[y5] w fun x49_1 w1 =>
  K y5 w1)) : F49.k10 K y5 w := Eq.mpr (by kernel_rfl) h
theorem F49.l4.to {K : VK} {y0 y5 y6 y7 : Value} {w : World} (h : (C.len y6 w fun x14_1 w1 =>
  C.int .lss y7 x14_1 w1 fun x15_2 w2 =>
  C.ite x15_2 (F49.k6 K y0 y5 y6 y7 w2) (F49.k10 K y5 w2))) : F49.l4 K y0 y5 y6 y7 w := by unfold F49.l4; exact nav_round (Eq.mpr (by kernel_rfl) h)
theorem F49.k6.to {K : VK} {y0 y5 y6 y7 : Value} {w : World} (h : (C.idx 1 y6 y7 w fun x21_1 w1 =>
  C.load1 x21_1 w1 fun x22_2 w2 =>
  C.call Try.prog 63 #[x22_2] w2 fun x23_3 w3 =>
  C.ext 0 x23_3 w3 fun x24_4 w4 =>
  C.ext 1 x23_3 w4 fun x25_5 w5 =>
  C.not x25_5 w5 fun x27_6 w6 =>
  C.guarded false x27_6 (fun K => K y5 w6) w6 fun x29_7 w7 =>
  C.guarded false x27_6 (fun K => K x24_4 w7) w7 fun x30_8 w8 =>
  C.guarded false x27_6 (fun K => C.call Try.prog 68 #[x29_7, x30_8] w8 K) w8 fun x31_9 w9 =>
  C.pick (some x27_6) (some (.bool true)) (some x31_9) w9 fun x32_10 w10 =>
  C.ite x32_10 (F49.k5 K y0 y5 y6 y7 w10) (F49.k8 K y0 y5 y6 y7 x24_4 w10))) : F49.k6 K y0 y5 y6 y7 w := Eq.mpr (by kernel_rfl) h
theorem F49.k5.to {K : VK} {y0 y5 y6 y7 : Value} {w : World} (h : (C.int .add y7 (.int .i64 1) w fun x17_1 w1 =>
  F49.l4 K y0 y5 y6 x17_1 w1)) : F49.k5 K y0 y5 y6 y7 w := Eq.mpr (by kernel_rfl) h
theorem F49.k8.to {K : VK} {y0 y5 y6 y7 y8 : Value} {w : World} (h : (C.run Try.prog (Instr.buildSlice 26 1 #[(0, y8)]) w fun x35_1 w1 =>
  C.run Try.prog (Builtin.append_ #[26, 26] 26 #[y5, x35_1]) w1 fun x36_2 w2 =>
  C.int .add y8 (.int .i64 1) w2 fun x40_3 w3 =>
  C.call Try.prog 48 #[y0, y8] w3 fun x44_4 w4 =>
  C.int .add y8 x44_4 w4 fun x45_5 w5 =>
  C.run Try.prog (Instr.sliceAt 22 y0 (some x40_3) (some x45_5) none) w5 fun x46_6 w6 =>
  C.run Try.prog (Builtin.append_ #[22, 22] 22 #[y6, x46_6]) w6 fun x47_7 w7 =>
  F49.k5 K y0 x36_2 x47_7 y7 w7)) : F49.k8 K y0 y5 y6 y7 y8 w := Eq.mpr (by kernel_rfl) h
theorem F49.sh {K : VK} {x0 x1 : Value} {w : World} (h : (C.call Try.prog 62 #[x1] w fun x11_1 w1 =>
  F49.l4 K x0 (.slice none 0 0) x11_1 (.int .i64 0) w1)) : C.call Try.prog 49 #[x0, x1] w K := calls_of_vc (A := F49.ann) (args := [x0, x1]) (Eq.mpr (by kernel_rfl) h)

/-! ### 65 scutage/slide.moved$1 (56) -/
namespace F65
def ann : Ann := ⟨[], [], [], [], none⟩
noncomputable def code : Code := match Try.f65.body with | some c => c | none => .skip
noncomputable def top (K : VK) : QE := retQ Try.prog Try.f65.results.toList K
end F65
theorem F65.sh {K : VK} {x0 x1 : Value} {w : World} (h : (C.new (.cells (Value.cells x0) 56) w fun x2_1 w1 =>
  C.field 0 x2_1 w1 fun x4_2 w2 =>
  C.load1 x4_2 w2 fun x5_3 w3 =>
  C.load1 x1 w3 fun x6_4 w4 =>
  C.int .eql x5_3 x6_4 w4 fun x7_5 w5 =>
  K x7_5 w5)) : C.call Try.prog 65 #[x0, x1] w K := calls_of_vc (A := F65.ann) (args := [x0, x1]) (Eq.mpr (by kernel_rfl) h)

end Go.Proofs.YtfjilngljnlkjaaV
