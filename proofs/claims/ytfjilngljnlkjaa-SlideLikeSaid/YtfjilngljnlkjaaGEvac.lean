/- What the bodies of these functions ask, as plain statements. Written by gen.py (own work) for the seat Ytfjilngljnlkjaa. -/
import Derived.Test.YtfjilngljnlkjaaVc3
import Derived.Test.YtfjilngljnlkjaaProg
namespace Go.Proofs.YtfjilngljnlkjaaV
open Go Go.Proofs
set_option linter.unusedVariables false
set_option maxRecDepth 100000

/-! ### 11 scutage/evac.Check (22) -/
namespace F11
def ann : Ann := ⟨[], [], [], [], none⟩
noncomputable def code : Code := match Try.f11.body with | some c => c | none => .skip
noncomputable def top (K : VK) : QE := retQ Try.prog Try.f11.results.toList K
end F11
theorem F11.sh {K : VK} {x0 : Value} {w : World} (h : (C.call Try.prog 31 #[x0] w fun x7_1 w1 =>
  C.ext 0 x7_1 w1 fun x8_2 w2 =>
  C.ext 1 x7_1 w2 fun x9_3 w3 =>
  C.new (.cells #[.slice none 0 0, .slice none 0 0] 61) w3 fun x3_4 w4 =>
  C.store 2 x3_4 x8_2 w4 fun w5 =>
  K x9_3 w5)) : C.call Try.prog 11 #[x0] w K := calls_of_vc (A := F11.ann) (args := [x0]) (Eq.mpr (by kernel_rfl) h)

/-! ### 12 scutage/evac.Objects (22) -/
namespace F12
def ann : Ann := ⟨[], [], [], [], none⟩
noncomputable def code : Code := match Try.f12.body with | some c => c | none => .skip
noncomputable def top (K : VK) : QE := retQ Try.prog Try.f12.results.toList K
end F12
theorem F12.sh {K : VK} {x0 : Value} {w : World} (h : (C.call Try.prog 31 #[x0] w fun x7_1 w1 =>
  C.ext 0 x7_1 w1 fun x8_2 w2 =>
  C.ext 1 x7_1 w2 fun x9_3 w3 =>
  C.new (.cells #[.slice none 0 0, .slice none 0 0] 61) w3 fun x3_4 w4 =>
  C.store 2 x3_4 x8_2 w4 fun w5 =>
  C.field 1 x3_4 w5 fun x10_6 w6 =>
  C.load1 x10_6 w6 fun x11_7 w7 =>
  K x11_7 w7)) : C.call Try.prog 12 #[x0] w K := calls_of_vc (A := F12.ann) (args := [x0]) (Eq.mpr (by kernel_rfl) h)

/-! ### 16 scutage/evac.Copy (22, 22) -/
namespace F16
def ann : Ann := ⟨[(4, [0, 1, 7]), (8, [0, 7, 9, 10, 11]), (9, [0, 7, 9, 10, 11]), (11, [9, 10])], [(7, [0, 7, 9, 10, 11])], [], [(10, (.take 0 (.take 1 (.take 2 (.take 3 (.take 7 (.take 8 (.take 9 (.take 10 (.take 12 (.take 4 (.take 11 (.go 5 (.go 6 (.go 13 (.go 14 (.go 15 (.take 16 .fin) .fin) .fin) .fin) .fin) .fin)))))))))))))], none⟩
noncomputable def code : Code := match Try.f16.body with | some c => c | none => .skip
noncomputable def top (K : VK) : QE := retQ Try.prog Try.f16.results.toList K
noncomputable def k4 (K : VK) (y0 y1 y7 : Value) (w : World) : Prop := nav ann Try.prog 59 (fun c Q => vcCode ann Try.prog 59 c Q [(0, y0), (1, y1), (7, y7)] w) [1, 1, 1] code (top K)
attribute [irreducible] k4
noncomputable def k11 (K : VK) (y9 y10 : Value) (w : World) : Prop := nav ann Try.prog 59 (fun c Q => vcCode ann Try.prog 59 c Q [(9, y9), (10, y10)] w) [1, 1, 1, 1, 1, 1] code (top K)
attribute [irreducible] k11
noncomputable def l7 (K : VK) (y0 y7 y9 y10 y11 : Value) (w : World) : Prop := nav ann Try.prog 59 (isLoop ann Try.prog 59 [(0, y0), (7, y7), (9, y9), (10, y10), (11, y11)] w) [1, 1, 1, 1, 1, 0, 1, 0] code (top K)
attribute [irreducible] l7
noncomputable def k9 (K : VK) (y0 y7 y9 y10 y11 : Value) (w : World) : Prop := nav ann Try.prog 59 (fun c Q => vcCode ann Try.prog 59 c Q [(0, y0), (7, y7), (9, y9), (10, y10), (11, y11)] w) [1, 1, 1, 1, 1, 0, 1, 0, 0, 1] code (top K)
attribute [irreducible] k9
noncomputable def k8 (K : VK) (y0 y7 y9 y10 y11 : Value) (w : World) : Prop := nav ann Try.prog 59 (fun c Q => vcCode ann Try.prog 59 c Q [(0, y0), (7, y7), (9, y9), (10, y10), (11, y11)] w) [1, 1, 1, 1, 1, 0, 1, 0, 0, 1, 1] code (top K)
attribute [irreducible] k8
end F16
theorem F16.k4.to {K : VK} {y0 y1 y7 : Value} {w : World} (h : (C.call Try.prog 34 #[y7, y1] w fun x24_1 w1 =>
  F16.l7 K y0 y7 x24_1 (.slice none 0 0) (.int .i64 0) w1)) : F16.k4 K y0 y1 y7 w := Eq.mpr (by kernel_rfl) h
theorem F16.k11.to {K : VK} {y9 y10 : Value} {w : World} (h : (K (.tuple #[y10, y9, (.int .i64 0)]) w)) : F16.k11 K y9 y10 w := Eq.mpr (by kernel_rfl) h
theorem F16.l7.to {K : VK} {y0 y7 y9 y10 y11 : Value} {w : World} (h : (C.nilCheck y7 w fun x27_1 w1 =>
  C.field 3 x27_1 w1 fun x28_2 w2 =>
  C.load1 x28_2 w2 fun x29_3 w3 =>
  C.len x29_3 w3 fun x30_4 w4 =>
  C.int .lss y11 x30_4 w4 fun x31_5 w5 =>
  C.ite x31_5 (F16.k9 K y0 y7 y9 y10 y11 w5) (F16.k11 K y9 y10 w5))) : F16.l7 K y0 y7 y9 y10 y11 w := by unfold F16.l7; exact nav_round (Eq.mpr (by kernel_rfl) h)
theorem F16.k9.to {K : VK} {y0 y7 y9 y10 y11 : Value} {w : World} (h : (C.nilCheck y7 w fun x35_1 w1 =>
  C.field 3 x35_1 w1 fun x36_2 w2 =>
  C.load1 x36_2 w2 fun x37_3 w3 =>
  C.idx 1 x37_3 y11 w3 fun x39_4 w4 =>
  C.load1 x39_4 w4 fun x40_5 w5 =>
  C.draw w5 fun S w6 =>
  C.idx 1 y0 x40_5 w6 fun x44_7 w7 =>
  C.nilCheck y7 w7 fun x50_8 w8 =>
  C.field 0 x50_8 w8 fun x51_9 w9 =>
  C.load1S S x44_7 w9 fun x45_10 w10 =>
  C.loadAS S 2 x51_9 w10 fun x52_11 w11 =>
  (C.run Try.prog (Instr.buildSlice 22 1 #[(0, x45_10)]) w11 fun x46_12 w12 =>
  (S w12 ∧
  (C.run Try.prog (Builtin.append_ #[22, 22] 22 #[y10, x46_12]) w12 fun x47_13 w13 =>
  (S w13 ∧
  (C.call Try.prog 35 #[x52_11, x40_5] w13 fun x54_14 w14 =>
  (S w14 ∧
  (C.call Try.prog 34 #[y7, x54_14] w14 fun x55_15 w15 =>
  (S w15 ∧
  (C.run Try.prog (Builtin.append_ #[22, 22] 22 #[x47_13, x55_15]) w15 fun x56_16 w16 =>
  (S w16 ∧
  F16.k8 K y0 y7 y9 x56_16 y11 w16)) ∧ True)) ∧ True)) ∧ True)) ∧ True)) ∧ True)) : F16.k9 K y0 y7 y9 y10 y11 w := Eq.mpr (by kernel_rfl) h
theorem F16.k8.to {K : VK} {y0 y7 y9 y10 y11 : Value} {w : World} (h : (C.int .add y11 (.int .i64 1) w fun x33_1 w1 =>
  F16.l7 K y0 y7 y9 y10 x33_1 w1)) : F16.k8 K y0 y7 y9 y10 y11 w := Eq.mpr (by kernel_rfl) h
theorem F16.sh {K : VK} {x0 x1 : Value} {w : World} (h : (C.call Try.prog 33 #[x0, x1] w fun x16_1 w1 =>
  C.ext 0 x16_1 w1 fun x17_2 w2 =>
  C.ext 1 x16_1 w2 fun x18_3 w3 =>
  C.int .neq x18_3 (.int .i64 0) w3 fun x20_4 w4 =>
  C.ite x20_4 (K (.tuple #[(.slice none 0 0), (.slice none 0 0), x18_3]) w4) (F16.k4 K x0 x1 x17_2 w4))) : C.call Try.prog 16 #[x0, x1] w K := calls_of_vc (A := F16.ann) (args := [x0, x1]) (Eq.mpr (by kernel_rfl) h)

/-! ### 18 scutage/evac.View (22, 22) -/
namespace F18
def ann : Ann := ⟨[(4, [0, 1, 4, 6]), (7, [0, 1, 4, 6, 8]), (8, [0, 1, 4, 6, 8]), (9, [0, 1, 4, 6]), (13, [0, 4, 6, 9, 67, 68, 69]), (16, [0, 4, 6, 9, 67, 68, 69]), (17, [4, 9])], [(6, [0, 1, 4, 6, 8]), (12, [0, 4, 6, 9, 67, 68, 69])], [], [(8, (.take 0 (.take 1 (.take 2 (.take 3 (.take 5 (.take 6 (.take 7 (.take 9 (.take 4 (.go 8 (.take 10 (.go 11 (.go 12 (.go 13 .fin .fin) .fin) .fin)) .fin))))))))))), (15, (.take 0 (.take 2 (.take 3 (.take 4 (.take 5 (.take 7 (.take 8 (.take 9 (.take 11 (.take 6 (.take 10 (.go 1 (.go 12 (.go 13 (.take 14 (.go 15 (.go 16 (.take 17 (.go 18 .fin .fin)) .fin) .fin)) .fin) .fin) (.go 12 (.go 1 (.go 13 (.take 14 (.go 15 (.go 16 (.take 17 (.go 18 .fin .fin)) .fin) .fin)) .fin) (.go 13 (.take 14 (.go 1 (.go 15 (.go 16 (.take 17 (.go 18 .fin .fin)) .fin) .fin) (.go 15 (.go 1 (.go 16 (.take 17 (.go 18 .fin .fin)) .fin) .fin) .fin))) .fin)) .fin))))))))))))))], none⟩
noncomputable def code : Code := match Try.f18.body with | some c => c | none => .skip
noncomputable def top (K : VK) : QE := retQ Try.prog Try.f18.results.toList K
noncomputable def k4 (K : VK) (y0 y1 y4 y6 : Value) (w : World) : Prop := nav ann Try.prog 105 (fun c Q => vcCode ann Try.prog 105 c Q [(0, y0), (1, y1), (4, y4), (6, y6)] w) [1, 1, 1] code (top K)
attribute [irreducible] k4
noncomputable def k9 (K : VK) (y0 y1 y4 y6 : Value) (w : World) : Prop := nav ann Try.prog 105 (fun c Q => vcCode ann Try.prog 105 c Q [(0, y0), (1, y1), (4, y4), (6, y6)] w) [1, 1, 1, 1, 1] code (top K)
attribute [irreducible] k9
noncomputable def l6 (K : VK) (y0 y1 y4 y6 y8 : Value) (w : World) : Prop := nav ann Try.prog 105 (isLoop ann Try.prog 105 [(0, y0), (1, y1), (4, y4), (6, y6), (8, y8)] w) [1, 1, 1, 1, 0, 1, 0] code (top K)
attribute [irreducible] l6
noncomputable def k8 (K : VK) (y0 y1 y4 y6 y8 : Value) (w : World) : Prop := nav ann Try.prog 105 (fun c Q => vcCode ann Try.prog 105 c Q [(0, y0), (1, y1), (4, y4), (6, y6), (8, y8)] w) [1, 1, 1, 1, 0, 1, 0, 0, 1] code (top K)
attribute [irreducible] k8
noncomputable def k7 (K : VK) (y0 y1 y4 y6 y8 : Value) (w : World) : Prop := nav ann Try.prog 105 (fun c Q => vcCode ann Try.prog 105 c Q [(0, y0), (1, y1), (4, y4), (6, y6), (8, y8)] w) [1, 1, 1, 1, 0, 1, 0, 0, 1, 1] code (top K)
attribute [irreducible] k7
noncomputable def k17 (K : VK) (y4 y9 : Value) (w : World) : Prop := nav ann Try.prog 105 (fun c Q => vcCode ann Try.prog 105 c Q [(4, y4), (9, y9)] w) [1, 1, 1, 1, 1, 1, 1, 1] code (top K)
attribute [irreducible] k17
noncomputable def l12 (K : VK) (y0 y4 y6 y9 y67 y68 y69 : Value) (w : World) : Prop := nav ann Try.prog 105 (isLoop ann Try.prog 105 [(0, y0), (4, y4), (6, y6), (9, y9), (67, y67), (68, y68), (69, y69)] w) [1, 1, 1, 1, 1, 1, 1, 0, 1, 0] code (top K)
attribute [irreducible] l12
noncomputable def k13 (K : VK) (y0 y4 y6 y9 y67 y68 y69 : Value) (w : World) : Prop := nav ann Try.prog 105 (fun c Q => vcCode ann Try.prog 105 c Q [(0, y0), (4, y4), (6, y6), (9, y9), (67, y67), (68, y68), (69, y69)] w) [1, 1, 1, 1, 1, 1, 1, 0, 1, 0, 0, 1, 1] code (top K)
attribute [irreducible] k13
noncomputable def k16 (K : VK) (y0 y4 y6 y9 y67 y68 y69 : Value) (w : World) : Prop := nav ann Try.prog 105 (fun c Q => vcCode ann Try.prog 105 c Q [(0, y0), (4, y4), (6, y6), (9, y9), (67, y67), (68, y68), (69, y69)] w) [1, 1, 1, 1, 1, 1, 1, 0, 1, 0, 0, 1, 1, 1] code (top K)
attribute [irreducible] k16
end F18
theorem F18.k4.to {K : VK} {y0 y1 y4 y6 : Value} {w : World} (h : (C.call Try.prog 34 #[y6, y1] w fun x27_1 w1 =>
  F18.l6 K y0 y1 y4 y6 (.int .i64 0) w1)) : F18.k4 K y0 y1 y4 y6 w := Eq.mpr (by kernel_rfl) h
theorem F18.k9.to {K : VK} {y0 y1 y4 y6 : Value} {w : World} (h : (C.nilCheck y6 w fun x52_1 w1 =>
  C.field 0 x52_1 w1 fun x53_2 w2 =>
  C.loadA 2 x53_2 w2 fun x54_3 w3 =>
  C.call Try.prog 38 #[x54_3, y1] w3 fun x56_4 w4 =>
  C.run Try.prog (Instr.buildSlice 39 1 #[(0, x56_4)]) w4 fun x57_5 w5 =>
  C.run Try.prog (Instr.build 42 #[(0, x57_5)]) w5 fun x58_6 w6 =>
  C.new (.cells #[.slice none 0 0, .slice none 0 0] 42) w6 fun x9_7 w7 =>
  C.store 2 x9_7 x58_6 w7 fun w8 =>
  C.nilCheck y6 w8 fun x60_9 w9 =>
  C.field 3 x60_9 w9 fun x61_10 w10 =>
  C.load1 x61_10 w10 fun x62_11 w11 =>
  C.call Try.prog 39 #[x62_11] w11 fun x63_12 w12 =>
  C.nilCheck y6 w12 fun x65_13 w13 =>
  C.field 3 x65_13 w13 fun x66_14 w14 =>
  C.load1 x66_14 w14 fun x67_15 w15 =>
  C.len x67_15 w15 fun x68_16 w16 =>
  F18.l12 K y0 y4 y6 x9_7 x67_15 x68_16 (.int .i64 0) w16)) : F18.k9 K y0 y1 y4 y6 w := Eq.mpr (by kernel_rfl) h
theorem F18.l6.to {K : VK} {y0 y1 y4 y6 y8 : Value} {w : World} (h : (C.nilCheck y6 w fun x30_1 w1 =>
  C.field 3 x30_1 w1 fun x31_2 w2 =>
  C.load1 x31_2 w2 fun x32_3 w3 =>
  C.len x32_3 w3 fun x33_4 w4 =>
  C.int .lss y8 x33_4 w4 fun x34_5 w5 =>
  C.ite x34_5 (F18.k8 K y0 y1 y4 y6 y8 w5) (F18.k9 K y0 y1 y4 y6 w5))) : F18.l6 K y0 y1 y4 y6 y8 w := by unfold F18.l6; exact nav_round (Eq.mpr (by kernel_rfl) h)
theorem F18.k8.to {K : VK} {y0 y1 y4 y6 y8 : Value} {w : World} (h : (C.draw w fun S w1 =>
  C.nilCheck y6 w1 fun x39_2 w2 =>
  C.field 0 x39_2 w2 fun x40_3 w3 =>
  C.nilCheck y6 w3 fun x43_4 w4 =>
  C.field 3 x43_4 w4 fun x44_5 w5 =>
  C.loadAS S 2 x40_3 w5 fun x41_6 w6 =>
  (C.load1 x44_5 w6 fun x45_7 w7 =>
  (S w7 ∧
  C.idx 1 x45_7 y8 w7 fun x47_8 w8 =>
  (C.load1 x47_8 w8 fun x48_9 w9 =>
  (S w9 ∧
  (C.call Try.prog 35 #[x41_6, x48_9] w9 fun x49_10 w10 =>
  (S w10 ∧
  (C.call Try.prog 34 #[y6, x49_10] w10 fun x50_11 w11 =>
  (S w11 ∧
  F18.k7 K y0 y1 y4 y6 y8 w11)) ∧ True)) ∧ True)) ∧ True)) ∧ True)) : F18.k8 K y0 y1 y4 y6 y8 w := Eq.mpr (by kernel_rfl) h
theorem F18.k7.to {K : VK} {y0 y1 y4 y6 y8 : Value} {w : World} (h : (C.int .add y8 (.int .i64 1) w fun x36_1 w1 =>
  F18.l6 K y0 y1 y4 y6 x36_1 w1)) : F18.k7 K y0 y1 y4 y6 y8 w := Eq.mpr (by kernel_rfl) h
theorem F18.k17.to {K : VK} {y4 y9 : Value} {w : World} (h : (C.field 1 y9 w fun x101_1 w1 =>
  C.load1 x101_1 w1 fun x102_2 w2 =>
  C.call Try.prog 41 #[x102_2, (.func (.func 42) #[] #[])] w2 fun x103_3 w3 =>
  C.loadA 2 y9 w3 fun x104_4 w4 =>
  C.store 2 y4 x104_4 w4 fun w5 =>
  C.loadA 2 y4 w5 fun r6 _ =>
  K (.tuple #[r6, (.int .i64 0)]) w5)) : F18.k17 K y4 y9 w := Eq.mpr (by kernel_rfl) h
theorem F18.l12.to {K : VK} {y0 y4 y6 y9 y67 y68 y69 : Value} {w : World} (h : (C.int .lss y69 y68 w fun x70_1 w1 =>
  C.ite x70_1 (F18.k13 K y0 y4 y6 y9 y67 y68 y69 w1) (F18.k17 K y4 y9 w1))) : F18.l12 K y0 y4 y6 y9 y67 y68 y69 w := by unfold F18.l12; exact nav_round (Eq.mpr (by kernel_rfl) h)
theorem F18.k13.to {K : VK} {y0 y4 y6 y9 y67 y68 y69 : Value} {w : World} (h : (C.idx 1 y67 y69 w fun x71_1 w1 =>
  C.load1 x71_1 w1 fun x72_2 w2 =>
  C.idx 1 y0 x72_2 w2 fun x76_3 w3 =>
  C.load1 x76_3 w3 fun x77_4 w4 =>
  C.call Try.prog 40 #[x77_4] w4 fun x78_5 w5 =>
  C.ext 0 x78_5 w5 fun x79_6 w6 =>
  C.ext 1 x78_5 w6 fun x80_7 w7 =>
  C.ext 2 x78_5 w7 fun x81_8 w8 =>
  C.draw w8 fun S w9 =>
  C.field 1 y9 w9 fun x82_10 w10 =>
  C.nilCheck y6 w10 fun x86_11 w11 =>
  C.field 0 x86_11 w11 fun x87_12 w12 =>
  C.nilCheck y6 w12 fun x90_13 w13 =>
  C.field 0 x90_13 w13 fun x91_14 w14 =>
  C.loadAS S 2 x87_12 w14 fun x88_15 w15 =>
  C.loadAS S 2 x91_14 w15 fun x92_16 w16 =>
  (C.load1 x82_10 w16 fun x83_37 w37 =>
  (S w37 ∧
  (C.call Try.prog 35 #[x92_16, x72_2] w37 fun x94_38 w38 =>
  (S w38 ∧
  (C.call Try.prog 38 #[x88_15, x94_38] w38 fun x95_39 w39 =>
  (S w39 ∧
  ∃ x96_40, (∀ w', S w' → (Instr.build 59 #[(0, x79_6), (1, x95_39)]).run Try.prog w' = .ok x96_40 w') ∧ ((C.run Try.prog (Instr.buildSlice 40 1 #[(0, x96_40)]) w39 fun x97_41 w41 =>
  (S w41 ∧
  (C.run Try.prog (Builtin.append_ #[40, 40] 40 #[x83_37, x97_41]) w41 fun x98_42 w42 =>
  (S w42 ∧
  C.field 1 y9 w42 fun x99_43 w43 =>
  (C.store 1 x99_43 x98_42 w43 fun w44 =>
  (S w44 ∧
  F18.k16 K y0 y4 y6 y9 y67 y68 y69 w44)) ∧ True)) ∧ True)) ∧ True))) ∧ True)) ∧ True)) ∧ ((C.call Try.prog 35 #[x92_16, x72_2] w16 fun x94_17 w17 =>
  (S w17 ∧
  (C.load1 x82_10 w17 fun x83_30 w30 =>
  (S w30 ∧
  (C.call Try.prog 38 #[x88_15, x94_17] w30 fun x95_31 w31 =>
  (S w31 ∧
  ∃ x96_32, (∀ w', S w' → (Instr.build 59 #[(0, x79_6), (1, x95_31)]).run Try.prog w' = .ok x96_32 w') ∧ ((C.run Try.prog (Instr.buildSlice 40 1 #[(0, x96_32)]) w31 fun x97_33 w33 =>
  (S w33 ∧
  (C.run Try.prog (Builtin.append_ #[40, 40] 40 #[x83_30, x97_33]) w33 fun x98_34 w34 =>
  (S w34 ∧
  C.field 1 y9 w34 fun x99_35 w35 =>
  (C.store 1 x99_35 x98_34 w35 fun w36 =>
  (S w36 ∧
  F18.k16 K y0 y4 y6 y9 y67 y68 y69 w36)) ∧ True)) ∧ True)) ∧ True))) ∧ True)) ∧ ((C.call Try.prog 38 #[x88_15, x94_17] w17 fun x95_18 w18 =>
  (S w18 ∧
  ∃ x96_19, (∀ w', S w' → (Instr.build 59 #[(0, x79_6), (1, x95_18)]).run Try.prog w' = .ok x96_19 w') ∧ ((C.load1 x82_10 w18 fun x83_25 w25 =>
  (S w25 ∧
  (C.run Try.prog (Instr.buildSlice 40 1 #[(0, x96_19)]) w25 fun x97_26 w26 =>
  (S w26 ∧
  (C.run Try.prog (Builtin.append_ #[40, 40] 40 #[x83_25, x97_26]) w26 fun x98_27 w27 =>
  (S w27 ∧
  C.field 1 y9 w27 fun x99_28 w28 =>
  (C.store 1 x99_28 x98_27 w28 fun w29 =>
  (S w29 ∧
  F18.k16 K y0 y4 y6 y9 y67 y68 y69 w29)) ∧ True)) ∧ True)) ∧ True)) ∧ ((C.run Try.prog (Instr.buildSlice 40 1 #[(0, x96_19)]) w18 fun x97_20 w20 =>
  (S w20 ∧
  (C.load1 x82_10 w20 fun x83_21 w21 =>
  (S w21 ∧
  (C.run Try.prog (Builtin.append_ #[40, 40] 40 #[x83_21, x97_20]) w21 fun x98_22 w22 =>
  (S w22 ∧
  C.field 1 y9 w22 fun x99_23 w23 =>
  (C.store 1 x99_23 x98_22 w23 fun w24 =>
  (S w24 ∧
  F18.k16 K y0 y4 y6 y9 y67 y68 y69 w24)) ∧ True)) ∧ True)) ∧ True)) ∧ True)))) ∧ True))) ∧ True))) : F18.k13 K y0 y4 y6 y9 y67 y68 y69 w := Eq.mpr (by kernel_rfl) h
theorem F18.k16.to {K : VK} {y0 y4 y6 y9 y67 y68 y69 : Value} {w : World} (h : (C.int .add y69 (.int .i64 1) w fun x100_1 w1 =>
  F18.l12 K y0 y4 y6 y9 y67 y68 x100_1 w1)) : F18.k16 K y0 y4 y6 y9 y67 y68 y69 w := Eq.mpr (by kernel_rfl) h
theorem F18.sh {K : VK} {x0 x1 : Value} {w : World} (h : (C.new (.cells #[.slice none 0 0, .slice none 0 0] 42) w fun x4_1 w1 =>
  C.call Try.prog 33 #[x0, x1] w1 fun x18_2 w2 =>
  C.ext 0 x18_2 w2 fun x19_3 w3 =>
  C.ext 1 x18_2 w3 fun x20_4 w4 =>
  C.int .neq x20_4 (.int .i64 0) w4 fun x22_5 w5 =>
  C.ite x22_5 (C.run Try.prog (Instr.build 42 #[]) w5 fun x23_6 w6 =>
  C.store 2 x4_1 x23_6 w6 fun w7 =>
  C.loadA 2 x4_1 w7 fun r8 _ =>
  K (.tuple #[r8, x20_4]) w7) (F18.k4 K x0 x1 x4_1 x19_3 w5))) : C.call Try.prog 18 #[x0, x1] w K := calls_of_vc (A := F18.ann) (args := [x0, x1]) (Eq.mpr (by kernel_rfl) h)

/-! ### 31 scutage/evac.open (22) -/
namespace F31
def ann : Ann := ⟨[(3, [0, 2]), (6, [0, 2, 4, 5]), (9, [0, 2, 4, 5, 7]), (11, [2, 4]), (13, [2, 4, 52, 53, 54]), (16, [2, 4, 52, 53, 54]), (17, [2, 4])], [(5, [0, 2, 4, 5]), (12, [2, 4, 52, 53, 54])], [], [], none⟩
noncomputable def code : Code := match Try.f31.body with | some c => c | none => .skip
noncomputable def top (K : VK) : QE := retQ Try.prog Try.f31.results.toList K
noncomputable def k3 (K : VK) (y0 y2 : Value) (w : World) : Prop := nav ann Try.prog 66 (fun c Q => vcCode ann Try.prog 66 c Q [(0, y0), (2, y2)] w) [1, 1] code (top K)
attribute [irreducible] k3
noncomputable def k11 (K : VK) (y2 y4 : Value) (w : World) : Prop := nav ann Try.prog 66 (fun c Q => vcCode ann Try.prog 66 c Q [(2, y2), (4, y4)] w) [1, 1, 1, 1] code (top K)
attribute [irreducible] k11
noncomputable def l5 (K : VK) (y0 y2 y4 y5 : Value) (w : World) : Prop := nav ann Try.prog 66 (isLoop ann Try.prog 66 [(0, y0), (2, y2), (4, y4), (5, y5)] w) [1, 1, 1, 0, 1, 0] code (top K)
attribute [irreducible] l5
noncomputable def k6 (K : VK) (y0 y2 y4 y5 : Value) (w : World) : Prop := nav ann Try.prog 66 (fun c Q => vcCode ann Try.prog 66 c Q [(0, y0), (2, y2), (4, y4), (5, y5)] w) [1, 1, 1, 0, 1, 0, 0, 1] code (top K)
attribute [irreducible] k6
noncomputable def k9 (K : VK) (y0 y2 y4 y5 y7 : Value) (w : World) : Prop := nav ann Try.prog 66 (fun c Q => vcCode ann Try.prog 66 c Q [(0, y0), (2, y2), (4, y4), (5, y5), (7, y7)] w) [1, 1, 1, 0, 1, 0, 0, 1, 0, 1, 1] code (top K)
attribute [irreducible] k9
noncomputable def k17 (K : VK) (y2 y4 : Value) (w : World) : Prop := nav ann Try.prog 66 (fun c Q => vcCode ann Try.prog 66 c Q [(2, y2), (4, y4)] w) [1, 1, 1, 1, 1] code (top K)
attribute [irreducible] k17
noncomputable def l12 (K : VK) (y2 y4 y52 y53 y54 : Value) (w : World) : Prop := nav ann Try.prog 66 (isLoop ann Try.prog 66 [(2, y2), (4, y4), (52, y52), (53, y53), (54, y54)] w) [1, 1, 1, 1, 0, 1, 0] code (top K)
attribute [irreducible] l12
noncomputable def k13 (K : VK) (y2 y4 y52 y53 y54 : Value) (w : World) : Prop := nav ann Try.prog 66 (fun c Q => vcCode ann Try.prog 66 c Q [(2, y2), (4, y4), (52, y52), (53, y53), (54, y54)] w) [1, 1, 1, 1, 0, 1, 0, 0, 1, 1] code (top K)
attribute [irreducible] k13
noncomputable def k16 (K : VK) (y2 y4 y52 y53 y54 : Value) (w : World) : Prop := nav ann Try.prog 66 (fun c Q => vcCode ann Try.prog 66 c Q [(2, y2), (4, y4), (52, y52), (53, y53), (54, y54)] w) [1, 1, 1, 1, 0, 1, 0, 0, 1, 1, 1] code (top K)
attribute [irreducible] k16
end F31
theorem F31.k3.to {K : VK} {y0 y2 : Value} {w : World} (h : (C.run Try.prog (Instr.build 61 #[(0, y0)]) w fun x16_1 w1 =>
  C.new (.cells #[.slice none 0 0, .slice none 0 0] 61) w1 fun x4_2 w2 =>
  C.store 2 x4_2 x16_1 w2 fun w3 =>
  F31.l5 K y0 y2 x4_2 (.int .i64 0) w3)) : F31.k3 K y0 y2 w := Eq.mpr (by kernel_rfl) h
theorem F31.k11.to {K : VK} {y2 y4 : Value} {w : World} (h : (C.field 1 y4 w fun x51_1 w1 =>
  C.load1 x51_1 w1 fun x52_2 w2 =>
  C.len x52_2 w2 fun x53_3 w3 =>
  F31.l12 K y2 y4 x52_2 x53_3 (.int .i64 0) w3)) : F31.k11 K y2 y4 w := Eq.mpr (by kernel_rfl) h
theorem F31.l5.to {K : VK} {y0 y2 y4 y5 : Value} {w : World} (h : (C.len y0 w fun x19_1 w1 =>
  C.int .lss y5 x19_1 w1 fun x20_2 w2 =>
  C.ite x20_2 (F31.k6 K y0 y2 y4 y5 w2) (F31.k11 K y2 y4 w2))) : F31.l5 K y0 y2 y4 y5 w := by unfold F31.l5; exact nav_round (Eq.mpr (by kernel_rfl) h)
theorem F31.k6.to {K : VK} {y0 y2 y4 y5 : Value} {w : World} (h : (C.idx 1 y0 y5 w fun x24_1 w1 =>
  C.load1 x24_1 w1 fun x25_2 w2 =>
  C.call Try.prog 40 #[x25_2] w2 fun x26_3 w3 =>
  C.ext 0 x26_3 w3 fun x27_4 w4 =>
  C.ext 1 x26_3 w4 fun x28_5 w5 =>
  C.ext 2 x26_3 w5 fun x29_6 w6 =>
  C.not x29_6 w6 fun x31_7 w7 =>
  C.guarded false x31_7 (fun K => K x28_5 w7) w7 fun x33_8 w8 =>
  C.guarded false x31_7 (fun K => K y0 w8) w8 fun x34_9 w9 =>
  C.guarded false x31_7 (fun K => C.len x34_9 w9 K) w9 fun x35_10 w10 =>
  C.guarded false x31_7 (fun K => K y5 w10) w10 fun x36_11 w11 =>
  C.guarded false x31_7 (fun K => C.int .sub x35_10 x36_11 w11 K) w11 fun x37_12 w12 =>
  C.guarded false x31_7 (fun K => C.int .geq x33_8 x37_12 w12 K) w12 fun x38_13 w13 =>
  C.pick (some x31_7) (some (.bool true)) (some x38_13) w13 fun x39_14 w14 =>
  C.ite x39_14 (C.run Try.prog (Instr.build 61 #[]) w14 fun x40_15 w15 =>
  C.store 2 y2 x40_15 w15 fun w16 =>
  C.loadA 2 y2 w16 fun r17 _ =>
  K (.tuple #[r17, (.int .i64 16)]) w16) (F31.k9 K y0 y2 y4 y5 x28_5 w14))) : F31.k6 K y0 y2 y4 y5 w := Eq.mpr (by kernel_rfl) h
theorem F31.k9.to {K : VK} {y0 y2 y4 y5 y7 : Value} {w : World} (h : (C.field 1 y4 w fun x41_1 w1 =>
  C.load1 x41_1 w1 fun x42_2 w2 =>
  C.run Try.prog (Instr.buildSlice 26 1 #[(0, y5)]) w2 fun x44_3 w3 =>
  C.run Try.prog (Builtin.append_ #[26, 26] 26 #[x42_2, x44_3]) w3 fun x45_4 w4 =>
  C.field 1 y4 w4 fun x46_5 w5 =>
  C.store 1 x46_5 x45_4 w5 fun w6 =>
  C.int .add (.int .i64 1) y7 w6 fun x49_7 w7 =>
  C.int .add y5 x49_7 w7 fun x50_8 w8 =>
  F31.l5 K y0 y2 y4 x50_8 w8)) : F31.k9 K y0 y2 y4 y5 y7 w := Eq.mpr (by kernel_rfl) h
theorem F31.k17.to {K : VK} {y2 y4 : Value} {w : World} (h : (C.loadA 2 y4 w fun x65_1 w1 =>
  C.store 2 y2 x65_1 w1 fun w2 =>
  C.loadA 2 y2 w2 fun r3 _ =>
  K (.tuple #[r3, (.int .i64 0)]) w2)) : F31.k17 K y2 y4 w := Eq.mpr (by kernel_rfl) h
theorem F31.l12.to {K : VK} {y2 y4 y52 y53 y54 : Value} {w : World} (h : (C.int .lss y54 y53 w fun x55_1 w1 =>
  C.ite x55_1 (F31.k13 K y2 y4 y52 y53 y54 w1) (F31.k17 K y2 y4 w1))) : F31.l12 K y2 y4 y52 y53 y54 w := by unfold F31.l12; exact nav_round (Eq.mpr (by kernel_rfl) h)
theorem F31.k13.to {K : VK} {y2 y4 y52 y53 y54 : Value} {w : World} (h : (C.idx 1 y52 y54 w fun x56_1 w1 =>
  C.load1 x56_1 w1 fun x57_2 w2 =>
  C.loadA 2 y4 w2 fun x58_3 w3 =>
  C.call Try.prog 35 #[x58_3, x57_2] w3 fun x60_4 w4 =>
  C.call Try.prog 51 #[x60_4, (.func (.func 52) #[] #[y4])] w4 fun x62_5 w5 =>
  C.ite x62_5 (C.run Try.prog (Instr.build 61 #[]) w5 fun x63_6 w6 =>
  C.store 2 y2 x63_6 w6 fun w7 =>
  C.loadA 2 y2 w7 fun r8 _ =>
  K (.tuple #[r8, (.int .i64 16)]) w7) (F31.k16 K y2 y4 y52 y53 y54 w5))) : F31.k13 K y2 y4 y52 y53 y54 w := Eq.mpr (by kernel_rfl) h
theorem F31.k16.to {K : VK} {y2 y4 y52 y53 y54 : Value} {w : World} (h : (C.int .add y54 (.int .i64 1) w fun x64_1 w1 =>
  F31.l12 K y2 y4 y52 y53 x64_1 w1)) : F31.k16 K y2 y4 y52 y53 y54 w := Eq.mpr (by kernel_rfl) h
theorem F31.sh {K : VK} {x0 : Value} {w : World} (h : (C.new (.cells #[.slice none 0 0, .slice none 0 0] 61) w fun x2_1 w1 =>
  C.len x0 w1 fun x12_2 w2 =>
  C.int .gtr x12_2 (.int .i64 2048) w2 fun x13_3 w3 =>
  C.ite x13_3 (C.run Try.prog (Instr.build 61 #[]) w3 fun x14_4 w4 =>
  C.store 2 x2_1 x14_4 w4 fun w5 =>
  C.loadA 2 x2_1 w5 fun r6 _ =>
  K (.tuple #[r6, (.int .i64 5)]) w5) (F31.k3 K x0 x2_1 w3))) : C.call Try.prog 31 #[x0] w K := calls_of_vc (A := F31.ann) (args := [x0]) (Eq.mpr (by kernel_rfl) h)

/-! ### 33 scutage/evac.start (22, 22) -/
namespace F33
def ann : Ann := ⟨[(4, [1, 6]), (6, [6])], [], [], [], none⟩
noncomputable def code : Code := match Try.f33.body with | some c => c | none => .skip
noncomputable def top (K : VK) : QE := retQ Try.prog Try.f33.results.toList K
noncomputable def k4 (K : VK) (y1 y6 : Value) (w : World) : Prop := nav ann Try.prog 23 (fun c Q => vcCode ann Try.prog 23 c Q [(1, y1), (6, y6)] w) [1, 1, 1] code (top K)
attribute [irreducible] k4
noncomputable def k6 (K : VK) (y6 : Value) (w : World) : Prop := nav ann Try.prog 23 (fun c Q => vcCode ann Try.prog 23 c Q [(6, y6)] w) [1, 1, 1, 1] code (top K)
attribute [irreducible] k6
end F33
theorem F33.k4.to {K : VK} {y1 y6 : Value} {w : World} (h : (C.call Try.prog 51 #[y1, (.func (.func 54) #[] #[y6])] w fun x18_1 w1 =>
  C.ite x18_1 (K (.tuple #[(.pointer none), (.int .i64 4)]) w1) (F33.k6 K y6 w1))) : F33.k4 K y1 y6 w := Eq.mpr (by kernel_rfl) h
theorem F33.k6.to {K : VK} {y6 : Value} {w : World} (h : (C.loadA 2 y6 w fun x19_1 w1 =>
  C.run Try.prog (Instr.makeMap 70 none) w1 fun x20_2 w2 =>
  C.run Try.prog (Instr.build 72 #[(0, x19_1), (1, x20_2)]) w2 fun x21_3 w3 =>
  C.new (.cells (Value.cells x21_3) 72) w3 fun x22_4 w4 =>
  K (.tuple #[x22_4, (.int .i64 0)]) w4)) : F33.k6 K y6 w := Eq.mpr (by kernel_rfl) h
theorem F33.sh {K : VK} {x0 x1 : Value} {w : World} (h : (C.call Try.prog 31 #[x0] w fun x10_1 w1 =>
  C.ext 0 x10_1 w1 fun x11_2 w2 =>
  C.ext 1 x10_1 w2 fun x12_3 w3 =>
  C.new (.cells #[.slice none 0 0, .slice none 0 0] 61) w3 fun x6_4 w4 =>
  C.store 2 x6_4 x11_2 w4 fun w5 =>
  C.int .neq x12_3 (.int .i64 0) w5 fun x14_6 w6 =>
  C.ite x14_6 (K (.tuple #[(.pointer none), x12_3]) w6) (F33.k4 K x1 x6_4 w6))) : C.call Try.prog 33 #[x0, x1] w K := calls_of_vc (A := F33.ann) (args := [x0, x1]) (Eq.mpr (by kernel_rfl) h)

/-! ### 34 (*scutage/evac.mover).moved (66, 22) -/
namespace F34
def ann : Ann := ⟨[(4, [0, 5, 8, 9, 10]), (6, [0, 5, 8, 9, 10]), (7, [5])], [(3, [0, 5, 8, 9, 10])], [], [], none⟩
noncomputable def code : Code := match Try.f34.body with | some c => c | none => .skip
noncomputable def top (K : VK) : QE := retQ Try.prog Try.f34.results.toList K
noncomputable def k7 (K : VK) (y5 : Value) (w : World) : Prop := nav ann Try.prog 22 (fun c Q => vcCode ann Try.prog 22 c Q [(5, y5)] w) [1, 1, 1] code (top K)
attribute [irreducible] k7
noncomputable def l3 (K : VK) (y0 y5 y8 y9 y10 : Value) (w : World) : Prop := nav ann Try.prog 22 (isLoop ann Try.prog 22 [(0, y0), (5, y5), (8, y8), (9, y9), (10, y10)] w) [1, 1, 0, 1, 0] code (top K)
attribute [irreducible] l3
noncomputable def k4 (K : VK) (y0 y5 y8 y9 y10 : Value) (w : World) : Prop := nav ann Try.prog 22 (fun c Q => vcCode ann Try.prog 22 c Q [(0, y0), (5, y5), (8, y8), (9, y9), (10, y10)] w) [1, 1, 0, 1, 0, 0, 1, 1] code (top K)
attribute [irreducible] k4
noncomputable def k6 (K : VK) (y0 y5 y8 y9 y10 : Value) (w : World) : Prop := nav ann Try.prog 22 (fun c Q => vcCode ann Try.prog 22 c Q [(0, y0), (5, y5), (8, y8), (9, y9), (10, y10)] w) [1, 1, 0, 1, 0, 0, 1, 1, 1] code (top K)
attribute [irreducible] k6
end F34
theorem F34.k7.to {K : VK} {y5 : Value} {w : World} (h : (K y5 w)) : F34.k7 K y5 w := Eq.mpr (by kernel_rfl) h
theorem F34.l3.to {K : VK} {y0 y5 y8 y9 y10 : Value} {w : World} (h : (C.int .lss y10 y9 w fun x11_1 w1 =>
  C.ite x11_1 (F34.k4 K y0 y5 y8 y9 y10 w1) (F34.k7 K y5 w1))) : F34.l3 K y0 y5 y8 y9 y10 w := by unfold F34.l3; exact nav_round (Eq.mpr (by kernel_rfl) h)
theorem F34.k4.to {K : VK} {y0 y5 y8 y9 y10 : Value} {w : World} (h : (C.idx 1 y8 y10 w fun x12_1 w1 =>
  C.load1 x12_1 w1 fun x13_2 w2 =>
  C.call Try.prog 55 #[y0, x13_2] w2 fun x17_3 w3 =>
  C.run Try.prog (Instr.buildSlice 22 1 #[(0, x17_3)]) w3 fun x18_4 w4 =>
  C.run Try.prog (Builtin.append_ #[22, 22] 22 #[y5, x18_4]) w4 fun x19_5 w5 =>
  F34.k6 K y0 x19_5 y8 y9 y10 w5)) : F34.k4 K y0 y5 y8 y9 y10 w := Eq.mpr (by kernel_rfl) h
theorem F34.k6.to {K : VK} {y0 y5 y8 y9 y10 : Value} {w : World} (h : (C.int .add y10 (.int .i64 1) w fun x20_1 w1 =>
  F34.l3 K y0 y5 y8 y9 x20_1 w1)) : F34.k6 K y0 y5 y8 y9 y10 w := Eq.mpr (by kernel_rfl) h
theorem F34.sh {K : VK} {x0 x1 : Value} {w : World} (h : (C.len x1 w fun x9_1 w1 =>
  F34.l3 K x0 (.slice none 0 0) x1 x9_1 (.int .i64 0) w1)) : C.call Try.prog 34 #[x0, x1] w K := calls_of_vc (A := F34.ann) (args := [x0, x1]) (Eq.mpr (by kernel_rfl) h)

/-! ### 35 (scutage/evac.image).fields (61, 3) -/
namespace F35
def ann : Ann := ⟨[], [], [], [], none⟩
noncomputable def code : Code := match Try.f35.body with | some c => c | none => .skip
noncomputable def top (K : VK) : QE := retQ Try.prog Try.f35.results.toList K
end F35
theorem F35.sh {K : VK} {x0 x1 : Value} {w : World} (h : (C.new (.cells (Value.cells x0) 61) w fun x2_1 w1 =>
  C.field 0 x2_1 w1 fun x9_2 w2 =>
  C.load1 x9_2 w2 fun x10_3 w3 =>
  C.idx 1 x10_3 x1 w3 fun x12_4 w4 =>
  C.load1 x12_4 w4 fun x13_5 w5 =>
  C.call Try.prog 40 #[x13_5] w5 fun x14_6 w6 =>
  C.ext 0 x14_6 w6 fun x15_7 w7 =>
  C.ext 1 x14_6 w7 fun x16_8 w8 =>
  C.ext 2 x14_6 w8 fun x17_9 w9 =>
  C.field 0 x2_1 w9 fun x18_10 w10 =>
  C.load1 x18_10 w10 fun x19_11 w11 =>
  C.int .add x1 (.int .i64 1) w11 fun x21_12 w12 =>
  C.int .add x1 (.int .i64 1) w12 fun x23_13 w13 =>
  C.int .add x23_13 x16_8 w13 fun x25_14 w14 =>
  C.run Try.prog (Instr.sliceAt 22 x19_11 (some x21_12) (some x25_14) none) w14 fun x26_15 w15 =>
  K x26_15 w15)) : C.call Try.prog 35 #[x0, x1] w K := calls_of_vc (A := F35.ann) (args := [x0, x1]) (Eq.mpr (by kernel_rfl) h)

/-! ### 38 (scutage/evac.image).values (61, 22) -/
namespace F38
def ann : Ann := ⟨[(4, [2, 5, 8, 9, 10]), (6, [2, 5, 8, 9, 10]), (7, [5])], [(3, [2, 5, 8, 9, 10])], [], [], none⟩
noncomputable def code : Code := match Try.f38.body with | some c => c | none => .skip
noncomputable def top (K : VK) : QE := retQ Try.prog Try.f38.results.toList K
noncomputable def k7 (K : VK) (y5 : Value) (w : World) : Prop := nav ann Try.prog 22 (fun c Q => vcCode ann Try.prog 22 c Q [(5, y5)] w) [1, 1, 1] code (top K)
attribute [irreducible] k7
noncomputable def l3 (K : VK) (y2 y5 y8 y9 y10 : Value) (w : World) : Prop := nav ann Try.prog 22 (isLoop ann Try.prog 22 [(2, y2), (5, y5), (8, y8), (9, y9), (10, y10)] w) [1, 1, 0, 1, 0] code (top K)
attribute [irreducible] l3
noncomputable def k4 (K : VK) (y2 y5 y8 y9 y10 : Value) (w : World) : Prop := nav ann Try.prog 22 (fun c Q => vcCode ann Try.prog 22 c Q [(2, y2), (5, y5), (8, y8), (9, y9), (10, y10)] w) [1, 1, 0, 1, 0, 0, 1, 1] code (top K)
attribute [irreducible] k4
noncomputable def k6 (K : VK) (y2 y5 y8 y9 y10 : Value) (w : World) : Prop := nav ann Try.prog 22 (fun c Q => vcCode ann Try.prog 22 c Q [(2, y2), (5, y5), (8, y8), (9, y9), (10, y10)] w) [1, 1, 0, 1, 0, 0, 1, 1, 1] code (top K)
attribute [irreducible] k6
end F38
theorem F38.k7.to {K : VK} {y5 : Value} {w : World} (h : (K y5 w)) : F38.k7 K y5 w := Eq.mpr (by kernel_rfl) h
theorem F38.l3.to {K : VK} {y2 y5 y8 y9 y10 : Value} {w : World} (h : (C.int .lss y10 y9 w fun x11_1 w1 =>
  C.ite x11_1 (F38.k4 K y2 y5 y8 y9 y10 w1) (F38.k7 K y5 w1))) : F38.l3 K y2 y5 y8 y9 y10 w := by unfold F38.l3; exact nav_round (Eq.mpr (by kernel_rfl) h)
theorem F38.k4.to {K : VK} {y2 y5 y8 y9 y10 : Value} {w : World} (h : (C.idx 1 y8 y10 w fun x12_1 w1 =>
  C.load1 x12_1 w1 fun x13_2 w2 =>
  C.loadA 2 y2 w2 fun x15_3 w3 =>
  C.call Try.prog 56 #[x15_3, x13_2] w3 fun x17_4 w4 =>
  C.run Try.prog (Instr.buildSlice 57 1 #[(0, x17_4)]) w4 fun x18_5 w5 =>
  C.run Try.prog (Builtin.append_ #[57, 57] 57 #[y5, x18_5]) w5 fun x19_6 w6 =>
  F38.k6 K y2 x19_6 y8 y9 y10 w6)) : F38.k4 K y2 y5 y8 y9 y10 w := Eq.mpr (by kernel_rfl) h
theorem F38.k6.to {K : VK} {y2 y5 y8 y9 y10 : Value} {w : World} (h : (C.int .add y10 (.int .i64 1) w fun x20_1 w1 =>
  F38.l3 K y2 y5 y8 y9 x20_1 w1)) : F38.k6 K y2 y5 y8 y9 y10 w := Eq.mpr (by kernel_rfl) h
theorem F38.sh {K : VK} {x0 x1 : Value} {w : World} (h : (C.new (.cells (Value.cells x0) 61) w fun x2_1 w1 =>
  C.len x1 w1 fun x9_2 w2 =>
  F38.l3 K x2_1 (.slice none 0 0) x1 x9_2 (.int .i64 0) w2)) : C.call Try.prog 38 #[x0, x1] w K := calls_of_vc (A := F38.ann) (args := [x0, x1]) (Eq.mpr (by kernel_rfl) h)

/-! ### 40 scutage/head.Split (2) -/
namespace F40
def ann : Ann := ⟨[(3, [0])], [], [], [], none⟩
noncomputable def code : Code := match Try.f40.body with | some c => c | none => .skip
noncomputable def top (K : VK) : QE := retQ Try.prog Try.f40.results.toList K
noncomputable def k3 (K : VK) (y0 : Value) (w : World) : Prop := nav ann Try.prog 16 (fun c Q => vcCode ann Try.prog 16 c Q [(0, y0)] w) [1, 1] code (top K)
attribute [irreducible] k3
end F40
theorem F40.k3.to {K : VK} {y0 : Value} {w : World} (h : (C.bin Try.prog .quo 2 (.tmp 12) (.const (.int .i64 128)) y0 (.int .i64 128) w fun x13_1 w1 =>
  C.bin Try.prog .rem 2 (.tmp 14) (.const (.int .i64 128)) y0 (.int .i64 128) w1 fun x15_2 w2 =>
  K (.tuple #[x13_1, x15_2, (.bool true)]) w2)) : F40.k3 K y0 w := Eq.mpr (by kernel_rfl) h
theorem F40.sh {K : VK} {x0 : Value} {w : World} (h : (C.int .lss x0 (.int .i64 0) w fun x6_1 w1 =>
  C.guarded false x6_1 (fun K => K x0 w1) w1 fun x8_2 w2 =>
  C.guarded false x6_1 (fun K => C.bin Try.prog .quo 2 (.tmp 8) (.const (.int .i64 128)) x8_2 (.int .i64 128) w2 K) w2 fun x9_3 w3 =>
  C.guarded false x6_1 (fun K => C.int .geq x9_3 (.int .i64 1099511627776) w3 K) w3 fun x10_4 w4 =>
  C.pick (some x6_1) (some (.bool true)) (some x10_4) w4 fun x11_5 w5 =>
  C.ite x11_5 (K (.tuple #[(.int .i64 0), (.int .i64 0), (.bool false)]) w5) (F40.k3 K x0 w5))) : C.call Try.prog 40 #[x0] w K := calls_of_vc (A := F40.ann) (args := [x0]) (Eq.mpr (by kernel_rfl) h)

/-! ### 42 scutage/evac.View$1 (59, 59) -/
namespace F42
def ann : Ann := ⟨[], [], [], [], none⟩
noncomputable def code : Code := match Try.f42.body with | some c => c | none => .skip
noncomputable def top (K : VK) : QE := retQ Try.prog Try.f42.results.toList K
end F42
theorem F42.sh {K : VK} {x0 x1 : Value} {w : World} (h : (C.new (.cells (Value.cells x0) 59) w fun x2_1 w1 =>
  C.new (.cells (Value.cells x1) 59) w1 fun x3_2 w2 =>
  C.field 0 x2_1 w2 fun x5_3 w3 =>
  C.load1 x5_3 w3 fun x6_4 w4 =>
  C.field 0 x3_2 w4 fun x7_5 w5 =>
  C.load1 x7_5 w5 fun x8_6 w6 =>
  C.call Try.prog 43 #[x6_4, x8_6] w6 fun x9_7 w7 =>
  K x9_7 w7)) : C.call Try.prog 42 #[x0, x1] w K := calls_of_vc (A := F42.ann) (args := [x0, x1]) (Eq.mpr (by kernel_rfl) h)

/-! ### 43 cmp.Compare[int64] (2, 2) -/
namespace F43
def ann : Ann := ⟨[(6, []), (7, [0, 1, 6]), (9, [0, 1]), (11, [0, 1]), (13, [])], [], [], [], none⟩
noncomputable def code : Code := match Try.f43.body with | some c => c | none => .skip
noncomputable def top (K : VK) : QE := retQ Try.prog Try.f43.results.toList K
noncomputable def k7 (K : VK) (y0 y1 y6 : Value) (w : World) : Prop := nav ann Try.prog 20 (fun c Q => vcCode ann Try.prog 20 c Q [(0, y0), (1, y1), (6, y6)] w) [1, 1, 1, 1] code (top K)
attribute [irreducible] k7
noncomputable def k6 (K : VK) (w : World) : Prop := nav ann Try.prog 20 (fun c Q => vcCode ann Try.prog 20 c Q [] w) [1, 1, 1, 0, 1, 0, 1] code (top K)
attribute [irreducible] k6
noncomputable def k9 (K : VK) (y0 y1 : Value) (w : World) : Prop := nav ann Try.prog 20 (fun c Q => vcCode ann Try.prog 20 c Q [(0, y0), (1, y1)] w) [1, 1, 1, 1, 1] code (top K)
attribute [irreducible] k9
noncomputable def k11 (K : VK) (y0 y1 : Value) (w : World) : Prop := nav ann Try.prog 20 (fun c Q => vcCode ann Try.prog 20 c Q [(0, y0), (1, y1)] w) [1, 1, 1, 1, 1, 1] code (top K)
attribute [irreducible] k11
noncomputable def k13 (K : VK) (w : World) : Prop := nav ann Try.prog 20 (fun c Q => vcCode ann Try.prog 20 c Q [] w) [1, 1, 1, 1, 1, 1, 1] code (top K)
attribute [irreducible] k13
end F43
theorem F43.k7.to {K : VK} {y0 y1 y6 : Value} {w : World} (h : (C.ite y6 (K (.int .i64 1) w) (F43.k9 K y0 y1 w))) : F43.k7 K y0 y1 y6 w := Eq.mpr (by kernel_rfl) h
theorem F43.k6.to {K : VK} {w : World} (h : (K (.int .i64 (-1)) w)) : F43.k6 K w := Eq.mpr (by kernel_rfl) h
theorem F43.k9.to {K : VK} {y0 y1 : Value} {w : World} (h : (C.int .lss y0 y1 w fun x16_1 w1 =>
  C.ite x16_1 (K (.int .i64 (-1)) w1) (F43.k11 K y0 y1 w1))) : F43.k9 K y0 y1 w := Eq.mpr (by kernel_rfl) h
theorem F43.k11.to {K : VK} {y0 y1 : Value} {w : World} (h : (C.int .gtr y0 y1 w fun x19_1 w1 =>
  C.ite x19_1 (K (.int .i64 1) w1) (F43.k13 K w1))) : F43.k11 K y0 y1 w := Eq.mpr (by kernel_rfl) h
theorem F43.k13.to {K : VK} {w : World} (h : (K (.int .i64 0) w)) : F43.k13 K w := Eq.mpr (by kernel_rfl) h
theorem F43.sh {K : VK} {x0 x1 : Value} {w : World} (h : (C.call Try.prog 60 #[x0] w fun x8_1 w1 =>
  C.call Try.prog 60 #[x1] w1 fun x10_2 w2 =>
  C.ite x8_1 (C.ite x10_2 (K (.int .i64 0) w2) (F43.k6 K w2)) (F43.k7 K x0 x1 x10_2 w2))) : C.call Try.prog 43 #[x0, x1] w K := calls_of_vc (A := F43.ann) (args := [x0, x1]) (Eq.mpr (by kernel_rfl) h)

/-! ### 52 scutage/evac.open$1 (2) -/
namespace F52
def ann : Ann := ⟨[], [], [], [], none⟩
noncomputable def code : Code := match Try.f52.body with | some c => c | none => .skip
noncomputable def top (K : VK) : QE := retQ Try.prog Try.f52.results.toList K
end F52
theorem F52.sh {K : VK} {x0 x1 : Value} {w : World} (h : (C.loadA 2 x1 w fun x4_1 w1 =>
  C.call Try.prog 53 #[x4_1, x0] w1 fun x6_2 w2 =>
  C.not x6_2 w2 fun x7_3 w3 =>
  K x7_3 w3)) : C.call Try.prog 52 #[x0, x1] w K := calls_of_vc (A := F52.ann) (args := [x0, x1]) (Eq.mpr (by kernel_rfl) h)

/-! ### 53 (scutage/evac.image).may (61, 2) -/
namespace F53
def ann : Ann := ⟨[(4, [1, 2])], [], [], [], none⟩
noncomputable def code : Code := match Try.f53.body with | some c => c | none => .skip
noncomputable def top (K : VK) : QE := retQ Try.prog Try.f53.results.toList K
noncomputable def k4 (K : VK) (y1 y2 : Value) (w : World) : Prop := nav ann Try.prog 29 (fun c Q => vcCode ann Try.prog 29 c Q [(1, y1), (2, y2)] w) [1, 1] code (top K)
attribute [irreducible] k4
end F53
theorem F53.k4.to {K : VK} {y1 y2 : Value} {w : World} (h : (C.call Try.prog 63 #[y1] w fun x18_1 w1 =>
  C.ext 0 x18_1 w1 fun x19_2 w2 =>
  C.ext 1 x18_1 w2 fun x20_3 w3 =>
  C.not x20_3 w3 fun x22_4 w4 =>
  C.guarded false x22_4 (fun K => C.field 1 y2 w4 K) w4 fun x24_5 w5 =>
  C.guarded false x22_4 (fun K => C.load1 x24_5 w5 K) w5 fun x25_6 w6 =>
  C.guarded false x22_4 (fun K => K x19_2 w6) w6 fun x26_7 w7 =>
  C.guarded false x22_4 (fun K => C.call Try.prog 68 #[x25_6, x26_7] w7 K) w7 fun x27_8 w8 =>
  C.pick (some x22_4) (some (.bool true)) (some x27_8) w8 fun x28_9 w9 =>
  K x28_9 w9)) : F53.k4 K y1 y2 w := Eq.mpr (by kernel_rfl) h
theorem F53.sh {K : VK} {x0 x1 : Value} {w : World} (h : (C.new (.cells (Value.cells x0) 61) w fun x2_1 w1 =>
  C.call Try.prog 71 #[x1] w1 fun x11_2 w2 =>
  C.ext 0 x11_2 w2 fun x12_3 w3 =>
  C.ext 1 x11_2 w3 fun x13_4 w4 =>
  C.new (.cells #[.int .i64 0, .int .i64 0] 75) w4 fun x5_5 w5 =>
  C.store 2 x5_5 x12_3 w5 fun w6 =>
  C.not x13_4 w6 fun x15_7 w7 =>
  C.ite x15_7 (K (.bool false) w7) (F53.k4 K x1 x2_1 w7))) : C.call Try.prog 53 #[x0, x1] w K := calls_of_vc (A := F53.ann) (args := [x0, x1]) (Eq.mpr (by kernel_rfl) h)

/-! ### 54 scutage/evac.start$1 (2) -/
namespace F54
def ann : Ann := ⟨[], [], [], [], none⟩
noncomputable def code : Code := match Try.f54.body with | some c => c | none => .skip
noncomputable def top (K : VK) : QE := retQ Try.prog Try.f54.results.toList K
end F54
theorem F54.sh {K : VK} {x0 x1 : Value} {w : World} (h : (C.loadA 2 x1 w fun x4_1 w1 =>
  C.call Try.prog 53 #[x4_1, x0] w1 fun x6_2 w2 =>
  C.not x6_2 w2 fun x7_3 w3 =>
  K x7_3 w3)) : C.call Try.prog 54 #[x0, x1] w K := calls_of_vc (A := F54.ann) (args := [x0, x1]) (Eq.mpr (by kernel_rfl) h)

/-! ### 55 (*scutage/evac.mover).move (66, 2) -/
namespace F55
def ann : Ann := ⟨[(4, [0, 5]), (9, [0, 5])], [], [], [(6, (.take 0 (.take 1 (.take 2 (.take 4 (.take 5 (.take 6 (.take 7 (.take 3 (.take 8 (.go 9 .fin .fin))))))))))), (8, (.take 0 (.take 1 (.take 2 (.take 4 (.take 5 (.take 6 (.take 8 (.go 3 (.go 7 (.go 9 (.take 10 (.take 11 (.take 12 (.take 13 (.take 14 (.go 15 .fin .fin)))))) .fin) .fin) (.go 7 (.go 3 (.go 9 (.take 10 (.take 11 (.take 12 (.take 13 (.take 14 (.go 15 .fin .fin)))))) .fin) (.go 9 (.take 10 (.take 11 (.go 3 (.take 12 (.take 13 (.take 14 (.go 15 .fin .fin)))) .fin))) .fin)) .fin))))))))))], none⟩
noncomputable def code : Code := match Try.f55.body with | some c => c | none => .skip
noncomputable def top (K : VK) : QE := retQ Try.prog Try.f55.results.toList K
noncomputable def k4 (K : VK) (y0 y5 : Value) (w : World) : Prop := nav ann Try.prog 76 (fun c Q => vcCode ann Try.prog 76 c Q [(0, y0), (5, y5)] w) [1, 1, 1] code (top K)
attribute [irreducible] k4
noncomputable def k9 (K : VK) (y0 y5 : Value) (w : World) : Prop := nav ann Try.prog 76 (fun c Q => vcCode ann Try.prog 76 c Q [(0, y0), (5, y5)] w) [1, 1, 1, 1] code (top K)
attribute [irreducible] k9
end F55
theorem F55.k4.to {K : VK} {y0 y5 : Value} {w : World} (h : (C.nilCheck y0 w fun x21_1 w1 =>
  C.field 2 x21_1 w1 fun x22_2 w2 =>
  C.load1 x22_2 w2 fun x23_3 w3 =>
  C.run Try.prog (Instr.lookup 70 x23_3 y5 true) w3 fun x25_4 w4 =>
  C.ext 0 x25_4 w4 fun x26_5 w5 =>
  C.ext 1 x25_4 w5 fun x27_6 w6 =>
  C.not x27_6 w6 fun x29_7 w7 =>
  C.ite x29_7 (C.draw w7 fun S w8 =>
  C.nilCheck y0 w8 fun x31_9 w9 =>
  C.field 2 x31_9 w9 fun x32_10 w10 =>
  C.nilCheck y0 w10 fun x36_11 w11 =>
  C.field 4 x36_11 w11 fun x37_12 w12 =>
  C.load1S S x32_10 w12 fun x33_13 w13 =>
  C.load1S S x37_12 w13 fun x38_14 w14 =>
  (C.runU Try.prog (Instr.mapUpdate 70 x33_13 y5 x38_14) w14 fun w15 =>
  (S w15 ∧
  C.nilCheck y0 w15 fun x41_16 w16 =>
  C.field 3 x41_16 w16 fun x42_17 w17 =>
  C.load1 x42_17 w17 fun x43_18 w18 =>
  C.run Try.prog (Instr.buildSlice 26 1 #[(0, y5)]) w18 fun x45_19 w19 =>
  C.run Try.prog (Builtin.append_ #[26, 26] 26 #[x43_18, x45_19]) w19 fun x46_20 w20 =>
  C.nilCheck y0 w20 fun x47_21 w21 =>
  C.field 3 x47_21 w21 fun x48_22 w22 =>
  C.store 1 x48_22 x46_20 w22 fun w23 =>
  C.draw w23 fun S w24 =>
  C.nilCheck y0 w24 fun x50_25 w25 =>
  C.field 4 x50_25 w25 fun x51_26 w26 =>
  C.nilCheck y0 w26 fun x54_27 w27 =>
  C.field 0 x54_27 w27 fun x55_28 w28 =>
  (C.load1 x51_26 w28 fun x52_46 w46 =>
  (S w46 ∧
  (C.loadA 2 x55_28 w46 fun x56_47 w47 =>
  (S w47 ∧
  (C.call Try.prog 35 #[x56_47, y5] w47 fun x58_48 w48 =>
  (S w48 ∧
  C.len x58_48 w48 fun x59_49 w49 =>
  C.int .add (.int .i64 1) x59_49 w49 fun x60_50 w50 =>
  C.int .add x52_46 x60_50 w50 fun x61_51 w51 =>
  C.nilCheck y0 w51 fun x62_52 w52 =>
  C.field 4 x62_52 w52 fun x63_53 w53 =>
  (C.store 1 x63_53 x61_51 w53 fun w54 =>
  (S w54 ∧
  F55.k9 K y0 y5 w54)) ∧ True)) ∧ True)) ∧ True)) ∧ ((C.loadA 2 x55_28 w28 fun x56_29 w29 =>
  (S w29 ∧
  (C.load1 x51_26 w29 fun x52_38 w38 =>
  (S w38 ∧
  (C.call Try.prog 35 #[x56_29, y5] w38 fun x58_39 w39 =>
  (S w39 ∧
  C.len x58_39 w39 fun x59_40 w40 =>
  C.int .add (.int .i64 1) x59_40 w40 fun x60_41 w41 =>
  C.int .add x52_38 x60_41 w41 fun x61_42 w42 =>
  C.nilCheck y0 w42 fun x62_43 w43 =>
  C.field 4 x62_43 w43 fun x63_44 w44 =>
  (C.store 1 x63_44 x61_42 w44 fun w45 =>
  (S w45 ∧
  F55.k9 K y0 y5 w45)) ∧ True)) ∧ True)) ∧ ((C.call Try.prog 35 #[x56_29, y5] w29 fun x58_30 w30 =>
  (S w30 ∧
  C.len x58_30 w30 fun x59_31 w31 =>
  C.int .add (.int .i64 1) x59_31 w31 fun x60_32 w32 =>
  (C.load1 x51_26 w32 fun x52_33 w33 =>
  (S w33 ∧
  C.int .add x52_33 x60_32 w33 fun x61_34 w34 =>
  C.nilCheck y0 w34 fun x62_35 w35 =>
  C.field 4 x62_35 w35 fun x63_36 w36 =>
  (C.store 1 x63_36 x61_34 w36 fun w37 =>
  (S w37 ∧
  F55.k9 K y0 y5 w37)) ∧ True)) ∧ True)) ∧ True))) ∧ True))) ∧ True) (F55.k9 K y0 y5 w7))) : F55.k4 K y0 y5 w := Eq.mpr (by kernel_rfl) h
theorem F55.k9.to {K : VK} {y0 y5 : Value} {w : World} (h : (C.nilCheck y0 w fun x66_1 w1 =>
  C.field 2 x66_1 w1 fun x67_2 w2 =>
  C.load1 x67_2 w2 fun x68_3 w3 =>
  C.run Try.prog (Instr.lookup 70 x68_3 y5 false) w3 fun x70_4 w4 =>
  C.call Try.prog 67 #[x70_4] w4 fun x71_5 w5 =>
  C.call Try.prog 66 #[x71_5] w5 fun x72_6 w6 =>
  C.ext 0 x72_6 w6 fun x73_7 w7 =>
  C.ext 1 x72_6 w7 fun x74_8 w8 =>
  K x73_7 w8)) : F55.k9 K y0 y5 w := Eq.mpr (by kernel_rfl) h
theorem F55.sh {K : VK} {x0 x1 : Value} {w : World} (h : (C.call Try.prog 63 #[x1] w fun x13_1 w1 =>
  C.ext 0 x13_1 w1 fun x14_2 w2 =>
  C.ext 1 x13_1 w2 fun x15_3 w3 =>
  C.not x15_3 w3 fun x17_4 w4 =>
  C.ite x17_4 (K x1 w4) (F55.k4 K x0 x14_2 w4))) : C.call Try.prog 55 #[x0, x1] w K := calls_of_vc (A := F55.ann) (args := [x0, x1]) (Eq.mpr (by kernel_rfl) h)

/-! ### 56 (scutage/evac.image).value (61, 2) -/
namespace F56
def ann : Ann := ⟨[(4, [4, 5])], [], [], [], none⟩
noncomputable def code : Code := match Try.f56.body with | some c => c | none => .skip
noncomputable def top (K : VK) : QE := retQ Try.prog Try.f56.results.toList K
noncomputable def k4 (K : VK) (y4 y5 : Value) (w : World) : Prop := nav ann Try.prog 28 (fun c Q => vcCode ann Try.prog 28 c Q [(4, y4), (5, y5)] w) [1, 1, 1] code (top K)
attribute [irreducible] k4
end F56
theorem F56.k4.to {K : VK} {y4 y5 : Value} {w : World} (h : (C.loadA 2 y5 w fun x27_1 w1 =>
  C.store 2 y4 x27_1 w1 fun w2 =>
  C.loadA 2 y4 w2 fun r3 _ =>
  K r3 w2)) : F56.k4 K y4 y5 w := Eq.mpr (by kernel_rfl) h
theorem F56.sh {K : VK} {x0 x1 : Value} {w : World} (h : (C.new (.cells (Value.cells x0) 61) w fun x2_1 w1 =>
  C.new (.cells #[.int .i64 0, .int .i64 0] 75) w1 fun x4_2 w2 =>
  C.call Try.prog 71 #[x1] w2 fun x9_3 w3 =>
  C.ext 0 x9_3 w3 fun x10_4 w4 =>
  C.ext 1 x9_3 w4 fun x11_5 w5 =>
  C.new (.cells #[.int .i64 0, .int .i64 0] 75) w5 fun x5_6 w6 =>
  C.store 2 x5_6 x10_4 w6 fun w7 =>
  C.field 0 x5_6 w7 fun x12_8 w8 =>
  C.load1 x12_8 w8 fun x13_9 w9 =>
  C.int .eql x13_9 (.int .i64 2) w9 fun x14_10 w10 =>
  C.ite x14_10 (C.field 0 x2_1 w10 fun x16_11 w11 =>
  C.load1 x16_11 w11 fun x17_12 w12 =>
  C.field 1 x5_6 w12 fun x18_13 w13 =>
  C.load1 x18_13 w13 fun x19_14 w14 =>
  C.idx 1 x17_12 x19_14 w14 fun x20_15 w15 =>
  C.load1 x20_15 w15 fun x21_16 w16 =>
  C.call Try.prog 40 #[x21_16] w16 fun x22_17 w17 =>
  C.ext 0 x22_17 w17 fun x23_18 w18 =>
  C.ext 1 x22_17 w18 fun x24_19 w19 =>
  C.ext 2 x22_17 w19 fun x25_20 w20 =>
  C.field 1 x5_6 w20 fun x26_21 w21 =>
  C.store 1 x26_21 x23_18 w21 fun w22 =>
  F56.k4 K x4_2 x5_6 w22) (F56.k4 K x4_2 x5_6 w10))) : C.call Try.prog 56 #[x0, x1] w K := calls_of_vc (A := F56.ann) (args := [x0, x1]) (Eq.mpr (by kernel_rfl) h)

/-! ### 60 cmp.isNaN[int64] (2) -/
namespace F60
def ann : Ann := ⟨[], [], [], [], none⟩
noncomputable def code : Code := match Try.f60.body with | some c => c | none => .skip
noncomputable def top (K : VK) : QE := retQ Try.prog Try.f60.results.toList K
end F60
theorem F60.sh {K : VK} {x0 : Value} {w : World} (h : (C.int .neq x0 x0 w fun x5_1 w1 =>
  K x5_1 w1)) : C.call Try.prog 60 #[x0] w K := calls_of_vc (A := F60.ann) (args := [x0]) (Eq.mpr (by kernel_rfl) h)

end Go.Proofs.YtfjilngljnlkjaaV
