/- What the bodies of these functions ask, as plain statements. Written by gen.py (own work) for the seat Ytfhgjncbhjjbfaa. -/
import Derived.Test.YtfhgjncbhjjbfaaVc3
import Derived.Test.YtfhgjncbhjjbfaaProg
namespace Go.Proofs.YtfhgjncbhjjbfaaV
open Go Go.Proofs
set_option linter.unusedVariables false
set_option maxRecDepth 100000

/-! ### 35 scutage/reach.Dist (46) -/
namespace F35
def ann : Ann := ⟨[(6, [1, 3, 4, 5, 19, 20, 21]), (8, [1, 3, 4, 5, 19, 20, 21]), (9, [1, 3, 4, 5]), (11, [1, 3, 4, 5, 8]), (12, [1, 3, 4, 5, 8]), (15, [1, 3, 4, 5, 8, 9, 43, 44, 45]), (17, [1, 3, 4, 5, 8, 9, 43, 44, 45]), (18, [3])], [(5, [1, 3, 4, 5, 19, 20, 21]), (10, [1, 3, 4, 5, 8]), (14, [1, 3, 4, 5, 8, 9, 43, 44, 45])], [], [], none⟩
noncomputable def code : Code := match Try.f35.body with | some c => c | none => .skip
noncomputable def top (K : VK) : QE := retQ Try.prog Try.f35.results.toList K
noncomputable def k9 (K : VK) (y1 y3 y4 y5 : Value) (w : World) : Prop := nav ann Try.prog 59 (fun c Q => vcCode ann Try.prog 59 c Q [(1, y1), (3, y3), (4, y4), (5, y5)] w) [1, 1, 1, 1, 1] code (top K)
attribute [irreducible] k9
noncomputable def l5 (K : VK) (y1 y3 y4 y5 y19 y20 y21 : Value) (w : World) : Prop := nav ann Try.prog 59 (isLoop ann Try.prog 59 [(1, y1), (3, y3), (4, y4), (5, y5), (19, y19), (20, y20), (21, y21)] w) [1, 1, 1, 1, 0, 1, 0] code (top K)
attribute [irreducible] l5
noncomputable def k6 (K : VK) (y1 y3 y4 y5 y19 y20 y21 : Value) (w : World) : Prop := nav ann Try.prog 59 (fun c Q => vcCode ann Try.prog 59 c Q [(1, y1), (3, y3), (4, y4), (5, y5), (19, y19), (20, y20), (21, y21)] w) [1, 1, 1, 1, 0, 1, 0, 0, 1, 1] code (top K)
attribute [irreducible] k6
noncomputable def k8 (K : VK) (y1 y3 y4 y5 y19 y20 y21 : Value) (w : World) : Prop := nav ann Try.prog 59 (fun c Q => vcCode ann Try.prog 59 c Q [(1, y1), (3, y3), (4, y4), (5, y5), (19, y19), (20, y20), (21, y21)] w) [1, 1, 1, 1, 0, 1, 0, 0, 1, 1, 1] code (top K)
attribute [irreducible] k8
noncomputable def k18 (K : VK) (y3 : Value) (w : World) : Prop := nav ann Try.prog 59 (fun c Q => vcCode ann Try.prog 59 c Q [(3, y3)] w) [1, 1, 1, 1, 1, 1] code (top K)
attribute [irreducible] k18
noncomputable def l10 (K : VK) (y1 y3 y4 y5 y8 : Value) (w : World) : Prop := nav ann Try.prog 59 (isLoop ann Try.prog 59 [(1, y1), (3, y3), (4, y4), (5, y5), (8, y8)] w) [1, 1, 1, 1, 1, 0, 1, 0] code (top K)
attribute [irreducible] l10
noncomputable def k12 (K : VK) (y1 y3 y4 y5 y8 : Value) (w : World) : Prop := nav ann Try.prog 59 (fun c Q => vcCode ann Try.prog 59 c Q [(1, y1), (3, y3), (4, y4), (5, y5), (8, y8)] w) [1, 1, 1, 1, 1, 0, 1, 0, 0, 1] code (top K)
attribute [irreducible] k12
noncomputable def k11 (K : VK) (y1 y3 y4 y5 y8 : Value) (w : World) : Prop := nav ann Try.prog 59 (fun c Q => vcCode ann Try.prog 59 c Q [(1, y1), (3, y3), (4, y4), (5, y5), (8, y8)] w) [1, 1, 1, 1, 1, 0, 1, 0, 0, 1, 1] code (top K)
attribute [irreducible] k11
noncomputable def l14 (K : VK) (y1 y3 y4 y5 y8 y9 y43 y44 y45 : Value) (w : World) : Prop := nav ann Try.prog 59 (isLoop ann Try.prog 59 [(1, y1), (3, y3), (4, y4), (5, y5), (8, y8), (9, y9), (43, y43), (44, y44), (45, y45)] w) [1, 1, 1, 1, 1, 0, 1, 0, 0, 1, 0, 0, 1, 1, 0] code (top K)
attribute [irreducible] l14
noncomputable def k15 (K : VK) (y1 y3 y4 y5 y8 y9 y43 y44 y45 : Value) (w : World) : Prop := nav ann Try.prog 59 (fun c Q => vcCode ann Try.prog 59 c Q [(1, y1), (3, y3), (4, y4), (5, y5), (8, y8), (9, y9), (43, y43), (44, y44), (45, y45)] w) [1, 1, 1, 1, 1, 0, 1, 0, 0, 1, 0, 0, 1, 1, 0, 0, 1, 1] code (top K)
attribute [irreducible] k15
noncomputable def k17 (K : VK) (y1 y3 y4 y5 y8 y9 y43 y44 y45 : Value) (w : World) : Prop := nav ann Try.prog 59 (fun c Q => vcCode ann Try.prog 59 c Q [(1, y1), (3, y3), (4, y4), (5, y5), (8, y8), (9, y9), (43, y43), (44, y44), (45, y45)] w) [1, 1, 1, 1, 1, 0, 1, 0, 0, 1, 0, 0, 1, 1, 0, 0, 1, 1, 1] code (top K)
attribute [irreducible] k17
end F35
theorem F35.k9.to {K : VK} {y1 y3 y4 y5 : Value} {w : World} (h : (F35.l10 K y1 y3 y4 y5 (.int .i64 0) w)) : F35.k9 K y1 y3 y4 y5 w := Eq.mpr (by kernel_rfl) h
theorem F35.l5.to {K : VK} {y1 y3 y4 y5 y19 y20 y21 : Value} {w : World} (h : (C.int .lss y21 y20 w fun x22_1 w1 =>
  C.ite x22_1 (F35.k6 K y1 y3 y4 y5 y19 y20 y21 w1) (F35.k9 K y1 y3 y4 y5 w1))) : F35.l5 K y1 y3 y4 y5 y19 y20 y21 w := by unfold F35.l5; exact nav_round (Eq.mpr (by kernel_rfl) h)
theorem F35.k6.to {K : VK} {y1 y3 y4 y5 y19 y20 y21 : Value} {w : World} (h : (C.idx 1 y19 y21 w fun x23_1 w1 =>
  C.load1 x23_1 w1 fun x24_2 w2 =>
  vcCall Try.prog y5 [x24_2, (.int .i64 0)] w2 fun x27_3 w3 =>
  F35.k8 K y1 y3 y4 y5 y19 y20 y21 w3)) : F35.k6 K y1 y3 y4 y5 y19 y20 y21 w := Eq.mpr (by kernel_rfl) h
theorem F35.k8.to {K : VK} {y1 y3 y4 y5 y19 y20 y21 : Value} {w : World} (h : (C.int .add y21 (.int .i64 1) w fun x28_1 w1 =>
  F35.l5 K y1 y3 y4 y5 y19 y20 x28_1 w1)) : F35.k8 K y1 y3 y4 y5 y19 y20 y21 w := Eq.mpr (by kernel_rfl) h
theorem F35.k18.to {K : VK} {y3 : Value} {w : World} (h : (C.load1 y3 w fun x58_1 w1 =>
  K x58_1 w1)) : F35.k18 K y3 w := Eq.mpr (by kernel_rfl) h
theorem F35.l10.to {K : VK} {y1 y3 y4 y5 y8 : Value} {w : World} (h : (C.load1 y4 w fun x30_1 w1 =>
  C.len x30_1 w1 fun x31_2 w2 =>
  C.int .lss y8 x31_2 w2 fun x32_3 w3 =>
  C.ite x32_3 (F35.k12 K y1 y3 y4 y5 y8 w3) (F35.k18 K y3 w3))) : F35.l10 K y1 y3 y4 y5 y8 w := by unfold F35.l10; exact nav_round (Eq.mpr (by kernel_rfl) h)
theorem F35.k12.to {K : VK} {y1 y3 y4 y5 y8 : Value} {w : World} (h : (C.load1 y4 w fun x35_1 w1 =>
  C.idx 1 x35_1 y8 w1 fun x37_2 w2 =>
  C.load1 x37_2 w2 fun x38_3 w3 =>
  C.field 0 y1 w3 fun x39_4 w4 =>
  C.load1 x39_4 w4 fun x40_5 w5 =>
  C.idx 1 x40_5 x38_3 w5 fun x42_6 w6 =>
  C.load1 x42_6 w6 fun x43_7 w7 =>
  C.len x43_7 w7 fun x44_8 w8 =>
  F35.l14 K y1 y3 y4 y5 y8 x38_3 x43_7 x44_8 (.int .i64 0) w8)) : F35.k12 K y1 y3 y4 y5 y8 w := Eq.mpr (by kernel_rfl) h
theorem F35.k11.to {K : VK} {y1 y3 y4 y5 y8 : Value} {w : World} (h : (C.int .add y8 (.int .i64 1) w fun x34_1 w1 =>
  F35.l10 K y1 y3 y4 y5 x34_1 w1)) : F35.k11 K y1 y3 y4 y5 y8 w := Eq.mpr (by kernel_rfl) h
theorem F35.l14.to {K : VK} {y1 y3 y4 y5 y8 y9 y43 y44 y45 : Value} {w : World} (h : (C.int .lss y45 y44 w fun x46_1 w1 =>
  C.ite x46_1 (F35.k15 K y1 y3 y4 y5 y8 y9 y43 y44 y45 w1) (F35.k11 K y1 y3 y4 y5 y8 w1))) : F35.l14 K y1 y3 y4 y5 y8 y9 y43 y44 y45 w := by unfold F35.l14; exact nav_round (Eq.mpr (by kernel_rfl) h)
theorem F35.k15.to {K : VK} {y1 y3 y4 y5 y8 y9 y43 y44 y45 : Value} {w : World} (h : (C.idx 1 y43 y45 w fun x47_1 w1 =>
  C.load1 x47_1 w1 fun x48_2 w2 =>
  C.load1 y3 w2 fun x51_3 w3 =>
  C.idx 1 x51_3 y9 w3 fun x53_4 w4 =>
  C.load1 x53_4 w4 fun x54_5 w5 =>
  C.int .add x54_5 (.int .i64 1) w5 fun x55_6 w6 =>
  vcCall Try.prog y5 [x48_2, x55_6] w6 fun x56_7 w7 =>
  F35.k17 K y1 y3 y4 y5 y8 y9 y43 y44 y45 w7)) : F35.k15 K y1 y3 y4 y5 y8 y9 y43 y44 y45 w := Eq.mpr (by kernel_rfl) h
theorem F35.k17.to {K : VK} {y1 y3 y4 y5 y8 y9 y43 y44 y45 : Value} {w : World} (h : (C.int .add y45 (.int .i64 1) w fun x57_1 w1 =>
  F35.l14 K y1 y3 y4 y5 y8 y9 y43 y44 x57_1 w1)) : F35.k17 K y1 y3 y4 y5 y8 y9 y43 y44 y45 w := Eq.mpr (by kernel_rfl) h
theorem F35.sh {K : VK} {x0 : Value} {w : World} (h : (C.new (.cells (Value.cells x0) 46) w fun x1_1 w1 =>
  C.run Try.prog (Instr.buildSlice 44 1 #[(0, (.int .i64 (-1)))]) w1 fun x12_2 w2 =>
  C.field 0 x1_1 w2 fun x13_3 w3 =>
  C.load1 x13_3 w3 fun x14_4 w4 =>
  C.len x14_4 w4 fun x15_5 w5 =>
  C.call Try.prog 65 #[x12_2, x15_5] w5 fun x16_6 w6 =>
  C.new (.cells #[.slice none 0 0] 44) w6 fun x3_7 w7 =>
  C.store 1 x3_7 x16_6 w7 fun w8 =>
  C.new (.cells #[.slice none 0 0] 44) w8 fun x4_9 w9 =>
  C.field 1 x1_1 w9 fun x18_10 w10 =>
  C.load1 x18_10 w10 fun x19_11 w11 =>
  C.len x19_11 w11 fun x20_12 w12 =>
  F35.l5 K x1_1 x3_7 x4_9 (.func (.func 69) #[] #[x1_1, x3_7, x4_9]) x19_11 x20_12 (.int .i64 0) w12)) : C.call Try.prog 35 #[x0] w K := calls_of_vc (A := F35.ann) (args := [x0]) (Eq.mpr (by kernel_rfl) h)

/-! ### 36 scutage/reach.Nodes (46) -/
namespace F36
def ann : Ann := ⟨[], [], [], [], none⟩
noncomputable def code : Code := match Try.f36.body with | some c => c | none => .skip
noncomputable def top (K : VK) : QE := retQ Try.prog Try.f36.results.toList K
end F36
theorem F36.sh {K : VK} {x0 : Value} {w : World} (h : (C.new (.cells (Value.cells x0) 46) w fun x1_1 w1 =>
  C.loadA 2 x1_1 w1 fun x3_2 w2 =>
  C.call Try.prog 71 #[x3_2, (.func (.func 72) #[] #[])] w2 fun x4_3 w3 =>
  K x4_3 w3)) : C.call Try.prog 36 #[x0] w K := calls_of_vc (A := F36.ann) (args := [x0]) (Eq.mpr (by kernel_rfl) h)

/-! ### 37 scutage/reach.Dead (46) -/
namespace F37
def ann : Ann := ⟨[], [], [], [], none⟩
noncomputable def code : Code := match Try.f37.body with | some c => c | none => .skip
noncomputable def top (K : VK) : QE := retQ Try.prog Try.f37.results.toList K
end F37
theorem F37.sh {K : VK} {x0 : Value} {w : World} (h : (C.new (.cells (Value.cells x0) 46) w fun x1_1 w1 =>
  C.loadA 2 x1_1 w1 fun x3_2 w2 =>
  C.call Try.prog 71 #[x3_2, (.func (.func 73) #[] #[])] w2 fun x4_3 w3 =>
  K x4_3 w3)) : C.call Try.prog 37 #[x0] w K := calls_of_vc (A := F37.ann) (args := [x0]) (Eq.mpr (by kernel_rfl) h)

/-! ### 66 scutage/scutageref33.Is (52, 3) -/
namespace F66
def ann : Ann := ⟨[], [], [], [], none⟩
noncomputable def code : Code := match Try.f66.body with | some c => c | none => .skip
noncomputable def top (K : VK) : QE := retQ Try.prog Try.f66.results.toList K
end F66
theorem F66.sh {K : VK} {x0 x1 : Value} {w : World} (h : (C.new (.cells (Value.cells x0) 52) w fun x2_1 w1 =>
  C.int .geq x1 (.int .i64 0) w1 fun x6_2 w2 =>
  C.guarded true x6_2 (fun K => K x1 w2) w2 fun x8_3 w3 =>
  C.guarded true x6_2 (fun K => C.field 0 x2_1 w3 K) w3 fun x9_4 w4 =>
  C.guarded true x6_2 (fun K => C.load1 x9_4 w4 K) w4 fun x10_5 w5 =>
  C.guarded true x6_2 (fun K => C.len x10_5 w5 K) w5 fun x11_6 w6 =>
  C.guarded true x6_2 (fun K => C.int .lss x8_3 x11_6 w6 K) w6 fun x12_7 w7 =>
  C.pick (some x6_2) (some x12_7) (some (.bool false)) w7 fun x13_8 w8 =>
  K x13_8 w8)) : C.call Try.prog 66 #[x0, x1] w K := calls_of_vc (A := F66.ann) (args := [x0, x1]) (Eq.mpr (by kernel_rfl) h)

/-! ### 67 scutage/reach.Without (46, 3) -/
namespace F67
def ann : Ann := ⟨[(6, [3, 4, 5, 6, 16, 17, 18]), (9, [3, 4, 5, 6, 8, 16, 17, 18]), (10, [3, 4, 5, 6, 16, 17, 18]), (11, [4, 5])], [(5, [3, 4, 5, 6, 16, 17, 18])], [], [(9, (.take 0 (.take 2 (.take 3 (.go 1 (.go 4 (.go 5 (.go 6 (.take 7 (.go 8 .fin .fin)) .fin) .fin) .fin) (.go 4 (.go 1 (.go 5 (.go 6 (.take 7 (.go 8 .fin .fin)) .fin) .fin) (.go 5 (.go 1 (.go 6 (.take 7 (.go 8 .fin .fin)) .fin) .fin) .fin)) .fin))))))], none⟩
noncomputable def code : Code := match Try.f67.body with | some c => c | none => .skip
noncomputable def top (K : VK) : QE := retQ Try.prog Try.f67.results.toList K
noncomputable def k11 (K : VK) (y4 y5 : Value) (w : World) : Prop := nav ann Try.prog 36 (fun c Q => vcCode ann Try.prog 36 c Q [(4, y4), (5, y5)] w) [1, 1, 1, 1, 1] code (top K)
attribute [irreducible] k11
noncomputable def l5 (K : VK) (y3 y4 y5 y6 y16 y17 y18 : Value) (w : World) : Prop := nav ann Try.prog 36 (isLoop ann Try.prog 36 [(3, y3), (4, y4), (5, y5), (6, y6), (16, y16), (17, y17), (18, y18)] w) [1, 1, 1, 1, 0, 1, 0] code (top K)
attribute [irreducible] l5
noncomputable def k6 (K : VK) (y3 y4 y5 y6 y16 y17 y18 : Value) (w : World) : Prop := nav ann Try.prog 36 (fun c Q => vcCode ann Try.prog 36 c Q [(3, y3), (4, y4), (5, y5), (6, y6), (16, y16), (17, y17), (18, y18)] w) [1, 1, 1, 1, 0, 1, 0, 0, 1, 1] code (top K)
attribute [irreducible] k6
noncomputable def k10 (K : VK) (y3 y4 y5 y6 y16 y17 y18 : Value) (w : World) : Prop := nav ann Try.prog 36 (fun c Q => vcCode ann Try.prog 36 c Q [(3, y3), (4, y4), (5, y5), (6, y6), (16, y16), (17, y17), (18, y18)] w) [1, 1, 1, 1, 0, 1, 0, 0, 1, 1, 1] code (top K)
attribute [irreducible] k10
noncomputable def k9 (K : VK) (y3 y4 y5 y6 y8 y16 y17 y18 : Value) (w : World) : Prop := nav ann Try.prog 36 (fun c Q => vcCode ann Try.prog 36 c Q [(3, y3), (4, y4), (5, y5), (6, y6), (8, y8), (16, y16), (17, y17), (18, y18)] w) [1, 1, 1, 1, 0, 1, 0, 0, 1, 1, 0, 0, 1, 1] code (top K)
attribute [irreducible] k9
end F67
theorem F67.k11.to {K : VK} {y4 y5 : Value} {w : World} (h : (C.loadA 2 y5 w fun x35_1 w1 =>
  C.store 2 y4 x35_1 w1 fun w2 =>
  C.loadA 2 y4 w2 fun r3 _ =>
  K r3 w2)) : F67.k11 K y4 y5 w := Eq.mpr (by kernel_rfl) h
theorem F67.l5.to {K : VK} {y3 y4 y5 y6 y16 y17 y18 : Value} {w : World} (h : (C.int .lss y18 y17 w fun x19_1 w1 =>
  C.ite x19_1 (F67.k6 K y3 y4 y5 y6 y16 y17 y18 w1) (F67.k11 K y4 y5 w1))) : F67.l5 K y3 y4 y5 y6 y16 y17 y18 w := by unfold F67.l5; exact nav_round (Eq.mpr (by kernel_rfl) h)
theorem F67.k6.to {K : VK} {y3 y4 y5 y6 y16 y17 y18 : Value} {w : World} (h : (C.idx 1 y16 y18 w fun x21_1 w1 =>
  C.load1 x21_1 w1 fun x22_2 w2 =>
  C.load1 y3 w2 fun x24_3 w3 =>
  C.int .eql y18 x24_3 w3 fun x25_4 w4 =>
  C.ite x25_4 (F67.k9 K y3 y4 y5 y6 (.slice none 0 0) y16 y17 y18 w4) (F67.k9 K y3 y4 y5 y6 x22_2 y16 y17 y18 w4))) : F67.k6 K y3 y4 y5 y6 y16 y17 y18 w := Eq.mpr (by kernel_rfl) h
theorem F67.k10.to {K : VK} {y3 y4 y5 y6 y16 y17 y18 : Value} {w : World} (h : (C.int .add y18 (.int .i64 1) w fun x34_1 w1 =>
  F67.l5 K y3 y4 y5 y6 y16 y17 x34_1 w1)) : F67.k10 K y3 y4 y5 y6 y16 y17 y18 w := Eq.mpr (by kernel_rfl) h
theorem F67.k9.to {K : VK} {y3 y4 y5 y6 y8 y16 y17 y18 : Value} {w : World} (h : (C.draw w fun S w1 =>
  C.field 0 y5 w1 fun x26_2 w2 =>
  (C.load1 x26_2 w2 fun x27_14 w14 =>
  (S w14 ∧
  (C.plainFn y6 (vcCall Try.prog y6 [y8] w14 fun x30_15 w15 =>
  (S w15 ∧
  (C.run Try.prog (Instr.buildSlice 43 1 #[(0, x30_15)]) w15 fun x31_16 w16 =>
  (S w16 ∧
  (C.run Try.prog (Builtin.append_ #[43, 43] 43 #[x27_14, x31_16]) w16 fun x32_17 w17 =>
  (S w17 ∧
  C.field 0 y5 w17 fun x33_18 w18 =>
  (C.store 1 x33_18 x32_17 w18 fun w19 =>
  (S w19 ∧
  F67.k10 K y3 y4 y5 y6 y16 y17 y18 w19)) ∧ True)) ∧ True)) ∧ True))) ∧ True)) ∧ ((C.plainFn y6 (vcCall Try.prog y6 [y8] w2 fun x30_3 w3 =>
  (S w3 ∧
  (C.load1 x26_2 w3 fun x27_9 w9 =>
  (S w9 ∧
  (C.run Try.prog (Instr.buildSlice 43 1 #[(0, x30_3)]) w9 fun x31_10 w10 =>
  (S w10 ∧
  (C.run Try.prog (Builtin.append_ #[43, 43] 43 #[x27_9, x31_10]) w10 fun x32_11 w11 =>
  (S w11 ∧
  C.field 0 y5 w11 fun x33_12 w12 =>
  (C.store 1 x33_12 x32_11 w12 fun w13 =>
  (S w13 ∧
  F67.k10 K y3 y4 y5 y6 y16 y17 y18 w13)) ∧ True)) ∧ True)) ∧ True)) ∧ ((C.run Try.prog (Instr.buildSlice 43 1 #[(0, x30_3)]) w3 fun x31_4 w4 =>
  (S w4 ∧
  (C.load1 x26_2 w4 fun x27_5 w5 =>
  (S w5 ∧
  (C.run Try.prog (Builtin.append_ #[43, 43] 43 #[x27_5, x31_4]) w5 fun x32_6 w6 =>
  (S w6 ∧
  C.field 0 y5 w6 fun x33_7 w7 =>
  (C.store 1 x33_7 x32_6 w7 fun w8 =>
  (S w8 ∧
  F67.k10 K y3 y4 y5 y6 y16 y17 y18 w8)) ∧ True)) ∧ True)) ∧ True)) ∧ True)))) ∧ True))) : F67.k9 K y3 y4 y5 y6 y8 y16 y17 y18 w := Eq.mpr (by kernel_rfl) h
theorem F67.sh {K : VK} {x0 x1 : Value} {w : World} (h : (C.new (.cells (Value.cells x0) 46) w fun x2_1 w1 =>
  C.new (.cells (Value.cells x1) 3) w1 fun x3_2 w2 =>
  C.new (.cells #[.slice none 0 0, .slice none 0 0] 46) w2 fun x4_3 w3 =>
  C.new (.cells #[.slice none 0 0, .slice none 0 0] 46) w3 fun x5_4 w4 =>
  C.field 1 x2_1 w4 fun x11_5 w5 =>
  C.load1 x11_5 w5 fun x12_6 w6 =>
  C.call Try.prog 94 #[x12_6, x3_2, x2_1] w6 fun x13_7 w7 =>
  C.field 1 x5_4 w7 fun x14_8 w8 =>
  C.store 1 x14_8 x13_7 w8 fun w9 =>
  C.field 0 x2_1 w9 fun x15_10 w10 =>
  C.load1 x15_10 w10 fun x16_11 w11 =>
  C.len x16_11 w11 fun x17_12 w12 =>
  F67.l5 K x3_2 x4_3 x5_4 (.func (.func 94) #[] #[x3_2, x2_1]) x16_11 x17_12 (.int .i64 0) w12)) : C.call Try.prog 67 #[x0, x1] w K := calls_of_vc (A := F67.ann) (args := [x0, x1]) (Eq.mpr (by kernel_rfl) h)

/-! ### 68 scutage/reach.Back (46) -/
namespace F68
def ann : Ann := ⟨[(4, [1, 3, 13, 14, 15]), (7, [1, 3, 4, 13, 14, 15, 20, 21, 22]), (10, [1, 3, 4, 13, 14, 15, 20, 21, 22]), (11, [1, 3, 13, 14, 15]), (12, [3])], [(3, [1, 3, 13, 14, 15]), (6, [1, 3, 4, 13, 14, 15, 20, 21, 22])], [], [], none⟩
noncomputable def code : Code := match Try.f68.body with | some c => c | none => .skip
noncomputable def top (K : VK) : QE := retQ Try.prog Try.f68.results.toList K
noncomputable def k12 (K : VK) (y3 : Value) (w : World) : Prop := nav ann Try.prog 51 (fun c Q => vcCode ann Try.prog 51 c Q [(3, y3)] w) [1, 1, 1] code (top K)
attribute [irreducible] k12
noncomputable def l3 (K : VK) (y1 y3 y13 y14 y15 : Value) (w : World) : Prop := nav ann Try.prog 51 (isLoop ann Try.prog 51 [(1, y1), (3, y3), (13, y13), (14, y14), (15, y15)] w) [1, 1, 0, 1, 0] code (top K)
attribute [irreducible] l3
noncomputable def k4 (K : VK) (y1 y3 y13 y14 y15 : Value) (w : World) : Prop := nav ann Try.prog 51 (fun c Q => vcCode ann Try.prog 51 c Q [(1, y1), (3, y3), (13, y13), (14, y14), (15, y15)] w) [1, 1, 0, 1, 0, 0, 1, 1] code (top K)
attribute [irreducible] k4
noncomputable def k11 (K : VK) (y1 y3 y13 y14 y15 : Value) (w : World) : Prop := nav ann Try.prog 51 (fun c Q => vcCode ann Try.prog 51 c Q [(1, y1), (3, y3), (13, y13), (14, y14), (15, y15)] w) [1, 1, 0, 1, 0, 0, 1, 1, 1] code (top K)
attribute [irreducible] k11
noncomputable def l6 (K : VK) (y1 y3 y4 y13 y14 y15 y20 y21 y22 : Value) (w : World) : Prop := nav ann Try.prog 51 (isLoop ann Try.prog 51 [(1, y1), (3, y3), (4, y4), (13, y13), (14, y14), (15, y15), (20, y20), (21, y21), (22, y22)] w) [1, 1, 0, 1, 0, 0, 1, 1, 0, 0, 1, 1, 0] code (top K)
attribute [irreducible] l6
noncomputable def k7 (K : VK) (y1 y3 y4 y13 y14 y15 y20 y21 y22 : Value) (w : World) : Prop := nav ann Try.prog 51 (fun c Q => vcCode ann Try.prog 51 c Q [(1, y1), (3, y3), (4, y4), (13, y13), (14, y14), (15, y15), (20, y20), (21, y21), (22, y22)] w) [1, 1, 0, 1, 0, 0, 1, 1, 0, 0, 1, 1, 0, 0, 1, 1] code (top K)
attribute [irreducible] k7
noncomputable def k10 (K : VK) (y1 y3 y4 y13 y14 y15 y20 y21 y22 : Value) (w : World) : Prop := nav ann Try.prog 51 (fun c Q => vcCode ann Try.prog 51 c Q [(1, y1), (3, y3), (4, y4), (13, y13), (14, y14), (15, y15), (20, y20), (21, y21), (22, y22)] w) [1, 1, 0, 1, 0, 0, 1, 1, 0, 0, 1, 1, 0, 0, 1, 1, 1] code (top K)
attribute [irreducible] k10
end F68
theorem F68.k12.to {K : VK} {y3 : Value} {w : World} (h : (K y3 w)) : F68.k12 K y3 w := Eq.mpr (by kernel_rfl) h
theorem F68.l3.to {K : VK} {y1 y3 y13 y14 y15 : Value} {w : World} (h : (C.int .lss y15 y14 w fun x16_1 w1 =>
  C.ite x16_1 (F68.k4 K y1 y3 y13 y14 y15 w1) (F68.k12 K y3 w1))) : F68.l3 K y1 y3 y13 y14 y15 w := by unfold F68.l3; exact nav_round (Eq.mpr (by kernel_rfl) h)
theorem F68.k4.to {K : VK} {y1 y3 y13 y14 y15 : Value} {w : World} (h : (C.idx 1 y13 y15 w fun x18_1 w1 =>
  C.load1 x18_1 w1 fun x19_2 w2 =>
  C.len x19_2 w2 fun x21_3 w3 =>
  F68.l6 K y1 y3 y15 y13 y14 y15 x19_2 x21_3 (.int .i64 0) w3)) : F68.k4 K y1 y3 y13 y14 y15 w := Eq.mpr (by kernel_rfl) h
theorem F68.k11.to {K : VK} {y1 y3 y13 y14 y15 : Value} {w : World} (h : (C.int .add y15 (.int .i64 1) w fun x49_1 w1 =>
  F68.l3 K y1 y3 y13 y14 x49_1 w1)) : F68.k11 K y1 y3 y13 y14 y15 w := Eq.mpr (by kernel_rfl) h
theorem F68.l6.to {K : VK} {y1 y3 y4 y13 y14 y15 y20 y21 y22 : Value} {w : World} (h : (C.int .lss y22 y21 w fun x23_1 w1 =>
  C.ite x23_1 (F68.k7 K y1 y3 y4 y13 y14 y15 y20 y21 y22 w1) (F68.k11 K y1 y3 y13 y14 y15 w1))) : F68.l6 K y1 y3 y4 y13 y14 y15 y20 y21 y22 w := by unfold F68.l6; exact nav_round (Eq.mpr (by kernel_rfl) h)
theorem F68.k7.to {K : VK} {y1 y3 y4 y13 y14 y15 y20 y21 y22 : Value} {w : World} (h : (C.idx 1 y20 y22 w fun x24_1 w1 =>
  C.load1 x24_1 w1 fun x25_2 w2 =>
  C.loadA 2 y1 w2 fun x26_3 w3 =>
  C.call Try.prog 70 #[x26_3, x25_2] w3 fun x28_4 w4 =>
  C.guarded true x28_4 (fun K => K y3 w4) w4 fun x30_5 w5 =>
  C.guarded true x28_4 (fun K => K x25_2 w5) w5 fun x31_6 w6 =>
  C.guarded true x28_4 (fun K => C.idx 1 x30_5 x31_6 w6 K) w6 fun x32_7 w7 =>
  C.guarded true x28_4 (fun K => C.load1 x32_7 w7 K) w7 fun x33_8 w8 =>
  C.guarded true x28_4 (fun K => K y4 w8) w8 fun x34_9 w9 =>
  C.guarded true x28_4 (fun K => C.call Try.prog 63 #[x33_8, x34_9] w9 K) w9 fun x35_10 w10 =>
  C.guarded true x28_4 (fun K => C.not x35_10 w10 K) w10 fun x36_11 w11 =>
  C.pick (some x28_4) (some x36_11) (some (.bool false)) w11 fun x37_12 w12 =>
  C.ite x37_12 (C.idx 1 y3 x25_2 w12 fun x42_13 w13 =>
  C.load1 x42_13 w13 fun x43_14 w14 =>
  C.run Try.prog (Instr.buildSlice 44 1 #[(0, y4)]) w14 fun x45_15 w15 =>
  C.run Try.prog (Builtin.append_ #[44, 44] 44 #[x43_14, x45_15]) w15 fun x46_16 w16 =>
  C.idx 1 y3 x25_2 w16 fun x47_17 w17 =>
  C.store 1 x47_17 x46_16 w17 fun w18 =>
  F68.k10 K y1 y3 y4 y13 y14 y15 y20 y21 y22 w18) (F68.k10 K y1 y3 y4 y13 y14 y15 y20 y21 y22 w12))) : F68.k7 K y1 y3 y4 y13 y14 y15 y20 y21 y22 w := Eq.mpr (by kernel_rfl) h
theorem F68.k10.to {K : VK} {y1 y3 y4 y13 y14 y15 y20 y21 y22 : Value} {w : World} (h : (C.int .add y22 (.int .i64 1) w fun x48_1 w1 =>
  F68.l6 K y1 y3 y4 y13 y14 y15 y20 y21 x48_1 w1)) : F68.k10 K y1 y3 y4 y13 y14 y15 y20 y21 y22 w := Eq.mpr (by kernel_rfl) h
theorem F68.sh {K : VK} {x0 : Value} {w : World} (h : (C.new (.cells (Value.cells x0) 46) w fun x1_1 w1 =>
  C.field 0 x1_1 w1 fun x8_2 w2 =>
  C.load1 x8_2 w2 fun x9_3 w3 =>
  C.len x9_3 w3 fun x10_4 w4 =>
  C.run Try.prog (Instr.makeSlice 43 x10_4 x10_4) w4 fun x11_5 w5 =>
  C.field 0 x1_1 w5 fun x12_6 w6 =>
  C.load1 x12_6 w6 fun x13_7 w7 =>
  C.len x13_7 w7 fun x14_8 w8 =>
  F68.l3 K x1_1 x11_5 x13_7 x14_8 (.int .i64 0) w8)) : C.call Try.prog 68 #[x0] w K := calls_of_vc (A := F68.ann) (args := [x0]) (Eq.mpr (by kernel_rfl) h)

/-! ### 69 scutage/reach.Dist$1 (3, 3) -/
namespace F69
def ann : Ann := ⟨[], [], [], [], none⟩
noncomputable def code : Code := match Try.f69.body with | some c => c | none => .skip
noncomputable def top (K : VK) : QE := retQ Try.prog Try.f69.results.toList K
end F69
theorem F69.sh {K : VK} {x0 x1 x2 x3 x4 : Value} {w : World} (h : (C.loadA 2 x2 w fun x7_1 w1 =>
  C.call Try.prog 70 #[x7_1, x0] w1 fun x9_2 w2 =>
  C.guarded true x9_2 (fun K => C.load1 x3 w2 K) w2 fun x11_3 w3 =>
  C.guarded true x9_2 (fun K => K x0 w3) w3 fun x12_4 w4 =>
  C.guarded true x9_2 (fun K => C.idx 1 x11_3 x12_4 w4 K) w4 fun x13_5 w5 =>
  C.guarded true x9_2 (fun K => C.load1 x13_5 w5 K) w5 fun x14_6 w6 =>
  C.guarded true x9_2 (fun K => C.int .eql x14_6 (.int .i64 (-1)) w6 K) w6 fun x15_7 w7 =>
  C.pick (some x9_2) (some x15_7) (some (.bool false)) w7 fun x16_8 w8 =>
  C.ite x16_8 (C.load1 x3 w8 fun x17_9 w9 =>
  C.idx 1 x17_9 x0 w9 fun x20_10 w10 =>
  C.store 1 x20_10 x1 w10 fun w11 =>
  C.load1 x4 w11 fun x21_12 w12 =>
  C.run Try.prog (Instr.buildSlice 44 1 #[(0, x0)]) w12 fun x23_13 w13 =>
  C.run Try.prog (Builtin.append_ #[44, 44] 44 #[x21_12, x23_13]) w13 fun x24_14 w14 =>
  C.store 1 x4 x24_14 w14 fun w15 =>
  K (.tuple #[]) w15) (K (.tuple #[]) w8))) : C.call Try.prog 69 #[x0, x1, x2, x3, x4] w K := calls_of_vc (A := F69.ann) (args := [x0, x1, x2, x3, x4]) (Eq.mpr (by kernel_rfl) h)

/-! ### 70 (scutage/reach.Graph).is (46, 3) -/
namespace F70
def ann : Ann := ⟨[], [], [], [], none⟩
noncomputable def code : Code := match Try.f70.body with | some c => c | none => .skip
noncomputable def top (K : VK) : QE := retQ Try.prog Try.f70.results.toList K
end F70
theorem F70.sh {K : VK} {x0 x1 : Value} {w : World} (h : (C.new (.cells (Value.cells x0) 46) w fun x2_1 w1 =>
  C.int .geq x1 (.int .i64 0) w1 fun x6_2 w2 =>
  C.guarded true x6_2 (fun K => K x1 w2) w2 fun x8_3 w3 =>
  C.guarded true x6_2 (fun K => C.field 0 x2_1 w3 K) w3 fun x9_4 w4 =>
  C.guarded true x6_2 (fun K => C.load1 x9_4 w4 K) w4 fun x10_5 w5 =>
  C.guarded true x6_2 (fun K => C.len x10_5 w5 K) w5 fun x11_6 w6 =>
  C.guarded true x6_2 (fun K => C.int .lss x8_3 x11_6 w6 K) w6 fun x12_7 w7 =>
  C.pick (some x6_2) (some x12_7) (some (.bool false)) w7 fun x13_8 w8 =>
  K x13_8 w8)) : C.call Try.prog 70 #[x0, x1] w K := calls_of_vc (A := F70.ann) (args := [x0, x1]) (Eq.mpr (by kernel_rfl) h)

/-! ### 71 scutage/reach.where (46, 80) -/
namespace F71
def ann : Ann := ⟨[(4, [1, 5, 9, 10, 11]), (7, [1, 5, 9, 10, 11]), (8, [5])], [(3, [1, 5, 9, 10, 11])], [], [], none⟩
noncomputable def code : Code := match Try.f71.body with | some c => c | none => .skip
noncomputable def top (K : VK) : QE := retQ Try.prog Try.f71.results.toList K
noncomputable def k8 (K : VK) (y5 : Value) (w : World) : Prop := nav ann Try.prog 25 (fun c Q => vcCode ann Try.prog 25 c Q [(5, y5)] w) [1, 1, 1] code (top K)
attribute [irreducible] k8
noncomputable def l3 (K : VK) (y1 y5 y9 y10 y11 : Value) (w : World) : Prop := nav ann Try.prog 25 (isLoop ann Try.prog 25 [(1, y1), (5, y5), (9, y9), (10, y10), (11, y11)] w) [1, 1, 0, 1, 0] code (top K)
attribute [irreducible] l3
noncomputable def k4 (K : VK) (y1 y5 y9 y10 y11 : Value) (w : World) : Prop := nav ann Try.prog 25 (fun c Q => vcCode ann Try.prog 25 c Q [(1, y1), (5, y5), (9, y9), (10, y10), (11, y11)] w) [1, 1, 0, 1, 0, 0, 1, 1] code (top K)
attribute [irreducible] k4
noncomputable def k7 (K : VK) (y1 y5 y9 y10 y11 : Value) (w : World) : Prop := nav ann Try.prog 25 (fun c Q => vcCode ann Try.prog 25 c Q [(1, y1), (5, y5), (9, y9), (10, y10), (11, y11)] w) [1, 1, 0, 1, 0, 0, 1, 1, 1] code (top K)
attribute [irreducible] k7
end F71
theorem F71.k8.to {K : VK} {y5 : Value} {w : World} (h : (K y5 w)) : F71.k8 K y5 w := Eq.mpr (by kernel_rfl) h
theorem F71.l3.to {K : VK} {y1 y5 y9 y10 y11 : Value} {w : World} (h : (C.int .lss y11 y10 w fun x12_1 w1 =>
  C.ite x12_1 (F71.k4 K y1 y5 y9 y10 y11 w1) (F71.k8 K y5 w1))) : F71.l3 K y1 y5 y9 y10 y11 w := by unfold F71.l3; exact nav_round (Eq.mpr (by kernel_rfl) h)
theorem F71.k4.to {K : VK} {y1 y5 y9 y10 y11 : Value} {w : World} (h : (C.idx 1 y9 y11 w fun x14_1 w1 =>
  C.load1 x14_1 w1 fun x15_2 w2 =>
  vcCall Try.prog y1 [x15_2] w2 fun x18_3 w3 =>
  C.ite x18_3 (C.run Try.prog (Instr.buildSlice 44 1 #[(0, y11)]) w3 fun x21_4 w4 =>
  C.run Try.prog (Builtin.append_ #[44, 44] 44 #[y5, x21_4]) w4 fun x22_5 w5 =>
  F71.k7 K y1 x22_5 y9 y10 y11 w5) (F71.k7 K y1 y5 y9 y10 y11 w3))) : F71.k4 K y1 y5 y9 y10 y11 w := Eq.mpr (by kernel_rfl) h
theorem F71.k7.to {K : VK} {y1 y5 y9 y10 y11 : Value} {w : World} (h : (C.int .add y11 (.int .i64 1) w fun x23_1 w1 =>
  F71.l3 K y1 y5 y9 y10 x23_1 w1)) : F71.k7 K y1 y5 y9 y10 y11 w := Eq.mpr (by kernel_rfl) h
theorem F71.sh {K : VK} {x0 x1 : Value} {w : World} (h : (C.new (.cells (Value.cells x0) 46) w fun x2_1 w1 =>
  C.loadA 2 x2_1 w1 fun x8_2 w2 =>
  C.call Try.prog 35 #[x8_2] w2 fun x9_3 w3 =>
  C.len x9_3 w3 fun x10_4 w4 =>
  F71.l3 K x1 (.slice none 0 0) x9_3 x10_4 (.int .i64 0) w4)) : C.call Try.prog 71 #[x0, x1] w K := calls_of_vc (A := F71.ann) (args := [x0, x1]) (Eq.mpr (by kernel_rfl) h)

/-! ### 72 scutage/reach.Nodes$1 (3) -/
namespace F72
def ann : Ann := ⟨[], [], [], [], none⟩
noncomputable def code : Code := match Try.f72.body with | some c => c | none => .skip
noncomputable def top (K : VK) : QE := retQ Try.prog Try.f72.results.toList K
end F72
theorem F72.sh {K : VK} {x0 : Value} {w : World} (h : (C.int .neq x0 (.int .i64 (-1)) w fun x4_1 w1 =>
  K x4_1 w1)) : C.call Try.prog 72 #[x0] w K := calls_of_vc (A := F72.ann) (args := [x0]) (Eq.mpr (by kernel_rfl) h)

/-! ### 73 scutage/reach.Dead$1 (3) -/
namespace F73
def ann : Ann := ⟨[], [], [], [], none⟩
noncomputable def code : Code := match Try.f73.body with | some c => c | none => .skip
noncomputable def top (K : VK) : QE := retQ Try.prog Try.f73.results.toList K
end F73
theorem F73.sh {K : VK} {x0 : Value} {w : World} (h : (C.int .eql x0 (.int .i64 (-1)) w fun x4_1 w1 =>
  K x4_1 w1)) : C.call Try.prog 73 #[x0] w K := calls_of_vc (A := F73.ann) (args := [x0]) (Eq.mpr (by kernel_rfl) h)

/-! ### 9 scutage/scutagelaw33.ReachTells (46) -/
namespace F9
def ann : Ann := ⟨[(3, [1]), (8, [1, 3, 4, 5, 6]), (9, [1, 3, 4, 5, 6]), (12, [1, 3, 4, 5])], [(7, [1, 3, 4, 5, 6])], [], [], none⟩
noncomputable def code : Code := match Try.f9.body with | some c => c | none => .skip
noncomputable def top (K : VK) : QE := retQ Try.prog Try.f9.results.toList K
noncomputable def k3 (K : VK) (y1 : Value) (w : World) : Prop := nav ann Try.prog 49 (fun c Q => vcCode ann Try.prog 49 c Q [(1, y1)] w) [1, 1] code (top K)
attribute [irreducible] k3
noncomputable def k12 (K : VK) (y1 y3 y4 y5 : Value) (w : World) : Prop := nav ann Try.prog 49 (fun c Q => vcCode ann Try.prog 49 c Q [(1, y1), (3, y3), (4, y4), (5, y5)] w) [1, 1, 1, 1, 1, 1] code (top K)
attribute [irreducible] k12
noncomputable def l7 (K : VK) (y1 y3 y4 y5 y6 : Value) (w : World) : Prop := nav ann Try.prog 49 (isLoop ann Try.prog 49 [(1, y1), (3, y3), (4, y4), (5, y5), (6, y6)] w) [1, 1, 1, 1, 1, 0, 1, 0] code (top K)
attribute [irreducible] l7
noncomputable def k9 (K : VK) (y1 y3 y4 y5 y6 : Value) (w : World) : Prop := nav ann Try.prog 49 (fun c Q => vcCode ann Try.prog 49 c Q [(1, y1), (3, y3), (4, y4), (5, y5), (6, y6)] w) [1, 1, 1, 1, 1, 0, 1, 0, 0, 1] code (top K)
attribute [irreducible] k9
noncomputable def k8 (K : VK) (y1 y3 y4 y5 y6 : Value) (w : World) : Prop := nav ann Try.prog 49 (fun c Q => vcCode ann Try.prog 49 c Q [(1, y1), (3, y3), (4, y4), (5, y5), (6, y6)] w) [1, 1, 1, 1, 1, 0, 1, 0, 0, 1, 1] code (top K)
attribute [irreducible] k8
end F9
theorem F9.k3.to {K : VK} {y1 : Value} {w : World} (h : (C.loadA 2 y1 w fun x9_1 w1 =>
  C.call Try.prog 32 #[x9_1] w1 fun x10_2 w2 =>
  C.store 2 y1 x10_2 w2 fun w3 =>
  C.loadA 2 y1 w3 fun x11_4 w4 =>
  C.call Try.prog 33 #[x11_4] w4 fun x12_5 w5 =>
  C.call Try.prog 29 #[x12_5] w5 fun x13_6 w6 =>
  F9.l7 K y1 x13_6 (.slice none 0 0) (.slice none 0 0) (.int .i64 0) w6)) : F9.k3 K y1 w := Eq.mpr (by kernel_rfl) h
theorem F9.k12.to {K : VK} {y1 y3 y4 y5 : Value} {w : World} (h : (C.loadA 2 y1 w fun x33_1 w1 =>
  C.call Try.prog 35 #[x33_1] w1 fun x34_2 w2 =>
  C.call Try.prog 34 #[x34_2, y3] w2 fun x36_3 w3 =>
  C.guarded true x36_3 (fun K => C.loadA 2 y1 w3 K) w3 fun x38_4 w4 =>
  C.guarded true x36_3 (fun K => C.call Try.prog 36 #[x38_4] w4 K) w4 fun x39_5 w5 =>
  C.guarded true x36_3 (fun K => K y4 w5) w5 fun x40_6 w6 =>
  C.guarded true x36_3 (fun K => C.call Try.prog 34 #[x39_5, x40_6] w6 K) w6 fun x41_7 w7 =>
  C.pick (some x36_3) (some x41_7) (some (.bool false)) w7 fun x42_8 w8 =>
  C.guarded true x42_8 (fun K => C.loadA 2 y1 w8 K) w8 fun x44_9 w9 =>
  C.guarded true x42_8 (fun K => C.call Try.prog 37 #[x44_9] w9 K) w9 fun x45_10 w10 =>
  C.guarded true x42_8 (fun K => K y5 w10) w10 fun x46_11 w11 =>
  C.guarded true x42_8 (fun K => C.call Try.prog 34 #[x45_10, x46_11] w11 K) w11 fun x47_12 w12 =>
  C.pick (some x42_8) (some x47_12) (some (.bool false)) w12 fun x48_13 w13 =>
  K x48_13 w13)) : F9.k12 K y1 y3 y4 y5 w := Eq.mpr (by kernel_rfl) h
theorem F9.l7.to {K : VK} {y1 y3 y4 y5 y6 : Value} {w : World} (h : (C.len y3 w fun x16_1 w1 =>
  C.int .lss y6 x16_1 w1 fun x17_2 w2 =>
  C.ite x17_2 (F9.k9 K y1 y3 y4 y5 y6 w2) (F9.k12 K y1 y3 y4 y5 w2))) : F9.l7 K y1 y3 y4 y5 y6 w := by unfold F9.l7; exact nav_round (Eq.mpr (by kernel_rfl) h)
theorem F9.k9.to {K : VK} {y1 y3 y4 y5 y6 : Value} {w : World} (h : (C.idx 1 y3 y6 w fun x22_1 w1 =>
  C.load1 x22_1 w1 fun x23_2 w2 =>
  C.int .lss x23_2 (.int .i64 0) w2 fun x24_3 w3 =>
  C.ite x24_3 (C.run Try.prog (Instr.buildSlice 44 1 #[(0, y6)]) w3 fun x27_4 w4 =>
  C.run Try.prog (Builtin.append_ #[44, 44] 44 #[y5, x27_4]) w4 fun x28_5 w5 =>
  F9.k8 K y1 y3 y4 x28_5 y6 w5) (C.run Try.prog (Instr.buildSlice 44 1 #[(0, y6)]) w3 fun x31_6 w6 =>
  C.run Try.prog (Builtin.append_ #[44, 44] 44 #[y4, x31_6]) w6 fun x32_7 w7 =>
  F9.k8 K y1 y3 x32_7 y5 y6 w7))) : F9.k9 K y1 y3 y4 y5 y6 w := Eq.mpr (by kernel_rfl) h
theorem F9.k8.to {K : VK} {y1 y3 y4 y5 y6 : Value} {w : World} (h : (C.int .add y6 (.int .i64 1) w fun x19_1 w1 =>
  F9.l7 K y1 y3 y4 y5 x19_1 w1)) : F9.k8 K y1 y3 y4 y5 y6 w := Eq.mpr (by kernel_rfl) h
theorem F9.sh {K : VK} {x0 : Value} {w : World} (h : (C.new (.cells (Value.cells x0) 46) w fun x1_1 w1 =>
  C.call Try.prog 31 #[] w1 fun x7_2 w2 =>
  C.not x7_2 w2 fun x8_3 w3 =>
  C.ite x8_3 (K (.bool false) w3) (F9.k3 K x1_1 w3))) : C.call Try.prog 9 #[x0] w K := calls_of_vc (A := F9.ann) (args := [x0]) (Eq.mpr (by kernel_rfl) h)

/-! ### 31 scutage/scutagelaw33.alive () -/
namespace F31
def ann : Ann := ⟨[], [], [], [], none⟩
noncomputable def code : Code := match Try.f31.body with | some c => c | none => .skip
noncomputable def top (K : VK) : QE := retQ Try.prog Try.f31.results.toList K
end F31
theorem F31.sh {K : VK} {w : World} (h : (C.run Try.prog (Instr.buildSlice 44 1 #[(0, (.int .i64 0))]) w fun x2_1 w1 =>
  C.run Try.prog (Instr.buildSlice 44 1 #[(0, (.int .i64 2))]) w1 fun x3_2 w2 =>
  C.run Try.prog (Instr.buildSlice 43 3 #[(0, x2_1), (1, x3_2), (2, (.slice none 0 0))]) w2 fun x4_3 w3 =>
  C.run Try.prog (Instr.buildSlice 44 1 #[(0, (.int .i64 1))]) w3 fun x5_4 w4 =>
  C.run Try.prog (Instr.build 46 #[(0, x4_3), (1, x5_4)]) w4 fun x6_5 w5 =>
  C.new (.cells #[.slice none 0 0, .slice none 0 0] 46) w5 fun x1_6 w6 =>
  C.store 2 x1_6 x6_5 w6 fun w7 =>
  C.loadA 2 x1_6 w7 fun x7_8 w8 =>
  C.call Try.prog 36 #[x7_8] w8 fun x8_9 w9 =>
  C.run Try.prog (Instr.buildSlice 44 2 #[(0, (.int .i64 1)), (1, (.int .i64 2))]) w9 fun x9_10 w10 =>
  C.call Try.prog 34 #[x8_9, x9_10] w10 fun x10_11 w11 =>
  C.guarded true x10_11 (fun K => C.loadA 2 x1_6 w11 K) w11 fun x12_12 w12 =>
  C.guarded true x10_11 (fun K => C.call Try.prog 37 #[x12_12] w12 K) w12 fun x13_13 w13 =>
  C.guarded true x10_11 (fun K => C.run Try.prog (Instr.buildSlice 44 1 #[(0, (.int .i64 0))]) w13 K) w13 fun x14_14 w14 =>
  C.guarded true x10_11 (fun K => C.call Try.prog 34 #[x13_13, x14_14] w14 K) w14 fun x15_15 w15 =>
  C.pick (some x10_11) (some x15_15) (some (.bool false)) w15 fun x16_16 w16 =>
  C.guarded true x16_16 (fun K => C.loadA 2 x1_6 w16 K) w16 fun x18_17 w17 =>
  C.guarded true x16_16 (fun K => C.call Try.prog 35 #[x18_17] w17 K) w17 fun x19_18 w18 =>
  C.guarded true x16_16 (fun K => C.run Try.prog (Instr.buildSlice 44 3 #[(0, (.int .i64 (-1))), (1, (.int .i64 0)), (2, (.int .i64 1))]) w18 K) w18 fun x20_19 w19 =>
  C.guarded true x16_16 (fun K => C.call Try.prog 34 #[x19_18, x20_19] w19 K) w19 fun x21_20 w20 =>
  C.pick (some x16_16) (some x21_20) (some (.bool false)) w20 fun x22_21 w21 =>
  C.guarded true x22_21 (fun K => C.loadA 2 x1_6 w21 K) w21 fun x24_22 w22 =>
  C.guarded true x22_21 (fun K => C.call Try.prog 38 #[x24_22, (.int .i64 2)] w22 K) w22 fun x25_23 w23 =>
  C.guarded true x22_21 (fun K => C.run Try.prog (Instr.buildSlice 44 2 #[(0, (.int .i64 1)), (1, (.int .i64 2))]) w23 K) w23 fun x26_24 w24 =>
  C.guarded true x22_21 (fun K => C.call Try.prog 34 #[x25_23, x26_24] w24 K) w24 fun x27_25 w25 =>
  C.pick (some x22_21) (some x27_25) (some (.bool false)) w25 fun x28_26 w26 =>
  C.guarded true x28_26 (fun K => C.loadA 2 x1_6 w26 K) w26 fun x30_27 w27 =>
  C.guarded true x28_26 (fun K => C.call Try.prog 67 #[x30_27, (.int .i64 1)] w27 K) w27 fun x31_28 w28 =>
  C.guarded true x28_26 (fun K => C.call Try.prog 36 #[x31_28] w28 K) w28 fun x32_29 w29 =>
  C.guarded true x28_26 (fun K => C.len x32_29 w29 K) w29 fun x33_30 w30 =>
  C.guarded true x28_26 (fun K => C.int .eql x33_30 (.int .i64 0) w30 K) w30 fun x34_31 w31 =>
  C.pick (some x28_26) (some x34_31) (some (.bool false)) w31 fun x35_32 w32 =>
  C.guarded true x35_32 (fun K => C.loadA 2 x1_6 w32 K) w32 fun x37_33 w33 =>
  C.guarded true x35_32 (fun K => C.call Try.prog 68 #[x37_33] w33 K) w33 fun x38_34 w34 =>
  C.guarded true x35_32 (fun K => C.len x38_34 w34 K) w34 fun x39_35 w35 =>
  C.guarded true x35_32 (fun K => C.int .eql x39_35 (.int .i64 3) w35 K) w35 fun x40_36 w36 =>
  C.pick (some x35_32) (some x40_36) (some (.bool false)) w36 fun x41_37 w37 =>
  K x41_37 w37)) : C.call Try.prog 31 #[] w K := calls_of_vc (A := F31.ann) (args := []) (Eq.mpr (by kernel_rfl) h)

/-! ### 32 scutage/scutagelaw33.few (46) -/
namespace F32
def ann : Ann := ⟨[(3, [1, 2])], [], [], [], none⟩
noncomputable def code : Code := match Try.f32.body with | some c => c | none => .skip
noncomputable def top (K : VK) : QE := retQ Try.prog Try.f32.results.toList K
noncomputable def k3 (K : VK) (y1 y2 : Value) (w : World) : Prop := nav ann Try.prog 12 (fun c Q => vcCode ann Try.prog 12 c Q [(1, y1), (2, y2)] w) [1, 1] code (top K)
attribute [irreducible] k3
end F32
theorem F32.k3.to {K : VK} {y1 y2 : Value} {w : World} (h : (C.loadA 2 y1 w fun x11_1 w1 =>
  C.store 2 y2 x11_1 w1 fun w2 =>
  C.loadA 2 y2 w2 fun r3 _ =>
  K r3 w2)) : F32.k3 K y1 y2 w := Eq.mpr (by kernel_rfl) h
theorem F32.sh {K : VK} {x0 : Value} {w : World} (h : (C.new (.cells (Value.cells x0) 46) w fun x1_1 w1 =>
  C.new (.cells #[.slice none 0 0, .slice none 0 0] 46) w1 fun x2_2 w2 =>
  C.field 0 x1_1 w2 fun x3_3 w3 =>
  C.load1 x3_3 w3 fun x4_4 w4 =>
  C.len x4_4 w4 fun x5_5 w5 =>
  C.int .gtr x5_5 (.int .i64 24) w5 fun x6_6 w6 =>
  C.ite x6_6 (C.field 0 x1_1 w6 fun x7_7 w7 =>
  C.load1 x7_7 w7 fun x8_8 w8 =>
  C.run Try.prog (Instr.sliceAt 43 x8_8 none (some (.int .i64 24)) none) w8 fun x9_9 w9 =>
  C.field 0 x1_1 w9 fun x10_10 w10 =>
  C.store 1 x10_10 x9_9 w10 fun w11 =>
  F32.k3 K x1_1 x2_2 w11) (F32.k3 K x1_1 x2_2 w6))) : C.call Try.prog 32 #[x0] w K := calls_of_vc (A := F32.ann) (args := [x0]) (Eq.mpr (by kernel_rfl) h)

/-! ### 33 scutage/scutagelaw33.plain (46) -/
namespace F33
def ann : Ann := ⟨[], [], [], [], none⟩
noncomputable def code : Code := match Try.f33.body with | some c => c | none => .skip
noncomputable def top (K : VK) : QE := retQ Try.prog Try.f33.results.toList K
end F33
theorem F33.sh {K : VK} {x0 : Value} {w : World} (h : (C.new (.cells (Value.cells x0) 46) w fun x1_1 w1 =>
  C.new (.cells #[.slice none 0 0, .slice none 0 0] 52) w1 fun x2_2 w2 =>
  C.field 0 x1_1 w2 fun x3_3 w3 =>
  C.load1 x3_3 w3 fun x4_4 w4 =>
  C.field 1 x1_1 w4 fun x5_5 w5 =>
  C.load1 x5_5 w5 fun x6_6 w6 =>
  C.run Try.prog (Instr.build 52 #[(0, x4_4), (1, x6_6)]) w6 fun x7_7 w7 =>
  C.store 2 x2_2 x7_7 w7 fun w8 =>
  C.loadA 2 x2_2 w8 fun r9 _ =>
  K r9 w8)) : C.call Try.prog 33 #[x0] w K := calls_of_vc (A := F33.ann) (args := [x0]) (Eq.mpr (by kernel_rfl) h)

end Go.Proofs.YtfhgjncbhjjbfaaV
