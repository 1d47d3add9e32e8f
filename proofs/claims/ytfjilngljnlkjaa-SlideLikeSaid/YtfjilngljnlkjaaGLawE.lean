/- What the bodies of these functions ask, as plain statements. Written by gen.py (own work) for the seat Ytfjilngljnlkjaa. -/
import Derived.Test.YtfjilngljnlkjaaVc3
import Derived.Test.YtfjilngljnlkjaaProg
namespace Go.Proofs.YtfjilngljnlkjaaV
open Go Go.Proofs
set_option linter.unusedVariables false
set_option maxRecDepth 100000

/-! ### 3 scutage/scutagelaw37.EvacChecks (22) -/
namespace F3
def ann : Ann := ⟨[(3, [0]), (5, [0]), (9, [0, 3, 4, 5, 6]), (10, [0, 3, 4, 5, 6]), (11, [0, 4, 5])], [(8, [0, 3, 4, 5, 6])], [], [], none⟩
noncomputable def code : Code := match Try.f3.body with | some c => c | none => .skip
noncomputable def top (K : VK) : QE := retQ Try.prog Try.f3.results.toList K
noncomputable def k3 (K : VK) (y0 : Value) (w : World) : Prop := nav ann Try.prog 50 (fun c Q => vcCode ann Try.prog 50 c Q [(0, y0)] w) [1, 1] code (top K)
attribute [irreducible] k3
noncomputable def k5 (K : VK) (y0 : Value) (w : World) : Prop := nav ann Try.prog 50 (fun c Q => vcCode ann Try.prog 50 c Q [(0, y0)] w) [1, 1, 1] code (top K)
attribute [irreducible] k5
noncomputable def k11 (K : VK) (y0 y4 y5 : Value) (w : World) : Prop := nav ann Try.prog 50 (fun c Q => vcCode ann Try.prog 50 c Q [(0, y0), (4, y4), (5, y5)] w) [1, 1, 1, 1, 1, 1] code (top K)
attribute [irreducible] k11
noncomputable def l8 (K : VK) (y0 y3 y4 y5 y6 : Value) (w : World) : Prop := nav ann Try.prog 50 (isLoop ann Try.prog 50 [(0, y0), (3, y3), (4, y4), (5, y5), (6, y6)] w) [1, 1, 1, 1, 1, 0, 1, 0] code (top K)
attribute [irreducible] l8
noncomputable def k10 (K : VK) (y0 y3 y4 y5 y6 : Value) (w : World) : Prop := nav ann Try.prog 50 (fun c Q => vcCode ann Try.prog 50 c Q [(0, y0), (3, y3), (4, y4), (5, y5), (6, y6)] w) [1, 1, 1, 1, 1, 0, 1, 0, 0, 1] code (top K)
attribute [irreducible] k10
noncomputable def k9 (K : VK) (y0 y3 y4 y5 y6 : Value) (w : World) : Prop := nav ann Try.prog 50 (fun c Q => vcCode ann Try.prog 50 c Q [(0, y0), (3, y3), (4, y4), (5, y5), (6, y6)] w) [1, 1, 1, 1, 1, 0, 1, 0, 0, 1, 1] code (top K)
attribute [irreducible] k9
end F3
theorem F3.k3.to {K : VK} {y0 : Value} {w : World} (h : (C.len y0 w fun x10_1 w1 =>
  C.int .gtr x10_1 (.int .i64 2048) w1 fun x11_2 w2 =>
  C.ite x11_2 (C.call Try.prog 11 #[y0] w2 fun x13_3 w3 =>
  C.int .eql x13_3 (.int .i64 5) w3 fun x14_4 w4 =>
  C.guarded true x14_4 (fun K => K y0 w4) w4 fun x16_5 w5 =>
  C.guarded true x14_4 (fun K => C.call Try.prog 12 #[x16_5] w5 K) w5 fun x17_6 w6 =>
  C.guarded true x14_4 (fun K => C.len x17_6 w6 K) w6 fun x18_7 w7 =>
  C.guarded true x14_4 (fun K => C.int .eql x18_7 (.int .i64 0) w7 K) w7 fun x19_8 w8 =>
  C.pick (some x14_4) (some x19_8) (some (.bool false)) w8 fun x20_9 w9 =>
  K x20_9 w9) (F3.k5 K y0 w2))) : F3.k3 K y0 w := Eq.mpr (by kernel_rfl) h
theorem F3.k5.to {K : VK} {y0 : Value} {w : World} (h : (C.call Try.prog 13 #[y0] w fun x23_1 w1 =>
  C.ext 0 x23_1 w1 fun x24_2 w2 =>
  C.ext 1 x23_1 w2 fun x25_3 w3 =>
  F3.l8 K y0 x24_2 x25_3 (.slice none 0 0) (.int .i64 0) w3)) : F3.k5 K y0 w := Eq.mpr (by kernel_rfl) h
theorem F3.k11.to {K : VK} {y0 y4 y5 : Value} {w : World} (h : (C.call Try.prog 11 #[y0] w fun x41_1 w1 =>
  C.int .eql x41_1 y4 w1 fun x43_2 w2 =>
  C.guarded true x43_2 (fun K => K y0 w2) w2 fun x45_3 w3 =>
  C.guarded true x43_2 (fun K => C.call Try.prog 12 #[x45_3] w3 K) w3 fun x46_4 w4 =>
  C.guarded true x43_2 (fun K => K y5 w4) w4 fun x47_5 w5 =>
  C.guarded true x43_2 (fun K => C.call Try.prog 14 #[x46_4, x47_5] w5 K) w5 fun x48_6 w6 =>
  C.pick (some x43_2) (some x48_6) (some (.bool false)) w6 fun x49_7 w7 =>
  K x49_7 w7)) : F3.k11 K y0 y4 y5 w := Eq.mpr (by kernel_rfl) h
theorem F3.l8.to {K : VK} {y0 y3 y4 y5 y6 : Value} {w : World} (h : (C.len y3 w fun x28_1 w1 =>
  C.int .lss y6 x28_1 w1 fun x29_2 w2 =>
  C.ite x29_2 (F3.k10 K y0 y3 y4 y5 y6 w2) (F3.k11 K y0 y4 y5 w2))) : F3.l8 K y0 y3 y4 y5 y6 w := by unfold F3.l8; exact nav_round (Eq.mpr (by kernel_rfl) h)
theorem F3.k10.to {K : VK} {y0 y3 y4 y5 y6 : Value} {w : World} (h : (C.idx 3 y3 y6 w fun x35_1 w1 =>
  C.field 0 x35_1 w1 fun x36_2 w2 =>
  C.load1 x36_2 w2 fun x37_3 w3 =>
  C.run Try.prog (Instr.buildSlice 26 1 #[(0, x37_3)]) w3 fun x38_4 w4 =>
  C.run Try.prog (Builtin.append_ #[26, 26] 26 #[y5, x38_4]) w4 fun x39_5 w5 =>
  F3.k9 K y0 y3 y4 x39_5 y6 w5)) : F3.k10 K y0 y3 y4 y5 y6 w := Eq.mpr (by kernel_rfl) h
theorem F3.k9.to {K : VK} {y0 y3 y4 y5 y6 : Value} {w : World} (h : (C.int .add y6 (.int .i64 1) w fun x31_1 w1 =>
  F3.l8 K y0 y3 y4 y5 x31_1 w1)) : F3.k9 K y0 y3 y4 y5 y6 w := Eq.mpr (by kernel_rfl) h
theorem F3.sh {K : VK} {x0 : Value} {w : World} (h : (C.call Try.prog 10 #[] w fun x7_1 w1 =>
  C.not x7_1 w1 fun x8_2 w2 =>
  C.ite x8_2 (K (.bool false) w2) (F3.k3 K x0 w2))) : C.call Try.prog 3 #[x0] w K := calls_of_vc (A := F3.ann) (args := [x0]) (Eq.mpr (by kernel_rfl) h)

/-! ### 5 scutage/scutagelaw37.EvacViews (22, 22) -/
namespace F5
def ann : Ann := ⟨[(3, [0, 1]), (8, [0, 1, 5, 6, 7]), (10, [0, 1, 5, 7])], [], [], [(8, (.take 0 (.take 1 (.take 2 (.take 4 (.take 5 (.take 3 (.go 6 (.go 7 (.take 8 (.take 9 .fin)) .fin) .fin))))))))], none⟩
noncomputable def code : Code := match Try.f5.body with | some c => c | none => .skip
noncomputable def top (K : VK) : QE := retQ Try.prog Try.f5.results.toList K
noncomputable def k3 (K : VK) (y0 y1 : Value) (w : World) : Prop := nav ann Try.prog 87 (fun c Q => vcCode ann Try.prog 87 c Q [(0, y0), (1, y1)] w) [1, 1] code (top K)
attribute [irreducible] k3
noncomputable def k8 (K : VK) (y0 y1 y5 y6 y7 : Value) (w : World) : Prop := nav ann Try.prog 87 (fun c Q => vcCode ann Try.prog 87 c Q [(0, y0), (1, y1), (5, y5), (6, y6), (7, y7)] w) [1, 1, 1, 1, 1, 1] code (top K)
attribute [irreducible] k8
noncomputable def k10 (K : VK) (y0 y1 y5 y7 : Value) (w : World) : Prop := nav ann Try.prog 87 (fun c Q => vcCode ann Try.prog 87 c Q [(0, y0), (1, y1), (5, y5), (7, y7)] w) [1, 1, 1, 1, 1, 1, 1] code (top K)
attribute [irreducible] k10
end F5
theorem F5.k3.to {K : VK} {y0 y1 : Value} {w : World} (h : (C.call Try.prog 15 #[y0] w fun x17_1 w1 =>
  C.call Try.prog 15 #[y1] w1 fun x19_2 w2 =>
  C.call Try.prog 18 #[x17_1, x19_2] w2 fun x23_3 w3 =>
  C.ext 0 x23_3 w3 fun x24_4 w4 =>
  C.ext 1 x23_3 w4 fun x25_5 w5 =>
  C.new (.cells #[.slice none 0 0, .slice none 0 0] 42) w5 fun x5_6 w6 =>
  C.store 2 x5_6 x24_4 w6 fun w7 =>
  C.call Try.prog 13 #[x17_1] w7 fun x28_8 w8 =>
  C.ext 0 x28_8 w8 fun x29_9 w9 =>
  C.ext 1 x28_8 w9 fun x30_10 w10 =>
  C.int .neq x30_10 (.int .i64 0) w10 fun x32_11 w11 =>
  C.guarded false x32_11 (fun K => K x29_9 w11) w11 fun x34_12 w12 =>
  C.guarded false x32_11 (fun K => K x19_2 w12) w12 fun x35_13 w13 =>
  C.guarded false x32_11 (fun K => C.call Try.prog 17 #[x34_12, x35_13] w13 K) w13 fun x36_14 w14 =>
  C.guarded false x32_11 (fun K => C.not x36_14 w14 K) w14 fun x37_15 w15 =>
  C.pick (some x32_11) (some (.bool true)) (some x37_15) w15 fun x38_16 w16 =>
  C.ite x38_16 (C.int .neq x25_5 (.int .i64 0) w16 fun x40_17 w17 =>
  K x40_17 w17) (F5.k8 K x17_1 x19_2 x5_6 x25_5 x29_9 w16))) : F5.k3 K y0 y1 w := Eq.mpr (by kernel_rfl) h
theorem F5.k8.to {K : VK} {y0 y1 y5 y6 y7 : Value} {w : World} (h : (C.draw w fun S w1 =>
  C.int .neq y6 (.int .i64 0) w1 fun x42_2 w2 =>
  C.guarded false x42_2 (fun K => K y7 w2) w2 fun x45_3 w3 =>
  C.guarded false x42_2 (fun K => K y1 w3) w3 fun x46_4 w4 =>
  C.guarded false x42_2 (fun K => C.loadAS S 2 y5 w4 K) w4 fun x44_5 w5 =>
  (C.guarded false x42_2 (fun K => C.call Try.prog 23 #[x45_3, x46_4] w5 K) w5 fun x47_6 w6 =>
  (S w6 ∧
  (C.guarded false x42_2 (fun K => C.call Try.prog 22 #[x44_5, x47_6] w6 K) w6 fun x48_7 w7 =>
  (S w7 ∧
  C.guarded false x42_2 (fun K => C.not x48_7 w7 K) w7 fun x49_8 w8 =>
  C.pick (some x42_2) (some (.bool true)) (some x49_8) w8 fun x50_9 w9 =>
  C.ite x50_9 (K (.bool false) w9) (F5.k10 K y0 y1 y5 y7 w9))) ∧ True)) ∧ True)) : F5.k8 K y0 y1 y5 y6 y7 w := Eq.mpr (by kernel_rfl) h
theorem F5.k10.to {K : VK} {y0 y1 y5 y7 : Value} {w : World} (h : (C.call Try.prog 16 #[y0, y1] w fun x54_1 w1 =>
  C.ext 0 x54_1 w1 fun x55_2 w2 =>
  C.ext 1 x54_1 w2 fun x56_3 w3 =>
  C.ext 2 x54_1 w3 fun x57_4 w4 =>
  C.call Try.prog 18 #[x55_2, x56_3] w4 fun x61_5 w5 =>
  C.ext 0 x61_5 w5 fun x62_6 w6 =>
  C.ext 1 x61_5 w6 fun x63_7 w7 =>
  C.new (.cells #[.slice none 0 0, .slice none 0 0] 42) w7 fun x12_8 w8 =>
  C.store 2 x12_8 x62_6 w8 fun w9 =>
  C.int .eql x57_4 (.int .i64 0) w9 fun x65_10 w10 =>
  C.guarded true x65_10 (fun K => K x63_7 w10) w10 fun x67_11 w11 =>
  C.guarded true x65_10 (fun K => C.int .eql x67_11 (.int .i64 0) w11 K) w11 fun x68_12 w12 =>
  C.pick (some x65_10) (some x68_12) (some (.bool false)) w12 fun x69_13 w13 =>
  C.guarded true x69_13 (fun K => K x55_2 w13) w13 fun x71_14 w14 =>
  C.guarded true x69_13 (fun K => C.len x71_14 w14 K) w14 fun x72_15 w15 =>
  C.guarded true x69_13 (fun K => K y0 w15) w15 fun x73_16 w16 =>
  C.guarded true x69_13 (fun K => C.len x73_16 w16 K) w16 fun x74_17 w17 =>
  C.guarded true x69_13 (fun K => C.int .leq x72_15 x74_17 w17 K) w17 fun x75_18 w18 =>
  C.pick (some x69_13) (some x75_18) (some (.bool false)) w18 fun x76_19 w19 =>
  C.guarded true x76_19 (fun K => K y7 w19) w19 fun x78_20 w20 =>
  C.guarded true x76_19 (fun K => C.call Try.prog 24 #[x78_20] w20 K) w20 fun x79_21 w21 =>
  C.guarded true x76_19 (fun K => C.not x79_21 w21 K) w21 fun x80_22 w22 =>
  C.guarded true x76_19 (fun K => K x80_22 w22) w22 fun x81_23 w23 =>
  C.guarded false x81_23 (fun K => C.loadA 2 y5 w23 K) w23 fun x82_24 w24 =>
  C.guarded false x81_23 (fun K => C.loadA 2 x12_8 w24 K) w24 fun x83_25 w25 =>
  C.guarded false x81_23 (fun K => C.call Try.prog 22 #[x82_24, x83_25] w25 K) w25 fun x84_26 w26 =>
  C.guarded true x76_19 (fun K => C.pick (some x81_23) (some (.bool true)) (some x84_26) w26 K) w26 fun x85_27 w27 =>
  C.pick (some x76_19) (some x85_27) (some (.bool false)) w27 fun x86_28 w28 =>
  K x86_28 w28)) : F5.k10 K y0 y1 y5 y7 w := Eq.mpr (by kernel_rfl) h
theorem F5.sh {K : VK} {x0 x1 : Value} {w : World} (h : (C.call Try.prog 10 #[] w fun x14_1 w1 =>
  C.not x14_1 w1 fun x15_2 w2 =>
  C.ite x15_2 (K (.bool false) w2) (F5.k3 K x0 x1 w2))) : C.call Try.prog 5 #[x0, x1] w K := calls_of_vc (A := F5.ann) (args := [x0, x1]) (Eq.mpr (by kernel_rfl) h)

/-! ### 6 scutage/scutagelaw37.EvacAgain (22, 22) -/
namespace F6
def ann : Ann := ⟨[(3, [0, 1]), (7, [5, 6])], [], [], [], none⟩
noncomputable def code : Code := match Try.f6.body with | some c => c | none => .skip
noncomputable def top (K : VK) : QE := retQ Try.prog Try.f6.results.toList K
noncomputable def k3 (K : VK) (y0 y1 : Value) (w : World) : Prop := nav ann Try.prog 53 (fun c Q => vcCode ann Try.prog 53 c Q [(0, y0), (1, y1)] w) [1, 1] code (top K)
attribute [irreducible] k3
noncomputable def k7 (K : VK) (y5 y6 : Value) (w : World) : Prop := nav ann Try.prog 53 (fun c Q => vcCode ann Try.prog 53 c Q [(5, y5), (6, y6)] w) [1, 1, 1, 1, 1] code (top K)
attribute [irreducible] k7
end F6
theorem F6.k3.to {K : VK} {y0 y1 : Value} {w : World} (h : (C.call Try.prog 15 #[y0] w fun x14_1 w1 =>
  C.call Try.prog 15 #[y1] w1 fun x16_2 w2 =>
  C.call Try.prog 16 #[x14_1, x16_2] w2 fun x20_3 w3 =>
  C.ext 0 x20_3 w3 fun x21_4 w4 =>
  C.ext 1 x20_3 w4 fun x22_5 w5 =>
  C.ext 2 x20_3 w5 fun x23_6 w6 =>
  C.int .neq x23_6 (.int .i64 0) w6 fun x25_7 w7 =>
  C.ite x25_7 (C.len x21_4 w7 fun x27_8 w8 =>
  C.int .eql x27_8 (.int .i64 0) w8 fun x28_9 w9 =>
  K x28_9 w9) (F6.k7 K x21_4 x22_5 w7))) : F6.k3 K y0 y1 w := Eq.mpr (by kernel_rfl) h
theorem F6.k7.to {K : VK} {y5 y6 : Value} {w : World} (h : (C.call Try.prog 16 #[y5, y6] w fun x32_1 w1 =>
  C.ext 0 x32_1 w1 fun x33_2 w2 =>
  C.ext 1 x32_1 w2 fun x34_3 w3 =>
  C.ext 2 x32_1 w3 fun x35_4 w4 =>
  C.call Try.prog 11 #[y5] w4 fun x37_5 w5 =>
  C.int .eql x37_5 (.int .i64 0) w5 fun x38_6 w6 =>
  C.guarded true x38_6 (fun K => K x35_4 w6) w6 fun x40_7 w7 =>
  C.guarded true x38_6 (fun K => C.int .eql x40_7 (.int .i64 0) w7 K) w7 fun x41_8 w8 =>
  C.pick (some x38_6) (some x41_8) (some (.bool false)) w8 fun x42_9 w9 =>
  C.guarded true x42_9 (fun K => K x33_2 w9) w9 fun x44_10 w10 =>
  C.guarded true x42_9 (fun K => K y5 w10) w10 fun x45_11 w11 =>
  C.guarded true x42_9 (fun K => C.call Try.prog 21 #[x44_10, x45_11] w11 K) w11 fun x46_12 w12 =>
  C.pick (some x42_9) (some x46_12) (some (.bool false)) w12 fun x47_13 w13 =>
  C.guarded true x47_13 (fun K => K x34_3 w13) w13 fun x49_14 w14 =>
  C.guarded true x47_13 (fun K => K y6 w14) w14 fun x50_15 w15 =>
  C.guarded true x47_13 (fun K => C.call Try.prog 21 #[x49_14, x50_15] w15 K) w15 fun x51_16 w16 =>
  C.pick (some x47_13) (some x51_16) (some (.bool false)) w16 fun x52_17 w17 =>
  K x52_17 w17)) : F6.k7 K y5 y6 w := Eq.mpr (by kernel_rfl) h
theorem F6.sh {K : VK} {x0 x1 : Value} {w : World} (h : (C.call Try.prog 10 #[] w fun x11_1 w1 =>
  C.not x11_1 w1 fun x12_2 w2 =>
  C.ite x12_2 (K (.bool false) w2) (F6.k3 K x0 x1 w2))) : C.call Try.prog 6 #[x0, x1] w K := calls_of_vc (A := F6.ann) (args := [x0, x1]) (Eq.mpr (by kernel_rfl) h)

/-! ### 10 scutage/scutagelaw37.alive () -/
namespace F10
def ann : Ann := ⟨[], [], [], [], none⟩
noncomputable def code : Code := match Try.f10.body with | some c => c | none => .skip
noncomputable def top (K : VK) : QE := retQ Try.prog Try.f10.results.toList K
end F10
theorem F10.sh {K : VK} {w : World} (h : (C.run Try.prog (Instr.buildSlice 22 3 #[(0, (.int .i64 1)), (1, (.int .i64 6)), (2, (.int .i64 128))]) w fun x7_1 w1 =>
  C.run Try.prog (Instr.buildSlice 22 2 #[(0, (.int .i64 6)), (1, (.int .i64 7))]) w1 fun x10_2 w2 =>
  C.call Try.prog 16 #[x7_1, x10_2] w2 fun x11_3 w3 =>
  C.ext 0 x11_3 w3 fun x12_4 w4 =>
  C.ext 1 x11_3 w4 fun x13_5 w5 =>
  C.ext 2 x11_3 w5 fun x14_6 w6 =>
  C.run Try.prog (Instr.buildSlice 22 1 #[(0, (.int .i64 6))]) w6 fun x17_7 w7 =>
  C.call Try.prog 18 #[x7_1, x17_7] w7 fun x18_8 w8 =>
  C.ext 0 x18_8 w8 fun x19_9 w9 =>
  C.ext 1 x18_8 w9 fun x20_10 w10 =>
  C.new (.cells #[.slice none 0 0, .slice none 0 0] 42) w10 fun x5_11 w11 =>
  C.store 2 x5_11 x19_9 w11 fun w12 =>
  C.int .eql x14_6 (.int .i64 0) w12 fun x22_13 w13 =>
  C.guarded true x22_13 (fun K => K x12_4 w13) w13 fun x24_14 w14 =>
  C.guarded true x22_13 (fun K => C.run Try.prog (Instr.buildSlice 22 1 #[(0, (.int .i64 128))]) w14 K) w14 fun x25_15 w15 =>
  C.guarded true x22_13 (fun K => C.call Try.prog 21 #[x24_14, x25_15] w15 K) w15 fun x26_16 w16 =>
  C.pick (some x22_13) (some x26_16) (some (.bool false)) w16 fun x27_17 w17 =>
  C.guarded true x27_17 (fun K => K x13_5 w17) w17 fun x29_18 w18 =>
  C.guarded true x27_17 (fun K => C.run Try.prog (Instr.buildSlice 22 2 #[(0, (.int .i64 2)), (1, (.int .i64 7))]) w18 K) w18 fun x30_19 w19 =>
  C.guarded true x27_17 (fun K => C.call Try.prog 21 #[x29_18, x30_19] w19 K) w19 fun x31_20 w20 =>
  C.pick (some x27_17) (some x31_20) (some (.bool false)) w20 fun x32_21 w21 =>
  C.guarded true x32_21 (fun K => K x20_10 w21) w21 fun x34_22 w22 =>
  C.guarded true x32_21 (fun K => C.int .eql x34_22 (.int .i64 0) w22 K) w22 fun x35_23 w23 =>
  C.pick (some x32_21) (some x35_23) (some (.bool false)) w23 fun x36_24 w24 =>
  C.guarded true x36_24 (fun K => C.field 1 x5_11 w24 K) w24 fun x38_25 w25 =>
  C.guarded true x36_24 (fun K => C.load1 x38_25 w25 K) w25 fun x39_26 w26 =>
  C.guarded true x36_24 (fun K => C.len x39_26 w26 K) w26 fun x40_27 w27 =>
  C.guarded true x36_24 (fun K => C.int .eql x40_27 (.int .i64 1) w27 K) w27 fun x41_28 w28 =>
  C.pick (some x36_24) (some x41_28) (some (.bool false)) w28 fun x42_29 w29 =>
  C.guarded true x42_29 (fun K => C.field 1 x5_11 w29 K) w29 fun x44_30 w30 =>
  C.guarded true x42_29 (fun K => C.load1 x44_30 w30 K) w30 fun x45_31 w31 =>
  C.guarded true x42_29 (fun K => C.idx 2 x45_31 (.int .i64 0) w31 K) w31 fun x46_32 w32 =>
  C.guarded true x42_29 (fun K => C.field 0 x46_32 w32 K) w32 fun x47_33 w33 =>
  C.guarded true x42_29 (fun K => C.load1 x47_33 w33 K) w33 fun x48_34 w34 =>
  C.guarded true x42_29 (fun K => C.int .eql x48_34 (.int .i64 1) w34 K) w34 fun x49_35 w35 =>
  C.pick (some x42_29) (some x49_35) (some (.bool false)) w35 fun x50_36 w36 =>
  C.guarded true x50_36 (fun K => K x7_1 w36) w36 fun x52_37 w37 =>
  C.guarded true x50_36 (fun K => C.call Try.prog 12 #[x52_37] w37 K) w37 fun x53_38 w38 =>
  C.guarded true x50_36 (fun K => C.run Try.prog (Instr.buildSlice 26 2 #[(0, (.int .i64 0)), (1, (.int .i64 2))]) w38 K) w38 fun x54_39 w39 =>
  C.guarded true x50_36 (fun K => C.call Try.prog 14 #[x53_38, x54_39] w39 K) w39 fun x55_40 w40 =>
  C.pick (some x50_36) (some x55_40) (some (.bool false)) w40 fun x56_41 w41 =>
  C.guarded true x56_41 (fun K => C.run Try.prog (Instr.buildSlice 22 1 #[(0, (.int .i64 1))]) w41 K) w41 fun x58_42 w42 =>
  C.guarded true x56_41 (fun K => C.call Try.prog 11 #[x58_42] w42 K) w42 fun x59_43 w43 =>
  C.guarded true x56_41 (fun K => C.int .eql x59_43 (.int .i64 16) w43 K) w43 fun x60_44 w44 =>
  C.pick (some x56_41) (some x60_44) (some (.bool false)) w44 fun x61_45 w45 =>
  K x61_45 w45)) : C.call Try.prog 10 #[] w K := calls_of_vc (A := F10.ann) (args := []) (Eq.mpr (by kernel_rfl) h)

/-! ### 15 scutage/scutagelaw37.few (22) -/
namespace F15
def ann : Ann := ⟨[(3, [0])], [], [], [], none⟩
noncomputable def code : Code := match Try.f15.body with | some c => c | none => .skip
noncomputable def top (K : VK) : QE := retQ Try.prog Try.f15.results.toList K
noncomputable def k3 (K : VK) (y0 : Value) (w : World) : Prop := nav ann Try.prog 9 (fun c Q => vcCode ann Try.prog 9 c Q [(0, y0)] w) [1, 1] code (top K)
attribute [irreducible] k3
end F15
theorem F15.k3.to {K : VK} {y0 : Value} {w : World} (h : (K y0 w)) : F15.k3 K y0 w := Eq.mpr (by kernel_rfl) h
theorem F15.sh {K : VK} {x0 : Value} {w : World} (h : (C.len x0 w fun x4_1 w1 =>
  C.int .gtr x4_1 (.int .i64 300) w1 fun x5_2 w2 =>
  C.ite x5_2 (C.run Try.prog (Instr.sliceAt 22 x0 none (some (.int .i64 300)) none) w2 fun x7_3 w3 =>
  K x7_3 w3) (F15.k3 K x0 w2))) : C.call Try.prog 15 #[x0] w K := calls_of_vc (A := F15.ann) (args := [x0]) (Eq.mpr (by kernel_rfl) h)

/-! ### 24 scutage/scutagelaw37.unlike (28) -/
namespace F24
def ann : Ann := ⟨[(3, [0, 3]), (4, [0, 3]), (6, [0, 3, 4]), (7, [0, 3, 4]), (9, [])], [(2, [0, 3]), (5, [0, 3, 4])], [], [(7, (.take 0 (.take 1 (.take 2 (.take 3 (.take 5 (.take 6 (.take 7 (.take 8 (.take 4 (.take 9 (.take 10 .fin))))))))))))], none⟩
noncomputable def code : Code := match Try.f24.body with | some c => c | none => .skip
noncomputable def top (K : VK) : QE := retQ Try.prog Try.f24.results.toList K
noncomputable def k9 (K : VK) (w : World) : Prop := nav ann Try.prog 27 (fun c Q => vcCode ann Try.prog 27 c Q [] w) [1, 1] code (top K)
attribute [irreducible] k9
noncomputable def l2 (K : VK) (y0 y3 : Value) (w : World) : Prop := nav ann Try.prog 27 (isLoop ann Try.prog 27 [(0, y0), (3, y3)] w) [1, 0, 1, 0] code (top K)
attribute [irreducible] l2
noncomputable def k4 (K : VK) (y0 y3 : Value) (w : World) : Prop := nav ann Try.prog 27 (fun c Q => vcCode ann Try.prog 27 c Q [(0, y0), (3, y3)] w) [1, 0, 1, 0, 0, 1] code (top K)
attribute [irreducible] k4
noncomputable def k3 (K : VK) (y0 y3 : Value) (w : World) : Prop := nav ann Try.prog 27 (fun c Q => vcCode ann Try.prog 27 c Q [(0, y0), (3, y3)] w) [1, 0, 1, 0, 0, 1, 1] code (top K)
attribute [irreducible] k3
noncomputable def l5 (K : VK) (y0 y3 y4 : Value) (w : World) : Prop := nav ann Try.prog 27 (isLoop ann Try.prog 27 [(0, y0), (3, y3), (4, y4)] w) [1, 0, 1, 0, 0, 1, 0, 0, 1, 0] code (top K)
attribute [irreducible] l5
noncomputable def k7 (K : VK) (y0 y3 y4 : Value) (w : World) : Prop := nav ann Try.prog 27 (fun c Q => vcCode ann Try.prog 27 c Q [(0, y0), (3, y3), (4, y4)] w) [1, 0, 1, 0, 0, 1, 0, 0, 1, 0, 0, 1] code (top K)
attribute [irreducible] k7
noncomputable def k6 (K : VK) (y0 y3 y4 : Value) (w : World) : Prop := nav ann Try.prog 27 (fun c Q => vcCode ann Try.prog 27 c Q [(0, y0), (3, y3), (4, y4)] w) [1, 0, 1, 0, 0, 1, 0, 0, 1, 0, 0, 1, 1] code (top K)
attribute [irreducible] k6
end F24
theorem F24.k9.to {K : VK} {w : World} (h : (K (.bool true) w)) : F24.k9 K w := Eq.mpr (by kernel_rfl) h
theorem F24.l2.to {K : VK} {y0 y3 : Value} {w : World} (h : (C.len y0 w fun x7_1 w1 =>
  C.int .lss y3 x7_1 w1 fun x8_2 w2 =>
  C.ite x8_2 (F24.k4 K y0 y3 w2) (F24.k9 K w2))) : F24.l2 K y0 y3 w := by unfold F24.l2; exact nav_round (Eq.mpr (by kernel_rfl) h)
theorem F24.k4.to {K : VK} {y0 y3 : Value} {w : World} (h : (F24.l5 K y0 y3 (.int .i64 0) w)) : F24.k4 K y0 y3 w := Eq.mpr (by kernel_rfl) h
theorem F24.k3.to {K : VK} {y0 y3 : Value} {w : World} (h : (C.int .add y3 (.int .i64 1) w fun x10_1 w1 =>
  F24.l2 K y0 x10_1 w1)) : F24.k3 K y0 y3 w := Eq.mpr (by kernel_rfl) h
theorem F24.l5.to {K : VK} {y0 y3 y4 : Value} {w : World} (h : (C.int .lss y4 y3 w fun x13_1 w1 =>
  C.ite x13_1 (F24.k7 K y0 y3 y4 w1) (F24.k3 K y0 y3 w1))) : F24.l5 K y0 y3 y4 w := by unfold F24.l5; exact nav_round (Eq.mpr (by kernel_rfl) h)
theorem F24.k7.to {K : VK} {y0 y3 y4 : Value} {w : World} (h : (C.draw w fun S w1 =>
  C.idx 3 y0 y3 w1 fun x18_2 w2 =>
  C.field 1 x18_2 w2 fun x19_3 w3 =>
  C.idx 3 y0 y4 w3 fun x23_4 w4 =>
  C.field 1 x23_4 w4 fun x24_5 w5 =>
  C.load1S S x19_3 w5 fun x20_6 w6 =>
  C.load1S S x24_5 w6 fun x25_7 w7 =>
  C.int .eql x20_6 x25_7 w7 fun x26_8 w8 =>
  C.ite x26_8 (K (.bool false) w8) (F24.k6 K y0 y3 y4 w8))) : F24.k7 K y0 y3 y4 w := Eq.mpr (by kernel_rfl) h
theorem F24.k6.to {K : VK} {y0 y3 y4 : Value} {w : World} (h : (C.int .add y4 (.int .i64 1) w fun x15_1 w1 =>
  F24.l5 K y0 y3 x15_1 w1)) : F24.k6 K y0 y3 y4 w := Eq.mpr (by kernel_rfl) h
theorem F24.sh {K : VK} {x0 : Value} {w : World} (h : (F24.l2 K x0 (.int .i64 0) w)) : C.call Try.prog 24 #[x0] w K := calls_of_vc (A := F24.ann) (args := [x0]) (Eq.mpr (by kernel_rfl) h)

end Go.Proofs.YtfjilngljnlkjaaV
