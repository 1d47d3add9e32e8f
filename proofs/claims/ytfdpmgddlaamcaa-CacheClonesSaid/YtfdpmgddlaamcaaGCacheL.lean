/- What the bodies of these functions ask, as plain statements. Written by gen.py (own work) for the seat Ytfdpmgddlaamcaa. -/
import Derived.Test.YtfdpmgddlaamcaaVc3
import Derived.Test.YtfdpmgddlaamcaaProg
namespace Go.Proofs.YtfdpmgddlaamcaaV
open Go Go.Proofs
set_option linter.unusedVariables false
set_option maxRecDepth 100000

/-! ### 14 scutage/scutagelaw12.run (27, 3, 24, 22) -/
namespace F14
def ann : Ann := ⟨[(4, [0, 1, 2, 3, 10, 11]), (5, [0, 1, 2, 3, 11]), (9, [0, 1, 2, 3, 10, 11, 12, 13]), (10, [0, 1, 2, 3, 10, 11, 12, 13]), (11, [0, 1, 2, 3, 10, 11, 12]), (12, [2, 10])], [(3, [0, 1, 2, 3, 10, 11]), (8, [0, 1, 2, 3, 10, 11, 12, 13])], [], [], none⟩
noncomputable def code : Code := match Try.f14.body with | some c => c | none => .skip
noncomputable def top (K : VK) : QE := retQ Try.prog Try.f14.results.toList K
noncomputable def k12 (K : VK) (y2 y10 : Value) (w : World) : Prop := nav ann Try.prog 58 (fun c Q => vcCode ann Try.prog 58 c Q [(2, y2), (10, y10)] w) [1, 1, 1] code (top K)
attribute [irreducible] k12
noncomputable def l3 (K : VK) (y0 y1 y2 y3 y10 y11 : Value) (w : World) : Prop := nav ann Try.prog 58 (isLoop ann Try.prog 58 [(0, y0), (1, y1), (2, y2), (3, y3), (10, y10), (11, y11)] w) [1, 1, 0, 1, 0] code (top K)
attribute [irreducible] l3
noncomputable def k5 (K : VK) (y0 y1 y2 y3 y11 : Value) (w : World) : Prop := nav ann Try.prog 58 (fun c Q => vcCode ann Try.prog 58 c Q [(0, y0), (1, y1), (2, y2), (3, y3), (11, y11)] w) [1, 1, 0, 1, 0, 0, 1] code (top K)
attribute [irreducible] k5
noncomputable def k4 (K : VK) (y0 y1 y2 y3 y10 y11 : Value) (w : World) : Prop := nav ann Try.prog 58 (fun c Q => vcCode ann Try.prog 58 c Q [(0, y0), (1, y1), (2, y2), (3, y3), (10, y10), (11, y11)] w) [1, 1, 0, 1, 0, 0, 1, 1] code (top K)
attribute [irreducible] k4
noncomputable def k11 (K : VK) (y0 y1 y2 y3 y10 y11 y12 : Value) (w : World) : Prop := nav ann Try.prog 58 (fun c Q => vcCode ann Try.prog 58 c Q [(0, y0), (1, y1), (2, y2), (3, y3), (10, y10), (11, y11), (12, y12)] w) [1, 1, 0, 1, 0, 0, 1, 0, 0, 1, 1, 1] code (top K)
attribute [irreducible] k11
noncomputable def l8 (K : VK) (y0 y1 y2 y3 y10 y11 y12 y13 : Value) (w : World) : Prop := nav ann Try.prog 58 (isLoop ann Try.prog 58 [(0, y0), (1, y1), (2, y2), (3, y3), (10, y10), (11, y11), (12, y12), (13, y13)] w) [1, 1, 0, 1, 0, 0, 1, 0, 0, 1, 1, 0, 1, 0] code (top K)
attribute [irreducible] l8
noncomputable def k10 (K : VK) (y0 y1 y2 y3 y10 y11 y12 y13 : Value) (w : World) : Prop := nav ann Try.prog 58 (fun c Q => vcCode ann Try.prog 58 c Q [(0, y0), (1, y1), (2, y2), (3, y3), (10, y10), (11, y11), (12, y12), (13, y13)] w) [1, 1, 0, 1, 0, 0, 1, 0, 0, 1, 1, 0, 1, 0, 0, 1] code (top K)
attribute [irreducible] k10
noncomputable def k9 (K : VK) (y0 y1 y2 y3 y10 y11 y12 y13 : Value) (w : World) : Prop := nav ann Try.prog 58 (fun c Q => vcCode ann Try.prog 58 c Q [(0, y0), (1, y1), (2, y2), (3, y3), (10, y10), (11, y11), (12, y12), (13, y13)] w) [1, 1, 0, 1, 0, 0, 1, 0, 0, 1, 1, 0, 1, 0, 0, 1, 1] code (top K)
attribute [irreducible] k9
end F14
theorem F14.k12.to {K : VK} {y2 y10 : Value} {w : World} (h : (K (.tuple #[y2, y10]) w)) : F14.k12 K y2 y10 w := Eq.mpr (by kernel_rfl) h
theorem F14.l3.to {K : VK} {y0 y1 y2 y3 y10 y11 : Value} {w : World} (h : (C.len y3 w fun x16_1 w1 =>
  C.int .lss y11 x16_1 w1 fun x17_2 w2 =>
  C.guarded true x17_2 (fun K => K y10 w2) w2 fun x19_3 w3 =>
  C.pick (some x17_2) (some x19_3) (some (.bool false)) w3 fun x20_4 w4 =>
  C.ite x20_4 (F14.k5 K y0 y1 y2 y3 y11 w4) (F14.k12 K y2 y10 w4))) : F14.l3 K y0 y1 y2 y3 y10 y11 w := by unfold F14.l3; exact nav_round (Eq.mpr (by kernel_rfl) h)
theorem F14.k5.to {K : VK} {y0 y1 y2 y3 y11 : Value} {w : World} (h : (C.idx 4 y3 y11 w fun x29_1 w1 =>
  C.loadA 4 x29_1 w1 fun x30_2 w2 =>
  C.call Try.prog 52 #[y0, y1, y2, x30_2] w2 fun x31_3 w3 =>
  C.ext 0 x31_3 w3 fun x32_4 w4 =>
  C.ext 1 x31_3 w4 fun x33_5 w5 =>
  F14.l8 K y0 y1 x32_4 y3 x33_5 y11 (.slice none 0 0) (.int .i64 0) w5)) : F14.k5 K y0 y1 y2 y3 y11 w := Eq.mpr (by kernel_rfl) h
theorem F14.k4.to {K : VK} {y0 y1 y2 y3 y10 y11 : Value} {w : World} (h : (C.int .add y11 (.int .i64 1) w fun x22_1 w1 =>
  F14.l3 K y0 y1 y2 y3 y10 x22_1 w1)) : F14.k4 K y0 y1 y2 y3 y10 y11 w := Eq.mpr (by kernel_rfl) h
theorem F14.k11.to {K : VK} {y0 y1 y2 y3 y10 y11 y12 : Value} {w : World} (h : (C.guarded true y10 (fun K => K y0 w) w fun x50_1 w1 =>
  C.guarded true y10 (fun K => C.call Try.prog 23 #[x50_1] w1 K) w1 fun x51_2 w2 =>
  C.guarded true y10 (fun K => K y12 w2) w2 fun x52_3 w3 =>
  C.guarded true y10 (fun K => C.call Try.prog 53 #[x52_3] w3 K) w3 fun x53_4 w4 =>
  C.guarded true y10 (fun K => C.call Try.prog 51 #[x51_2, x53_4] w4 K) w4 fun x54_5 w5 =>
  C.pick (some y10) (some x54_5) (some (.bool false)) w5 fun x55_6 w6 =>
  F14.k4 K y0 y1 y2 y3 x55_6 y11 w6)) : F14.k11 K y0 y1 y2 y3 y10 y11 y12 w := Eq.mpr (by kernel_rfl) h
theorem F14.l8.to {K : VK} {y0 y1 y2 y3 y10 y11 y12 y13 : Value} {w : World} (h : (C.len y2 w fun x36_1 w1 =>
  C.int .lss y13 x36_1 w1 fun x37_2 w2 =>
  C.ite x37_2 (F14.k10 K y0 y1 y2 y3 y10 y11 y12 y13 w2) (F14.k11 K y0 y1 y2 y3 y10 y11 y12 w2))) : F14.l8 K y0 y1 y2 y3 y10 y11 y12 y13 w := by unfold F14.l8; exact nav_round (Eq.mpr (by kernel_rfl) h)
theorem F14.k10.to {K : VK} {y0 y1 y2 y3 y10 y11 y12 y13 : Value} {w : World} (h : (C.idx 3 y2 y13 w fun x43_1 w1 =>
  C.field 2 x43_1 w1 fun x44_2 w2 =>
  C.load1 x44_2 w2 fun x45_3 w3 =>
  C.run Try.prog (Instr.buildSlice 34 1 #[(0, x45_3)]) w3 fun x46_4 w4 =>
  C.run Try.prog (Builtin.append_ #[34, 34] 34 #[y12, x46_4]) w4 fun x47_5 w5 =>
  F14.k9 K y0 y1 y2 y3 y10 y11 x47_5 y13 w5)) : F14.k10 K y0 y1 y2 y3 y10 y11 y12 y13 w := Eq.mpr (by kernel_rfl) h
theorem F14.k9.to {K : VK} {y0 y1 y2 y3 y10 y11 y12 y13 : Value} {w : World} (h : (C.int .add y13 (.int .i64 1) w fun x39_1 w1 =>
  F14.l8 K y0 y1 y2 y3 y10 y11 y12 x39_1 w1)) : F14.k9 K y0 y1 y2 y3 y10 y11 y12 y13 w := Eq.mpr (by kernel_rfl) h
theorem F14.sh {K : VK} {x0 x1 x2 x3 : Value} {w : World} (h : (F14.l3 K x0 x1 x2 x3 (.bool true) (.int .i64 0) w)) : C.call Try.prog 14 #[x0, x1, x2, x3] w K := calls_of_vc (A := F14.ann) (args := [x0, x1, x2, x3]) (Eq.mpr (by kernel_rfl) h)

/-! ### 52 scutage/scutagelaw12.step (27, 3, 24, 33) -/
namespace F52
def ann : Ann := ⟨[(6, [0, 2, 7]), (9, [0, 2, 7]), (12, [0, 2, 7])], [], [], [(14, (.take 0 (.take 1 (.take 2 (.take 3 (.take 4 (.take 5 (.take 6 (.take 7 (.take 8 (.take 9 (.take 10 (.take 11 (.take 13 (.take 16 (.take 17 (.take 19 (.take 12 (.take 14 (.take 18 (.take 20 (.go 15 (.go 21 (.take 22 (.take 23 (.take 24 (.take 25 .fin)))) .fin) .fin))))))))))))))))))))))], none⟩
noncomputable def code : Code := match Try.f52.body with | some c => c | none => .skip
noncomputable def top (K : VK) : QE := retQ Try.prog Try.f52.results.toList K
noncomputable def k9 (K : VK) (y0 y2 y7 : Value) (w : World) : Prop := nav ann Try.prog 155 (fun c Q => vcCode ann Try.prog 155 c Q [(0, y0), (2, y2), (7, y7)] w) [1, 1] code (top K)
attribute [irreducible] k9
noncomputable def k6 (K : VK) (y0 y2 y7 : Value) (w : World) : Prop := nav ann Try.prog 155 (fun c Q => vcCode ann Try.prog 155 c Q [(0, y0), (2, y2), (7, y7)] w) [1, 0, 1, 0, 1, 1, 1] code (top K)
attribute [irreducible] k6
noncomputable def k12 (K : VK) (y0 y2 y7 : Value) (w : World) : Prop := nav ann Try.prog 155 (fun c Q => vcCode ann Try.prog 155 c Q [(0, y0), (2, y2), (7, y7)] w) [1, 1, 1] code (top K)
attribute [irreducible] k12
end F52
theorem F52.k9.to {K : VK} {y0 y2 y7 : Value} {w : World} (h : (C.field 0 y7 w fun x100_1 w1 =>
  C.load1 x100_1 w1 fun x101_2 w2 =>
  C.int .eql x101_2 (.int .i64 2) w2 fun x102_3 w3 =>
  C.ite x102_3 (C.field 1 y7 w3 fun x105_4 w4 =>
  C.load1 x105_4 w4 fun x106_5 w5 =>
  C.call Try.prog 98 #[y2, x106_5, (.int .i64 0)] w5 fun x107_6 w6 =>
  C.ext 0 x107_6 w6 fun x108_7 w7 =>
  C.ext 1 x107_6 w7 fun x109_8 w8 =>
  C.field 1 y7 w8 fun x112_9 w9 =>
  C.load1 x112_9 w9 fun x113_10 w10 =>
  C.call Try.prog 18 #[y0, x113_10] w10 fun x114_11 w11 =>
  C.call Try.prog 51 #[x114_11, x109_8] w11 fun x116_12 w12 =>
  K (.tuple #[x108_7, x116_12]) w12) (F52.k12 K y0 y2 y7 w3))) : F52.k9 K y0 y2 y7 w := Eq.mpr (by kernel_rfl) h
theorem F52.k6.to {K : VK} {y0 y2 y7 : Value} {w : World} (h : (C.field 1 y7 w fun x74_1 w1 =>
  C.load1 x74_1 w1 fun x75_2 w2 =>
  C.field 2 y7 w2 fun x76_3 w3 =>
  C.load1 x76_3 w3 fun x77_4 w4 =>
  C.call Try.prog 98 #[y2, x75_2, x77_4] w4 fun x78_5 w5 =>
  C.ext 0 x78_5 w5 fun x79_6 w6 =>
  C.ext 1 x78_5 w6 fun x80_7 w7 =>
  C.field 1 y7 w7 fun x82_8 w8 =>
  C.load1 x82_8 w8 fun x83_9 w9 =>
  C.field 2 y7 w9 fun x84_10 w10 =>
  C.load1 x84_10 w10 fun x85_11 w11 =>
  C.field 3 y7 w11 fun x86_12 w12 =>
  C.load1 x86_12 w12 fun x87_13 w13 =>
  C.run Try.prog (Instr.build 100 #[(0, x83_9), (1, x85_11), (2, x87_13)]) w13 fun x88_14 w14 =>
  C.run Try.prog (Instr.buildSlice 24 1 #[(0, x88_14)]) w14 fun x89_15 w15 =>
  C.run Try.prog (Builtin.append_ #[24, 24] 24 #[x79_6, x89_15]) w15 fun x90_16 w16 =>
  C.field 1 y7 w16 fun x93_17 w17 =>
  C.load1 x93_17 w17 fun x94_18 w18 =>
  C.field 2 y7 w18 fun x95_19 w19 =>
  C.load1 x95_19 w19 fun x96_20 w20 =>
  C.field 3 y7 w20 fun x97_21 w21 =>
  C.load1 x97_21 w21 fun x98_22 w22 =>
  C.call Try.prog 19 #[y0, x94_18, x96_20, x98_22] w22 fun x99_23 w23 =>
  K (.tuple #[x90_16, x99_23]) w23)) : F52.k6 K y0 y2 y7 w := Eq.mpr (by kernel_rfl) h
theorem F52.k12.to {K : VK} {y0 y2 y7 : Value} {w : World} (h : (C.field 3 y7 w fun x119_1 w1 =>
  C.load1 x119_1 w1 fun x120_2 w2 =>
  C.call Try.prog 20 #[y0, x120_2] w2 fun x121_3 w3 =>
  C.ext 0 x121_3 w3 fun x122_4 w4 =>
  C.ext 1 x121_3 w4 fun x123_5 w5 =>
  C.field 3 y7 w5 fun x126_6 w6 =>
  C.load1 x126_6 w6 fun x127_7 w7 =>
  C.call Try.prog 96 #[y2, x127_7] w7 fun x128_8 w8 =>
  C.ext 0 x128_8 w8 fun x129_9 w9 =>
  C.ext 1 x128_8 w9 fun x130_10 w10 =>
  C.draw w10 fun S w11 =>
  C.int .eql x122_4 x129_9 w11 fun x134_12 w12 =>
  C.guarded true x134_12 (fun K => K x123_5 w12) w12 fun x136_13 w13 =>
  C.guarded true x134_12 (fun K => K x130_10 w13) w13 fun x137_14 w14 =>
  C.guarded true x134_12 (fun K => C.int .eql x136_13 x137_14 w14 K) w14 fun x138_15 w15 =>
  C.pick (some x134_12) (some x138_15) (some (.bool false)) w15 fun x139_16 w16 =>
  C.guarded true x139_16 (fun K => K y0 w16) w16 fun x141_17 w17 =>
  C.guarded true x139_16 (fun K => C.field 1 y7 w17 K) w17 fun x142_18 w18 =>
  C.guarded true x139_16 (fun K => C.field 2 y7 w18 K) w18 fun x144_19 w19 =>
  C.guarded true x139_16 (fun K => K y2 w19) w19 fun x147_20 w20 =>
  C.guarded true x139_16 (fun K => C.field 1 y7 w20 K) w20 fun x148_21 w21 =>
  C.guarded true x139_16 (fun K => C.field 2 y7 w21 K) w21 fun x150_22 w22 =>
  C.guarded true x139_16 (fun K => C.load1S S x142_18 w22 K) w22 fun x143_23 w23 =>
  C.guarded true x139_16 (fun K => C.load1S S x144_19 w23 K) w23 fun x145_24 w24 =>
  C.guarded true x139_16 (fun K => C.load1S S x148_21 w24 K) w24 fun x149_25 w25 =>
  C.guarded true x139_16 (fun K => C.load1S S x150_22 w25 K) w25 fun x151_26 w26 =>
  (C.guarded true x139_16 (fun K => C.call Try.prog 21 #[x141_17, x143_23, x145_24] w26 K) w26 fun x146_27 w27 =>
  (S w27 ∧
  (C.guarded true x139_16 (fun K => C.call Try.prog 99 #[x147_20, x149_25, x151_26] w27 K) w27 fun x152_28 w28 =>
  (S w28 ∧
  C.guarded true x139_16 (fun K => C.int .eql x146_27 x152_28 w28 K) w28 fun x153_29 w29 =>
  C.pick (some x139_16) (some x153_29) (some (.bool false)) w29 fun x154_30 w30 =>
  K (.tuple #[y2, x154_30]) w30)) ∧ True)) ∧ True)) : F52.k12 K y0 y2 y7 w := Eq.mpr (by kernel_rfl) h
theorem F52.sh {K : VK} {x0 x1 x2 x3 : Value} {w : World} (h : (C.new (.cells (Value.cells x3) 33) w fun x7_1 w1 =>
  C.field 0 x7_1 w1 fun x21_2 w2 =>
  C.load1 x21_2 w2 fun x22_3 w3 =>
  C.int .eql x22_3 (.int .i64 1) w3 fun x23_4 w4 =>
  C.ite x23_4 (C.field 3 x7_1 w4 fun x26_5 w5 =>
  C.load1 x26_5 w5 fun x27_6 w6 =>
  C.call Try.prog 96 #[x2, x27_6] w6 fun x28_7 w7 =>
  C.ext 0 x28_7 w7 fun x29_8 w8 =>
  C.ext 1 x28_7 w8 fun x30_9 w9 =>
  C.field 1 x7_1 w9 fun x31_10 w10 =>
  C.load1 x31_10 w10 fun x32_11 w11 =>
  C.int .geq x32_11 (.int .i64 0) w11 fun x33_12 w12 =>
  C.guarded true x33_12 (fun K => C.field 1 x7_1 w12 K) w12 fun x35_13 w13 =>
  C.guarded true x33_12 (fun K => C.load1 x35_13 w13 K) w13 fun x36_14 w14 =>
  C.guarded true x33_12 (fun K => K x1 w14) w14 fun x37_15 w15 =>
  C.guarded true x33_12 (fun K => C.int .lss x36_14 x37_15 w15 K) w15 fun x38_16 w16 =>
  C.pick (some x33_12) (some x38_16) (some (.bool false)) w16 fun x39_17 w17 =>
  C.guarded true x39_17 (fun K => C.field 2 x7_1 w17 K) w17 fun x41_18 w18 =>
  C.guarded true x39_17 (fun K => C.load1 x41_18 w18 K) w18 fun x42_19 w19 =>
  C.guarded true x39_17 (fun K => C.call Try.prog 97 #[x42_19] w19 K) w19 fun x43_20 w20 =>
  C.guarded true x39_17 (fun K => C.int .gtr x43_20 (.int .i64 0) w20 K) w20 fun x44_21 w21 =>
  C.pick (some x39_17) (some x44_21) (some (.bool false)) w21 fun x45_22 w22 =>
  C.guarded true x45_22 (fun K => C.field 3 x7_1 w22 K) w22 fun x47_23 w23 =>
  C.guarded true x45_22 (fun K => C.load1 x47_23 w23 K) w23 fun x48_24 w24 =>
  C.guarded true x45_22 (fun K => C.int .geq x48_24 (.int .i64 0) w24 K) w24 fun x49_25 w25 =>
  C.pick (some x45_22) (some x49_25) (some (.bool false)) w25 fun x50_26 w26 =>
  C.guarded true x50_26 (fun K => C.field 3 x7_1 w26 K) w26 fun x52_27 w27 =>
  C.guarded true x50_26 (fun K => C.load1 x52_27 w27 K) w27 fun x53_28 w28 =>
  C.guarded true x50_26 (fun K => C.int .lss x53_28 (.int .i64 64) w28 K) w28 fun x54_29 w29 =>
  C.pick (some x50_26) (some x54_29) (some (.bool false)) w29 fun x55_30 w30 =>
  C.guarded true x55_30 (fun K => K x29_8 w30) w30 fun x57_31 w31 =>
  C.guarded true x55_30 (fun K => C.int .lss x57_31 (.int .i64 0) w31 K) w31 fun x58_32 w32 =>
  C.pick (some x55_30) (some x58_32) (some (.bool false)) w32 fun x59_33 w33 =>
  C.not x59_33 w33 fun x61_34 w34 =>
  C.ite x61_34 (C.field 1 x7_1 w34 fun x64_35 w35 =>
  C.load1 x64_35 w35 fun x65_36 w36 =>
  C.field 2 x7_1 w36 fun x66_37 w37 =>
  C.load1 x66_37 w37 fun x67_38 w38 =>
  C.field 3 x7_1 w38 fun x68_39 w39 =>
  C.load1 x68_39 w39 fun x69_40 w40 =>
  C.call Try.prog 19 #[x0, x65_36, x67_38, x69_40] w40 fun x70_41 w41 =>
  C.not x70_41 w41 fun x71_42 w42 =>
  K (.tuple #[x2, x71_42]) w42) (F52.k6 K x0 x2 x7_1 w34)) (F52.k9 K x0 x2 x7_1 w4))) : C.call Try.prog 52 #[x0, x1, x2, x3] w K := calls_of_vc (A := F52.ann) (args := [x0, x1, x2, x3]) (Eq.mpr (by kernel_rfl) h)

/-! ### 4 scutage/scutagelaw12.CacheOne (3, 22, 3, 3, 3) -/
namespace F4
def ann : Ann := ⟨[(3, [0, 1, 2, 3, 4]), (7, [1, 2, 3, 4, 11, 12]), (8, [1, 2, 3, 4, 11, 12]), (11, [2, 3, 4, 11]), (14, [3, 4, 11, 13, 14]), (17, [3, 4, 11, 15])], [(6, [1, 2, 3, 4, 11, 12])], [], [(10, (.take 0 (.take 1 (.take 2 (.take 3 (.take 4 (.take 6 (.take 7 (.take 8 (.take 9 (.take 11 (.take 12 (.take 13 (.take 14 (.take 5 (.take 10 (.take 15 (.go 16 .fin .fin))))))))))))))))))], none⟩
noncomputable def code : Code := match Try.f4.body with | some c => c | none => .skip
noncomputable def top (K : VK) : QE := retQ Try.prog Try.f4.results.toList K
noncomputable def k3 (K : VK) (y0 y1 y2 y3 y4 : Value) (w : World) : Prop := nav ann Try.prog 115 (fun c Q => vcCode ann Try.prog 115 c Q [(0, y0), (1, y1), (2, y2), (3, y3), (4, y4)] w) [1, 1] code (top K)
attribute [irreducible] k3
noncomputable def k11 (K : VK) (y2 y3 y4 y11 : Value) (w : World) : Prop := nav ann Try.prog 115 (fun c Q => vcCode ann Try.prog 115 c Q [(2, y2), (3, y3), (4, y4), (11, y11)] w) [1, 1, 1, 1, 1] code (top K)
attribute [irreducible] k11
noncomputable def l6 (K : VK) (y1 y2 y3 y4 y11 y12 : Value) (w : World) : Prop := nav ann Try.prog 115 (isLoop ann Try.prog 115 [(1, y1), (2, y2), (3, y3), (4, y4), (11, y11), (12, y12)] w) [1, 1, 1, 1, 0, 1, 0] code (top K)
attribute [irreducible] l6
noncomputable def k8 (K : VK) (y1 y2 y3 y4 y11 y12 : Value) (w : World) : Prop := nav ann Try.prog 115 (fun c Q => vcCode ann Try.prog 115 c Q [(1, y1), (2, y2), (3, y3), (4, y4), (11, y11), (12, y12)] w) [1, 1, 1, 1, 0, 1, 0, 0, 1] code (top K)
attribute [irreducible] k8
noncomputable def k7 (K : VK) (y1 y2 y3 y4 y11 y12 : Value) (w : World) : Prop := nav ann Try.prog 115 (fun c Q => vcCode ann Try.prog 115 c Q [(1, y1), (2, y2), (3, y3), (4, y4), (11, y11), (12, y12)] w) [1, 1, 1, 1, 0, 1, 0, 0, 1, 1] code (top K)
attribute [irreducible] k7
noncomputable def k14 (K : VK) (y3 y4 y11 y13 y14 : Value) (w : World) : Prop := nav ann Try.prog 115 (fun c Q => vcCode ann Try.prog 115 c Q [(3, y3), (4, y4), (11, y11), (13, y13), (14, y14)] w) [1, 1, 1, 1, 1, 1, 1] code (top K)
attribute [irreducible] k14
noncomputable def k17 (K : VK) (y3 y4 y11 y15 : Value) (w : World) : Prop := nav ann Try.prog 115 (fun c Q => vcCode ann Try.prog 115 c Q [(3, y3), (4, y4), (11, y11), (15, y15)] w) [1, 1, 1, 1, 1, 1, 1, 1, 1] code (top K)
attribute [irreducible] k17
end F4
theorem F4.k3.to {K : VK} {y0 y1 y2 y3 y4 : Value} {w : World} (h : (C.call Try.prog 15 #[y0] w fun x21_1 w1 =>
  C.call Try.prog 17 #[y1] w1 fun x23_2 w2 =>
  F4.l6 K x23_2 y2 y3 y4 x21_1 (.int .i64 0) w2)) : F4.k3 K y0 y1 y2 y3 y4 w := Eq.mpr (by kernel_rfl) h
theorem F4.k11.to {K : VK} {y2 y3 y4 y11 : Value} {w : World} (h : (C.call Try.prog 20 #[y11, y2] w fun x63_1 w1 =>
  C.ext 0 x63_1 w1 fun x64_2 w2 =>
  C.ext 1 x63_1 w2 fun x65_3 w3 =>
  C.int .geq x64_2 (.int .i64 0) w3 fun x67_4 w4 =>
  C.guarded true x67_4 (fun K => K y11 w4) w4 fun x69_5 w5 =>
  C.guarded true x67_4 (fun K => K x64_2 w5) w5 fun x70_6 w6 =>
  C.guarded true x67_4 (fun K => K x65_3 w6) w6 fun x71_7 w7 =>
  C.guarded true x67_4 (fun K => C.call Try.prog 21 #[x69_5, x70_6, x71_7] w7 K) w7 fun x72_8 w8 =>
  C.guarded true x67_4 (fun K => K y2 w8) w8 fun x73_9 w9 =>
  C.guarded true x67_4 (fun K => C.int .neq x72_8 x73_9 w9 K) w9 fun x74_10 w10 =>
  C.guarded true x67_4 (fun K => K x74_10 w10) w10 fun x75_11 w11 =>
  C.guarded false x75_11 (fun K => K y11 w11) w11 fun x76_12 w12 =>
  C.guarded false x75_11 (fun K => C.call Try.prog 23 #[x76_12] w12 K) w12 fun x77_13 w13 =>
  C.guarded false x75_11 (fun K => K y2 w13) w13 fun x78_14 w14 =>
  C.guarded false x75_11 (fun K => C.call Try.prog 22 #[x77_13, x78_14] w14 K) w14 fun x79_15 w15 =>
  C.guarded false x75_11 (fun K => C.not x79_15 w15 K) w15 fun x80_16 w16 =>
  C.guarded true x67_4 (fun K => C.pick (some x75_11) (some (.bool true)) (some x80_16) w16 K) w16 fun x81_17 w17 =>
  C.pick (some x67_4) (some x81_17) (some (.bool false)) w17 fun x82_18 w18 =>
  C.ite x82_18 (K (.bool false) w18) (F4.k14 K y3 y4 y11 x64_2 x65_3 w18))) : F4.k11 K y2 y3 y4 y11 w := Eq.mpr (by kernel_rfl) h
theorem F4.l6.to {K : VK} {y1 y2 y3 y4 y11 y12 : Value} {w : World} (h : (C.len y1 w fun x26_1 w1 =>
  C.int .lss y12 x26_1 w1 fun x27_2 w2 =>
  C.ite x27_2 (F4.k8 K y1 y2 y3 y4 y11 y12 w2) (F4.k11 K y2 y3 y4 y11 w2))) : F4.l6 K y1 y2 y3 y4 y11 y12 w := by unfold F4.l6; exact nav_round (Eq.mpr (by kernel_rfl) h)
theorem F4.k8.to {K : VK} {y1 y2 y3 y4 y11 y12 : Value} {w : World} (h : (C.idx 4 y1 y12 w fun x32_1 w1 =>
  C.field 0 x32_1 w1 fun x33_2 w2 =>
  C.load1 x33_2 w2 fun x34_3 w3 =>
  C.int .eql x34_3 (.int .i64 2) w3 fun x35_4 w4 =>
  C.ite x35_4 (C.idx 4 y1 y12 w4 fun x39_5 w5 =>
  C.field 1 x39_5 w5 fun x40_6 w6 =>
  C.load1 x40_6 w6 fun x41_7 w7 =>
  C.call Try.prog 18 #[y11, x41_7] w7 fun x42_8 w8 =>
  F4.k7 K y1 y2 y3 y4 y11 y12 w8) (C.draw w4 fun S w9 =>
  C.idx 4 y1 y12 w9 fun x46_10 w10 =>
  C.field 1 x46_10 w10 fun x47_11 w11 =>
  C.idx 4 y1 y12 w11 fun x51_12 w12 =>
  C.field 2 x51_12 w12 fun x52_13 w13 =>
  C.idx 4 y1 y12 w13 fun x56_14 w14 =>
  C.field 3 x56_14 w14 fun x57_15 w15 =>
  C.load1S S x47_11 w15 fun x48_16 w16 =>
  C.load1S S x52_13 w16 fun x53_17 w17 =>
  C.load1S S x57_15 w17 fun x58_18 w18 =>
  (C.call Try.prog 19 #[y11, x48_16, x53_17, x58_18] w18 fun x59_19 w19 =>
  (S w19 ∧
  F4.k7 K y1 y2 y3 y4 y11 y12 w19)) ∧ True))) : F4.k8 K y1 y2 y3 y4 y11 y12 w := Eq.mpr (by kernel_rfl) h
theorem F4.k7.to {K : VK} {y1 y2 y3 y4 y11 y12 : Value} {w : World} (h : (C.int .add y12 (.int .i64 1) w fun x29_1 w1 =>
  F4.l6 K y1 y2 y3 y4 y11 x29_1 w1)) : F4.k7 K y1 y2 y3 y4 y11 y12 w := Eq.mpr (by kernel_rfl) h
theorem F4.k14.to {K : VK} {y3 y4 y11 y13 y14 : Value} {w : World} (h : (C.call Try.prog 21 #[y11, y3, y4] w fun x86_1 w1 =>
  C.int .lss x86_1 (.int .i64 0) w1 fun x88_2 w2 =>
  C.ite x88_2 (C.int .lss y13 (.int .i64 0) w2 fun x90_3 w3 =>
  C.guarded false x90_3 (fun K => K y13 w3) w3 fun x92_4 w4 =>
  C.guarded false x90_3 (fun K => K y3 w4) w4 fun x93_5 w5 =>
  C.guarded false x90_3 (fun K => C.int .neq x92_4 x93_5 w5 K) w5 fun x94_6 w6 =>
  C.pick (some x90_3) (some (.bool true)) (some x94_6) w6 fun x95_7 w7 =>
  C.guarded false x95_7 (fun K => K y14 w7) w7 fun x97_8 w8 =>
  C.guarded false x95_7 (fun K => K y4 w8) w8 fun x98_9 w9 =>
  C.guarded false x95_7 (fun K => C.int .neq x97_8 x98_9 w9 K) w9 fun x99_10 w10 =>
  C.pick (some x95_7) (some (.bool true)) (some x99_10) w10 fun x100_11 w11 =>
  K x100_11 w11) (F4.k17 K y3 y4 y11 x86_1 w2))) : F4.k14 K y3 y4 y11 y13 y14 w := Eq.mpr (by kernel_rfl) h
theorem F4.k17.to {K : VK} {y3 y4 y11 y15 : Value} {w : World} (h : (C.call Try.prog 20 #[y11, y15] w fun x104_1 w1 =>
  C.ext 0 x104_1 w1 fun x105_2 w2 =>
  C.ext 1 x104_1 w2 fun x106_3 w3 =>
  C.int .eql x105_2 y3 w3 fun x109_4 w4 =>
  C.guarded true x109_4 (fun K => K x106_3 w4) w4 fun x111_5 w5 =>
  C.guarded true x109_4 (fun K => K y4 w5) w5 fun x112_6 w6 =>
  C.guarded true x109_4 (fun K => C.int .eql x111_5 x112_6 w6 K) w6 fun x113_7 w7 =>
  C.pick (some x109_4) (some x113_7) (some (.bool false)) w7 fun x114_8 w8 =>
  K x114_8 w8)) : F4.k17 K y3 y4 y11 y15 w := Eq.mpr (by kernel_rfl) h
theorem F4.sh {K : VK} {x0 x1 x2 x3 x4 : Value} {w : World} (h : (C.call Try.prog 13 #[] w fun x18_1 w1 =>
  C.not x18_1 w1 fun x19_2 w2 =>
  C.ite x19_2 (K (.bool false) w2) (F4.k3 K x0 x1 x2 x3 x4 w2))) : C.call Try.prog 4 #[x0, x1, x2, x3, x4] w K := calls_of_vc (A := F4.ann) (args := [x0, x1, x2, x3, x4]) (Eq.mpr (by kernel_rfl) h)

/-! ### 3 scutage/scutagelaw12.CacheRuns (3, 22) -/
namespace F3
def ann : Ann := ⟨[(3, [0, 1])], [], [], [], none⟩
noncomputable def code : Code := match Try.f3.body with | some c => c | none => .skip
noncomputable def top (K : VK) : QE := retQ Try.prog Try.f3.results.toList K
noncomputable def k3 (K : VK) (y0 y1 : Value) (w : World) : Prop := nav ann Try.prog 20 (fun c Q => vcCode ann Try.prog 20 c Q [(0, y0), (1, y1)] w) [1, 1] code (top K)
attribute [irreducible] k3
end F3
theorem F3.k3.to {K : VK} {y0 y1 : Value} {w : World} (h : (C.call Try.prog 15 #[y0] w fun x11_1 w1 =>
  C.call Try.prog 16 #[y0, (.int .i64 0), (.int .i64 9)] w1 fun x13_2 w2 =>
  C.call Try.prog 17 #[y1] w2 fun x15_3 w3 =>
  C.call Try.prog 14 #[x11_1, x13_2, (.slice none 0 0), x15_3] w3 fun x16_4 w4 =>
  C.ext 0 x16_4 w4 fun x17_5 w5 =>
  C.ext 1 x16_4 w5 fun x18_6 w6 =>
  K x18_6 w6)) : F3.k3 K y0 y1 w := Eq.mpr (by kernel_rfl) h
theorem F3.sh {K : VK} {x0 x1 : Value} {w : World} (h : (C.call Try.prog 13 #[] w fun x7_1 w1 =>
  C.not x7_1 w1 fun x8_2 w2 =>
  C.ite x8_2 (K (.bool false) w2) (F3.k3 K x0 x1 w2))) : C.call Try.prog 3 #[x0, x1] w K := calls_of_vc (A := F3.ann) (args := [x0, x1]) (Eq.mpr (by kernel_rfl) h)

/-! ### 5 scutage/scutagelaw12.CacheClones (3, 22, 22, 22) -/
namespace F5
def ann : Ann := ⟨[(3, [0, 1, 2, 3])], [], [], [], none⟩
noncomputable def code : Code := match Try.f5.body with | some c => c | none => .skip
noncomputable def top (K : VK) : QE := retQ Try.prog Try.f5.results.toList K
noncomputable def k3 (K : VK) (y0 y1 y2 y3 : Value) (w : World) : Prop := nav ann Try.prog 169 (fun c Q => vcCode ann Try.prog 169 c Q [(0, y0), (1, y1), (2, y2), (3, y3)] w) [1, 1] code (top K)
attribute [irreducible] k3
end F5
theorem F5.k3.to {K : VK} {y0 y1 y2 y3 : Value} {w : World} (h : (C.call Try.prog 16 #[y0, (.int .i64 0), (.int .i64 9)] w fun x31_1 w1 =>
  C.call Try.prog 15 #[y0] w1 fun x33_2 w2 =>
  C.call Try.prog 17 #[y1] w2 fun x38_3 w3 =>
  C.call Try.prog 14 #[x33_2, x31_1, (.slice none 0 0), x38_3] w3 fun x39_4 w4 =>
  C.ext 0 x39_4 w4 fun x40_5 w5 =>
  C.ext 1 x39_4 w5 fun x41_6 w6 =>
  C.call Try.prog 24 #[x33_2] w6 fun x43_7 w7 =>
  C.call Try.prog 17 #[y2] w7 fun x49_8 w8 =>
  C.call Try.prog 14 #[x33_2, x31_1, x40_5, x49_8] w8 fun x50_9 w9 =>
  C.ext 0 x50_9 w9 fun x51_10 w10 =>
  C.ext 1 x50_9 w10 fun x52_11 w11 =>
  C.call Try.prog 17 #[y3] w11 fun x58_12 w12 =>
  C.call Try.prog 14 #[x43_7, x31_1, x40_5, x58_12] w12 fun x59_13 w13 =>
  C.ext 0 x59_13 w13 fun x60_14 w14 =>
  C.ext 1 x59_13 w14 fun x61_15 w15 =>
  C.call Try.prog 17 #[y3] w15 fun x67_16 w16 =>
  C.call Try.prog 14 #[x33_2, x31_1, x51_10, x67_16] w16 fun x68_17 w17 =>
  C.ext 0 x68_17 w17 fun x69_18 w18 =>
  C.ext 1 x68_17 w18 fun x70_19 w19 =>
  C.call Try.prog 17 #[y2] w19 fun x76_20 w20 =>
  C.call Try.prog 14 #[x43_7, x31_1, x60_14, x76_20] w20 fun x77_21 w21 =>
  C.ext 0 x77_21 w21 fun x78_22 w22 =>
  C.ext 1 x77_21 w22 fun x79_23 w23 =>
  C.run Try.prog (Instr.build 46 #[]) w23 fun x80_24 w24 =>
  C.new (.cells (Value.cells x80_24) 46) w24 fun x81_25 w25 =>
  C.call Try.prog 20 #[(.pointer none), (.int .i64 0)] w25 fun x84_26 w26 =>
  C.ext 0 x84_26 w26 fun x85_27 w27 =>
  C.ext 1 x84_26 w27 fun x86_28 w28 =>
  C.call Try.prog 20 #[x81_25, (.int .i64 0)] w28 fun x89_29 w29 =>
  C.ext 0 x89_29 w29 fun x90_30 w30 =>
  C.ext 1 x89_29 w30 fun x91_31 w31 =>
  C.guarded true x41_6 (fun K => K x52_11 w31) w31 fun x94_32 w32 =>
  C.pick (some x41_6) (some x94_32) (some (.bool false)) w32 fun x95_33 w33 =>
  C.guarded true x95_33 (fun K => K x61_15 w33) w33 fun x97_34 w34 =>
  C.pick (some x95_33) (some x97_34) (some (.bool false)) w34 fun x98_35 w35 =>
  C.guarded true x98_35 (fun K => K x70_19 w35) w35 fun x100_36 w36 =>
  C.pick (some x98_35) (some x100_36) (some (.bool false)) w36 fun x101_37 w37 =>
  C.guarded true x101_37 (fun K => K x79_23 w37) w37 fun x103_38 w38 =>
  C.pick (some x101_37) (some x103_38) (some (.bool false)) w38 fun x104_39 w39 =>
  C.guarded true x104_39 (fun K => K x85_27 w39) w39 fun x106_40 w40 =>
  C.guarded true x104_39 (fun K => C.int .eql x106_40 (.int .i64 (-1)) w40 K) w40 fun x107_41 w41 =>
  C.pick (some x104_39) (some x107_41) (some (.bool false)) w41 fun x108_42 w42 =>
  C.guarded true x108_42 (fun K => K x86_28 w42) w42 fun x110_43 w43 =>
  C.guarded true x108_42 (fun K => C.int .eql x110_43 (.int .i64 0) w43 K) w43 fun x111_44 w44 =>
  C.pick (some x108_42) (some x111_44) (some (.bool false)) w44 fun x112_45 w45 =>
  C.guarded true x112_45 (fun K => K x90_30 w45) w45 fun x114_46 w46 =>
  C.guarded true x112_45 (fun K => C.int .eql x114_46 (.int .i64 (-1)) w46 K) w46 fun x115_47 w47 =>
  C.pick (some x112_45) (some x115_47) (some (.bool false)) w47 fun x116_48 w48 =>
  C.guarded true x116_48 (fun K => K x91_31 w48) w48 fun x118_49 w49 =>
  C.guarded true x116_48 (fun K => C.int .eql x118_49 (.int .i64 0) w49 K) w49 fun x119_50 w50 =>
  C.pick (some x116_48) (some x119_50) (some (.bool false)) w50 fun x120_51 w51 =>
  C.guarded true x120_51 (fun K => K (.pointer none) w51) w51 fun x122_52 w52 =>
  C.guarded true x120_51 (fun K => C.call Try.prog 21 #[x122_52, (.int .i64 0), (.int .i64 1)] w52 K) w52 fun x123_53 w53 =>
  C.guarded true x120_51 (fun K => C.int .eql x123_53 (.int .i64 (-1)) w53 K) w53 fun x124_54 w54 =>
  C.pick (some x120_51) (some x124_54) (some (.bool false)) w54 fun x125_55 w55 =>
  C.guarded true x125_55 (fun K => K x81_25 w55) w55 fun x127_56 w56 =>
  C.guarded true x125_55 (fun K => C.call Try.prog 21 #[x127_56, (.int .i64 0), (.int .i64 1)] w56 K) w56 fun x128_57 w57 =>
  C.guarded true x125_55 (fun K => C.int .eql x128_57 (.int .i64 (-1)) w57 K) w57 fun x129_58 w58 =>
  C.pick (some x125_55) (some x129_58) (some (.bool false)) w58 fun x130_59 w59 =>
  C.guarded true x130_59 (fun K => K (.pointer none) w59) w59 fun x132_60 w60 =>
  C.guarded true x130_59 (fun K => C.call Try.prog 19 #[x132_60, (.int .i64 0), (.int .i64 1), (.int .i64 0)] w60 K) w60 fun x133_61 w61 =>
  C.guarded true x130_59 (fun K => C.not x133_61 w61 K) w61 fun x134_62 w62 =>
  C.pick (some x130_59) (some x134_62) (some (.bool false)) w62 fun x135_63 w63 =>
  C.guarded true x135_63 (fun K => K x81_25 w63) w63 fun x137_64 w64 =>
  C.guarded true x135_63 (fun K => C.call Try.prog 19 #[x137_64, (.int .i64 0), (.int .i64 1), (.int .i64 0)] w64 K) w64 fun x138_65 w65 =>
  C.guarded true x135_63 (fun K => C.not x138_65 w65 K) w65 fun x139_66 w66 =>
  C.pick (some x135_63) (some x139_66) (some (.bool false)) w66 fun x140_67 w67 =>
  C.guarded true x140_67 (fun K => K (.pointer none) w67) w67 fun x142_68 w68 =>
  C.guarded true x140_67 (fun K => C.call Try.prog 18 #[x142_68, (.int .i64 0)] w68 K) w68 fun x143_69 w69 =>
  C.guarded true x140_67 (fun K => C.len x143_69 w69 K) w69 fun x144_70 w70 =>
  C.guarded true x140_67 (fun K => C.int .eql x144_70 (.int .i64 0) w70 K) w70 fun x145_71 w71 =>
  C.pick (some x140_67) (some x145_71) (some (.bool false)) w71 fun x146_72 w72 =>
  C.guarded true x146_72 (fun K => K x81_25 w72) w72 fun x148_73 w73 =>
  C.guarded true x146_72 (fun K => C.call Try.prog 23 #[x148_73] w73 K) w73 fun x149_74 w74 =>
  C.guarded true x146_72 (fun K => C.len x149_74 w74 K) w74 fun x150_75 w75 =>
  C.guarded true x146_72 (fun K => C.int .eql x150_75 (.int .i64 0) w75 K) w75 fun x151_76 w76 =>
  C.pick (some x146_72) (some x151_76) (some (.bool false)) w76 fun x152_77 w77 =>
  C.guarded true x152_77 (fun K => K (.pointer none) w77) w77 fun x154_78 w78 =>
  C.guarded true x152_77 (fun K => C.call Try.prog 23 #[x154_78] w78 K) w78 fun x155_79 w79 =>
  C.guarded true x152_77 (fun K => C.len x155_79 w79 K) w79 fun x156_80 w80 =>
  C.guarded true x152_77 (fun K => C.int .eql x156_80 (.int .i64 0) w80 K) w80 fun x157_81 w81 =>
  C.pick (some x152_77) (some x157_81) (some (.bool false)) w81 fun x158_82 w82 =>
  C.guarded true x158_82 (fun K => K (.pointer none) w82) w82 fun x160_83 w83 =>
  C.guarded true x158_82 (fun K => C.call Try.prog 24 #[x160_83] w83 K) w83 fun x161_84 w84 =>
  C.guarded true x158_82 (fun K => C.bin Try.prog .eql 27 (.tmp 161) (.const (.pointer none)) x161_84 (.pointer none) w84 K) w84 fun x162_85 w85 =>
  C.pick (some x158_82) (some x162_85) (some (.bool false)) w85 fun x163_86 w86 =>
  C.guarded true x163_86 (fun K => K x81_25 w86) w86 fun x165_87 w87 =>
  C.guarded true x163_86 (fun K => C.call Try.prog 24 #[x165_87] w87 K) w87 fun x166_88 w88 =>
  C.guarded true x163_86 (fun K => C.bin Try.prog .eql 27 (.tmp 166) (.const (.pointer none)) x166_88 (.pointer none) w88 K) w88 fun x167_89 w89 =>
  C.pick (some x163_86) (some x167_89) (some (.bool false)) w89 fun x168_90 w90 =>
  K x168_90 w90)) : F5.k3 K y0 y1 y2 y3 w := Eq.mpr (by kernel_rfl) h
theorem F5.sh {K : VK} {x0 x1 x2 x3 : Value} {w : World} (h : (C.call Try.prog 13 #[] w fun x28_1 w1 =>
  C.not x28_1 w1 fun x29_2 w2 =>
  C.ite x29_2 (K (.bool false) w2) (F5.k3 K x0 x1 x2 x3 w2))) : C.call Try.prog 5 #[x0, x1, x2, x3] w K := calls_of_vc (A := F5.ann) (args := [x0, x1, x2, x3]) (Eq.mpr (by kernel_rfl) h)

end Go.Proofs.YtfdpmgddlaamcaaV
