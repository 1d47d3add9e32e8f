/- What the bodies of these functions ask, as plain statements. Written by gen.py (own work) for the seat Ytckageghbhkklaa. -/
import Derived.Test.YtckageghbhkklaaVc3
import Derived.Test.YtckageghbhkklaaProg
namespace Go.Proofs.YtckageghbhkklaaV
open Go Go.Proofs
set_option linter.unusedVariables false
set_option maxRecDepth 100000

/-! ### 5 scutage/scutagelaw03.WordPuts (40) -/
namespace F5
def ann : Ann := ⟨[(3, [1]), (7, [1, 4, 5])], [], [], []⟩
noncomputable def code : Code := match Try.f5.body with | some c => c | none => .skip
noncomputable def top (K : VK) : QE := retQ Try.prog Try.f5.results.toList K
noncomputable def k3 (K : VK) (y1 : Value) (w : World) : Prop := nav ann Try.prog 41 (fun c Q => vcCode ann Try.prog 41 c Q [(1, y1)] w) [1, 1] code (top K)
attribute [irreducible] k3
noncomputable def k7 (K : VK) (y1 y4 y5 : Value) (w : World) : Prop := nav ann Try.prog 41 (fun c Q => vcCode ann Try.prog 41 c Q [(1, y1), (4, y4), (5, y5)] w) [1, 1, 1, 1, 1] code (top K)
attribute [irreducible] k7
end F5
theorem F5.k3.to {K : VK} {y1 : Value} {w : World} (h : (C.loadA 2 y1 w fun x8_1 w1 =>
  C.call Try.prog 27 #[x8_1] w1 fun x9_2 w2 =>
  C.loadA 2 y1 w2 fun x11_3 w3 =>
  C.call Try.prog 28 #[x11_3] w3 fun x12_4 w4 =>
  C.ext 0 x12_4 w4 fun x13_5 w5 =>
  C.ext 1 x12_4 w5 fun x14_6 w6 =>
  C.int .neq x9_2 (.int .i64 0) w6 fun x16_7 w7 =>
  C.ite x16_7 (C.loadA 2 y1 w7 fun x17_8 w8 =>
  C.call Try.prog 29 #[x17_8] w8 fun x18_9 w9 =>
  C.int .eql x18_9 x9_2 w9 fun x20_10 w10 =>
  C.guarded true x20_10 (fun K => K x14_6 w10) w10 fun x22_11 w11 =>
  C.guarded true x20_10 (fun K => C.not x22_11 w11 K) w11 fun x23_12 w12 =>
  C.pick (some x20_10) (some x23_12) (some (.bool false)) w12 fun x24_13 w13 =>
  C.guarded true x24_13 (fun K => K x13_5 w13) w13 fun x26_14 w14 =>
  C.guarded true x24_13 (fun K => C.int .eql x26_14 (.int .i64 0) w14 K) w14 fun x27_15 w15 =>
  C.pick (some x24_13) (some x27_15) (some (.bool false)) w15 fun x28_16 w16 =>
  K x28_16 w16) (F5.k7 K y1 x13_5 x14_6 w7))) : F5.k3 K y1 w := Eq.mpr (by kernel_rfl) h
theorem F5.k7.to {K : VK} {y1 y4 y5 : Value} {w : World} (h : (C.loadA 2 y1 w fun x29_1 w1 =>
  C.call Try.prog 29 #[x29_1] w1 fun x30_2 w2 =>
  C.int .eql x30_2 (.int .i64 0) w2 fun x31_3 w3 =>
  C.guarded true x31_3 (fun K => K y5 w3) w3 fun x33_4 w4 =>
  C.pick (some x31_3) (some x33_4) (some (.bool false)) w4 fun x34_5 w5 =>
  C.guarded true x34_5 (fun K => K y4 w5) w5 fun x36_6 w6 =>
  C.guarded true x34_5 (fun K => C.loadA 2 y1 w6 K) w6 fun x37_7 w7 =>
  C.guarded true x34_5 (fun K => C.call Try.prog 30 #[x37_7] w7 K) w7 fun x38_8 w8 =>
  C.guarded true x34_5 (fun K => C.int .eql x36_6 x38_8 w8 K) w8 fun x39_9 w9 =>
  C.pick (some x34_5) (some x39_9) (some (.bool false)) w9 fun x40_10 w10 =>
  K x40_10 w10)) : F5.k7 K y1 y4 y5 w := Eq.mpr (by kernel_rfl) h
theorem F5.sh {K : VK} {x0 : Value} {w : World} (h : (C.new (.cells (Value.cells x0) 40) w fun x1_1 w1 =>
  C.call Try.prog 26 #[] w1 fun x6_2 w2 =>
  C.not x6_2 w2 fun x7_3 w3 =>
  C.ite x7_3 (K (.bool false) w3) (F5.k3 K x1_1 w3))) : C.call Try.prog 5 #[x0] w K := calls_of_vc (A := F5.ann) (args := [x0]) (Eq.mpr (by kernel_rfl) h)

/-! ### 6 scutage/scutagelaw03.WordReads (2) -/
namespace F6
def ann : Ann := ⟨[(3, [0])], [], [], []⟩
noncomputable def code : Code := match Try.f6.body with | some c => c | none => .skip
noncomputable def top (K : VK) : QE := retQ Try.prog Try.f6.results.toList K
noncomputable def k3 (K : VK) (y0 : Value) (w : World) : Prop := nav ann Try.prog 63 (fun c Q => vcCode ann Try.prog 63 c Q [(0, y0)] w) [1, 1] code (top K)
attribute [irreducible] k3
end F6
theorem F6.k3.to {K : VK} {y0 : Value} {w : World} (h : (C.call Try.prog 31 #[y0] w fun x14_1 w1 =>
  C.ext 0 x14_1 w1 fun x15_2 w2 =>
  C.ext 1 x14_1 w2 fun x16_3 w3 =>
  C.new (.cells #[.int .i64 0, .int .i64 0] 40) w3 fun x3_4 w4 =>
  C.store 2 x3_4 x15_2 w4 fun w5 =>
  C.call Try.prog 32 #[y0] w5 fun x19_6 w6 =>
  C.ext 0 x19_6 w6 fun x20_7 w7 =>
  C.ext 1 x19_6 w7 fun x21_8 w8 =>
  C.new (.cells #[.int .i64 0, .int .i64 0] 40) w8 fun x5_9 w9 =>
  C.store 2 x5_9 x20_7 w9 fun w10 =>
  C.call Try.prog 33 #[y0] w10 fun x24_11 w11 =>
  C.ext 0 x24_11 w11 fun x25_12 w12 =>
  C.ext 1 x24_11 w12 fun x26_13 w13 =>
  C.guarded true x21_8 (fun K => C.field 0 x5_9 w13 K) w13 fun x29_14 w14 =>
  C.guarded true x21_8 (fun K => C.load1 x29_14 w14 K) w14 fun x30_15 w15 =>
  C.guarded true x21_8 (fun K => C.int .eql x30_15 (.int .i64 2) w15 K) w15 fun x31_16 w16 =>
  C.pick (some x21_8) (some x31_16) (some (.bool false)) w16 fun x32_17 w17 =>
  C.loadA 2 x3_4 w17 fun x33_18 w18 =>
  C.loadA 2 x5_9 w18 fun x34_19 w19 =>
  C.bin Try.prog .eql 40 (.tmp 33) (.tmp 34) x33_18 x34_19 w19 fun x35_20 w20 =>
  C.guarded true x35_20 (fun K => K x16_3 w20) w20 fun x37_21 w21 =>
  C.guarded true x35_20 (fun K => K x21_8 w21) w21 fun x38_22 w22 =>
  C.guarded true x35_20 (fun K => C.bin Try.prog .eql 4 (.tmp 37) (.tmp 38) x37_21 x38_22 w22 K) w22 fun x39_23 w23 =>
  C.pick (some x35_20) (some x39_23) (some (.bool false)) w23 fun x40_24 w24 =>
  C.guarded true x40_24 (fun K => K x26_13 w24) w24 fun x42_25 w25 =>
  C.guarded true x40_24 (fun K => K x32_17 w25) w25 fun x43_26 w26 =>
  C.guarded true x40_24 (fun K => C.bin Try.prog .eql 4 (.tmp 42) (.tmp 43) x42_25 x43_26 w26 K) w26 fun x44_27 w27 =>
  C.pick (some x40_24) (some x44_27) (some (.bool false)) w27 fun x45_28 w28 =>
  C.guarded true x45_28 (fun K => K x32_17 w28) w28 fun x47_29 w29 =>
  C.guarded true x45_28 (fun K => K x47_29 w29) w29 fun x48_30 w30 =>
  C.guarded true x48_30 (fun K => K x25_12 w30) w30 fun x49_31 w31 =>
  C.guarded true x48_30 (fun K => C.field 1 x5_9 w31 K) w31 fun x50_32 w32 =>
  C.guarded true x48_30 (fun K => C.load1 x50_32 w32 K) w32 fun x51_33 w33 =>
  C.guarded true x48_30 (fun K => C.int .eql x49_31 x51_33 w33 K) w33 fun x52_34 w34 =>
  C.guarded true x45_28 (fun K => C.pick (some x48_30) (some x52_34) (some (.bool false)) w34 K) w34 fun x53_35 w35 =>
  C.guarded true x45_28 (fun K => K x53_35 w35) w35 fun x54_36 w36 =>
  C.guarded false x54_36 (fun K => K x32_17 w36) w36 fun x55_37 w37 =>
  C.guarded false x54_36 (fun K => C.not x55_37 w37 K) w37 fun x56_38 w38 =>
  C.guarded false x54_36 (fun K => K x56_38 w38) w38 fun x57_39 w39 =>
  C.guarded true x57_39 (fun K => K x25_12 w39) w39 fun x58_40 w40 =>
  C.guarded true x57_39 (fun K => C.int .eql x58_40 (.int .i64 0) w40 K) w40 fun x59_41 w41 =>
  C.guarded false x54_36 (fun K => C.pick (some x57_39) (some x59_41) (some (.bool false)) w41 K) w41 fun x60_42 w42 =>
  C.guarded true x45_28 (fun K => C.pick (some x54_36) (some (.bool true)) (some x60_42) w42 K) w42 fun x61_43 w43 =>
  C.pick (some x45_28) (some x61_43) (some (.bool false)) w43 fun x62_44 w44 =>
  K x62_44 w44)) : F6.k3 K y0 w := Eq.mpr (by kernel_rfl) h
theorem F6.sh {K : VK} {x0 : Value} {w : World} (h : (C.call Try.prog 26 #[] w fun x10_1 w1 =>
  C.not x10_1 w1 fun x11_2 w2 =>
  C.ite x11_2 (K (.bool false) w2) (F6.k3 K x0 w2))) : C.call Try.prog 6 #[x0] w K := calls_of_vc (A := F6.ann) (args := [x0]) (Eq.mpr (by kernel_rfl) h)

/-! ### 7 scutage/scutagelaw03.WordBack (40, 40, 2) -/
namespace F7
def ann : Ann := ⟨[(3, [2, 3, 4]), (9, [2, 3, 4, 7, 8, 9, 10]), (11, [2])], [], [], []⟩
noncomputable def code : Code := match Try.f7.body with | some c => c | none => .skip
noncomputable def top (K : VK) : QE := retQ Try.prog Try.f7.results.toList K
noncomputable def k3 (K : VK) (y2 y3 y4 : Value) (w : World) : Prop := nav ann Try.prog 75 (fun c Q => vcCode ann Try.prog 75 c Q [(2, y2), (3, y3), (4, y4)] w) [1, 1] code (top K)
attribute [irreducible] k3
noncomputable def k9 (K : VK) (y2 y3 y4 y7 y8 y9 y10 : Value) (w : World) : Prop := nav ann Try.prog 75 (fun c Q => vcCode ann Try.prog 75 c Q [(2, y2), (3, y3), (4, y4), (7, y7), (8, y8), (9, y9), (10, y10)] w) [1, 1, 1, 1, 1] code (top K)
attribute [irreducible] k9
noncomputable def k11 (K : VK) (y2 : Value) (w : World) : Prop := nav ann Try.prog 75 (fun c Q => vcCode ann Try.prog 75 c Q [(2, y2)] w) [1, 1, 1, 1, 1, 1] code (top K)
attribute [irreducible] k11
end F7
theorem F7.k3.to {K : VK} {y2 y3 y4 : Value} {w : World} (h : (C.loadA 2 y3 w fun x20_1 w1 =>
  C.call Try.prog 28 #[x20_1] w1 fun x21_2 w2 =>
  C.ext 0 x21_2 w2 fun x22_3 w3 =>
  C.ext 1 x21_2 w3 fun x23_4 w4 =>
  C.loadA 2 y4 w4 fun x25_5 w5 =>
  C.call Try.prog 28 #[x25_5] w5 fun x26_6 w6 =>
  C.ext 0 x26_6 w6 fun x27_7 w7 =>
  C.ext 1 x26_6 w7 fun x28_8 w8 =>
  C.ite x23_4 (C.call Try.prog 31 #[x22_3] w8 fun x32_9 w9 =>
  C.ext 0 x32_9 w9 fun x33_10 w10 =>
  C.ext 1 x32_9 w10 fun x34_11 w11 =>
  C.new (.cells #[.int .i64 0, .int .i64 0] 40) w11 fun x11_12 w12 =>
  C.store 2 x11_12 x33_10 w12 fun w13 =>
  C.not x34_11 w13 fun x36_14 w14 =>
  C.guarded false x36_14 (fun K => C.loadA 2 x11_12 w14 K) w14 fun x38_15 w15 =>
  C.guarded false x36_14 (fun K => C.loadA 2 y3 w15 K) w15 fun x39_16 w16 =>
  C.guarded false x36_14 (fun K => C.bin Try.prog .neq 40 (.tmp 38) (.tmp 39) x38_15 x39_16 w16 K) w16 fun x40_17 w17 =>
  C.pick (some x36_14) (some (.bool true)) (some x40_17) w17 fun x41_18 w18 =>
  C.ite x41_18 (K (.bool false) w18) (F7.k9 K y2 y3 y4 x22_3 x23_4 x27_7 x28_8 w18)) (F7.k9 K y2 y3 y4 x22_3 x23_4 x27_7 x28_8 w8))) : F7.k3 K y2 y3 y4 w := Eq.mpr (by kernel_rfl) h
theorem F7.k9.to {K : VK} {y2 y3 y4 y7 y8 y9 y10 : Value} {w : World} (h : (C.guarded true y8 (fun K => K y10 w) w fun x44_1 w1 =>
  C.pick (some y8) (some x44_1) (some (.bool false)) w1 fun x45_2 w2 =>
  C.guarded true x45_2 (fun K => K y7 w2) w2 fun x47_3 w3 =>
  C.guarded true x45_2 (fun K => K y9 w3) w3 fun x48_4 w4 =>
  C.guarded true x45_2 (fun K => C.int .eql x47_3 x48_4 w4 K) w4 fun x49_5 w5 =>
  C.guarded true x45_2 (fun K => C.loadA 2 y3 w5 K) w5 fun x50_6 w6 =>
  C.guarded true x45_2 (fun K => C.loadA 2 y4 w6 K) w6 fun x51_7 w7 =>
  C.guarded true x45_2 (fun K => C.bin Try.prog .eql 40 (.tmp 50) (.tmp 51) x50_6 x51_7 w7 K) w7 fun x52_8 w8 =>
  C.guarded true x45_2 (fun K => C.bin Try.prog .neq 4 (.tmp 49) (.tmp 52) x49_5 x52_8 w8 K) w8 fun x53_9 w9 =>
  C.pick (some x45_2) (some x53_9) (some (.bool false)) w9 fun x54_10 w10 =>
  C.ite x54_10 (K (.bool false) w10) (F7.k11 K y2 w10))) : F7.k9 K y2 y3 y4 y7 y8 y9 y10 w := Eq.mpr (by kernel_rfl) h
theorem F7.k11.to {K : VK} {y2 : Value} {w : World} (h : (C.call Try.prog 31 #[y2] w fun x57_1 w1 =>
  C.ext 0 x57_1 w1 fun x58_2 w2 =>
  C.ext 1 x57_1 w2 fun x59_3 w3 =>
  C.new (.cells #[.int .i64 0, .int .i64 0] 40) w3 fun x13_4 w4 =>
  C.store 2 x13_4 x58_2 w4 fun w5 =>
  C.loadA 2 x13_4 w5 fun x61_6 w6 =>
  C.call Try.prog 28 #[x61_6] w6 fun x62_7 w7 =>
  C.ext 0 x62_7 w7 fun x63_8 w8 =>
  C.ext 1 x62_7 w8 fun x64_9 w9 =>
  C.not x59_3 w9 fun x66_10 w10 =>
  C.guarded false x66_10 (fun K => K x64_9 w10) w10 fun x68_11 w11 =>
  C.guarded false x66_10 (fun K => K x68_11 w11) w11 fun x69_12 w12 =>
  C.guarded true x69_12 (fun K => K x63_8 w12) w12 fun x70_13 w13 =>
  C.guarded true x69_12 (fun K => K y2 w13) w13 fun x71_14 w14 =>
  C.guarded true x69_12 (fun K => C.int .eql x70_13 x71_14 w14 K) w14 fun x72_15 w15 =>
  C.guarded false x66_10 (fun K => C.pick (some x69_12) (some x72_15) (some (.bool false)) w15 K) w15 fun x73_16 w16 =>
  C.pick (some x66_10) (some (.bool true)) (some x73_16) w16 fun x74_17 w17 =>
  K x74_17 w17)) : F7.k11 K y2 w := Eq.mpr (by kernel_rfl) h
theorem F7.sh {K : VK} {x0 x1 x2 : Value} {w : World} (h : (C.new (.cells (Value.cells x0) 40) w fun x3_1 w1 =>
  C.new (.cells (Value.cells x1) 40) w1 fun x4_2 w2 =>
  C.call Try.prog 26 #[] w2 fun x17_3 w3 =>
  C.not x17_3 w3 fun x18_4 w4 =>
  C.ite x18_4 (K (.bool false) w4) (F7.k3 K x2 x3_1 x4_2 w4))) : C.call Try.prog 7 #[x0, x1, x2] w K := calls_of_vc (A := F7.ann) (args := [x0, x1, x2]) (Eq.mpr (by kernel_rfl) h)

/-! ### 26 scutage/scutagelaw03.alive () -/
namespace F26
def ann : Ann := ⟨[], [], [], []⟩
noncomputable def code : Code := match Try.f26.body with | some c => c | none => .skip
noncomputable def top (K : VK) : QE := retQ Try.prog Try.f26.results.toList K
end F26
theorem F26.sh {K : VK} {w : World} (h : (C.run Try.prog (Instr.build 40 #[(0, (.int .i64 1)), (1, (.int .i64 (-1)))]) w fun x8_1 w1 =>
  C.call Try.prog 28 #[x8_1] w1 fun x9_2 w2 =>
  C.ext 0 x9_2 w2 fun x10_3 w3 =>
  C.ext 1 x9_2 w3 fun x11_4 w4 =>
  C.call Try.prog 31 #[(.int .i64 2)] w4 fun x13_5 w5 =>
  C.ext 0 x13_5 w5 fun x14_6 w6 =>
  C.ext 1 x13_5 w6 fun x15_7 w7 =>
  C.new (.cells #[.int .i64 0, .int .i64 0] 40) w7 fun x3_8 w8 =>
  C.store 2 x3_8 x14_6 w8 fun w9 =>
  C.call Try.prog 33 #[(.int .i64 8)] w9 fun x17_10 w10 =>
  C.ext 0 x17_10 w10 fun x18_11 w11 =>
  C.ext 1 x17_10 w11 fun x19_12 w12 =>
  C.int .eql x10_3 (.int .i64 (-1)) w12 fun x21_13 w13 =>
  C.guarded true x21_13 (fun K => K x11_4 w13) w13 fun x23_14 w14 =>
  C.pick (some x21_13) (some x23_14) (some (.bool false)) w14 fun x24_15 w15 =>
  C.guarded true x24_15 (fun K => C.loadA 2 x3_8 w15 K) w15 fun x26_16 w16 =>
  C.guarded true x24_15 (fun K => C.run Try.prog (Instr.build 40 #[(0, (.int .i64 2))]) w16 K) w16 fun x27_17 w17 =>
  C.guarded true x24_15 (fun K => C.bin Try.prog .eql 40 (.tmp 26) (.tmp 27) x26_16 x27_17 w17 K) w17 fun x28_18 w18 =>
  C.pick (some x24_15) (some x28_18) (some (.bool false)) w18 fun x29_19 w19 =>
  C.guarded true x29_19 (fun K => K x15_7 w19) w19 fun x31_20 w20 =>
  C.pick (some x29_19) (some x31_20) (some (.bool false)) w20 fun x32_21 w21 =>
  C.guarded true x32_21 (fun K => K x18_11 w21) w21 fun x34_22 w22 =>
  C.guarded true x32_21 (fun K => C.int .eql x34_22 (.int .i64 3) w22 K) w22 fun x35_23 w23 =>
  C.pick (some x32_21) (some x35_23) (some (.bool false)) w23 fun x36_24 w24 =>
  C.guarded true x36_24 (fun K => K x19_12 w24) w24 fun x38_25 w25 =>
  C.pick (some x36_24) (some x38_25) (some (.bool false)) w25 fun x39_26 w26 =>
  C.guarded true x39_26 (fun K => C.run Try.prog (Instr.build 40 #[(0, (.int .i64 3))]) w26 K) w26 fun x41_27 w27 =>
  C.guarded true x39_26 (fun K => C.call Try.prog 29 #[x41_27] w27 K) w27 fun x42_28 w28 =>
  C.guarded true x39_26 (fun K => C.int .eql x42_28 (.int .i64 12) w28 K) w28 fun x43_29 w29 =>
  C.pick (some x39_26) (some x43_29) (some (.bool false)) w29 fun x44_30 w30 =>
  K x44_30 w30)) : C.call Try.prog 26 #[] w K := calls_of_vc (A := F26.ann) (args := []) (Eq.mpr (by kernel_rfl) h)

/-! ### 27 scutage/scutageref03.Check (40) -/
namespace F27
def ann : Ann := ⟨[(3, [1]), (5, [])], [], [], []⟩
noncomputable def code : Code := match Try.f27.body with | some c => c | none => .skip
noncomputable def top (K : VK) : QE := retQ Try.prog Try.f27.results.toList K
noncomputable def k3 (K : VK) (y1 : Value) (w : World) : Prop := nav ann Try.prog 49 (fun c Q => vcCode ann Try.prog 49 c Q [(1, y1)] w) [1, 1] code (top K)
attribute [irreducible] k3
noncomputable def k5 (K : VK) (w : World) : Prop := nav ann Try.prog 49 (fun c Q => vcCode ann Try.prog 49 c Q [] w) [1, 1, 1] code (top K)
attribute [irreducible] k5
end F27
theorem F27.k3.to {K : VK} {y1 : Value} {w : World} (h : (C.field 0 y1 w fun x11_1 w1 =>
  C.load1 x11_1 w1 fun x12_2 w2 =>
  C.int .eql x12_2 (.int .i64 0) w2 fun x13_3 w3 =>
  C.guarded true x13_3 (fun K => C.field 1 y1 w3 K) w3 fun x15_4 w4 =>
  C.guarded true x13_3 (fun K => C.load1 x15_4 w4 K) w4 fun x16_5 w5 =>
  C.guarded true x13_3 (fun K => C.int .neq x16_5 (.int .i64 0) w5 K) w5 fun x17_6 w6 =>
  C.pick (some x13_3) (some x17_6) (some (.bool false)) w6 fun x18_7 w7 =>
  C.guarded false x18_7 (fun K => C.field 0 y1 w7 K) w7 fun x20_8 w8 =>
  C.guarded false x18_7 (fun K => C.load1 x20_8 w8 K) w8 fun x21_9 w9 =>
  C.guarded false x18_7 (fun K => C.int .eql x21_9 (.int .i64 1) w9 K) w9 fun x22_10 w10 =>
  C.guarded false x18_7 (fun K => K x22_10 w10) w10 fun x23_11 w11 =>
  C.guarded true x23_11 (fun K => C.field 1 y1 w11 K) w11 fun x24_12 w12 =>
  C.guarded true x23_11 (fun K => C.load1 x24_12 w12 K) w12 fun x25_13 w13 =>
  C.guarded true x23_11 (fun K => C.int .lss x25_13 (.int .i64 (-1099511627776)) w13 K) w13 fun x26_14 w14 =>
  C.guarded true x23_11 (fun K => K x26_14 w14) w14 fun x27_15 w15 =>
  C.guarded false x27_15 (fun K => C.field 1 y1 w15 K) w15 fun x28_16 w16 =>
  C.guarded false x27_15 (fun K => C.load1 x28_16 w16 K) w16 fun x29_17 w17 =>
  C.guarded false x27_15 (fun K => C.int .gtr x29_17 (.int .i64 1099511627775) w17 K) w17 fun x30_18 w18 =>
  C.guarded true x23_11 (fun K => C.pick (some x27_15) (some (.bool true)) (some x30_18) w18 K) w18 fun x31_19 w19 =>
  C.guarded false x18_7 (fun K => C.pick (some x23_11) (some x31_19) (some (.bool false)) w19 K) w19 fun x32_20 w20 =>
  C.pick (some x18_7) (some (.bool true)) (some x32_20) w20 fun x33_21 w21 =>
  C.guarded false x33_21 (fun K => C.field 0 y1 w21 K) w21 fun x35_22 w22 =>
  C.guarded false x33_21 (fun K => C.load1 x35_22 w22 K) w22 fun x36_23 w23 =>
  C.guarded false x33_21 (fun K => C.int .eql x36_23 (.int .i64 2) w23 K) w23 fun x37_24 w24 =>
  C.guarded false x33_21 (fun K => K x37_24 w24) w24 fun x38_25 w25 =>
  C.guarded true x38_25 (fun K => C.field 1 y1 w25 K) w25 fun x39_26 w26 =>
  C.guarded true x38_25 (fun K => C.load1 x39_26 w26 K) w26 fun x40_27 w27 =>
  C.guarded true x38_25 (fun K => C.int .lss x40_27 (.int .i64 0) w27 K) w27 fun x41_28 w28 =>
  C.guarded true x38_25 (fun K => K x41_28 w28) w28 fun x42_29 w29 =>
  C.guarded false x42_29 (fun K => C.field 1 y1 w29 K) w29 fun x43_30 w30 =>
  C.guarded false x42_29 (fun K => C.load1 x43_30 w30 K) w30 fun x44_31 w31 =>
  C.guarded false x42_29 (fun K => C.int .gtr x44_31 (.int .i64 2047) w31 K) w31 fun x45_32 w32 =>
  C.guarded true x38_25 (fun K => C.pick (some x42_29) (some (.bool true)) (some x45_32) w32 K) w32 fun x46_33 w33 =>
  C.guarded false x33_21 (fun K => C.pick (some x38_25) (some x46_33) (some (.bool false)) w33 K) w33 fun x47_34 w34 =>
  C.pick (some x33_21) (some (.bool true)) (some x47_34) w34 fun x48_35 w35 =>
  C.ite x48_35 (K (.int .i64 4) w35) (F27.k5 K w35))) : F27.k3 K y1 w := Eq.mpr (by kernel_rfl) h
theorem F27.k5.to {K : VK} {w : World} (h : (K (.int .i64 0) w)) : F27.k5 K w := Eq.mpr (by kernel_rfl) h
theorem F27.sh {K : VK} {x0 : Value} {w : World} (h : (C.new (.cells (Value.cells x0) 40) w fun x1_1 w1 =>
  C.field 0 x1_1 w1 fun x3_2 w2 =>
  C.load1 x3_2 w2 fun x4_3 w3 =>
  C.int .lss x4_3 (.int .i64 0) w3 fun x5_4 w4 =>
  C.guarded false x5_4 (fun K => C.field 0 x1_1 w4 K) w4 fun x7_5 w5 =>
  C.guarded false x5_4 (fun K => C.load1 x7_5 w5 K) w5 fun x8_6 w6 =>
  C.guarded false x5_4 (fun K => C.int .gtr x8_6 (.int .i64 2) w6 K) w6 fun x9_7 w7 =>
  C.pick (some x5_4) (some (.bool true)) (some x9_7) w7 fun x10_8 w8 =>
  C.ite x10_8 (K (.int .i64 12) w8) (F27.k3 K x1_1 w8))) : C.call Try.prog 27 #[x0] w K := calls_of_vc (A := F27.ann) (args := [x0]) (Eq.mpr (by kernel_rfl) h)

/-! ### 28 scutage/word.Put (40) -/
namespace F28
def ann : Ann := ⟨[(3, [1]), (6, [1, 4, 9]), (7, [1]), (8, [1, 4]), (9, [4])], [], [], []⟩
noncomputable def code : Code := match Try.f28.body with | some c => c | none => .skip
noncomputable def top (K : VK) : QE := retQ Try.prog Try.f28.results.toList K
noncomputable def k3 (K : VK) (y1 : Value) (w : World) : Prop := nav ann Try.prog 21 (fun c Q => vcCode ann Try.prog 21 c Q [(1, y1)] w) [1, 1] code (top K)
attribute [irreducible] k3
noncomputable def k9 (K : VK) (y4 : Value) (w : World) : Prop := nav ann Try.prog 21 (fun c Q => vcCode ann Try.prog 21 c Q [(4, y4)] w) [1, 1, 1, 1] code (top K)
attribute [irreducible] k9
noncomputable def k8 (K : VK) (y1 y4 : Value) (w : World) : Prop := nav ann Try.prog 21 (fun c Q => vcCode ann Try.prog 21 c Q [(1, y1), (4, y4)] w) [1, 1, 1, 0, 1, 0, 1] code (top K)
attribute [irreducible] k8
noncomputable def k7 (K : VK) (y1 : Value) (w : World) : Prop := nav ann Try.prog 21 (fun c Q => vcCode ann Try.prog 21 c Q [(1, y1)] w) [1, 1, 1, 0, 1, 0, 0, 0, 1] code (top K)
attribute [irreducible] k7
noncomputable def k6 (K : VK) (y1 y4 y9 : Value) (w : World) : Prop := nav ann Try.prog 21 (fun c Q => vcCode ann Try.prog 21 c Q [(1, y1), (4, y4), (9, y9)] w) [1, 1, 1, 0, 1, 0, 0, 0, 0, 0, 0, 1] code (top K)
attribute [irreducible] k6
end F28
theorem F28.k3.to {K : VK} {y1 : Value} {w : World} (h : (C.field 0 y1 w fun x8_1 w1 =>
  C.load1 x8_1 w1 fun x9_2 w2 =>
  C.int .eql x9_2 (.int .i64 2) w2 fun x11_3 w3 =>
  C.ite x11_3 (F28.k7 K y1 w3) (F28.k6 K y1 (.int .i64 0) x9_2 w3))) : F28.k3 K y1 w := Eq.mpr (by kernel_rfl) h
theorem F28.k9.to {K : VK} {y4 : Value} {w : World} (h : (K (.tuple #[y4, (.bool true)]) w)) : F28.k9 K y4 w := Eq.mpr (by kernel_rfl) h
theorem F28.k8.to {K : VK} {y1 y4 : Value} {w : World} (h : (C.field 1 y1 w fun x15_1 w1 =>
  C.load1 x15_1 w1 fun x16_2 w2 =>
  C.int .mul (.int .i64 2) x16_2 w2 fun x17_3 w3 =>
  C.int .add x17_3 (.int .i64 1) w3 fun x18_4 w4 =>
  C.int .add y4 x18_4 w4 fun x19_5 w5 =>
  F28.k9 K x19_5 w5)) : F28.k8 K y1 y4 w := Eq.mpr (by kernel_rfl) h
theorem F28.k7.to {K : VK} {y1 : Value} {w : World} (h : (F28.k8 K y1 (.int .i64 1) w)) : F28.k7 K y1 w := Eq.mpr (by kernel_rfl) h
theorem F28.k6.to {K : VK} {y1 y4 y9 : Value} {w : World} (h : (C.int .eql y9 (.int .i64 1) w fun x13_1 w1 =>
  C.ite x13_1 (F28.k8 K y1 y4 w1) (F28.k9 K y4 w1))) : F28.k6 K y1 y4 y9 w := Eq.mpr (by kernel_rfl) h
theorem F28.sh {K : VK} {x0 : Value} {w : World} (h : (C.new (.cells (Value.cells x0) 40) w fun x1_1 w1 =>
  C.loadA 2 x1_1 w1 fun x5_2 w2 =>
  C.call Try.prog 29 #[x5_2] w2 fun x6_3 w3 =>
  C.int .neq x6_3 (.int .i64 0) w3 fun x7_4 w4 =>
  C.ite x7_4 (K (.tuple #[(.int .i64 0), (.bool false)]) w4) (F28.k3 K x1_1 w4))) : C.call Try.prog 28 #[x0] w K := calls_of_vc (A := F28.ann) (args := [x0]) (Eq.mpr (by kernel_rfl) h)

/-! ### 29 scutage/word.Check (40) -/
namespace F29
def ann : Ann := ⟨[(10, [3]), (12, [])], [], [], []⟩
noncomputable def code : Code := match Try.f29.body with | some c => c | none => .skip
noncomputable def top (K : VK) : QE := retQ Try.prog Try.f29.results.toList K
noncomputable def k10 (K : VK) (y3 : Value) (w : World) : Prop := nav ann Try.prog 33 (fun c Q => vcCode ann Try.prog 33 c Q [(3, y3)] w) [1, 1, 1] code (top K)
attribute [irreducible] k10
noncomputable def k12 (K : VK) (w : World) : Prop := nav ann Try.prog 33 (fun c Q => vcCode ann Try.prog 33 c Q [] w) [1, 1, 1, 1] code (top K)
attribute [irreducible] k12
end F29
theorem F29.k10.to {K : VK} {y3 : Value} {w : World} (h : (C.not y3 w fun x32_1 w1 =>
  C.ite x32_1 (K (.int .i64 4) w1) (F29.k12 K w1))) : F29.k10 K y3 w := Eq.mpr (by kernel_rfl) h
theorem F29.k12.to {K : VK} {w : World} (h : (K (.int .i64 0) w)) : F29.k12 K w := Eq.mpr (by kernel_rfl) h
theorem F29.sh {K : VK} {x0 : Value} {w : World} (h : (C.new (.cells (Value.cells x0) 40) w fun x1_1 w1 =>
  C.field 0 x1_1 w1 fun x4_2 w2 =>
  C.load1 x4_2 w2 fun x5_3 w3 =>
  C.int .eql x5_3 (.int .i64 0) w3 fun x7_4 w4 =>
  C.ite x7_4 (C.field 1 x1_1 w4 fun x8_5 w5 =>
  C.load1 x8_5 w5 fun x9_6 w6 =>
  C.int .eql x9_6 (.int .i64 0) w6 fun x10_7 w7 =>
  F29.k10 K x10_7 w7) (C.int .eql x5_3 (.int .i64 1) w4 fun x12_8 w8 =>
  C.ite x12_8 (C.field 1 x1_1 w8 fun x13_9 w9 =>
  C.load1 x13_9 w9 fun x14_10 w10 =>
  C.int .geq x14_10 (.int .i64 (-1099511627776)) w10 fun x15_11 w11 =>
  C.guarded true x15_11 (fun K => C.field 1 x1_1 w11 K) w11 fun x17_12 w12 =>
  C.guarded true x15_11 (fun K => C.load1 x17_12 w12 K) w12 fun x18_13 w13 =>
  C.guarded true x15_11 (fun K => C.int .lss x18_13 (.int .i64 1099511627776) w13 K) w13 fun x19_14 w14 =>
  C.pick (some x15_11) (some x19_14) (some (.bool false)) w14 fun x20_15 w15 =>
  F29.k10 K x20_15 w15) (C.int .eql x5_3 (.int .i64 2) w8 fun x22_16 w16 =>
  C.ite x22_16 (C.field 1 x1_1 w16 fun x23_17 w17 =>
  C.load1 x23_17 w17 fun x24_18 w18 =>
  C.int .geq x24_18 (.int .i64 0) w18 fun x25_19 w19 =>
  C.guarded true x25_19 (fun K => C.field 1 x1_1 w19 K) w19 fun x27_20 w20 =>
  C.guarded true x25_19 (fun K => C.load1 x27_20 w20 K) w20 fun x28_21 w21 =>
  C.guarded true x25_19 (fun K => C.int .lss x28_21 (.int .i64 2048) w21 K) w21 fun x29_22 w22 =>
  C.pick (some x25_19) (some x29_22) (some (.bool false)) w22 fun x30_23 w23 =>
  F29.k10 K x30_23 w23) (K (.int .i64 12) w16))))) : C.call Try.prog 29 #[x0] w K := calls_of_vc (A := F29.ann) (args := [x0]) (Eq.mpr (by kernel_rfl) h)

/-! ### 30 scutage/scutageref03.Put (40) -/
namespace F30
def ann : Ann := ⟨[(3, [1])], [], [], []⟩
noncomputable def code : Code := match Try.f30.body with | some c => c | none => .skip
noncomputable def top (K : VK) : QE := retQ Try.prog Try.f30.results.toList K
noncomputable def k3 (K : VK) (y1 : Value) (w : World) : Prop := nav ann Try.prog 12 (fun c Q => vcCode ann Try.prog 12 c Q [(1, y1)] w) [1, 1] code (top K)
attribute [irreducible] k3
end F30
theorem F30.k3.to {K : VK} {y1 : Value} {w : World} (h : (C.field 1 y1 w fun x6_1 w1 =>
  C.load1 x6_1 w1 fun x7_2 w2 =>
  C.int .mul (.int .i64 2) x7_2 w2 fun x8_3 w3 =>
  C.field 0 y1 w3 fun x9_4 w4 =>
  C.load1 x9_4 w4 fun x10_5 w5 =>
  C.int .add x8_3 x10_5 w5 fun x11_6 w6 =>
  K x11_6 w6)) : F30.k3 K y1 w := Eq.mpr (by kernel_rfl) h
theorem F30.sh {K : VK} {x0 : Value} {w : World} (h : (C.new (.cells (Value.cells x0) 40) w fun x1_1 w1 =>
  C.field 0 x1_1 w1 fun x3_2 w2 =>
  C.load1 x3_2 w2 fun x4_3 w3 =>
  C.int .eql x4_3 (.int .i64 0) w3 fun x5_4 w4 =>
  C.ite x5_4 (K (.int .i64 0) w4) (F30.k3 K x1_1 w4))) : C.call Try.prog 30 #[x0] w K := calls_of_vc (A := F30.ann) (args := [x0]) (Eq.mpr (by kernel_rfl) h)

/-! ### 31 scutage/word.Read (2) -/
namespace F31
def ann : Ann := ⟨[(6, [2, 4]), (8, [2, 4])], [], [], []⟩
noncomputable def code : Code := match Try.f31.body with | some c => c | none => .skip
noncomputable def top (K : VK) : QE := retQ Try.prog Try.f31.results.toList K
noncomputable def k6 (K : VK) (y2 y4 : Value) (w : World) : Prop := nav ann Try.prog 24 (fun c Q => vcCode ann Try.prog 24 c Q [(2, y2), (4, y4)] w) [1, 1, 1] code (top K)
attribute [irreducible] k6
noncomputable def k8 (K : VK) (y2 y4 : Value) (w : World) : Prop := nav ann Try.prog 24 (fun c Q => vcCode ann Try.prog 24 c Q [(2, y2), (4, y4)] w) [1, 1, 1, 1] code (top K)
attribute [irreducible] k8
end F31
theorem F31.k6.to {K : VK} {y2 y4 : Value} {w : World} (h : (C.loadA 2 y4 w fun x19_1 w1 =>
  C.call Try.prog 29 #[x19_1] w1 fun x20_2 w2 =>
  C.int .neq x20_2 (.int .i64 0) w2 fun x21_3 w3 =>
  C.ite x21_3 (C.run Try.prog (Instr.build 40 #[]) w3 fun x22_4 w4 =>
  C.store 2 y2 x22_4 w4 fun w5 =>
  C.loadA 2 y2 w5 fun r6 _ =>
  K (.tuple #[r6, (.bool false)]) w5) (F31.k8 K y2 y4 w3))) : F31.k6 K y2 y4 w := Eq.mpr (by kernel_rfl) h
theorem F31.k8.to {K : VK} {y2 y4 : Value} {w : World} (h : (C.loadA 2 y4 w fun x23_1 w1 =>
  C.store 2 y2 x23_1 w1 fun w2 =>
  C.loadA 2 y2 w2 fun r3 _ =>
  K (.tuple #[r3, (.bool true)]) w2)) : F31.k8 K y2 y4 w := Eq.mpr (by kernel_rfl) h
theorem F31.sh {K : VK} {x0 : Value} {w : World} (h : (C.new (.cells #[.int .i64 0, .int .i64 0] 40) w fun x2_1 w1 =>
  C.new (.cells #[.int .i64 0, .int .i64 0] 40) w1 fun x4_2 w2 =>
  C.bin Try.prog .and 2 (.tmp 6) (.const (.int .i64 1)) x0 (.int .i64 1) w2 fun x7_3 w3 =>
  C.int .eql x7_3 (.int .i64 1) w3 fun x8_4 w4 =>
  C.ite x8_4 (C.bin Try.prog .shr 2 (.tmp 9) (.const (.int .u64 1)) x0 (.int .u64 1) w4 fun x10_5 w5 =>
  C.run Try.prog (Instr.build 40 #[(0, (.int .i64 1)), (1, x10_5)]) w5 fun x11_6 w6 =>
  C.store 2 x4_2 x11_6 w6 fun w7 =>
  F31.k6 K x2_1 x4_2 w7) (C.int .neq x0 (.int .i64 0) w4 fun x14_8 w8 =>
  C.ite x14_8 (C.bin Try.prog .quo 2 (.tmp 15) (.const (.int .i64 2)) x0 (.int .i64 2) w8 fun x16_9 w9 =>
  C.int .sub x16_9 (.int .i64 1) w9 fun x17_10 w10 =>
  C.run Try.prog (Instr.build 40 #[(0, (.int .i64 2)), (1, x17_10)]) w10 fun x18_11 w11 =>
  C.store 2 x4_2 x18_11 w11 fun w12 =>
  F31.k6 K x2_1 x4_2 w12) (F31.k6 K x2_1 x4_2 w8)))) : C.call Try.prog 31 #[x0] w K := calls_of_vc (A := F31.ann) (args := [x0]) (Eq.mpr (by kernel_rfl) h)

/-! ### 32 scutage/scutageref03.Read (2) -/
namespace F32
def ann : Ann := ⟨[(3, [0, 2]), (6, [0, 2]), (7, [0, 2]), (9, [0, 2])], [], [], []⟩
noncomputable def code : Code := match Try.f32.body with | some c => c | none => .skip
noncomputable def top (K : VK) : QE := retQ Try.prog Try.f32.results.toList K
noncomputable def k3 (K : VK) (y0 y2 : Value) (w : World) : Prop := nav ann Try.prog 32 (fun c Q => vcCode ann Try.prog 32 c Q [(0, y0), (2, y2)] w) [1, 1] code (top K)
attribute [irreducible] k3
noncomputable def k7 (K : VK) (y0 y2 : Value) (w : World) : Prop := nav ann Try.prog 32 (fun c Q => vcCode ann Try.prog 32 c Q [(0, y0), (2, y2)] w) [1, 1, 1] code (top K)
attribute [irreducible] k7
noncomputable def k6 (K : VK) (y0 y2 : Value) (w : World) : Prop := nav ann Try.prog 32 (fun c Q => vcCode ann Try.prog 32 c Q [(0, y0), (2, y2)] w) [1, 1, 0, 1, 0, 1] code (top K)
attribute [irreducible] k6
noncomputable def k9 (K : VK) (y0 y2 : Value) (w : World) : Prop := nav ann Try.prog 32 (fun c Q => vcCode ann Try.prog 32 c Q [(0, y0), (2, y2)] w) [1, 1, 1, 1] code (top K)
attribute [irreducible] k9
end F32
theorem F32.k3.to {K : VK} {y0 y2 : Value} {w : World} (h : (C.bin Try.prog .rem 2 (.tmp 7) (.const (.int .i64 2)) y0 (.int .i64 2) w fun x8_1 w1 =>
  C.int .eql x8_1 (.int .i64 0) w1 fun x9_2 w2 =>
  C.ite x9_2 (C.int .lss y0 (.int .i64 2) w2 fun x11_3 w3 =>
  C.guarded false x11_3 (fun K => K y0 w3) w3 fun x13_4 w4 =>
  C.guarded false x11_3 (fun K => C.int .gtr x13_4 (.int .i64 4096) w4 K) w4 fun x14_5 w5 =>
  C.pick (some x11_3) (some (.bool true)) (some x14_5) w5 fun x15_6 w6 =>
  C.ite x15_6 (C.run Try.prog (Instr.build 40 #[]) w6 fun x16_7 w7 =>
  C.store 2 y2 x16_7 w7 fun w8 =>
  C.loadA 2 y2 w8 fun r9 _ =>
  K (.tuple #[r9, (.bool false)]) w8) (F32.k6 K y0 y2 w6)) (F32.k7 K y0 y2 w2))) : F32.k3 K y0 y2 w := Eq.mpr (by kernel_rfl) h
theorem F32.k7.to {K : VK} {y0 y2 : Value} {w : World} (h : (C.int .lss y0 (.int .i64 (-2199023255551)) w fun x22_1 w1 =>
  C.guarded false x22_1 (fun K => K y0 w1) w1 fun x24_2 w2 =>
  C.guarded false x22_1 (fun K => C.int .gtr x24_2 (.int .i64 2199023255551) w2 K) w2 fun x25_3 w3 =>
  C.pick (some x22_1) (some (.bool true)) (some x25_3) w3 fun x26_4 w4 =>
  C.ite x26_4 (C.run Try.prog (Instr.build 40 #[]) w4 fun x27_5 w5 =>
  C.store 2 y2 x27_5 w5 fun w6 =>
  C.loadA 2 y2 w6 fun r7 _ =>
  K (.tuple #[r7, (.bool false)]) w6) (F32.k9 K y0 y2 w4))) : F32.k7 K y0 y2 w := Eq.mpr (by kernel_rfl) h
theorem F32.k6.to {K : VK} {y0 y2 : Value} {w : World} (h : (C.int .sub y0 (.int .i64 2) w fun x18_1 w1 =>
  C.bin Try.prog .quo 2 (.tmp 18) (.const (.int .i64 2)) x18_1 (.int .i64 2) w1 fun x19_2 w2 =>
  C.run Try.prog (Instr.build 40 #[(0, (.int .i64 2)), (1, x19_2)]) w2 fun x20_3 w3 =>
  C.store 2 y2 x20_3 w3 fun w4 =>
  C.loadA 2 y2 w4 fun r5 _ =>
  K (.tuple #[r5, (.bool true)]) w4)) : F32.k6 K y0 y2 w := Eq.mpr (by kernel_rfl) h
theorem F32.k9.to {K : VK} {y0 y2 : Value} {w : World} (h : (C.int .sub y0 (.int .i64 1) w fun x29_1 w1 =>
  C.bin Try.prog .quo 2 (.tmp 29) (.const (.int .i64 2)) x29_1 (.int .i64 2) w1 fun x30_2 w2 =>
  C.run Try.prog (Instr.build 40 #[(0, (.int .i64 1)), (1, x30_2)]) w2 fun x31_3 w3 =>
  C.store 2 y2 x31_3 w3 fun w4 =>
  C.loadA 2 y2 w4 fun r5 _ =>
  K (.tuple #[r5, (.bool true)]) w4)) : F32.k9 K y0 y2 w := Eq.mpr (by kernel_rfl) h
theorem F32.sh {K : VK} {x0 : Value} {w : World} (h : (C.new (.cells #[.int .i64 0, .int .i64 0] 40) w fun x2_1 w1 =>
  C.int .eql x0 (.int .i64 0) w1 fun x5_2 w2 =>
  C.ite x5_2 (C.run Try.prog (Instr.build 40 #[]) w2 fun x6_3 w3 =>
  C.store 2 x2_1 x6_3 w3 fun w4 =>
  C.loadA 2 x2_1 w4 fun r5 _ =>
  K (.tuple #[r5, (.bool true)]) w4) (F32.k3 K x0 x2_1 w2))) : C.call Try.prog 32 #[x0] w K := calls_of_vc (A := F32.ann) (args := [x0]) (Eq.mpr (by kernel_rfl) h)

/-! ### 33 scutage/word.Address (2) -/
namespace F33
def ann : Ann := ⟨[(4, [4])], [], [], []⟩
noncomputable def code : Code := match Try.f33.body with | some c => c | none => .skip
noncomputable def top (K : VK) : QE := retQ Try.prog Try.f33.results.toList K
noncomputable def k4 (K : VK) (y4 : Value) (w : World) : Prop := nav ann Try.prog 20 (fun c Q => vcCode ann Try.prog 20 c Q [(4, y4)] w) [1, 1, 1] code (top K)
attribute [irreducible] k4
end F33
theorem F33.k4.to {K : VK} {y4 : Value} {w : World} (h : (C.field 1 y4 w fun x18_1 w1 =>
  C.load1 x18_1 w1 fun x19_2 w2 =>
  K (.tuple #[x19_2, (.bool true)]) w2)) : F33.k4 K y4 w := Eq.mpr (by kernel_rfl) h
theorem F33.sh {K : VK} {x0 : Value} {w : World} (h : (C.call Try.prog 31 #[x0] w fun x8_1 w1 =>
  C.ext 0 x8_1 w1 fun x9_2 w2 =>
  C.ext 1 x8_1 w2 fun x10_3 w3 =>
  C.new (.cells #[.int .i64 0, .int .i64 0] 40) w3 fun x4_4 w4 =>
  C.store 2 x4_4 x9_2 w4 fun w5 =>
  C.not x10_3 w5 fun x12_6 w6 =>
  C.guarded false x12_6 (fun K => C.field 0 x4_4 w6 K) w6 fun x14_7 w7 =>
  C.guarded false x12_6 (fun K => C.load1 x14_7 w7 K) w7 fun x15_8 w8 =>
  C.guarded false x12_6 (fun K => C.int .neq x15_8 (.int .i64 2) w8 K) w8 fun x16_9 w9 =>
  C.pick (some x12_6) (some (.bool true)) (some x16_9) w9 fun x17_10 w10 =>
  C.ite x17_10 (K (.tuple #[(.int .i64 0), (.bool false)]) w10) (F33.k4 K x4_4 w10))) : C.call Try.prog 33 #[x0] w K := calls_of_vc (A := F33.ann) (args := [x0]) (Eq.mpr (by kernel_rfl) h)

end Go.Proofs.YtckageghbhkklaaV
