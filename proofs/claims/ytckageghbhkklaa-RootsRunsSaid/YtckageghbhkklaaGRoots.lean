/- What the bodies of these functions ask, as plain statements. Written by gen.py (own work) for the seat Ytckageghbhkklaa. -/
import Derived.Test.YtckageghbhkklaaVc3
import Derived.Test.YtckageghbhkklaaProg
namespace Go.Proofs.YtckageghbhkklaaV
open Go Go.Proofs
set_option linter.unusedVariables false
set_option maxRecDepth 100000

/-! ### 10 scutage/scutagelaw14.RootsRefs (64, 3) -/
namespace F10
def ann : Ann := ⟨[(3, [0, 1]), (6, [0, 1, 5, 6, 7]), (7, [0, 1, 5, 6, 7]), (9, [1, 5, 6]), (12, [1, 6, 8, 9, 10]), (13, [1, 6, 8, 9, 10]), (15, [6, 9])], [(5, [0, 1, 5, 6, 7]), (11, [1, 6, 8, 9, 10])], [], []⟩
noncomputable def code : Code := match Try.f10.body with | some c => c | none => .skip
noncomputable def top (K : VK) : QE := retQ Try.prog Try.f10.results.toList K
noncomputable def k3 (K : VK) (y0 y1 : Value) (w : World) : Prop := nav ann Try.prog 69 (fun c Q => vcCode ann Try.prog 69 c Q [(0, y0), (1, y1)] w) [1, 1] code (top K)
attribute [irreducible] k3
noncomputable def k9 (K : VK) (y1 y5 y6 : Value) (w : World) : Prop := nav ann Try.prog 69 (fun c Q => vcCode ann Try.prog 69 c Q [(1, y1), (5, y5), (6, y6)] w) [1, 1, 1, 1] code (top K)
attribute [irreducible] k9
noncomputable def l5 (K : VK) (y0 y1 y5 y6 y7 : Value) (w : World) : Prop := nav ann Try.prog 69 (isLoop Try.prog 69 [(0, y0), (1, y1), (5, y5), (6, y6), (7, y7)] w) [1, 1, 1, 0, 1, 0] code (top K)
attribute [irreducible] l5
noncomputable def k7 (K : VK) (y0 y1 y5 y6 y7 : Value) (w : World) : Prop := nav ann Try.prog 69 (fun c Q => vcCode ann Try.prog 69 c Q [(0, y0), (1, y1), (5, y5), (6, y6), (7, y7)] w) [1, 1, 1, 0, 1, 0, 0, 1] code (top K)
attribute [irreducible] k7
noncomputable def k6 (K : VK) (y0 y1 y5 y6 y7 : Value) (w : World) : Prop := nav ann Try.prog 69 (fun c Q => vcCode ann Try.prog 69 c Q [(0, y0), (1, y1), (5, y5), (6, y6), (7, y7)] w) [1, 1, 1, 0, 1, 0, 0, 1, 1] code (top K)
attribute [irreducible] k6
noncomputable def k15 (K : VK) (y6 y9 : Value) (w : World) : Prop := nav ann Try.prog 69 (fun c Q => vcCode ann Try.prog 69 c Q [(6, y6), (9, y9)] w) [1, 1, 1, 1, 1, 1] code (top K)
attribute [irreducible] k15
noncomputable def l11 (K : VK) (y1 y6 y8 y9 y10 : Value) (w : World) : Prop := nav ann Try.prog 69 (isLoop Try.prog 69 [(1, y1), (6, y6), (8, y8), (9, y9), (10, y10)] w) [1, 1, 1, 1, 1, 0, 1, 0] code (top K)
attribute [irreducible] l11
noncomputable def k13 (K : VK) (y1 y6 y8 y9 y10 : Value) (w : World) : Prop := nav ann Try.prog 69 (fun c Q => vcCode ann Try.prog 69 c Q [(1, y1), (6, y6), (8, y8), (9, y9), (10, y10)] w) [1, 1, 1, 1, 1, 0, 1, 0, 0, 1] code (top K)
attribute [irreducible] k13
noncomputable def k12 (K : VK) (y1 y6 y8 y9 y10 : Value) (w : World) : Prop := nav ann Try.prog 69 (fun c Q => vcCode ann Try.prog 69 c Q [(1, y1), (6, y6), (8, y8), (9, y9), (10, y10)] w) [1, 1, 1, 1, 1, 0, 1, 0, 0, 1, 1] code (top K)
attribute [irreducible] k12
end F10
theorem F10.k3.to {K : VK} {y0 y1 : Value} {w : World} (h : (C.run Try.prog (Instr.build 67 #[]) w fun x13_1 w1 =>
  C.new (.cells (Value.cells x13_1) 67) w1 fun x14_2 w2 =>
  F10.l5 K y0 y1 x14_2 (.bool false) (.int .i64 0) w2)) : F10.k3 K y0 y1 w := Eq.mpr (by kernel_rfl) h
theorem F10.k9.to {K : VK} {y1 y5 y6 : Value} {w : World} (h : (C.call Try.prog 40 #[y5] w fun x41_1 w1 =>
  F10.l11 K y1 y6 x41_1 (.int .i64 0) (.int .i64 0) w1)) : F10.k9 K y1 y5 y6 w := Eq.mpr (by kernel_rfl) h
theorem F10.l5.to {K : VK} {y0 y1 y5 y6 y7 : Value} {w : World} (h : (C.len y0 w fun x17_1 w1 =>
  C.int .lss y7 x17_1 w1 fun x18_2 w2 =>
  C.guarded true x18_2 (fun K => K y7 w2) w2 fun x20_3 w3 =>
  C.guarded true x18_2 (fun K => C.int .lss x20_3 (.int .i64 30) w3 K) w3 fun x21_4 w4 =>
  C.pick (some x18_2) (some x21_4) (some (.bool false)) w4 fun x22_5 w5 =>
  C.ite x22_5 (F10.k7 K y0 y1 y5 y6 y7 w5) (F10.k9 K y1 y5 y6 w5))) : F10.l5 K y0 y1 y5 y6 y7 w := by unfold F10.l5; exact nav_round (Eq.mpr (by kernel_rfl) h)
theorem F10.k7.to {K : VK} {y0 y1 y5 y6 y7 : Value} {w : World} (h : (C.idx 2 y0 y7 w fun x28_1 w1 =>
  C.loadA 2 x28_1 w1 fun x29_2 w2 =>
  C.call Try.prog 39 #[y5, x29_2] w2 fun x30_3 w3 =>
  C.guarded true x30_3 (fun K => K y0 w3) w3 fun x32_4 w4 =>
  C.guarded true x30_3 (fun K => K y7 w4) w4 fun x33_5 w5 =>
  C.guarded true x30_3 (fun K => C.idx 2 x32_4 x33_5 w5 K) w5 fun x34_6 w6 =>
  C.guarded true x30_3 (fun K => C.loadA 2 x34_6 w6 K) w6 fun x35_7 w7 =>
  C.guarded true x30_3 (fun K => K y1 w7) w7 fun x36_8 w8 =>
  C.guarded true x30_3 (fun K => C.run Try.prog (Instr.build 40 #[(0, (.int .i64 2)), (1, x36_8)]) w8 K) w8 fun x37_9 w9 =>
  C.guarded true x30_3 (fun K => C.bin Try.prog .eql 40 (.tmp 35) (.tmp 37) x35_7 x37_9 w9 K) w9 fun x38_10 w10 =>
  C.pick (some x30_3) (some x38_10) (some (.bool false)) w10 fun x39_11 w11 =>
  C.ite x39_11 (F10.k6 K y0 y1 y5 (.bool true) y7 w11) (F10.k6 K y0 y1 y5 y6 y7 w11))) : F10.k7 K y0 y1 y5 y6 y7 w := Eq.mpr (by kernel_rfl) h
theorem F10.k6.to {K : VK} {y0 y1 y5 y6 y7 : Value} {w : World} (h : (C.int .add y7 (.int .i64 1) w fun x24_1 w1 =>
  F10.l5 K y0 y1 y5 y6 x24_1 w1)) : F10.k6 K y0 y1 y5 y6 y7 w := Eq.mpr (by kernel_rfl) h
theorem F10.k15.to {K : VK} {y6 y9 : Value} {w : World} (h : (C.guarded true y6 (fun K => K y9 w) w fun x58_1 w1 =>
  C.guarded true y6 (fun K => C.int .eql x58_1 (.int .i64 1) w1 K) w1 fun x59_2 w2 =>
  C.pick (some y6) (some x59_2) (some (.bool false)) w2 fun x60_3 w3 =>
  C.guarded false x60_3 (fun K => K y6 w3) w3 fun x62_4 w4 =>
  C.guarded false x60_3 (fun K => C.not x62_4 w4 K) w4 fun x63_5 w5 =>
  C.guarded false x60_3 (fun K => K x63_5 w5) w5 fun x64_6 w6 =>
  C.guarded true x64_6 (fun K => K y9 w6) w6 fun x65_7 w7 =>
  C.guarded true x64_6 (fun K => C.int .eql x65_7 (.int .i64 0) w7 K) w7 fun x66_8 w8 =>
  C.guarded false x60_3 (fun K => C.pick (some x64_6) (some x66_8) (some (.bool false)) w8 K) w8 fun x67_9 w9 =>
  C.pick (some x60_3) (some (.bool true)) (some x67_9) w9 fun x68_10 w10 =>
  K x68_10 w10)) : F10.k15 K y6 y9 w := Eq.mpr (by kernel_rfl) h
theorem F10.l11.to {K : VK} {y1 y6 y8 y9 y10 : Value} {w : World} (h : (C.len y8 w fun x44_1 w1 =>
  C.int .lss y10 x44_1 w1 fun x45_2 w2 =>
  C.ite x45_2 (F10.k13 K y1 y6 y8 y9 y10 w2) (F10.k15 K y6 y9 w2))) : F10.l11 K y1 y6 y8 y9 y10 w := by unfold F10.l11; exact nav_round (Eq.mpr (by kernel_rfl) h)
theorem F10.k13.to {K : VK} {y1 y6 y8 y9 y10 : Value} {w : World} (h : (C.idx 1 y8 y10 w fun x50_1 w1 =>
  C.load1 x50_1 w1 fun x51_2 w2 =>
  C.int .eql x51_2 y1 w2 fun x53_3 w3 =>
  C.ite x53_3 (C.int .add y9 (.int .i64 1) w3 fun x55_4 w4 =>
  F10.k12 K y1 y6 y8 x55_4 y10 w4) (F10.k12 K y1 y6 y8 y9 y10 w3))) : F10.k13 K y1 y6 y8 y9 y10 w := Eq.mpr (by kernel_rfl) h
theorem F10.k12.to {K : VK} {y1 y6 y8 y9 y10 : Value} {w : World} (h : (C.int .add y10 (.int .i64 1) w fun x47_1 w1 =>
  F10.l11 K y1 y6 y8 y9 x47_1 w1)) : F10.k12 K y1 y6 y8 y9 y10 w := Eq.mpr (by kernel_rfl) h
theorem F10.sh {K : VK} {x0 x1 : Value} {w : World} (h : (C.call Try.prog 38 #[] w fun x11_1 w1 =>
  C.not x11_1 w1 fun x12_2 w2 =>
  C.ite x12_2 (K (.bool false) w2) (F10.k3 K x0 x1 w2))) : C.call Try.prog 10 #[x0, x1] w K := calls_of_vc (A := F10.ann) (args := [x0, x1]) (Eq.mpr (by kernel_rfl) h)

/-! ### 11 scutage/scutagelaw14.RootsRuns (71) -/
namespace F11
def ann : Ann := ⟨[(3, [0])], [], [], []⟩
noncomputable def code : Code := match Try.f11.body with | some c => c | none => .skip
noncomputable def top (K : VK) : QE := retQ Try.prog Try.f11.results.toList K
noncomputable def k3 (K : VK) (y0 : Value) (w : World) : Prop := nav ann Try.prog 16 (fun c Q => vcCode ann Try.prog 16 c Q [(0, y0)] w) [1, 1] code (top K)
attribute [irreducible] k3
end F11
theorem F11.k3.to {K : VK} {y0 : Value} {w : World} (h : (C.run Try.prog (Instr.build 67 #[]) w fun x8_1 w1 =>
  C.new (.cells (Value.cells x8_1) 67) w1 fun x9_2 w2 =>
  C.call Try.prog 42 #[y0] w2 fun x11_3 w3 =>
  C.call Try.prog 41 #[x9_2, (.slice none 0 0), x11_3] w3 fun x12_4 w4 =>
  C.ext 0 x12_4 w4 fun x13_5 w5 =>
  C.ext 1 x12_4 w5 fun x14_6 w6 =>
  K x14_6 w6)) : F11.k3 K y0 w := Eq.mpr (by kernel_rfl) h
theorem F11.sh {K : VK} {x0 : Value} {w : World} (h : (C.call Try.prog 38 #[] w fun x5_1 w1 =>
  C.not x5_1 w1 fun x6_2 w2 =>
  C.ite x6_2 (K (.bool false) w2) (F11.k3 K x0 w2))) : C.call Try.prog 11 #[x0] w K := calls_of_vc (A := F11.ann) (args := [x0]) (Eq.mpr (by kernel_rfl) h)

/-! ### 12 scutage/scutagelaw14.RootsClones (71, 71, 71) -/
namespace F12
def ann : Ann := ⟨[(3, [0, 1, 2]), (9, [1, 2, 7, 8, 9, 10, 11, 12]), (10, [1, 2, 7, 8, 9, 10, 11, 12]), (11, [1, 2, 7, 8, 9, 10])], [(8, [1, 2, 7, 8, 9, 10, 11, 12])], [], []⟩
noncomputable def code : Code := match Try.f12.body with | some c => c | none => .skip
noncomputable def top (K : VK) : QE := retQ Try.prog Try.f12.results.toList K
noncomputable def k3 (K : VK) (y0 y1 y2 : Value) (w : World) : Prop := nav ann Try.prog 140 (fun c Q => vcCode ann Try.prog 140 c Q [(0, y0), (1, y1), (2, y2)] w) [1, 1] code (top K)
attribute [irreducible] k3
noncomputable def k11 (K : VK) (y1 y2 y7 y8 y9 y10 : Value) (w : World) : Prop := nav ann Try.prog 140 (fun c Q => vcCode ann Try.prog 140 c Q [(1, y1), (2, y2), (7, y7), (8, y8), (9, y9), (10, y10)] w) [1, 1, 1, 1, 1, 1, 1] code (top K)
attribute [irreducible] k11
noncomputable def l8 (K : VK) (y1 y2 y7 y8 y9 y10 y11 y12 : Value) (w : World) : Prop := nav ann Try.prog 140 (isLoop Try.prog 140 [(1, y1), (2, y2), (7, y7), (8, y8), (9, y9), (10, y10), (11, y11), (12, y12)] w) [1, 1, 1, 1, 1, 1, 0, 1, 0] code (top K)
attribute [irreducible] l8
noncomputable def k10 (K : VK) (y1 y2 y7 y8 y9 y10 y11 y12 : Value) (w : World) : Prop := nav ann Try.prog 140 (fun c Q => vcCode ann Try.prog 140 c Q [(1, y1), (2, y2), (7, y7), (8, y8), (9, y9), (10, y10), (11, y11), (12, y12)] w) [1, 1, 1, 1, 1, 1, 0, 1, 0, 0, 1] code (top K)
attribute [irreducible] k10
noncomputable def k9 (K : VK) (y1 y2 y7 y8 y9 y10 y11 y12 : Value) (w : World) : Prop := nav ann Try.prog 140 (fun c Q => vcCode ann Try.prog 140 c Q [(1, y1), (2, y2), (7, y7), (8, y8), (9, y9), (10, y10), (11, y11), (12, y12)] w) [1, 1, 1, 1, 1, 1, 0, 1, 0, 0, 1, 1] code (top K)
attribute [irreducible] k9
end F12
theorem F12.k3.to {K : VK} {y0 y1 y2 : Value} {w : World} (h : (C.run Try.prog (Instr.build 67 #[]) w fun x24_1 w1 =>
  C.new (.cells (Value.cells x24_1) 67) w1 fun x25_2 w2 =>
  C.call Try.prog 42 #[y0] w2 fun x29_3 w3 =>
  C.call Try.prog 41 #[x25_2, (.slice none 0 0), x29_3] w3 fun x30_4 w4 =>
  C.ext 0 x30_4 w4 fun x31_5 w5 =>
  C.ext 1 x30_4 w5 fun x32_6 w6 =>
  C.call Try.prog 43 #[x25_2] w6 fun x34_7 w7 =>
  C.call Try.prog 44 #[x25_2] w7 fun x36_8 w8 =>
  F12.l8 K y1 y2 x25_2 x31_5 x32_6 x34_7 x36_8 (.int .i64 0) w8)) : F12.k3 K y0 y1 y2 w := Eq.mpr (by kernel_rfl) h
theorem F12.k11.to {K : VK} {y1 y2 y7 y8 y9 y10 : Value} {w : World} (h : (C.call Try.prog 42 #[y1] w fun x51_1 w1 =>
  C.call Try.prog 41 #[y7, y8, x51_1] w1 fun x52_2 w2 =>
  C.ext 0 x52_2 w2 fun x53_3 w3 =>
  C.ext 1 x52_2 w3 fun x54_4 w4 =>
  C.call Try.prog 42 #[y2] w4 fun x59_5 w5 =>
  C.call Try.prog 41 #[y10, y8, x59_5] w5 fun x60_6 w6 =>
  C.ext 0 x60_6 w6 fun x61_7 w7 =>
  C.ext 1 x60_6 w7 fun x62_8 w8 =>
  C.call Try.prog 45 #[(.pointer none)] w8 fun x64_9 w9 =>
  C.call Try.prog 46 #[(.pointer none)] w9 fun x67_10 w10 =>
  C.ext 0 x67_10 w10 fun x68_11 w11 =>
  C.ext 1 x67_10 w11 fun x69_12 w12 =>
  C.new (.cells #[.int .i64 0, .int .i64 0] 40) w12 fun x18_13 w13 =>
  C.store 2 x18_13 x68_11 w13 fun w14 =>
  C.call Try.prog 47 #[(.pointer none), (.int .i64 0)] w14 fun x72_15 w15 =>
  C.ext 0 x72_15 w15 fun x73_16 w16 =>
  C.ext 1 x72_15 w16 fun x74_17 w17 =>
  C.new (.cells #[.int .i64 0, .int .i64 0] 40) w17 fun x20_18 w18 =>
  C.store 2 x20_18 x73_16 w18 fun w19 =>
  C.guarded true y9 (fun K => K x54_4 w19) w19 fun x77_20 w20 =>
  C.pick (some y9) (some x77_20) (some (.bool false)) w20 fun x78_21 w21 =>
  C.guarded true x78_21 (fun K => K x62_8 w21) w21 fun x80_22 w22 =>
  C.pick (some x78_21) (some x80_22) (some (.bool false)) w22 fun x81_23 w23 =>
  C.guarded true x81_23 (fun K => K y7 w23) w23 fun x83_24 w24 =>
  C.guarded true x81_23 (fun K => C.call Try.prog 44 #[x83_24] w24 K) w24 fun x84_25 w25 =>
  C.guarded true x81_23 (fun K => K x53_3 w25) w25 fun x85_26 w26 =>
  C.guarded true x81_23 (fun K => C.call Try.prog 48 #[x84_25, x85_26] w26 K) w26 fun x86_27 w27 =>
  C.pick (some x81_23) (some x86_27) (some (.bool false)) w27 fun x87_28 w28 =>
  C.guarded true x87_28 (fun K => K y10 w28) w28 fun x89_29 w29 =>
  C.guarded true x87_28 (fun K => C.call Try.prog 44 #[x89_29] w29 K) w29 fun x90_30 w30 =>
  C.guarded true x87_28 (fun K => K x61_7 w30) w30 fun x91_31 w31 =>
  C.guarded true x87_28 (fun K => C.call Try.prog 48 #[x90_30, x91_31] w31 K) w31 fun x92_32 w32 =>
  C.pick (some x87_28) (some x92_32) (some (.bool false)) w32 fun x93_33 w33 =>
  C.guarded true x93_33 (fun K => K (.pointer none) w33) w33 fun x95_34 w34 =>
  C.guarded true x93_33 (fun K => C.run Try.prog (Instr.build 40 #[]) w34 K) w34 fun x96_35 w35 =>
  C.guarded true x93_33 (fun K => C.call Try.prog 39 #[x95_34, x96_35] w35 K) w35 fun x97_36 w36 =>
  C.guarded true x93_33 (fun K => C.not x97_36 w36 K) w36 fun x98_37 w37 =>
  C.pick (some x93_33) (some x98_37) (some (.bool false)) w37 fun x99_38 w38 =>
  C.guarded true x99_38 (fun K => C.loadA 2 x18_13 w38 K) w38 fun x101_39 w39 =>
  C.guarded true x99_38 (fun K => C.run Try.prog (Instr.build 40 #[]) w39 K) w39 fun x102_40 w40 =>
  C.guarded true x99_38 (fun K => C.bin Try.prog .eql 40 (.tmp 101) (.tmp 102) x101_39 x102_40 w40 K) w40 fun x103_41 w41 =>
  C.pick (some x99_38) (some x103_41) (some (.bool false)) w41 fun x104_42 w42 =>
  C.guarded true x104_42 (fun K => K x69_12 w42) w42 fun x106_43 w43 =>
  C.guarded true x104_42 (fun K => C.not x106_43 w43 K) w43 fun x107_44 w44 =>
  C.pick (some x104_42) (some x107_44) (some (.bool false)) w44 fun x108_45 w45 =>
  C.guarded true x108_45 (fun K => C.loadA 2 x20_18 w45 K) w45 fun x110_46 w46 =>
  C.guarded true x108_45 (fun K => C.loadA 2 x18_13 w46 K) w46 fun x111_47 w47 =>
  C.guarded true x108_45 (fun K => C.bin Try.prog .eql 40 (.tmp 110) (.tmp 111) x110_46 x111_47 w47 K) w47 fun x112_48 w48 =>
  C.pick (some x108_45) (some x112_48) (some (.bool false)) w48 fun x113_49 w49 =>
  C.guarded true x113_49 (fun K => K x74_17 w49) w49 fun x115_50 w50 =>
  C.guarded true x113_49 (fun K => C.not x115_50 w50 K) w50 fun x116_51 w51 =>
  C.pick (some x113_49) (some x116_51) (some (.bool false)) w51 fun x117_52 w52 =>
  C.guarded true x117_52 (fun K => K (.pointer none) w52) w52 fun x119_53 w53 =>
  C.guarded true x117_52 (fun K => C.call Try.prog 49 #[x119_53] w53 K) w53 fun x120_54 w54 =>
  C.guarded true x117_52 (fun K => C.int .eql x120_54 (.int .i64 0) w54 K) w54 fun x121_55 w55 =>
  C.pick (some x117_52) (some x121_55) (some (.bool false)) w55 fun x122_56 w56 =>
  C.guarded true x122_56 (fun K => K (.pointer none) w56) w56 fun x124_57 w57 =>
  C.guarded true x122_56 (fun K => C.call Try.prog 44 #[x124_57] w57 K) w57 fun x125_58 w58 =>
  C.guarded true x122_56 (fun K => C.len x125_58 w58 K) w58 fun x126_59 w59 =>
  C.guarded true x122_56 (fun K => C.int .eql x126_59 (.int .i64 0) w59 K) w59 fun x127_60 w60 =>
  C.pick (some x122_56) (some x127_60) (some (.bool false)) w60 fun x128_61 w61 =>
  C.guarded true x128_61 (fun K => K (.pointer none) w61) w61 fun x130_62 w62 =>
  C.guarded true x128_61 (fun K => C.call Try.prog 40 #[x130_62] w62 K) w62 fun x131_63 w63 =>
  C.guarded true x128_61 (fun K => C.len x131_63 w63 K) w63 fun x132_64 w64 =>
  C.guarded true x128_61 (fun K => C.int .eql x132_64 (.int .i64 0) w64 K) w64 fun x133_65 w65 =>
  C.pick (some x128_61) (some x133_65) (some (.bool false)) w65 fun x134_66 w66 =>
  C.guarded true x134_66 (fun K => K (.pointer none) w66) w66 fun x136_67 w67 =>
  C.guarded true x134_66 (fun K => C.call Try.prog 43 #[x136_67] w67 K) w67 fun x137_68 w68 =>
  C.guarded true x134_66 (fun K => C.bin Try.prog .eql 65 (.tmp 137) (.const (.pointer none)) x137_68 (.pointer none) w68 K) w68 fun x138_69 w69 =>
  C.pick (some x134_66) (some x138_69) (some (.bool false)) w69 fun x139_70 w70 =>
  K x139_70 w70)) : F12.k11 K y1 y2 y7 y8 y9 y10 w := Eq.mpr (by kernel_rfl) h
theorem F12.l8.to {K : VK} {y1 y2 y7 y8 y9 y10 y11 y12 : Value} {w : World} (h : (C.len y11 w fun x39_1 w1 =>
  C.int .lss y12 x39_1 w1 fun x40_2 w2 =>
  C.ite x40_2 (F12.k10 K y1 y2 y7 y8 y9 y10 y11 y12 w2) (F12.k11 K y1 y2 y7 y8 y9 y10 w2))) : F12.l8 K y1 y2 y7 y8 y9 y10 y11 y12 w := by unfold F12.l8; exact nav_round (Eq.mpr (by kernel_rfl) h)
theorem F12.k10.to {K : VK} {y1 y2 y7 y8 y9 y10 y11 y12 : Value} {w : World} (h : (C.run Try.prog (Instr.build 40 #[(0, (.int .i64 7))]) w fun x45_1 w1 =>
  C.idx 2 y11 y12 w1 fun x46_2 w2 =>
  C.store 2 x46_2 x45_1 w2 fun w3 =>
  F12.k9 K y1 y2 y7 y8 y9 y10 y11 y12 w3)) : F12.k10 K y1 y2 y7 y8 y9 y10 y11 y12 w := Eq.mpr (by kernel_rfl) h
theorem F12.k9.to {K : VK} {y1 y2 y7 y8 y9 y10 y11 y12 : Value} {w : World} (h : (C.int .add y12 (.int .i64 1) w fun x42_1 w1 =>
  F12.l8 K y1 y2 y7 y8 y9 y10 y11 x42_1 w1)) : F12.k9 K y1 y2 y7 y8 y9 y10 y11 y12 w := Eq.mpr (by kernel_rfl) h
theorem F12.sh {K : VK} {x0 x1 x2 : Value} {w : World} (h : (C.call Try.prog 38 #[] w fun x22_1 w1 =>
  C.not x22_1 w1 fun x23_2 w2 =>
  C.ite x23_2 (K (.bool false) w2) (F12.k3 K x0 x1 x2 w2))) : C.call Try.prog 12 #[x0, x1, x2] w K := calls_of_vc (A := F12.ann) (args := [x0, x1, x2]) (Eq.mpr (by kernel_rfl) h)

/-! ### 38 scutage/scutagelaw14.alive () -/
namespace F38
def ann : Ann := ⟨[], [], [], [(3, (.take 0 (.take 3 (.take 1 (.take 4 (.go 2 (.go 5 (.take 6 (.take 7 .fin)) .fin) .fin))))))]⟩
noncomputable def code : Code := match Try.f38.body with | some c => c | none => .skip
noncomputable def top (K : VK) : QE := retQ Try.prog Try.f38.results.toList K
end F38
theorem F38.sh {K : VK} {w : World} (h : (C.run Try.prog (Instr.build 67 #[]) w fun x5_1 w1 =>
  C.new (.cells (Value.cells x5_1) 67) w1 fun x6_2 w2 =>
  C.run Try.prog (Instr.build 40 #[(0, (.int .i64 2)), (1, (.int .i64 5))]) w2 fun x7_3 w3 =>
  C.new (.cells #[.int .i64 0, .int .i64 0] 40) w3 fun x2_4 w4 =>
  C.store 2 x2_4 x7_3 w4 fun w5 =>
  C.draw w5 fun S w6 =>
  C.loadAS S 2 x2_4 w6 fun x9_7 w7 =>
  C.loadAS S 2 x2_4 w7 fun x12_8 w8 =>
  (C.call Try.prog 39 #[x6_2, x9_7] w8 fun x10_9 w9 =>
  (S w9 ∧
  (C.call Try.prog 39 #[x6_2, x12_8] w9 fun x13_10 w10 =>
  (S w10 ∧
  C.guarded true x10_9 (fun K => K x13_10 w10) w10 fun x16_11 w11 =>
  C.pick (some x10_9) (some x16_11) (some (.bool false)) w11 fun x17_12 w12 =>
  C.guarded true x17_12 (fun K => K x6_2 w12) w12 fun x19_13 w13 =>
  C.guarded true x17_12 (fun K => C.call Try.prog 49 #[x19_13] w13 K) w13 fun x20_14 w14 =>
  C.guarded true x17_12 (fun K => C.int .eql x20_14 (.int .i64 2) w14 K) w14 fun x21_15 w15 =>
  C.pick (some x17_12) (some x21_15) (some (.bool false)) w15 fun x22_16 w16 =>
  C.guarded true x22_16 (fun K => K x6_2 w16) w16 fun x24_17 w17 =>
  C.guarded true x22_16 (fun K => C.call Try.prog 40 #[x24_17] w17 K) w17 fun x25_18 w18 =>
  C.guarded true x22_16 (fun K => C.run Try.prog (Instr.buildSlice 68 1 #[(0, (.int .i64 5))]) w18 K) w18 fun x26_19 w19 =>
  C.guarded true x22_16 (fun K => C.call Try.prog 66 #[x25_18, x26_19] w19 K) w19 fun x27_20 w20 =>
  C.pick (some x22_16) (some x27_20) (some (.bool false)) w20 fun x28_21 w21 =>
  K x28_21 w21)) ∧ True)) ∧ True)) : C.call Try.prog 38 #[] w K := calls_of_vc (A := F38.ann) (args := []) (Eq.mpr (by kernel_rfl) h)

/-! ### 39 (*scutage/roots.Roots).Push (65, 40) -/
namespace F39
def ann : Ann := ⟨[(3, [0, 3]), (4, [])], [], [], [(3, (.take 0 (.take 1 (.take 2 (.take 3 (.take 5 (.go 4 (.go 6 (.go 7 (.take 8 (.take 9 (.go 10 .fin .fin))) .fin) .fin) (.go 6 (.go 4 (.go 7 (.take 8 (.take 9 (.go 10 .fin .fin))) .fin) .fin) .fin))))))))]⟩
noncomputable def code : Code := match Try.f39.body with | some c => c | none => .skip
noncomputable def top (K : VK) : QE := retQ Try.prog Try.f39.results.toList K
noncomputable def k3 (K : VK) (y0 y3 : Value) (w : World) : Prop := nav ann Try.prog 30 (fun c Q => vcCode ann Try.prog 30 c Q [(0, y0), (3, y3)] w) [1, 1] code (top K)
attribute [irreducible] k3
noncomputable def k4 (K : VK) (w : World) : Prop := nav ann Try.prog 30 (fun c Q => vcCode ann Try.prog 30 c Q [] w) [1, 1, 1] code (top K)
attribute [irreducible] k4
end F39
theorem F39.k3.to {K : VK} {y0 y3 : Value} {w : World} (h : (C.draw w fun S w1 =>
  C.nilCheck y0 w1 fun x22_2 w2 =>
  C.field 0 x22_2 w2 fun x23_3 w3 =>
  C.loadAS S 2 y3 w3 fun x25_4 w4 =>
  (C.load1 x23_3 w4 fun x24_11 w11 =>
  (S w11 ∧
  (C.run Try.prog (Instr.buildSlice 64 1 #[(0, x25_4)]) w11 fun x26_12 w12 =>
  (S w12 ∧
  (C.run Try.prog (Builtin.append_ #[64, 64] 64 #[x24_11, x26_12]) w12 fun x27_13 w13 =>
  (S w13 ∧
  C.nilCheck y0 w13 fun x28_14 w14 =>
  C.field 0 x28_14 w14 fun x29_15 w15 =>
  (C.store 1 x29_15 x27_13 w15 fun w16 =>
  (S w16 ∧
  F39.k4 K w16)) ∧ True)) ∧ True)) ∧ True)) ∧ ((C.run Try.prog (Instr.buildSlice 64 1 #[(0, x25_4)]) w4 fun x26_5 w5 =>
  (S w5 ∧
  (C.load1 x23_3 w5 fun x24_6 w6 =>
  (S w6 ∧
  (C.run Try.prog (Builtin.append_ #[64, 64] 64 #[x24_6, x26_5]) w6 fun x27_7 w7 =>
  (S w7 ∧
  C.nilCheck y0 w7 fun x28_8 w8 =>
  C.field 0 x28_8 w8 fun x29_9 w9 =>
  (C.store 1 x29_9 x27_7 w9 fun w10 =>
  (S w10 ∧
  F39.k4 K w10)) ∧ True)) ∧ True)) ∧ True)) ∧ True))) : F39.k3 K y0 y3 w := Eq.mpr (by kernel_rfl) h
theorem F39.k4.to {K : VK} {w : World} (h : (K (.bool true) w)) : F39.k4 K w := Eq.mpr (by kernel_rfl) h
theorem F39.sh {K : VK} {x0 x1 : Value} {w : World} (h : (C.new (.cells (Value.cells x1) 40) w fun x3_1 w1 =>
  C.bin Try.prog .eql 65 (.tmp 5) (.const (.pointer none)) x0 (.pointer none) w1 fun x6_2 w2 =>
  C.guarded false x6_2 (fun K => C.loadA 2 x3_1 w2 K) w2 fun x8_3 w3 =>
  C.guarded false x6_2 (fun K => C.call Try.prog 29 #[x8_3] w3 K) w3 fun x9_4 w4 =>
  C.guarded false x6_2 (fun K => C.int .neq x9_4 (.int .i64 0) w4 K) w4 fun x10_5 w5 =>
  C.pick (some x6_2) (some (.bool true)) (some x10_5) w5 fun x11_6 w6 =>
  C.guarded false x11_6 (fun K => K x0 w6) w6 fun x13_7 w7 =>
  C.guarded false x11_6 (fun K => C.nilCheck x13_7 w7 K) w7 fun x14_8 w8 =>
  C.guarded false x11_6 (fun K => C.field 0 x14_8 w8 K) w8 fun x15_9 w9 =>
  C.guarded false x11_6 (fun K => C.load1 x15_9 w9 K) w9 fun x16_10 w10 =>
  C.guarded false x11_6 (fun K => C.len x16_10 w10 K) w10 fun x17_11 w11 =>
  C.guarded false x11_6 (fun K => C.int .geq x17_11 (.int .i64 16) w11 K) w11 fun x18_12 w12 =>
  C.pick (some x11_6) (some (.bool true)) (some x18_12) w12 fun x19_13 w13 =>
  C.ite x19_13 (K (.bool false) w13) (F39.k3 K x0 x3_1 w13))) : C.call Try.prog 39 #[x0, x1] w K := calls_of_vc (A := F39.ann) (args := [x0, x1]) (Eq.mpr (by kernel_rfl) h)

/-! ### 40 (*scutage/roots.Roots).Refs (65) -/
namespace F40
def ann : Ann := ⟨[(4, [3, 8, 9, 10]), (8, [3, 8, 9, 10]), (9, [3])], [(3, [3, 8, 9, 10])], [], []⟩
noncomputable def code : Code := match Try.f40.body with | some c => c | none => .skip
noncomputable def top (K : VK) : QE := retQ Try.prog Try.f40.results.toList K
noncomputable def k9 (K : VK) (y3 : Value) (w : World) : Prop := nav ann Try.prog 31 (fun c Q => vcCode ann Try.prog 31 c Q [(3, y3)] w) [1, 1, 1] code (top K)
attribute [irreducible] k9
noncomputable def l3 (K : VK) (y3 y8 y9 y10 : Value) (w : World) : Prop := nav ann Try.prog 31 (isLoop Try.prog 31 [(3, y3), (8, y8), (9, y9), (10, y10)] w) [1, 1, 0, 1, 0] code (top K)
attribute [irreducible] l3
noncomputable def k4 (K : VK) (y3 y8 y9 y10 : Value) (w : World) : Prop := nav ann Try.prog 31 (fun c Q => vcCode ann Try.prog 31 c Q [(3, y3), (8, y8), (9, y9), (10, y10)] w) [1, 1, 0, 1, 0, 0, 1, 1] code (top K)
attribute [irreducible] k4
noncomputable def k8 (K : VK) (y3 y8 y9 y10 : Value) (w : World) : Prop := nav ann Try.prog 31 (fun c Q => vcCode ann Try.prog 31 c Q [(3, y3), (8, y8), (9, y9), (10, y10)] w) [1, 1, 0, 1, 0, 0, 1, 1, 1] code (top K)
attribute [irreducible] k8
end F40
theorem F40.k9.to {K : VK} {y3 : Value} {w : World} (h : (K y3 w)) : F40.k9 K y3 w := Eq.mpr (by kernel_rfl) h
theorem F40.l3.to {K : VK} {y3 y8 y9 y10 : Value} {w : World} (h : (C.int .lss y10 y9 w fun x11_1 w1 =>
  C.ite x11_1 (F40.k4 K y3 y8 y9 y10 w1) (F40.k9 K y3 w1))) : F40.l3 K y3 y8 y9 y10 w := by unfold F40.l3; exact nav_round (Eq.mpr (by kernel_rfl) h)
theorem F40.k4.to {K : VK} {y3 y8 y9 y10 : Value} {w : World} (h : (C.idx 2 y8 y10 w fun x12_1 w1 =>
  C.loadA 2 x12_1 w1 fun x13_2 w2 =>
  C.new (.cells #[.int .i64 0, .int .i64 0] 40) w2 fun x5_3 w3 =>
  C.store 2 x5_3 x13_2 w3 fun w4 =>
  C.field 1 x5_3 w4 fun x14_5 w5 =>
  C.load1 x14_5 w5 fun x15_6 w6 =>
  C.field 0 x5_3 w6 fun x16_7 w7 =>
  C.load1 x16_7 w7 fun x17_8 w8 =>
  C.int .eql x17_8 (.int .i64 2) w8 fun x18_9 w9 =>
  C.guarded true x18_9 (fun K => K y3 w9) w9 fun x20_10 w10 =>
  C.guarded true x18_9 (fun K => K x15_6 w10) w10 fun x21_11 w11 =>
  C.guarded true x18_9 (fun K => C.call Try.prog 67 #[x20_10, x21_11] w11 K) w11 fun x22_12 w12 =>
  C.guarded true x18_9 (fun K => C.not x22_12 w12 K) w12 fun x23_13 w13 =>
  C.pick (some x18_9) (some x23_13) (some (.bool false)) w13 fun x24_14 w14 =>
  C.ite x24_14 (C.run Try.prog (Instr.buildSlice 68 1 #[(0, x15_6)]) w14 fun x27_15 w15 =>
  C.run Try.prog (Builtin.append_ #[68, 68] 68 #[y3, x27_15]) w15 fun x28_16 w16 =>
  F40.k8 K x28_16 y8 y9 y10 w16) (F40.k8 K y3 y8 y9 y10 w14))) : F40.k4 K y3 y8 y9 y10 w := Eq.mpr (by kernel_rfl) h
theorem F40.k8.to {K : VK} {y3 y8 y9 y10 : Value} {w : World} (h : (C.int .add y10 (.int .i64 1) w fun x29_1 w1 =>
  F40.l3 K y3 y8 y9 x29_1 w1)) : F40.k8 K y3 y8 y9 y10 w := Eq.mpr (by kernel_rfl) h
theorem F40.sh {K : VK} {x0 : Value} {w : World} (h : (C.call Try.prog 44 #[x0] w fun x8_1 w1 =>
  C.len x8_1 w1 fun x9_2 w2 =>
  F40.l3 K (.slice none 0 0) x8_1 x9_2 (.int .i64 0) w2)) : C.call Try.prog 40 #[x0] w K := calls_of_vc (A := F40.ann) (args := [x0]) (Eq.mpr (by kernel_rfl) h)

/-! ### 41 scutage/scutagelaw14.run (65, 64, 71) -/
namespace F41
def ann : Ann := ⟨[(4, [0, 1, 2, 8, 9]), (5, [0, 1, 2, 9]), (7, [1, 8])], [(3, [0, 1, 2, 8, 9])], [], []⟩
noncomputable def code : Code := match Try.f41.body with | some c => c | none => .skip
noncomputable def top (K : VK) : QE := retQ Try.prog Try.f41.results.toList K
noncomputable def k7 (K : VK) (y1 y8 : Value) (w : World) : Prop := nav ann Try.prog 52 (fun c Q => vcCode ann Try.prog 52 c Q [(1, y1), (8, y8)] w) [1, 1, 1] code (top K)
attribute [irreducible] k7
noncomputable def l3 (K : VK) (y0 y1 y2 y8 y9 : Value) (w : World) : Prop := nav ann Try.prog 52 (isLoop Try.prog 52 [(0, y0), (1, y1), (2, y2), (8, y8), (9, y9)] w) [1, 1, 0, 1, 0] code (top K)
attribute [irreducible] l3
noncomputable def k5 (K : VK) (y0 y1 y2 y9 : Value) (w : World) : Prop := nav ann Try.prog 52 (fun c Q => vcCode ann Try.prog 52 c Q [(0, y0), (1, y1), (2, y2), (9, y9)] w) [1, 1, 0, 1, 0, 0, 1] code (top K)
attribute [irreducible] k5
noncomputable def k4 (K : VK) (y0 y1 y2 y8 y9 : Value) (w : World) : Prop := nav ann Try.prog 52 (fun c Q => vcCode ann Try.prog 52 c Q [(0, y0), (1, y1), (2, y2), (8, y8), (9, y9)] w) [1, 1, 0, 1, 0, 0, 1, 1] code (top K)
attribute [irreducible] k4
end F41
theorem F41.k7.to {K : VK} {y1 y8 : Value} {w : World} (h : (K (.tuple #[y1, y8]) w)) : F41.k7 K y1 y8 w := Eq.mpr (by kernel_rfl) h
theorem F41.l3.to {K : VK} {y0 y1 y2 y8 y9 : Value} {w : World} (h : (C.len y2 w fun x12_1 w1 =>
  C.int .lss y9 x12_1 w1 fun x13_2 w2 =>
  C.guarded true x13_2 (fun K => K y8 w2) w2 fun x15_3 w3 =>
  C.pick (some x13_2) (some x15_3) (some (.bool false)) w3 fun x16_4 w4 =>
  C.ite x16_4 (F41.k5 K y0 y1 y2 y9 w4) (F41.k7 K y1 y8 w4))) : F41.l3 K y0 y1 y2 y8 y9 w := by unfold F41.l3; exact nav_round (Eq.mpr (by kernel_rfl) h)
theorem F41.k5.to {K : VK} {y0 y1 y2 y9 : Value} {w : World} (h : (C.idx 4 y2 y9 w fun x24_1 w1 =>
  C.loadA 4 x24_1 w1 fun x25_2 w2 =>
  C.call Try.prog 68 #[y0, y1, x25_2] w2 fun x26_3 w3 =>
  C.ext 0 x26_3 w3 fun x27_4 w4 =>
  C.ext 1 x26_3 w4 fun x28_5 w5 =>
  C.guarded true x28_5 (fun K => K y0 w5) w5 fun x31_6 w6 =>
  C.guarded true x28_5 (fun K => C.call Try.prog 49 #[x31_6] w6 K) w6 fun x32_7 w7 =>
  C.guarded true x28_5 (fun K => K x27_4 w7) w7 fun x33_8 w8 =>
  C.guarded true x28_5 (fun K => C.len x33_8 w8 K) w8 fun x34_9 w9 =>
  C.guarded true x28_5 (fun K => C.int .eql x32_7 x34_9 w9 K) w9 fun x35_10 w10 =>
  C.pick (some x28_5) (some x35_10) (some (.bool false)) w10 fun x36_11 w11 =>
  C.guarded true x36_11 (fun K => K y0 w11) w11 fun x38_12 w12 =>
  C.guarded true x36_11 (fun K => C.call Try.prog 44 #[x38_12] w12 K) w12 fun x39_13 w13 =>
  C.guarded true x36_11 (fun K => K x27_4 w13) w13 fun x40_14 w14 =>
  C.guarded true x36_11 (fun K => C.call Try.prog 48 #[x39_13, x40_14] w14 K) w14 fun x41_15 w15 =>
  C.pick (some x36_11) (some x41_15) (some (.bool false)) w15 fun x42_16 w16 =>
  C.guarded true x42_16 (fun K => K y0 w16) w16 fun x44_17 w17 =>
  C.guarded true x42_16 (fun K => C.call Try.prog 40 #[x44_17] w17 K) w17 fun x45_18 w18 =>
  C.guarded true x42_16 (fun K => K x27_4 w18) w18 fun x46_19 w19 =>
  C.guarded true x42_16 (fun K => C.call Try.prog 69 #[x46_19] w19 K) w19 fun x47_20 w20 =>
  C.guarded true x42_16 (fun K => C.call Try.prog 66 #[x45_18, x47_20] w20 K) w20 fun x48_21 w21 =>
  C.pick (some x42_16) (some x48_21) (some (.bool false)) w21 fun x49_22 w22 =>
  F41.k4 K y0 x27_4 y2 x49_22 y9 w22)) : F41.k5 K y0 y1 y2 y9 w := Eq.mpr (by kernel_rfl) h
theorem F41.k4.to {K : VK} {y0 y1 y2 y8 y9 : Value} {w : World} (h : (C.int .add y9 (.int .i64 1) w fun x18_1 w1 =>
  F41.l3 K y0 y1 y2 y8 x18_1 w1)) : F41.k4 K y0 y1 y2 y8 y9 w := Eq.mpr (by kernel_rfl) h
theorem F41.sh {K : VK} {x0 x1 x2 : Value} {w : World} (h : (F41.l3 K x0 x1 x2 (.bool true) (.int .i64 0) w)) : C.call Try.prog 41 #[x0, x1, x2] w K := calls_of_vc (A := F41.ann) (args := [x0, x1, x2]) (Eq.mpr (by kernel_rfl) h)

/-! ### 42 scutage/scutagelaw14.few (71) -/
namespace F42
def ann : Ann := ⟨[(3, [0])], [], [], []⟩
noncomputable def code : Code := match Try.f42.body with | some c => c | none => .skip
noncomputable def top (K : VK) : QE := retQ Try.prog Try.f42.results.toList K
noncomputable def k3 (K : VK) (y0 : Value) (w : World) : Prop := nav ann Try.prog 9 (fun c Q => vcCode ann Try.prog 9 c Q [(0, y0)] w) [1, 1] code (top K)
attribute [irreducible] k3
end F42
theorem F42.k3.to {K : VK} {y0 : Value} {w : World} (h : (K y0 w)) : F42.k3 K y0 w := Eq.mpr (by kernel_rfl) h
theorem F42.sh {K : VK} {x0 : Value} {w : World} (h : (C.len x0 w fun x4_1 w1 =>
  C.int .gtr x4_1 (.int .i64 50) w1 fun x5_2 w2 =>
  C.ite x5_2 (C.run Try.prog (Instr.sliceAt 71 x0 none (some (.int .i64 50)) none) w2 fun x7_3 w3 =>
  K x7_3 w3) (F42.k3 K x0 w2))) : C.call Try.prog 42 #[x0] w K := calls_of_vc (A := F42.ann) (args := [x0]) (Eq.mpr (by kernel_rfl) h)

/-! ### 43 (*scutage/roots.Roots).Clone (65) -/
namespace F43
def ann : Ann := ⟨[(3, [0])], [], [], []⟩
noncomputable def code : Code := match Try.f43.body with | some c => c | none => .skip
noncomputable def top (K : VK) : QE := retQ Try.prog Try.f43.results.toList K
noncomputable def k3 (K : VK) (y0 : Value) (w : World) : Prop := nav ann Try.prog 9 (fun c Q => vcCode ann Try.prog 9 c Q [(0, y0)] w) [1, 1] code (top K)
attribute [irreducible] k3
end F43
theorem F43.k3.to {K : VK} {y0 : Value} {w : World} (h : (C.call Try.prog 44 #[y0] w fun x6_1 w1 =>
  C.run Try.prog (Instr.build 67 #[(0, x6_1)]) w1 fun x7_2 w2 =>
  C.new (.cells (Value.cells x7_2) 67) w2 fun x8_3 w3 =>
  K x8_3 w3)) : F43.k3 K y0 w := Eq.mpr (by kernel_rfl) h
theorem F43.sh {K : VK} {x0 : Value} {w : World} (h : (C.bin Try.prog .eql 65 (.tmp 3) (.const (.pointer none)) x0 (.pointer none) w fun x4_1 w1 =>
  C.ite x4_1 (K (.pointer none) w1) (F43.k3 K x0 w1))) : C.call Try.prog 43 #[x0] w K := calls_of_vc (A := F43.ann) (args := [x0]) (Eq.mpr (by kernel_rfl) h)

/-! ### 44 (*scutage/roots.Roots).All (65) -/
namespace F44
def ann : Ann := ⟨[(3, [0])], [], [], []⟩
noncomputable def code : Code := match Try.f44.body with | some c => c | none => .skip
noncomputable def top (K : VK) : QE := retQ Try.prog Try.f44.results.toList K
noncomputable def k3 (K : VK) (y0 : Value) (w : World) : Prop := nav ann Try.prog 10 (fun c Q => vcCode ann Try.prog 10 c Q [(0, y0)] w) [1, 1] code (top K)
attribute [irreducible] k3
end F44
theorem F44.k3.to {K : VK} {y0 : Value} {w : World} (h : (C.nilCheck y0 w fun x6_1 w1 =>
  C.field 0 x6_1 w1 fun x7_2 w2 =>
  C.load1 x7_2 w2 fun x8_3 w3 =>
  C.call Try.prog 70 #[x8_3] w3 fun x9_4 w4 =>
  K x9_4 w4)) : F44.k3 K y0 w := Eq.mpr (by kernel_rfl) h
theorem F44.sh {K : VK} {x0 : Value} {w : World} (h : (C.bin Try.prog .eql 65 (.tmp 3) (.const (.pointer none)) x0 (.pointer none) w fun x4_1 w1 =>
  C.ite x4_1 (K (.slice none 0 0) w1) (F44.k3 K x0 w1))) : C.call Try.prog 44 #[x0] w K := calls_of_vc (A := F44.ann) (args := [x0]) (Eq.mpr (by kernel_rfl) h)

/-! ### 45 (*scutage/roots.Roots).Clear (65) -/
namespace F45
def ann : Ann := ⟨[], [], [], []⟩
noncomputable def code : Code := match Try.f45.body with | some c => c | none => .skip
noncomputable def top (K : VK) : QE := retQ Try.prog Try.f45.results.toList K
end F45
theorem F45.sh {K : VK} {x0 : Value} {w : World} (h : (C.bin Try.prog .neq 65 (.tmp 2) (.const (.pointer none)) x0 (.pointer none) w fun x3_1 w1 =>
  C.ite x3_1 (C.nilCheck x0 w1 fun x5_2 w2 =>
  C.field 0 x5_2 w2 fun x6_3 w3 =>
  C.store 1 x6_3 (.slice none 0 0) w3 fun w4 =>
  K (.tuple #[]) w4) (K (.tuple #[]) w1))) : C.call Try.prog 45 #[x0] w K := calls_of_vc (A := F45.ann) (args := [x0]) (Eq.mpr (by kernel_rfl) h)

/-! ### 46 (*scutage/roots.Roots).Pop (65) -/
namespace F46
def ann : Ann := ⟨[(4, [2, 4, 5])], [], [], [(3, (.take 0 (.take 1 (.take 2 (.take 3 (.take 5 (.take 6 (.take 7 (.go 4 (.go 8 (.take 9 (.take 10 (.take 11 (.take 12 (.take 13 (.go 14 .fin .fin)))))) .fin) (.go 8 (.take 9 (.take 10 (.go 4 (.take 11 (.take 12 (.take 13 (.go 14 .fin .fin)))) .fin))) .fin))))))))))]⟩
noncomputable def code : Code := match Try.f46.body with | some c => c | none => .skip
noncomputable def top (K : VK) : QE := retQ Try.prog Try.f46.results.toList K
noncomputable def k4 (K : VK) (y2 y4 y5 : Value) (w : World) : Prop := nav ann Try.prog 31 (fun c Q => vcCode ann Try.prog 31 c Q [(2, y2), (4, y4), (5, y5)] w) [1, 1, 1] code (top K)
attribute [irreducible] k4
end F46
theorem F46.k4.to {K : VK} {y2 y4 y5 : Value} {w : World} (h : (C.loadA 2 y4 w fun x29_1 w1 =>
  C.store 2 y2 x29_1 w1 fun w2 =>
  C.loadA 2 y2 w2 fun r3 _ =>
  K (.tuple #[r3, y5]) w2)) : F46.k4 K y2 y4 y5 w := Eq.mpr (by kernel_rfl) h
theorem F46.sh {K : VK} {x0 : Value} {w : World} (h : (C.new (.cells #[.int .i64 0, .int .i64 0] 40) w fun x2_1 w1 =>
  C.call Try.prog 49 #[x0] w1 fun x9_2 w2 =>
  C.int .sub x9_2 (.int .i64 1) w2 fun x10_3 w3 =>
  C.call Try.prog 47 #[x0, x10_3] w3 fun x11_4 w4 =>
  C.ext 0 x11_4 w4 fun x12_5 w5 =>
  C.ext 1 x11_4 w5 fun x13_6 w6 =>
  C.new (.cells #[.int .i64 0, .int .i64 0] 40) w6 fun x4_7 w7 =>
  C.store 2 x4_7 x12_5 w7 fun w8 =>
  C.ite x13_6 (C.draw w8 fun S w9 =>
  C.nilCheck x0 w9 fun x17_10 w10 =>
  C.field 0 x17_10 w10 fun x18_11 w11 =>
  C.nilCheck x0 w11 fun x21_12 w12 =>
  C.field 0 x21_12 w12 fun x22_13 w13 =>
  (C.load1 x18_11 w13 fun x19_22 w22 =>
  (S w22 ∧
  (C.load1 x22_13 w22 fun x23_23 w23 =>
  (S w23 ∧
  C.len x23_23 w23 fun x24_24 w24 =>
  C.int .sub x24_24 (.int .i64 1) w24 fun x25_25 w25 =>
  ∃ x26_26, (∀ w', S w' → (Instr.sliceAt 64 x19_22 none (some x25_25) none).run Try.prog w' = .ok x26_26 w') ∧ (C.nilCheck x0 w25 fun x27_27 w27 =>
  C.field 0 x27_27 w27 fun x28_28 w28 =>
  (C.store 1 x28_28 x26_26 w28 fun w29 =>
  (S w29 ∧
  F46.k4 K x2_1 x4_7 x13_6 w29)) ∧ True))) ∧ True)) ∧ ((C.load1 x22_13 w13 fun x23_14 w14 =>
  (S w14 ∧
  C.len x23_14 w14 fun x24_15 w15 =>
  C.int .sub x24_15 (.int .i64 1) w15 fun x25_16 w16 =>
  (C.load1 x18_11 w16 fun x19_17 w17 =>
  (S w17 ∧
  ∃ x26_18, (∀ w', S w' → (Instr.sliceAt 64 x19_17 none (some x25_16) none).run Try.prog w' = .ok x26_18 w') ∧ (C.nilCheck x0 w17 fun x27_19 w19 =>
  C.field 0 x27_19 w19 fun x28_20 w20 =>
  (C.store 1 x28_20 x26_18 w20 fun w21 =>
  (S w21 ∧
  F46.k4 K x2_1 x4_7 x13_6 w21)) ∧ True))) ∧ True)) ∧ True)) (F46.k4 K x2_1 x4_7 x13_6 w8))) : C.call Try.prog 46 #[x0] w K := calls_of_vc (A := F46.ann) (args := [x0]) (Eq.mpr (by kernel_rfl) h)

/-! ### 47 (*scutage/roots.Roots).Get (65, 3) -/
namespace F47
def ann : Ann := ⟨[(3, [0, 1, 4])], [], [], []⟩
noncomputable def code : Code := match Try.f47.body with | some c => c | none => .skip
noncomputable def top (K : VK) : QE := retQ Try.prog Try.f47.results.toList K
noncomputable def k3 (K : VK) (y0 y1 y4 : Value) (w : World) : Prop := nav ann Try.prog 22 (fun c Q => vcCode ann Try.prog 22 c Q [(0, y0), (1, y1), (4, y4)] w) [1, 1] code (top K)
attribute [irreducible] k3
end F47
theorem F47.k3.to {K : VK} {y0 y1 y4 : Value} {w : World} (h : (C.nilCheck y0 w fun x16_1 w1 =>
  C.field 0 x16_1 w1 fun x17_2 w2 =>
  C.load1 x17_2 w2 fun x18_3 w3 =>
  C.idx 2 x18_3 y1 w3 fun x20_4 w4 =>
  C.loadA 2 x20_4 w4 fun x21_5 w5 =>
  C.store 2 y4 x21_5 w5 fun w6 =>
  C.loadA 2 y4 w6 fun r7 _ =>
  K (.tuple #[r7, (.bool true)]) w6)) : F47.k3 K y0 y1 y4 w := Eq.mpr (by kernel_rfl) h
theorem F47.sh {K : VK} {x0 x1 : Value} {w : World} (h : (C.new (.cells #[.int .i64 0, .int .i64 0] 40) w fun x4_1 w1 =>
  C.int .lss x1 (.int .i64 0) w1 fun x7_2 w2 =>
  C.guarded false x7_2 (fun K => K x1 w2) w2 fun x9_3 w3 =>
  C.guarded false x7_2 (fun K => K x0 w3) w3 fun x10_4 w4 =>
  C.guarded false x7_2 (fun K => C.call Try.prog 49 #[x10_4] w4 K) w4 fun x11_5 w5 =>
  C.guarded false x7_2 (fun K => C.int .geq x9_3 x11_5 w5 K) w5 fun x12_6 w6 =>
  C.pick (some x7_2) (some (.bool true)) (some x12_6) w6 fun x13_7 w7 =>
  C.ite x13_7 (C.run Try.prog (Instr.build 40 #[]) w7 fun x14_8 w8 =>
  C.store 2 x4_1 x14_8 w8 fun w9 =>
  C.loadA 2 x4_1 w9 fun r10 _ =>
  K (.tuple #[r10, (.bool false)]) w9) (F47.k3 K x0 x1 x4_1 w7))) : C.call Try.prog 47 #[x0, x1] w K := calls_of_vc (A := F47.ann) (args := [x0, x1]) (Eq.mpr (by kernel_rfl) h)

/-! ### 49 (*scutage/roots.Roots).Len (65) -/
namespace F49
def ann : Ann := ⟨[(3, [0])], [], [], []⟩
noncomputable def code : Code := match Try.f49.body with | some c => c | none => .skip
noncomputable def top (K : VK) : QE := retQ Try.prog Try.f49.results.toList K
noncomputable def k3 (K : VK) (y0 : Value) (w : World) : Prop := nav ann Try.prog 10 (fun c Q => vcCode ann Try.prog 10 c Q [(0, y0)] w) [1, 1] code (top K)
attribute [irreducible] k3
end F49
theorem F49.k3.to {K : VK} {y0 : Value} {w : World} (h : (C.nilCheck y0 w fun x6_1 w1 =>
  C.field 0 x6_1 w1 fun x7_2 w2 =>
  C.load1 x7_2 w2 fun x8_3 w3 =>
  C.len x8_3 w3 fun x9_4 w4 =>
  K x9_4 w4)) : F49.k3 K y0 w := Eq.mpr (by kernel_rfl) h
theorem F49.sh {K : VK} {x0 : Value} {w : World} (h : (C.bin Try.prog .eql 65 (.tmp 3) (.const (.pointer none)) x0 (.pointer none) w fun x4_1 w1 =>
  C.ite x4_1 (K (.int .i64 0) w1) (F49.k3 K x0 w1))) : C.call Try.prog 49 #[x0] w K := calls_of_vc (A := F49.ann) (args := [x0]) (Eq.mpr (by kernel_rfl) h)

/-! ### 68 scutage/scutagelaw14.step (65, 64, 103) -/
namespace F68
def ann : Ann := ⟨[(5, [0, 1, 5]), (9, [0, 1, 5, 8]), (13, [1, 8, 10, 11]), (14, [0, 1, 5, 8]), (17, [0, 1, 5, 8]), (20, [1, 5, 12, 13])], [], [], [(13, (.take 0 (.take 1 (.take 2 (.take 4 (.take 5 (.take 7 (.take 8 (.take 9 (.take 10 (.take 3 (.take 14 (.take 6 (.take 11 (.take 12 (.take 13 (.take 15 .fin))))))))))))))))), (20, (.take 0 (.take 1 (.take 2 (.take 4 (.take 5 (.take 11 (.take 3 (.take 6 (.take 7 (.take 8 (.take 9 (.take 10 (.take 12 .fin))))))))))))))]⟩
noncomputable def code : Code := match Try.f68.body with | some c => c | none => .skip
noncomputable def top (K : VK) : QE := retQ Try.prog Try.f68.results.toList K
noncomputable def k9 (K : VK) (y0 y1 y5 y8 : Value) (w : World) : Prop := nav ann Try.prog 118 (fun c Q => vcCode ann Try.prog 118 c Q [(0, y0), (1, y1), (5, y5), (8, y8)] w) [1, 1, 1] code (top K)
attribute [irreducible] k9
noncomputable def k5 (K : VK) (y0 y1 y5 : Value) (w : World) : Prop := nav ann Try.prog 118 (fun c Q => vcCode ann Try.prog 118 c Q [(0, y0), (1, y1), (5, y5)] w) [1, 1, 0, 1, 0, 1] code (top K)
attribute [irreducible] k5
noncomputable def k14 (K : VK) (y0 y1 y5 y8 : Value) (w : World) : Prop := nav ann Try.prog 118 (fun c Q => vcCode ann Try.prog 118 c Q [(0, y0), (1, y1), (5, y5), (8, y8)] w) [1, 1, 1, 1] code (top K)
attribute [irreducible] k14
noncomputable def k13 (K : VK) (y1 y8 y10 y11 : Value) (w : World) : Prop := nav ann Try.prog 118 (fun c Q => vcCode ann Try.prog 118 c Q [(1, y1), (8, y8), (10, y10), (11, y11)] w) [1, 1, 1, 0, 1, 0, 1, 1] code (top K)
attribute [irreducible] k13
noncomputable def k17 (K : VK) (y0 y1 y5 y8 : Value) (w : World) : Prop := nav ann Try.prog 118 (fun c Q => vcCode ann Try.prog 118 c Q [(0, y0), (1, y1), (5, y5), (8, y8)] w) [1, 1, 1, 1, 1] code (top K)
attribute [irreducible] k17
noncomputable def k20 (K : VK) (y1 y5 y12 y13 : Value) (w : World) : Prop := nav ann Try.prog 118 (fun c Q => vcCode ann Try.prog 118 c Q [(1, y1), (5, y5), (12, y12), (13, y13)] w) [1, 1, 1, 1, 1, 1, 1] code (top K)
attribute [irreducible] k20
end F68
theorem F68.k9.to {K : VK} {y0 y1 y5 y8 : Value} {w : World} (h : (C.field 0 y5 w fun x46_1 w1 =>
  C.load1 x46_1 w1 fun x47_2 w2 =>
  C.int .eql x47_2 (.int .i64 2) w2 fun x48_3 w3 =>
  C.ite x48_3 (C.call Try.prog 46 #[y0] w3 fun x51_4 w4 =>
  C.ext 0 x51_4 w4 fun x52_5 w5 =>
  C.ext 1 x51_4 w5 fun x53_6 w6 =>
  C.new (.cells #[.int .i64 0, .int .i64 0] 40) w6 fun x10_7 w7 =>
  C.store 2 x10_7 x52_5 w7 fun w8 =>
  C.int .eql y8 (.int .i64 0) w8 fun x55_9 w9 =>
  C.ite x55_9 (C.loadA 2 x10_7 w9 fun x57_10 w10 =>
  C.run Try.prog (Instr.build 40 #[]) w10 fun x58_11 w11 =>
  C.bin Try.prog .eql 40 (.tmp 57) (.tmp 58) x57_10 x58_11 w11 fun x59_12 w12 =>
  C.guarded true x59_12 (fun K => K x53_6 w12) w12 fun x61_13 w13 =>
  C.guarded true x59_12 (fun K => C.not x61_13 w13 K) w13 fun x62_14 w14 =>
  C.pick (some x59_12) (some x62_14) (some (.bool false)) w14 fun x63_15 w15 =>
  K (.tuple #[y1, x63_15]) w15) (F68.k13 K y1 y8 x10_7 x53_6 w9)) (F68.k14 K y0 y1 y5 y8 w3))) : F68.k9 K y0 y1 y5 y8 w := Eq.mpr (by kernel_rfl) h
theorem F68.k5.to {K : VK} {y0 y1 y5 : Value} {w : World} (h : (C.run Try.prog (Builtin.append_ #[64, 64] 64 #[(.slice none 0 0), y1]) w fun x35_1 w1 =>
  C.field 2 y5 w1 fun x37_2 w2 =>
  C.loadA 2 x37_2 w2 fun x38_3 w3 =>
  C.run Try.prog (Instr.buildSlice 64 1 #[(0, x38_3)]) w3 fun x39_4 w4 =>
  C.run Try.prog (Builtin.append_ #[64, 64] 64 #[x35_1, x39_4]) w4 fun x40_5 w5 =>
  C.field 2 y5 w5 fun x43_6 w6 =>
  C.loadA 2 x43_6 w6 fun x44_7 w7 =>
  C.call Try.prog 39 #[y0, x44_7] w7 fun x45_8 w8 =>
  K (.tuple #[x40_5, x45_8]) w8)) : F68.k5 K y0 y1 y5 w := Eq.mpr (by kernel_rfl) h
theorem F68.k14.to {K : VK} {y0 y1 y5 y8 : Value} {w : World} (h : (C.field 0 y5 w fun x78_1 w1 =>
  C.load1 x78_1 w1 fun x79_2 w2 =>
  C.int .eql x79_2 (.int .i64 3) w2 fun x80_3 w3 =>
  C.ite x80_3 (C.call Try.prog 45 #[y0] w3 fun x82_4 w4 =>
  K (.tuple #[(.slice none 0 0), (.bool true)]) w4) (F68.k17 K y0 y1 y5 y8 w3))) : F68.k14 K y0 y1 y5 y8 w := Eq.mpr (by kernel_rfl) h
theorem F68.k13.to {K : VK} {y1 y8 y10 y11 : Value} {w : World} (h : (C.draw w fun S w1 =>
  C.int .sub y8 (.int .i64 1) w1 fun x66_2 w2 =>
  C.guarded true y11 (fun K => K y1 w2) w2 fun x71_3 w3 =>
  C.guarded true y11 (fun K => K y8 w3) w3 fun x72_4 w4 =>
  C.guarded true y11 (fun K => C.int .sub x72_4 (.int .i64 1) w4 K) w4 fun x73_5 w5 =>
  C.guarded true y11 (fun K => C.idx 2 x71_3 x73_5 w5 K) w5 fun x74_6 w6 =>
  ∃ x67_7, (∀ w', S w' → (Instr.sliceAt 64 y1 none (some x66_2) none).run Try.prog w' = .ok x67_7 w') ∧ (C.guarded true y11 (fun K => C.loadAS S 2 y10 w6 K) w6 fun x70_8 w8 =>
  C.guarded true y11 (fun K => C.loadAS S 2 x74_6 w8 K) w8 fun x75_9 w9 =>
  C.guarded true y11 (fun K => ∃ x76_10, (∀ w', S w' → ((do eqGuard .eql 40 (.tmp 70) (.tmp 75) x70_8 x75_9; binOp .eql 40 x70_8 x75_9 : Sem Value)).run Try.prog w' = .ok x76_10 w') ∧ K x76_10 w9) w9 fun x76_10 w10 =>
  C.pick (some y11) (some x76_10) (some (.bool false)) w10 fun x77_11 w11 =>
  K (.tuple #[x67_7, x77_11]) w11))) : F68.k13 K y1 y8 y10 y11 w := Eq.mpr (by kernel_rfl) h
theorem F68.k17.to {K : VK} {y0 y1 y5 y8 : Value} {w : World} (h : (C.field 1 y5 w fun x85_1 w1 =>
  C.load1 x85_1 w1 fun x86_2 w2 =>
  C.call Try.prog 47 #[y0, x86_2] w2 fun x87_3 w3 =>
  C.ext 0 x87_3 w3 fun x88_4 w4 =>
  C.ext 1 x87_3 w4 fun x89_5 w5 =>
  C.new (.cells #[.int .i64 0, .int .i64 0] 40) w5 fun x12_6 w6 =>
  C.store 2 x12_6 x88_4 w6 fun w7 =>
  C.field 1 y5 w7 fun x90_8 w8 =>
  C.load1 x90_8 w8 fun x91_9 w9 =>
  C.int .lss x91_9 (.int .i64 0) w9 fun x92_10 w10 =>
  C.guarded false x92_10 (fun K => C.field 1 y5 w10 K) w10 fun x94_11 w11 =>
  C.guarded false x92_10 (fun K => C.load1 x94_11 w11 K) w11 fun x95_12 w12 =>
  C.guarded false x92_10 (fun K => K y8 w12) w12 fun x96_13 w13 =>
  C.guarded false x92_10 (fun K => C.int .geq x95_12 x96_13 w13 K) w13 fun x97_14 w14 =>
  C.pick (some x92_10) (some (.bool true)) (some x97_14) w14 fun x98_15 w15 =>
  C.ite x98_15 (C.loadA 2 x12_6 w15 fun x100_16 w16 =>
  C.run Try.prog (Instr.build 40 #[]) w16 fun x101_17 w17 =>
  C.bin Try.prog .eql 40 (.tmp 100) (.tmp 101) x100_16 x101_17 w17 fun x102_18 w18 =>
  C.guarded true x102_18 (fun K => K x89_5 w18) w18 fun x104_19 w19 =>
  C.guarded true x102_18 (fun K => C.not x104_19 w19 K) w19 fun x105_20 w20 =>
  C.pick (some x102_18) (some x105_20) (some (.bool false)) w20 fun x106_21 w21 =>
  K (.tuple #[y1, x106_21]) w21) (F68.k20 K y1 y5 x12_6 x89_5 w15))) : F68.k17 K y0 y1 y5 y8 w := Eq.mpr (by kernel_rfl) h
theorem F68.k20.to {K : VK} {y1 y5 y12 y13 : Value} {w : World} (h : (C.draw w fun S w1 =>
  C.guarded true y13 (fun K => K y1 w1) w1 fun x111_2 w2 =>
  C.guarded true y13 (fun K => C.field 1 y5 w2 K) w2 fun x112_3 w3 =>
  C.guarded true y13 (fun K => C.loadAS S 2 y12 w3 K) w3 fun x110_4 w4 =>
  C.guarded true y13 (fun K => C.load1S S x112_3 w4 K) w4 fun x113_5 w5 =>
  C.guarded true y13 (fun K => C.idx 2 x111_2 x113_5 w5 K) w5 fun x114_6 w6 =>
  C.guarded true y13 (fun K => C.loadAS S 2 x114_6 w6 K) w6 fun x115_7 w7 =>
  C.guarded true y13 (fun K => ∃ x116_8, (∀ w', S w' → ((do eqGuard .eql 40 (.tmp 110) (.tmp 115) x110_4 x115_7; binOp .eql 40 x110_4 x115_7 : Sem Value)).run Try.prog w' = .ok x116_8 w') ∧ K x116_8 w7) w7 fun x116_8 w8 =>
  C.pick (some y13) (some x116_8) (some (.bool false)) w8 fun x117_9 w9 =>
  K (.tuple #[y1, x117_9]) w9)) : F68.k20 K y1 y5 y12 y13 w := Eq.mpr (by kernel_rfl) h
theorem F68.sh {K : VK} {x0 x1 x2 : Value} {w : World} (h : (C.new (.cells (Value.cells x2) 103) w fun x5_1 w1 =>
  C.len x1 w1 fun x15_2 w2 =>
  C.field 0 x5_1 w2 fun x16_3 w3 =>
  C.load1 x16_3 w3 fun x17_4 w4 =>
  C.int .eql x17_4 (.int .i64 1) w4 fun x18_5 w5 =>
  C.ite x18_5 (C.field 2 x5_1 w5 fun x19_6 w6 =>
  C.loadA 2 x19_6 w6 fun x20_7 w7 =>
  C.call Try.prog 27 #[x20_7] w7 fun x21_8 w8 =>
  C.int .neq x21_8 (.int .i64 0) w8 fun x22_9 w9 =>
  C.guarded false x22_9 (fun K => K x15_2 w9) w9 fun x24_10 w10 =>
  C.guarded false x22_9 (fun K => C.int .geq x24_10 (.int .i64 16) w10 K) w10 fun x25_11 w11 =>
  C.pick (some x22_9) (some (.bool true)) (some x25_11) w11 fun x26_12 w12 =>
  C.ite x26_12 (C.field 2 x5_1 w12 fun x29_13 w13 =>
  C.loadA 2 x29_13 w13 fun x30_14 w14 =>
  C.call Try.prog 39 #[x0, x30_14] w14 fun x31_15 w15 =>
  C.not x31_15 w15 fun x32_16 w16 =>
  K (.tuple #[x1, x32_16]) w16) (F68.k5 K x0 x1 x5_1 w12)) (F68.k9 K x0 x1 x5_1 x15_2 w5))) : C.call Try.prog 68 #[x0, x1, x2] w K := calls_of_vc (A := F68.ann) (args := [x0, x1, x2]) (Eq.mpr (by kernel_rfl) h)

/-! ### 69 scutage/scutagelaw14.refs (64) -/
namespace F69
def ann : Ann := ⟨[(4, [0, 3, 4]), (5, [0, 3, 4]), (7, [3])], [(3, [0, 3, 4])], [], []⟩
noncomputable def code : Code := match Try.f69.body with | some c => c | none => .skip
noncomputable def top (K : VK) : QE := retQ Try.prog Try.f69.results.toList K
noncomputable def k7 (K : VK) (y3 : Value) (w : World) : Prop := nav ann Try.prog 36 (fun c Q => vcCode ann Try.prog 36 c Q [(3, y3)] w) [1, 1, 1] code (top K)
attribute [irreducible] k7
noncomputable def l3 (K : VK) (y0 y3 y4 : Value) (w : World) : Prop := nav ann Try.prog 36 (isLoop Try.prog 36 [(0, y0), (3, y3), (4, y4)] w) [1, 1, 0, 1, 0] code (top K)
attribute [irreducible] l3
noncomputable def k5 (K : VK) (y0 y3 y4 : Value) (w : World) : Prop := nav ann Try.prog 36 (fun c Q => vcCode ann Try.prog 36 c Q [(0, y0), (3, y3), (4, y4)] w) [1, 1, 0, 1, 0, 0, 1] code (top K)
attribute [irreducible] k5
noncomputable def k4 (K : VK) (y0 y3 y4 : Value) (w : World) : Prop := nav ann Try.prog 36 (fun c Q => vcCode ann Try.prog 36 c Q [(0, y0), (3, y3), (4, y4)] w) [1, 1, 0, 1, 0, 0, 1, 1] code (top K)
attribute [irreducible] k4
end F69
theorem F69.k7.to {K : VK} {y3 : Value} {w : World} (h : (K y3 w)) : F69.k7 K y3 w := Eq.mpr (by kernel_rfl) h
theorem F69.l3.to {K : VK} {y0 y3 y4 : Value} {w : World} (h : (C.len y0 w fun x7_1 w1 =>
  C.int .lss y4 x7_1 w1 fun x8_2 w2 =>
  C.ite x8_2 (F69.k5 K y0 y3 y4 w2) (F69.k7 K y3 w2))) : F69.l3 K y0 y3 y4 w := by unfold F69.l3; exact nav_round (Eq.mpr (by kernel_rfl) h)
theorem F69.k5.to {K : VK} {y0 y3 y4 : Value} {w : World} (h : (C.idx 2 y0 y4 w fun x13_1 w1 =>
  C.field 0 x13_1 w1 fun x14_2 w2 =>
  C.load1 x14_2 w2 fun x15_3 w3 =>
  C.int .eql x15_3 (.int .i64 2) w3 fun x16_4 w4 =>
  C.guarded true x16_4 (fun K => K y3 w4) w4 fun x18_5 w5 =>
  C.guarded true x16_4 (fun K => K y0 w5) w5 fun x19_6 w6 =>
  C.guarded true x16_4 (fun K => K y4 w6) w6 fun x20_7 w7 =>
  C.guarded true x16_4 (fun K => C.idx 2 x19_6 x20_7 w7 K) w7 fun x21_8 w8 =>
  C.guarded true x16_4 (fun K => C.field 1 x21_8 w8 K) w8 fun x22_9 w9 =>
  C.guarded true x16_4 (fun K => C.load1 x22_9 w9 K) w9 fun x23_10 w10 =>
  C.guarded true x16_4 (fun K => C.call Try.prog 77 #[x18_5, x23_10] w10 K) w10 fun x24_11 w11 =>
  C.guarded true x16_4 (fun K => C.not x24_11 w11 K) w11 fun x25_12 w12 =>
  C.pick (some x16_4) (some x25_12) (some (.bool false)) w12 fun x26_13 w13 =>
  C.ite x26_13 (C.idx 2 y0 y4 w13 fun x30_14 w14 =>
  C.field 1 x30_14 w14 fun x31_15 w15 =>
  C.load1 x31_15 w15 fun x32_16 w16 =>
  C.run Try.prog (Instr.buildSlice 68 1 #[(0, x32_16)]) w16 fun x33_17 w17 =>
  C.run Try.prog (Builtin.append_ #[68, 68] 68 #[y3, x33_17]) w17 fun x34_18 w18 =>
  F69.k4 K y0 x34_18 y4 w18) (F69.k4 K y0 y3 y4 w13))) : F69.k5 K y0 y3 y4 w := Eq.mpr (by kernel_rfl) h
theorem F69.k4.to {K : VK} {y0 y3 y4 : Value} {w : World} (h : (C.int .add y4 (.int .i64 1) w fun x10_1 w1 =>
  F69.l3 K y0 y3 x10_1 w1)) : F69.k4 K y0 y3 y4 w := Eq.mpr (by kernel_rfl) h
theorem F69.sh {K : VK} {x0 : Value} {w : World} (h : (F69.l3 K x0 (.slice none 0 0) (.int .i64 0) w)) : C.call Try.prog 69 #[x0] w K := calls_of_vc (A := F69.ann) (args := [x0]) (Eq.mpr (by kernel_rfl) h)

end Go.Proofs.YtckageghbhkklaaV
