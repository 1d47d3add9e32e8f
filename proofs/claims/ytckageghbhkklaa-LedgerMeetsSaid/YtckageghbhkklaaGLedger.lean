/- What the bodies of these functions ask, as plain statements. Written by gen.py (own work) for the seat Ytckageghbhkklaa. -/
import Derived.Test.YtckageghbhkklaaVc3
import Derived.Test.YtckageghbhkklaaProg
namespace Go.Proofs.YtckageghbhkklaaV
open Go Go.Proofs
set_option linter.unusedVariables false
set_option maxRecDepth 100000

/-! ### 13 scutage/scutagelaw21.LedgerMeets (3, 3, 82) -/
namespace F13
def ann : Ann := ⟨[(3, [0, 1, 2]), (10, [0, 1, 2, 7, 8, 9]), (11, [0, 1, 2, 7, 8, 9]), (17, [0, 1, 8]), (19, [0, 1, 8, 11]), (20, [0, 1, 8, 11]), (22, [0, 1, 8, 11, 12]), (23, [0, 1, 8, 11, 12]), (25, [])], [(9, [0, 1, 2, 7, 8, 9]), (18, [0, 1, 8, 11]), (21, [0, 1, 8, 11, 12])], [], [(14, (.take 0 (.take 1 (.take 3 (.take 4 (.take 8 (.take 2 (.take 5 (.take 6 (.take 9 (.go 7 (.go 10 (.take 11 (.go 12 .fin .fin)) .fin) .fin))))))))))), (16, (.take 0 (.take 1 (.take 3 (.take 4 (.take 8 (.take 2 (.take 5 (.take 6 (.take 9 (.go 7 (.go 10 (.take 11 (.go 12 .fin .fin)) .fin) .fin)))))))))))]⟩
noncomputable def code : Code := match Try.f13.body with | some c => c | none => .skip
noncomputable def top (K : VK) : QE := retQ Try.prog Try.f13.results.toList K
noncomputable def k3 (K : VK) (y0 y1 y2 : Value) (w : World) : Prop := nav ann Try.prog 109 (fun c Q => vcCode ann Try.prog 109 c Q [(0, y0), (1, y1), (2, y2)] w) [1, 1] code (top K)
attribute [irreducible] k3
noncomputable def k17 (K : VK) (y0 y1 y8 : Value) (w : World) : Prop := nav ann Try.prog 109 (fun c Q => vcCode ann Try.prog 109 c Q [(0, y0), (1, y1), (8, y8)] w) [1, 1, 1, 1, 1, 1, 1, 1] code (top K)
attribute [irreducible] k17
noncomputable def l9 (K : VK) (y0 y1 y2 y7 y8 y9 : Value) (w : World) : Prop := nav ann Try.prog 109 (isLoop Try.prog 109 [(0, y0), (1, y1), (2, y2), (7, y7), (8, y8), (9, y9)] w) [1, 1, 1, 1, 1, 1, 1, 0, 1, 0] code (top K)
attribute [irreducible] l9
noncomputable def k11 (K : VK) (y0 y1 y2 y7 y8 y9 : Value) (w : World) : Prop := nav ann Try.prog 109 (fun c Q => vcCode ann Try.prog 109 c Q [(0, y0), (1, y1), (2, y2), (7, y7), (8, y8), (9, y9)] w) [1, 1, 1, 1, 1, 1, 1, 0, 1, 0, 0, 1] code (top K)
attribute [irreducible] k11
noncomputable def k10 (K : VK) (y0 y1 y2 y7 y8 y9 : Value) (w : World) : Prop := nav ann Try.prog 109 (fun c Q => vcCode ann Try.prog 109 c Q [(0, y0), (1, y1), (2, y2), (7, y7), (8, y8), (9, y9)] w) [1, 1, 1, 1, 1, 1, 1, 0, 1, 0, 0, 1, 1] code (top K)
attribute [irreducible] k10
noncomputable def k25 (K : VK) (w : World) : Prop := nav ann Try.prog 109 (fun c Q => vcCode ann Try.prog 109 c Q [] w) [1, 1, 1, 1, 1, 1, 1, 1, 1] code (top K)
attribute [irreducible] k25
noncomputable def l18 (K : VK) (y0 y1 y8 y11 : Value) (w : World) : Prop := nav ann Try.prog 109 (isLoop Try.prog 109 [(0, y0), (1, y1), (8, y8), (11, y11)] w) [1, 1, 1, 1, 1, 1, 1, 1, 0, 1, 0] code (top K)
attribute [irreducible] l18
noncomputable def k20 (K : VK) (y0 y1 y8 y11 : Value) (w : World) : Prop := nav ann Try.prog 109 (fun c Q => vcCode ann Try.prog 109 c Q [(0, y0), (1, y1), (8, y8), (11, y11)] w) [1, 1, 1, 1, 1, 1, 1, 1, 0, 1, 0, 0, 1] code (top K)
attribute [irreducible] k20
noncomputable def k19 (K : VK) (y0 y1 y8 y11 : Value) (w : World) : Prop := nav ann Try.prog 109 (fun c Q => vcCode ann Try.prog 109 c Q [(0, y0), (1, y1), (8, y8), (11, y11)] w) [1, 1, 1, 1, 1, 1, 1, 1, 0, 1, 0, 0, 1, 1] code (top K)
attribute [irreducible] k19
noncomputable def l21 (K : VK) (y0 y1 y8 y11 y12 : Value) (w : World) : Prop := nav ann Try.prog 109 (isLoop Try.prog 109 [(0, y0), (1, y1), (8, y8), (11, y11), (12, y12)] w) [1, 1, 1, 1, 1, 1, 1, 1, 0, 1, 0, 0, 1, 0, 0, 1, 0] code (top K)
attribute [irreducible] l21
noncomputable def k23 (K : VK) (y0 y1 y8 y11 y12 : Value) (w : World) : Prop := nav ann Try.prog 109 (fun c Q => vcCode ann Try.prog 109 c Q [(0, y0), (1, y1), (8, y8), (11, y11), (12, y12)] w) [1, 1, 1, 1, 1, 1, 1, 1, 0, 1, 0, 0, 1, 0, 0, 1, 0, 0, 1] code (top K)
attribute [irreducible] k23
noncomputable def k22 (K : VK) (y0 y1 y8 y11 y12 : Value) (w : World) : Prop := nav ann Try.prog 109 (fun c Q => vcCode ann Try.prog 109 c Q [(0, y0), (1, y1), (8, y8), (11, y11), (12, y12)] w) [1, 1, 1, 1, 1, 1, 1, 1, 0, 1, 0, 0, 1, 0, 0, 1, 0, 0, 1, 1] code (top K)
attribute [irreducible] k22
end F13
theorem F13.k3.to {K : VK} {y0 y1 y2 : Value} {w : World} (h : (C.call Try.prog 17 #[y0, (.int .i64 1), (.int .i64 64)] w fun x16_1 w1 =>
  C.call Try.prog 17 #[y1, (.int .i64 0), x16_1] w1 fun x19_2 w2 =>
  C.call Try.prog 51 #[(.int .i64 8), x16_1, x19_2] w2 fun x22_3 w3 =>
  C.run Try.prog (Instr.makeSlice 85 (.int .i64 8) (.int .i64 8)) w3 fun x23_4 w4 =>
  C.call Try.prog 52 #[y2] w4 fun x25_5 w5 =>
  F13.l9 K x16_1 x19_2 x25_5 x22_3 x23_4 (.int .i64 0) w5)) : F13.k3 K y0 y1 y2 w := Eq.mpr (by kernel_rfl) h
theorem F13.k17.to {K : VK} {y0 y1 y8 : Value} {w : World} (h : (F13.l18 K y0 y1 y8 (.int .i64 0) w)) : F13.k17 K y0 y1 y8 w := Eq.mpr (by kernel_rfl) h
theorem F13.l9.to {K : VK} {y0 y1 y2 y7 y8 y9 : Value} {w : World} (h : (C.len y2 w fun x28_1 w1 =>
  C.int .lss y9 x28_1 w1 fun x29_2 w2 =>
  C.ite x29_2 (F13.k11 K y0 y1 y2 y7 y8 y9 w2) (F13.k17 K y0 y1 y8 w2))) : F13.l9 K y0 y1 y2 y7 y8 y9 w := by unfold F13.l9; exact nav_round (Eq.mpr (by kernel_rfl) h)
theorem F13.k11.to {K : VK} {y0 y1 y2 y7 y8 y9 : Value} {w : World} (h : (C.idx 3 y2 y9 w fun x34_1 w1 =>
  C.loadA 3 x34_1 w1 fun x35_2 w2 =>
  C.new (.cells #[.int .i64 0, .int .i64 0, .int .i64 0] 88) w2 fun x10_3 w3 =>
  C.store 3 x10_3 x35_2 w3 fun w4 =>
  C.field 1 x10_3 w4 fun x36_5 w5 =>
  C.load1 x36_5 w5 fun x37_6 w6 =>
  C.call Try.prog 17 #[x37_6, (.int .i64 0), (.int .i64 7)] w6 fun x38_7 w7 =>
  C.field 1 x10_3 w7 fun x39_8 w8 =>
  C.store 1 x39_8 x38_7 w8 fun w9 =>
  C.field 0 x10_3 w9 fun x40_10 w10 =>
  C.load1 x40_10 w10 fun x41_11 w11 =>
  C.int .eql x41_11 (.int .i64 1) w11 fun x42_12 w12 =>
  C.guarded true x42_12 (fun K => K y7 w12) w12 fun x44_13 w13 =>
  C.guarded true x42_12 (fun K => C.field 1 x10_3 w13 K) w13 fun x45_14 w14 =>
  C.guarded true x42_12 (fun K => C.load1 x45_14 w14 K) w14 fun x46_15 w15 =>
  C.guarded true x42_12 (fun K => C.field 2 x10_3 w15 K) w15 fun x47_16 w16 =>
  C.guarded true x42_12 (fun K => C.load1 x47_16 w16 K) w16 fun x48_17 w17 =>
  C.guarded true x42_12 (fun K => C.call Try.prog 53 #[x44_13, x46_15, x48_17] w17 K) w17 fun x49_18 w18 =>
  C.pick (some x42_12) (some x49_18) (some (.bool false)) w18 fun x50_19 w19 =>
  C.ite x50_19 (C.draw w19 fun S w20 =>
  C.field 1 x10_3 w20 fun x52_21 w21 =>
  C.field 1 x10_3 w21 fun x55_22 w22 =>
  C.field 2 x10_3 w22 fun x59_23 w23 =>
  C.load1S S x52_21 w23 fun x53_24 w24 =>
  C.load1S S x55_22 w24 fun x56_25 w25 =>
  C.idx 1 y8 x56_25 w25 fun x57_26 w26 =>
  C.load1S S x59_23 w26 fun x60_27 w27 =>
  (C.load1 x57_26 w27 fun x58_28 w28 =>
  (S w28 ∧
  (C.call Try.prog 54 #[x58_28, x60_27, (.bool false)] w28 fun x61_29 w29 =>
  (S w29 ∧
  C.idx 1 y8 x53_24 w29 fun x62_30 w30 =>
  (C.store 1 x62_30 x61_29 w30 fun w31 =>
  (S w31 ∧
  F13.k10 K y0 y1 y2 y7 y8 y9 w31)) ∧ True)) ∧ True)) ∧ True) (C.field 0 x10_3 w19 fun x63_32 w32 =>
  C.load1 x63_32 w32 fun x64_33 w33 =>
  C.int .neq x64_33 (.int .i64 1) w33 fun x65_34 w34 =>
  C.guarded true x65_34 (fun K => K y7 w34) w34 fun x67_35 w35 =>
  C.guarded true x65_34 (fun K => C.field 1 x10_3 w35 K) w35 fun x68_36 w36 =>
  C.guarded true x65_34 (fun K => C.load1 x68_36 w36 K) w36 fun x69_37 w37 =>
  C.guarded true x65_34 (fun K => C.field 2 x10_3 w37 K) w37 fun x70_38 w38 =>
  C.guarded true x65_34 (fun K => C.load1 x70_38 w38 K) w38 fun x71_39 w39 =>
  C.guarded true x65_34 (fun K => C.call Try.prog 55 #[x67_35, x69_37, x71_39] w39 K) w39 fun x72_40 w40 =>
  C.pick (some x65_34) (some x72_40) (some (.bool false)) w40 fun x73_41 w41 =>
  C.ite x73_41 (C.draw w41 fun S w42 =>
  C.field 1 x10_3 w42 fun x75_43 w43 =>
  C.field 1 x10_3 w43 fun x78_44 w44 =>
  C.field 2 x10_3 w44 fun x82_45 w45 =>
  C.load1S S x75_43 w45 fun x76_46 w46 =>
  C.load1S S x78_44 w46 fun x79_47 w47 =>
  C.idx 1 y8 x79_47 w47 fun x80_48 w48 =>
  C.load1S S x82_45 w48 fun x83_49 w49 =>
  (C.load1 x80_48 w49 fun x81_50 w50 =>
  (S w50 ∧
  (C.call Try.prog 54 #[x81_50, x83_49, (.bool true)] w50 fun x84_51 w51 =>
  (S w51 ∧
  C.idx 1 y8 x76_46 w51 fun x85_52 w52 =>
  (C.store 1 x85_52 x84_51 w52 fun w53 =>
  (S w53 ∧
  F13.k10 K y0 y1 y2 y7 y8 y9 w53)) ∧ True)) ∧ True)) ∧ True) (F13.k10 K y0 y1 y2 y7 y8 y9 w41)))) : F13.k11 K y0 y1 y2 y7 y8 y9 w := Eq.mpr (by kernel_rfl) h
theorem F13.k10.to {K : VK} {y0 y1 y2 y7 y8 y9 : Value} {w : World} (h : (C.int .add y9 (.int .i64 1) w fun x31_1 w1 =>
  F13.l9 K y0 y1 y2 y7 y8 x31_1 w1)) : F13.k10 K y0 y1 y2 y7 y8 y9 w := Eq.mpr (by kernel_rfl) h
theorem F13.k25.to {K : VK} {w : World} (h : (K (.bool true) w)) : F13.k25 K w := Eq.mpr (by kernel_rfl) h
theorem F13.l18.to {K : VK} {y0 y1 y8 y11 : Value} {w : World} (h : (C.int .lss y11 (.int .i64 8) w fun x87_1 w1 =>
  C.ite x87_1 (F13.k20 K y0 y1 y8 y11 w1) (F13.k25 K w1))) : F13.l18 K y0 y1 y8 y11 w := by unfold F13.l18; exact nav_round (Eq.mpr (by kernel_rfl) h)
theorem F13.k20.to {K : VK} {y0 y1 y8 y11 : Value} {w : World} (h : (F13.l21 K y0 y1 y8 y11 (.int .i64 1) w)) : F13.k20 K y0 y1 y8 y11 w := Eq.mpr (by kernel_rfl) h
theorem F13.k19.to {K : VK} {y0 y1 y8 y11 : Value} {w : World} (h : (C.int .add y11 (.int .i64 1) w fun x89_1 w1 =>
  F13.l18 K y0 y1 y8 x89_1 w1)) : F13.k19 K y0 y1 y8 y11 w := Eq.mpr (by kernel_rfl) h
theorem F13.l21.to {K : VK} {y0 y1 y8 y11 y12 : Value} {w : World} (h : (C.idx 1 y8 y11 w fun x93_1 w1 =>
  C.load1 x93_1 w1 fun x94_2 w2 =>
  C.len x94_2 w2 fun x95_3 w3 =>
  C.int .leq y12 x95_3 w3 fun x96_4 w4 =>
  C.ite x96_4 (F13.k23 K y0 y1 y8 y11 y12 w4) (F13.k19 K y0 y1 y8 y11 w4))) : F13.l21 K y0 y1 y8 y11 y12 w := by unfold F13.l21; exact nav_round (Eq.mpr (by kernel_rfl) h)
theorem F13.k23.to {K : VK} {y0 y1 y8 y11 y12 : Value} {w : World} (h : (C.idx 1 y8 y11 w fun x101_1 w1 =>
  C.load1 x101_1 w1 fun x102_2 w2 =>
  C.run Try.prog (Instr.sliceAt 90 x102_2 none (some y12) none) w2 fun x104_3 w3 =>
  C.call Try.prog 56 #[x104_3, y0] w3 fun x106_4 w4 =>
  C.int .gtr x106_4 y1 w4 fun x108_5 w5 =>
  C.ite x108_5 (K (.bool false) w5) (F13.k22 K y0 y1 y8 y11 y12 w5))) : F13.k23 K y0 y1 y8 y11 y12 w := Eq.mpr (by kernel_rfl) h
theorem F13.k22.to {K : VK} {y0 y1 y8 y11 y12 : Value} {w : World} (h : (C.int .add y12 (.int .i64 1) w fun x98_1 w1 =>
  F13.l21 K y0 y1 y8 y11 x98_1 w1)) : F13.k22 K y0 y1 y8 y11 y12 w := Eq.mpr (by kernel_rfl) h
theorem F13.sh {K : VK} {x0 x1 x2 : Value} {w : World} (h : (C.call Try.prog 50 #[] w fun x13_1 w1 =>
  C.not x13_1 w1 fun x14_2 w2 =>
  C.ite x14_2 (K (.bool false) w2) (F13.k3 K x0 x1 x2 w2))) : C.call Try.prog 13 #[x0, x1, x2] w K := calls_of_vc (A := F13.ann) (args := [x0, x1, x2]) (Eq.mpr (by kernel_rfl) h)

/-! ### 50 scutage/scutagelaw21.alive () -/
namespace F50
def ann : Ann := ⟨[], [], [], []⟩
noncomputable def code : Code := match Try.f50.body with | some c => c | none => .skip
noncomputable def top (K : VK) : QE := retQ Try.prog Try.f50.results.toList K
end F50
theorem F50.sh {K : VK} {w : World} (h : (C.call Try.prog 51 #[(.int .i64 1), (.int .i64 4), (.int .i64 2)] w fun x7_1 w1 =>
  C.call Try.prog 55 #[x7_1, (.int .i64 0), (.int .i64 2)] w1 fun x9_2 w2 =>
  C.call Try.prog 53 #[x7_1, (.int .i64 0), (.int .i64 1)] w2 fun x11_3 w3 =>
  C.call Try.prog 55 #[x7_1, (.int .i64 0), (.int .i64 1)] w3 fun x13_4 w4 =>
  C.call Try.prog 53 #[x7_1, (.int .i64 0), (.int .i64 1)] w4 fun x15_5 w5 =>
  C.call Try.prog 55 #[x7_1, (.int .i64 0), (.int .i64 1)] w5 fun x17_6 w6 =>
  C.guarded true x9_2 (fun K => K x11_3 w6) w6 fun x20_7 w7 =>
  C.pick (some x9_2) (some x20_7) (some (.bool false)) w7 fun x21_8 w8 =>
  C.guarded true x21_8 (fun K => K x13_4 w8) w8 fun x23_9 w9 =>
  C.guarded true x21_8 (fun K => C.not x23_9 w9 K) w9 fun x24_10 w10 =>
  C.pick (some x21_8) (some x24_10) (some (.bool false)) w10 fun x25_11 w11 =>
  C.guarded true x25_11 (fun K => K x15_5 w11) w11 fun x27_12 w12 =>
  C.pick (some x25_11) (some x27_12) (some (.bool false)) w12 fun x28_13 w13 =>
  C.guarded true x28_13 (fun K => K x17_6 w13) w13 fun x30_14 w14 =>
  C.pick (some x28_13) (some x30_14) (some (.bool false)) w14 fun x31_15 w15 =>
  C.guarded true x31_15 (fun K => K x7_1 w15) w15 fun x33_16 w16 =>
  C.guarded true x31_15 (fun K => C.call Try.prog 71 #[x33_16, (.int .i64 0)] w16 K) w16 fun x34_17 w17 =>
  C.guarded true x31_15 (fun K => C.int .eql x34_17 (.int .i64 2) w17 K) w17 fun x35_18 w18 =>
  C.pick (some x31_15) (some x35_18) (some (.bool false)) w18 fun x36_19 w19 =>
  C.guarded true x36_19 (fun K => K x7_1 w19) w19 fun x38_20 w20 =>
  C.guarded true x36_19 (fun K => C.call Try.prog 72 #[x38_20, (.int .i64 0)] w20 K) w20 fun x39_21 w21 =>
  C.guarded true x36_19 (fun K => C.len x39_21 w21 K) w21 fun x40_22 w22 =>
  C.guarded true x36_19 (fun K => C.int .eql x40_22 (.int .i64 4) w22 K) w22 fun x41_23 w23 =>
  C.pick (some x36_19) (some x41_23) (some (.bool false)) w23 fun x42_24 w24 =>
  C.guarded true x42_24 (fun K => K x7_1 w24) w24 fun x44_25 w25 =>
  C.guarded true x42_24 (fun K => C.call Try.prog 73 #[x44_25, (.int .i64 0), (.int .i64 3)] w25 K) w25 fun x45_26 w26 =>
  C.guarded true x42_24 (fun K => C.not x45_26 w26 K) w26 fun x46_27 w27 =>
  C.pick (some x42_24) (some x46_27) (some (.bool false)) w27 fun x47_28 w28 =>
  K x47_28 w28)) : C.call Try.prog 50 #[] w K := calls_of_vc (A := F50.ann) (args := []) (Eq.mpr (by kernel_rfl) h)

/-! ### 51 scutage/ledger.New (3, 3, 3) -/
namespace F51
def ann : Ann := ⟨[], [], [], []⟩
noncomputable def code : Code := match Try.f51.body with | some c => c | none => .skip
noncomputable def top (K : VK) : QE := retQ Try.prog Try.f51.results.toList K
end F51
theorem F51.sh {K : VK} {x0 x1 x2 : Value} {w : World} (h : (C.call Try.prog 58 #[x1, (.int .i64 1), (.int .i64 64)] w fun x8_1 w1 =>
  C.call Try.prog 58 #[x2, (.int .i64 0), x8_1] w1 fun x12_2 w2 =>
  C.call Try.prog 58 #[x0, (.int .i64 0), (.int .i64 8)] w2 fun x14_3 w3 =>
  C.run Try.prog (Instr.makeSlice 107 x14_3 x14_3) w3 fun x15_4 w4 =>
  C.run Try.prog (Instr.build 109 #[(0, x8_1), (1, x12_2), (2, x15_4)]) w4 fun x16_5 w5 =>
  C.new (.cells (Value.cells x16_5) 109) w5 fun x17_6 w6 =>
  K x17_6 w6)) : C.call Try.prog 51 #[x0, x1, x2] w K := calls_of_vc (A := F51.ann) (args := [x0, x1, x2]) (Eq.mpr (by kernel_rfl) h)

/-! ### 52 scutage/scutagelaw21.few (82) -/
namespace F52
def ann : Ann := ⟨[(3, [0])], [], [], []⟩
noncomputable def code : Code := match Try.f52.body with | some c => c | none => .skip
noncomputable def top (K : VK) : QE := retQ Try.prog Try.f52.results.toList K
noncomputable def k3 (K : VK) (y0 : Value) (w : World) : Prop := nav ann Try.prog 9 (fun c Q => vcCode ann Try.prog 9 c Q [(0, y0)] w) [1, 1] code (top K)
attribute [irreducible] k3
end F52
theorem F52.k3.to {K : VK} {y0 : Value} {w : World} (h : (K y0 w)) : F52.k3 K y0 w := Eq.mpr (by kernel_rfl) h
theorem F52.sh {K : VK} {x0 : Value} {w : World} (h : (C.len x0 w fun x4_1 w1 =>
  C.int .gtr x4_1 (.int .i64 60) w1 fun x5_2 w2 =>
  C.ite x5_2 (C.run Try.prog (Instr.sliceAt 82 x0 none (some (.int .i64 60)) none) w2 fun x7_3 w3 =>
  K x7_3 w3) (F52.k3 K x0 w2))) : C.call Try.prog 52 #[x0] w K := calls_of_vc (A := F52.ann) (args := [x0]) (Eq.mpr (by kernel_rfl) h)

/-! ### 53 (*scutage/ledger.Ledger).Run (83, 3, 3) -/
namespace F53
def ann : Ann := ⟨[(4, [0, 2, 7])], [], [], []⟩
noncomputable def code : Code := match Try.f53.body with | some c => c | none => .skip
noncomputable def top (K : VK) : QE := retQ Try.prog Try.f53.results.toList K
noncomputable def k4 (K : VK) (y0 y2 y7 : Value) (w : World) : Prop := nav ann Try.prog 33 (fun c Q => vcCode ann Try.prog 33 c Q [(0, y0), (2, y2), (7, y7)] w) [1, 1, 1] code (top K)
attribute [irreducible] k4
end F53
theorem F53.k4.to {K : VK} {y0 y2 y7 : Value} {w : World} (h : (C.call Try.prog 75 #[y0, y7, y2, (.bool false)] w fun x24_1 w1 =>
  C.nilCheck y7 w1 fun x26_2 w2 =>
  C.field 1 x26_2 w2 fun x27_3 w3 =>
  C.load1 x27_3 w3 fun x28_4 w4 =>
  C.int .add x28_4 y2 w4 fun x30_5 w5 =>
  C.nilCheck y7 w5 fun x31_6 w6 =>
  C.field 1 x31_6 w6 fun x32_7 w7 =>
  C.store 1 x32_7 x30_5 w7 fun w8 =>
  K (.bool true) w8)) : F53.k4 K y0 y2 y7 w := Eq.mpr (by kernel_rfl) h
theorem F53.sh {K : VK} {x0 x1 x2 : Value} {w : World} (h : (C.call Try.prog 74 #[x0, x1] w fun x10_1 w1 =>
  C.bin Try.prog .eql 110 (.tmp 11) (.const (.pointer none)) x10_1 (.pointer none) w1 fun x12_2 w2 =>
  C.guarded false x12_2 (fun K => K x2 w2) w2 fun x14_3 w3 =>
  C.guarded false x12_2 (fun K => C.int .lss x14_3 (.int .i64 0) w3 K) w3 fun x15_4 w4 =>
  C.pick (some x12_2) (some (.bool true)) (some x15_4) w4 fun x16_5 w5 =>
  C.guarded false x16_5 (fun K => K x2 w5) w5 fun x18_6 w6 =>
  C.guarded false x16_5 (fun K => C.int .gtr x18_6 (.int .i64 64) w6 K) w6 fun x19_7 w7 =>
  C.pick (some x16_5) (some (.bool true)) (some x19_7) w7 fun x20_8 w8 =>
  C.ite x20_8 (K (.bool false) w8) (F53.k4 K x0 x2 x10_1 w8))) : C.call Try.prog 53 #[x0, x1, x2] w K := calls_of_vc (A := F53.ann) (args := [x0, x1, x2]) (Eq.mpr (by kernel_rfl) h)

/-! ### 54 scutage/scutagelaw21.put (90, 3, 4) -/
namespace F54
def ann : Ann := ⟨[(5, [1, 2, 7, 8]), (6, [1, 2, 7, 8]), (7, [7])], [(4, [1, 2, 7, 8])], [], []⟩
noncomputable def code : Code := match Try.f54.body with | some c => c | none => .skip
noncomputable def top (K : VK) : QE := retQ Try.prog Try.f54.results.toList K
noncomputable def k7 (K : VK) (y7 : Value) (w : World) : Prop := nav ann Try.prog 22 (fun c Q => vcCode ann Try.prog 22 c Q [(7, y7)] w) [1, 1, 1, 1] code (top K)
attribute [irreducible] k7
noncomputable def l4 (K : VK) (y1 y2 y7 y8 : Value) (w : World) : Prop := nav ann Try.prog 22 (isLoop Try.prog 22 [(1, y1), (2, y2), (7, y7), (8, y8)] w) [1, 1, 1, 0, 1, 0] code (top K)
attribute [irreducible] l4
noncomputable def k6 (K : VK) (y1 y2 y7 y8 : Value) (w : World) : Prop := nav ann Try.prog 22 (fun c Q => vcCode ann Try.prog 22 c Q [(1, y1), (2, y2), (7, y7), (8, y8)] w) [1, 1, 1, 0, 1, 0, 0, 1] code (top K)
attribute [irreducible] k6
noncomputable def k5 (K : VK) (y1 y2 y7 y8 : Value) (w : World) : Prop := nav ann Try.prog 22 (fun c Q => vcCode ann Try.prog 22 c Q [(1, y1), (2, y2), (7, y7), (8, y8)] w) [1, 1, 1, 0, 1, 0, 0, 1, 1] code (top K)
attribute [irreducible] k5
end F54
theorem F54.k7.to {K : VK} {y7 : Value} {w : World} (h : (K y7 w)) : F54.k7 K y7 w := Eq.mpr (by kernel_rfl) h
theorem F54.l4.to {K : VK} {y1 y2 y7 y8 : Value} {w : World} (h : (C.int .lss y8 y1 w fun x14_1 w1 =>
  C.ite x14_1 (F54.k6 K y1 y2 y7 y8 w1) (F54.k7 K y7 w1))) : F54.l4 K y1 y2 y7 y8 w := by unfold F54.l4; exact nav_round (Eq.mpr (by kernel_rfl) h)
theorem F54.k6.to {K : VK} {y1 y2 y7 y8 : Value} {w : World} (h : (C.run Try.prog (Instr.buildSlice 90 1 #[(0, y2)]) w fun x19_1 w1 =>
  C.run Try.prog (Builtin.append_ #[90, 90] 90 #[y7, x19_1]) w1 fun x20_2 w2 =>
  F54.k5 K y1 y2 x20_2 y8 w2)) : F54.k6 K y1 y2 y7 y8 w := Eq.mpr (by kernel_rfl) h
theorem F54.k5.to {K : VK} {y1 y2 y7 y8 : Value} {w : World} (h : (C.int .add y8 (.int .i64 1) w fun x16_1 w1 =>
  F54.l4 K y1 y2 y7 x16_1 w1)) : F54.k5 K y1 y2 y7 y8 w := Eq.mpr (by kernel_rfl) h
theorem F54.sh {K : VK} {x0 x1 x2 : Value} {w : World} (h : (C.run Try.prog (Builtin.append_ #[90, 90] 90 #[(.slice none 0 0), x0]) w fun x11_1 w1 =>
  F54.l4 K x1 x2 x11_1 (.int .i64 0) w1)) : C.call Try.prog 54 #[x0, x1, x2] w K := calls_of_vc (A := F54.ann) (args := [x0, x1, x2]) (Eq.mpr (by kernel_rfl) h)

/-! ### 55 (*scutage/ledger.Ledger).Work (83, 3, 3) -/
namespace F55
def ann : Ann := ⟨[(3, [0, 1, 2])], [], [], []⟩
noncomputable def code : Code := match Try.f55.body with | some c => c | none => .skip
noncomputable def top (K : VK) : QE := retQ Try.prog Try.f55.results.toList K
noncomputable def k3 (K : VK) (y0 y1 y2 : Value) (w : World) : Prop := nav ann Try.prog 28 (fun c Q => vcCode ann Try.prog 28 c Q [(0, y0), (1, y1), (2, y2)] w) [1, 1] code (top K)
attribute [irreducible] k3
end F55
theorem F55.k3.to {K : VK} {y0 y1 y2 : Value} {w : World} (h : (C.call Try.prog 74 #[y0, y1] w fun x15_1 w1 =>
  C.call Try.prog 75 #[y0, x15_1, y2, (.bool true)] w1 fun x19_2 w2 =>
  C.nilCheck x15_1 w2 fun x21_3 w3 =>
  C.field 2 x21_3 w3 fun x22_4 w4 =>
  C.load1 x22_4 w4 fun x23_5 w5 =>
  C.int .add x23_5 y2 w5 fun x25_6 w6 =>
  C.nilCheck x15_1 w6 fun x26_7 w7 =>
  C.field 2 x26_7 w7 fun x27_8 w8 =>
  C.store 1 x27_8 x25_6 w8 fun w9 =>
  K (.bool true) w9)) : F55.k3 K y0 y1 y2 w := Eq.mpr (by kernel_rfl) h
theorem F55.sh {K : VK} {x0 x1 x2 : Value} {w : World} (h : (C.call Try.prog 73 #[x0, x1, x2] w fun x11_1 w1 =>
  C.not x11_1 w1 fun x12_2 w2 =>
  C.ite x12_2 (K (.bool false) w2) (F55.k3 K x0 x1 x2 w2))) : C.call Try.prog 55 #[x0, x1, x2] w K := calls_of_vc (A := F55.ann) (args := [x0, x1, x2]) (Eq.mpr (by kernel_rfl) h)

/-! ### 56 scutage/scutagelaw21.count (90, 3) -/
namespace F56
def ann : Ann := ⟨[(4, [0, 5, 6]), (5, [0, 5, 6]), (7, [5])], [(3, [0, 5, 6])], [], []⟩
noncomputable def code : Code := match Try.f56.body with | some c => c | none => .skip
noncomputable def top (K : VK) : QE := retQ Try.prog Try.f56.results.toList K
noncomputable def k7 (K : VK) (y5 : Value) (w : World) : Prop := nav ann Try.prog 25 (fun c Q => vcCode ann Try.prog 25 c Q [(5, y5)] w) [1, 1, 1] code (top K)
attribute [irreducible] k7
noncomputable def l3 (K : VK) (y0 y5 y6 : Value) (w : World) : Prop := nav ann Try.prog 25 (isLoop Try.prog 25 [(0, y0), (5, y5), (6, y6)] w) [1, 1, 0, 1, 0] code (top K)
attribute [irreducible] l3
noncomputable def k5 (K : VK) (y0 y5 y6 : Value) (w : World) : Prop := nav ann Try.prog 25 (fun c Q => vcCode ann Try.prog 25 c Q [(0, y0), (5, y5), (6, y6)] w) [1, 1, 0, 1, 0, 0, 1] code (top K)
attribute [irreducible] k5
noncomputable def k4 (K : VK) (y0 y5 y6 : Value) (w : World) : Prop := nav ann Try.prog 25 (fun c Q => vcCode ann Try.prog 25 c Q [(0, y0), (5, y5), (6, y6)] w) [1, 1, 0, 1, 0, 0, 1, 1] code (top K)
attribute [irreducible] k4
end F56
theorem F56.k7.to {K : VK} {y5 : Value} {w : World} (h : (K y5 w)) : F56.k7 K y5 w := Eq.mpr (by kernel_rfl) h
theorem F56.l3.to {K : VK} {y0 y5 y6 : Value} {w : World} (h : (C.len y0 w fun x14_1 w1 =>
  C.int .lss y6 x14_1 w1 fun x15_2 w2 =>
  C.ite x15_2 (F56.k5 K y0 y5 y6 w2) (F56.k7 K y5 w2))) : F56.l3 K y0 y5 y6 w := by unfold F56.l3; exact nav_round (Eq.mpr (by kernel_rfl) h)
theorem F56.k5.to {K : VK} {y0 y5 y6 : Value} {w : World} (h : (C.idx 1 y0 y6 w fun x20_1 w1 =>
  C.load1 x20_1 w1 fun x21_2 w2 =>
  C.ite x21_2 (C.int .add y5 (.int .i64 1) w2 fun x23_3 w3 =>
  F56.k4 K y0 x23_3 y6 w3) (F56.k4 K y0 y5 y6 w2))) : F56.k5 K y0 y5 y6 w := Eq.mpr (by kernel_rfl) h
theorem F56.k4.to {K : VK} {y0 y5 y6 : Value} {w : World} (h : (C.int .add y6 (.int .i64 1) w fun x17_1 w1 =>
  F56.l3 K y0 y5 x17_1 w1)) : F56.k4 K y0 y5 y6 w := Eq.mpr (by kernel_rfl) h
theorem F56.sh {K : VK} {x0 x1 : Value} {w : World} (h : (C.len x0 w fun x8_1 w1 =>
  C.int .sub x8_1 x1 w1 fun x10_2 w2 =>
  C.run Try.prog (Builtin.max_ #[3, 3] 3 #[x10_2, (.int .i64 0)]) w2 fun x11_3 w3 =>
  F56.l3 K x0 (.int .i64 0) x11_3 w3)) : C.call Try.prog 56 #[x0, x1] w K := calls_of_vc (A := F56.ann) (args := [x0, x1]) (Eq.mpr (by kernel_rfl) h)

/-! ### 71 (*scutage/ledger.Ledger).Count (83, 3) -/
namespace F71
def ann : Ann := ⟨[(4, [5])], [], [], []⟩
noncomputable def code : Code := match Try.f71.body with | some c => c | none => .skip
noncomputable def top (K : VK) : QE := retQ Try.prog Try.f71.results.toList K
noncomputable def k4 (K : VK) (y5 : Value) (w : World) : Prop := nav ann Try.prog 13 (fun c Q => vcCode ann Try.prog 13 c Q [(5, y5)] w) [1, 1, 1] code (top K)
attribute [irreducible] k4
end F71
theorem F71.k4.to {K : VK} {y5 : Value} {w : World} (h : (C.call Try.prog 78 #[y5, (.int .i64 0)] w fun x12_1 w1 =>
  K x12_1 w1)) : F71.k4 K y5 w := Eq.mpr (by kernel_rfl) h
theorem F71.sh {K : VK} {x0 x1 : Value} {w : World} (h : (C.call Try.prog 74 #[x0, x1] w fun x8_1 w1 =>
  C.bin Try.prog .eql 110 (.tmp 9) (.const (.pointer none)) x8_1 (.pointer none) w1 fun x10_2 w2 =>
  C.ite x10_2 (K (.int .i64 0) w2) (F71.k4 K x8_1 w2))) : C.call Try.prog 71 #[x0, x1] w K := calls_of_vc (A := F71.ann) (args := [x0, x1]) (Eq.mpr (by kernel_rfl) h)

/-! ### 72 (*scutage/ledger.Ledger).Last (83, 3) -/
namespace F72
def ann : Ann := ⟨[(4, [5])], [], [], []⟩
noncomputable def code : Code := match Try.f72.body with | some c => c | none => .skip
noncomputable def top (K : VK) : QE := retQ Try.prog Try.f72.results.toList K
noncomputable def k4 (K : VK) (y5 : Value) (w : World) : Prop := nav ann Try.prog 16 (fun c Q => vcCode ann Try.prog 16 c Q [(5, y5)] w) [1, 1, 1] code (top K)
attribute [irreducible] k4
end F72
theorem F72.k4.to {K : VK} {y5 : Value} {w : World} (h : (C.nilCheck y5 w fun x12_1 w1 =>
  C.field 0 x12_1 w1 fun x13_2 w2 =>
  C.load1 x13_2 w2 fun x14_3 w3 =>
  C.call Try.prog 79 #[x14_3] w3 fun x15_4 w4 =>
  K x15_4 w4)) : F72.k4 K y5 w := Eq.mpr (by kernel_rfl) h
theorem F72.sh {K : VK} {x0 x1 : Value} {w : World} (h : (C.call Try.prog 74 #[x0, x1] w fun x8_1 w1 =>
  C.bin Try.prog .eql 110 (.tmp 9) (.const (.pointer none)) x8_1 (.pointer none) w1 fun x10_2 w2 =>
  C.ite x10_2 (K (.slice none 0 0) w2) (F72.k4 K x8_1 w2))) : C.call Try.prog 72 #[x0, x1] w K := calls_of_vc (A := F72.ann) (args := [x0, x1]) (Eq.mpr (by kernel_rfl) h)

/-! ### 73 (*scutage/ledger.Ledger).Admit (83, 3, 3) -/
namespace F73
def ann : Ann := ⟨[(4, [0, 2, 7])], [], [], [(4, (.take 0 (.take 1 (.take 2 (.take 3 (.take 6 (.take 8 (.take 9 (.take 10 (.take 15 (.take 17 (.take 18 (.take 19 (.take 4 (.take 5 (.take 7 (.take 11 (.take 12 (.take 13 (.take 20 (.go 14 (.take 16 (.take 21 (.take 22 .fin))) .fin)))))))))))))))))))))]⟩
noncomputable def code : Code := match Try.f73.body with | some c => c | none => .skip
noncomputable def top (K : VK) : QE := retQ Try.prog Try.f73.results.toList K
noncomputable def k4 (K : VK) (y0 y2 y7 : Value) (w : World) : Prop := nav ann Try.prog 47 (fun c Q => vcCode ann Try.prog 47 c Q [(0, y0), (2, y2), (7, y7)] w) [1, 1, 1] code (top K)
attribute [irreducible] k4
end F73
theorem F73.k4.to {K : VK} {y0 y2 y7 : Value} {w : World} (h : (C.draw w fun S w1 =>
  C.nilCheck y7 w1 fun x27_2 w2 =>
  C.field 0 x27_2 w2 fun x28_3 w3 =>
  C.nilCheck y0 w3 fun x34_4 w4 =>
  C.field 0 x34_4 w4 fun x35_5 w5 =>
  C.nilCheck y0 w5 fun x43_6 w6 =>
  C.field 1 x43_6 w6 fun x44_7 w7 =>
  C.load1S S x28_3 w7 fun x29_8 w8 =>
  C.len x29_8 w8 fun x30_9 w9 =>
  C.int .add x30_9 y2 w9 fun x32_10 w10 =>
  C.load1S S x35_5 w10 fun x36_11 w11 =>
  C.int .sub x32_10 x36_11 w11 fun x37_12 w12 =>
  ∃ x38_13, (∀ w', S w' → (builtin .max #[3, 3] 3 #[false, true] #[x37_12, (.int .i64 0)]).run Try.prog w' = .ok (.value x38_13) w') ∧ (C.load1S S x44_7 w12 fun x45_14 w14 =>
  (C.call Try.prog 78 #[y7, x38_13] w14 fun x39_15 w15 =>
  (S w15 ∧
  C.int .add x39_15 y2 w15 fun x41_16 w16 =>
  C.int .leq x41_16 x45_14 w16 fun x46_17 w17 =>
  K x46_17 w17)) ∧ True))) : F73.k4 K y0 y2 y7 w := Eq.mpr (by kernel_rfl) h
theorem F73.sh {K : VK} {x0 x1 x2 : Value} {w : World} (h : (C.call Try.prog 74 #[x0, x1] w fun x10_1 w1 =>
  C.bin Try.prog .eql 110 (.tmp 11) (.const (.pointer none)) x10_1 (.pointer none) w1 fun x12_2 w2 =>
  C.guarded false x12_2 (fun K => K x2 w2) w2 fun x14_3 w3 =>
  C.guarded false x12_2 (fun K => C.int .lss x14_3 (.int .i64 0) w3 K) w3 fun x15_4 w4 =>
  C.pick (some x12_2) (some (.bool true)) (some x15_4) w4 fun x16_5 w5 =>
  C.guarded false x16_5 (fun K => K x2 w5) w5 fun x18_6 w6 =>
  C.guarded false x16_5 (fun K => K x0 w6) w6 fun x19_7 w7 =>
  C.guarded false x16_5 (fun K => C.nilCheck x19_7 w7 K) w7 fun x20_8 w8 =>
  C.guarded false x16_5 (fun K => C.field 1 x20_8 w8 K) w8 fun x21_9 w9 =>
  C.guarded false x16_5 (fun K => C.load1 x21_9 w9 K) w9 fun x22_10 w10 =>
  C.guarded false x16_5 (fun K => C.int .gtr x18_6 x22_10 w10 K) w10 fun x23_11 w11 =>
  C.pick (some x16_5) (some (.bool true)) (some x23_11) w11 fun x24_12 w12 =>
  C.ite x24_12 (K (.bool false) w12) (F73.k4 K x0 x2 x10_1 w12))) : C.call Try.prog 73 #[x0, x1, x2] w K := calls_of_vc (A := F73.ann) (args := [x0, x1, x2]) (Eq.mpr (by kernel_rfl) h)

/-! ### 74 (*scutage/ledger.Ledger).of (83, 3) -/
namespace F74
def ann : Ann := ⟨[(3, [0, 1])], [], [], []⟩
noncomputable def code : Code := match Try.f74.body with | some c => c | none => .skip
noncomputable def top (K : VK) : QE := retQ Try.prog Try.f74.results.toList K
noncomputable def k3 (K : VK) (y0 y1 : Value) (w : World) : Prop := nav ann Try.prog 26 (fun c Q => vcCode ann Try.prog 26 c Q [(0, y0), (1, y1)] w) [1, 1] code (top K)
attribute [irreducible] k3
end F74
theorem F74.k3.to {K : VK} {y0 y1 : Value} {w : World} (h : (C.nilCheck y0 w fun x21_1 w1 =>
  C.field 2 x21_1 w1 fun x22_2 w2 =>
  C.load1 x22_2 w2 fun x23_3 w3 =>
  C.idx 3 x23_3 y1 w3 fun x25_4 w4 =>
  K x25_4 w4)) : F74.k3 K y0 y1 w := Eq.mpr (by kernel_rfl) h
theorem F74.sh {K : VK} {x0 x1 : Value} {w : World} (h : (C.bin Try.prog .eql 83 (.tmp 5) (.const (.pointer none)) x0 (.pointer none) w fun x6_1 w1 =>
  C.guarded false x6_1 (fun K => K x1 w1) w1 fun x8_2 w2 =>
  C.guarded false x6_1 (fun K => C.int .lss x8_2 (.int .i64 0) w2 K) w2 fun x9_3 w3 =>
  C.pick (some x6_1) (some (.bool true)) (some x9_3) w3 fun x10_4 w4 =>
  C.guarded false x10_4 (fun K => K x1 w4) w4 fun x12_5 w5 =>
  C.guarded false x10_4 (fun K => K x0 w5) w5 fun x13_6 w6 =>
  C.guarded false x10_4 (fun K => C.nilCheck x13_6 w6 K) w6 fun x14_7 w7 =>
  C.guarded false x10_4 (fun K => C.field 2 x14_7 w7 K) w7 fun x15_8 w8 =>
  C.guarded false x10_4 (fun K => C.load1 x15_8 w8 K) w8 fun x16_9 w9 =>
  C.guarded false x10_4 (fun K => C.len x16_9 w9 K) w9 fun x17_10 w10 =>
  C.guarded false x10_4 (fun K => C.int .geq x12_5 x17_10 w10 K) w10 fun x18_11 w11 =>
  C.pick (some x10_4) (some (.bool true)) (some x18_11) w11 fun x19_12 w12 =>
  C.ite x19_12 (K (.pointer none) w12) (F74.k3 K x0 x1 w12))) : C.call Try.prog 74 #[x0, x1] w K := calls_of_vc (A := F74.ann) (args := [x0, x1]) (Eq.mpr (by kernel_rfl) h)

/-! ### 75 (*scutage/ledger.Ledger).put (83, 110, 3, 4) -/
namespace F75
def ann : Ann := ⟨[(1, [0, 1])], [], [], [(0, (.take 0 (.take 1 (.take 2 (.take 3 (.take 5 (.take 7 (.take 8 (.take 9 (.take 10 (.take 11 (.take 12 (.go 4 (.go 6 (.go 13 (.go 14 (.take 15 (.take 16 (.go 17 .fin .fin))) .fin) .fin) .fin) (.go 6 (.go 4 (.go 13 (.go 14 (.take 15 (.take 16 (.go 17 .fin .fin))) .fin) .fin) (.go 13 (.go 4 (.go 14 (.take 15 (.take 16 (.go 17 .fin .fin))) .fin) .fin) .fin)) .fin)))))))))))))), (1, (.take 0 (.take 1 (.take 2 (.take 3 (.take 5 (.take 6 (.take 7 (.take 10 (.take 11 (.take 12 (.take 13 (.go 4 (.go 8 (.take 9 (.take 14 (.take 15 (.take 16 (.go 17 (.take 18 (.take 19 (.go 20 .fin .fin))) .fin))))) .fin) (.go 8 (.take 9 (.take 14 (.take 15 (.go 4 (.take 16 (.go 17 (.take 18 (.take 19 (.go 20 .fin .fin))) .fin)) .fin)))) .fin))))))))))))))]⟩
noncomputable def code : Code := match Try.f75.body with | some c => c | none => .skip
noncomputable def top (K : VK) : QE := retQ Try.prog Try.f75.results.toList K
noncomputable def k1 (K : VK) (y0 y1 : Value) (w : World) : Prop := nav ann Try.prog 45 (fun c Q => vcCode ann Try.prog 45 c Q [(0, y0), (1, y1)] w) [1] code (top K)
attribute [irreducible] k1
end F75
theorem F75.k1.to {K : VK} {y0 y1 : Value} {w : World} (h : (C.draw w fun S w1 =>
  C.nilCheck y1 w1 fun x27_2 w2 =>
  C.field 0 x27_2 w2 fun x28_3 w3 =>
  C.nilCheck y1 w3 fun x31_4 w4 =>
  C.field 0 x31_4 w4 fun x32_5 w5 =>
  C.nilCheck y0 w5 fun x36_6 w6 =>
  C.field 0 x36_6 w6 fun x37_7 w7 =>
  C.load1S S x37_7 w7 fun x38_8 w8 =>
  (C.load1 x28_3 w8 fun x29_19 w19 =>
  (S w19 ∧
  (C.load1 x32_5 w19 fun x33_20 w20 =>
  (S w20 ∧
  C.len x33_20 w20 fun x34_21 w21 =>
  C.int .sub x34_21 x38_8 w21 fun x39_22 w22 =>
  ∃ x40_23, (∀ w', S w' → (builtin .max #[3, 3] 3 #[false, true] #[x39_22, (.int .i64 0)]).run Try.prog w' = .ok (.value x40_23) w') ∧ (∃ x41_24, (∀ w', S w' → (Instr.sliceAt 90 x29_19 (some x40_23) none none).run Try.prog w' = .ok x41_24 w') ∧ ((C.call Try.prog 79 #[x41_24] w22 fun x42_25 w25 =>
  (S w25 ∧
  C.nilCheck y1 w25 fun x43_26 w26 =>
  C.field 0 x43_26 w26 fun x44_27 w27 =>
  (C.store 1 x44_27 x42_25 w27 fun w28 =>
  (S w28 ∧
  K (.tuple #[]) w28)) ∧ True)) ∧ True)))) ∧ True)) ∧ ((C.load1 x32_5 w8 fun x33_9 w9 =>
  (S w9 ∧
  C.len x33_9 w9 fun x34_10 w10 =>
  C.int .sub x34_10 x38_8 w10 fun x39_11 w11 =>
  ∃ x40_12, (∀ w', S w' → (builtin .max #[3, 3] 3 #[false, true] #[x39_11, (.int .i64 0)]).run Try.prog w' = .ok (.value x40_12) w') ∧ ((C.load1 x28_3 w11 fun x29_13 w13 =>
  (S w13 ∧
  ∃ x41_14, (∀ w', S w' → (Instr.sliceAt 90 x29_13 (some x40_12) none none).run Try.prog w' = .ok x41_14 w') ∧ ((C.call Try.prog 79 #[x41_14] w13 fun x42_15 w15 =>
  (S w15 ∧
  C.nilCheck y1 w15 fun x43_16 w16 =>
  C.field 0 x43_16 w16 fun x44_17 w17 =>
  (C.store 1 x44_17 x42_15 w17 fun w18 =>
  (S w18 ∧
  K (.tuple #[]) w18)) ∧ True)) ∧ True))) ∧ True))) ∧ True))) : F75.k1 K y0 y1 w := Eq.mpr (by kernel_rfl) h
theorem F75.sh {K : VK} {x0 x1 x2 x3 : Value} {w : World} (h : (C.draw w fun S w1 =>
  C.nilCheck x1 w1 fun x10_2 w2 =>
  C.field 0 x10_2 w2 fun x11_3 w3 =>
  C.nilCheck x0 w3 fun x17_4 w4 =>
  C.field 0 x17_4 w4 fun x18_5 w5 =>
  C.load1S S x18_5 w5 fun x19_6 w6 =>
  ∃ x20_7, (∀ w', S w' → (builtin .min #[3, 3] 3 #[false, false] #[x2, x19_6]).run Try.prog w' = .ok (.value x20_7) w') ∧ ((C.load1 x11_3 w6 fun x12_21 w21 =>
  (S w21 ∧
  (C.run Try.prog (Instr.buildSlice 90 1 #[(0, x3)]) w21 fun x14_22 w22 =>
  (S w22 ∧
  (C.call Try.prog 80 #[x14_22, x20_7] w22 fun x21_23 w23 =>
  (S w23 ∧
  (C.run Try.prog (Builtin.append_ #[90, 90] 90 #[x12_21, x21_23]) w23 fun x22_24 w24 =>
  (S w24 ∧
  C.nilCheck x1 w24 fun x23_25 w25 =>
  C.field 0 x23_25 w25 fun x24_26 w26 =>
  (C.store 1 x24_26 x22_24 w26 fun w27 =>
  (S w27 ∧
  F75.k1 K x0 x1 w27)) ∧ True)) ∧ True)) ∧ True)) ∧ True)) ∧ ((C.run Try.prog (Instr.buildSlice 90 1 #[(0, x3)]) w6 fun x14_8 w8 =>
  (S w8 ∧
  (C.load1 x11_3 w8 fun x12_15 w15 =>
  (S w15 ∧
  (C.call Try.prog 80 #[x14_8, x20_7] w15 fun x21_16 w16 =>
  (S w16 ∧
  (C.run Try.prog (Builtin.append_ #[90, 90] 90 #[x12_15, x21_16]) w16 fun x22_17 w17 =>
  (S w17 ∧
  C.nilCheck x1 w17 fun x23_18 w18 =>
  C.field 0 x23_18 w18 fun x24_19 w19 =>
  (C.store 1 x24_19 x22_17 w19 fun w20 =>
  (S w20 ∧
  F75.k1 K x0 x1 w20)) ∧ True)) ∧ True)) ∧ True)) ∧ ((C.call Try.prog 80 #[x14_8, x20_7] w8 fun x21_9 w9 =>
  (S w9 ∧
  (C.load1 x11_3 w9 fun x12_10 w10 =>
  (S w10 ∧
  (C.run Try.prog (Builtin.append_ #[90, 90] 90 #[x12_10, x21_9]) w10 fun x22_11 w11 =>
  (S w11 ∧
  C.nilCheck x1 w11 fun x23_12 w12 =>
  C.field 0 x23_12 w12 fun x24_13 w13 =>
  (C.store 1 x24_13 x22_11 w13 fun w14 =>
  (S w14 ∧
  F75.k1 K x0 x1 w14)) ∧ True)) ∧ True)) ∧ True)) ∧ True))) ∧ True)))) : C.call Try.prog 75 #[x0, x1, x2, x3] w K := calls_of_vc (A := F75.ann) (args := [x0, x1, x2, x3]) (Eq.mpr (by kernel_rfl) h)

/-! ### 78 (*scutage/ledger.book).count (110, 3) -/
namespace F78
def ann : Ann := ⟨[(4, [5, 19, 20, 21]), (7, [5, 19, 20, 21]), (8, [5])], [(3, [5, 19, 20, 21])], [], [(2, (.take 0 (.take 1 (.take 2 (.take 4 (.take 5 (.take 6 (.take 7 (.take 13 (.take 3 (.take 8 (.take 9 (.take 10 (.take 11 (.take 12 .fin)))))))))))))))]⟩
noncomputable def code : Code := match Try.f78.body with | some c => c | none => .skip
noncomputable def top (K : VK) : QE := retQ Try.prog Try.f78.results.toList K
noncomputable def k8 (K : VK) (y5 : Value) (w : World) : Prop := nav ann Try.prog 30 (fun c Q => vcCode ann Try.prog 30 c Q [(5, y5)] w) [1, 1, 1] code (top K)
attribute [irreducible] k8
noncomputable def l3 (K : VK) (y5 y19 y20 y21 : Value) (w : World) : Prop := nav ann Try.prog 30 (isLoop Try.prog 30 [(5, y5), (19, y19), (20, y20), (21, y21)] w) [1, 1, 0, 1, 0] code (top K)
attribute [irreducible] l3
noncomputable def k4 (K : VK) (y5 y19 y20 y21 : Value) (w : World) : Prop := nav ann Try.prog 30 (fun c Q => vcCode ann Try.prog 30 c Q [(5, y5), (19, y19), (20, y20), (21, y21)] w) [1, 1, 0, 1, 0, 0, 1, 1] code (top K)
attribute [irreducible] k4
noncomputable def k7 (K : VK) (y5 y19 y20 y21 : Value) (w : World) : Prop := nav ann Try.prog 30 (fun c Q => vcCode ann Try.prog 30 c Q [(5, y5), (19, y19), (20, y20), (21, y21)] w) [1, 1, 0, 1, 0, 0, 1, 1, 1] code (top K)
attribute [irreducible] k7
end F78
theorem F78.k8.to {K : VK} {y5 : Value} {w : World} (h : (K y5 w)) : F78.k8 K y5 w := Eq.mpr (by kernel_rfl) h
theorem F78.l3.to {K : VK} {y5 y19 y20 y21 : Value} {w : World} (h : (C.int .lss y21 y20 w fun x22_1 w1 =>
  C.ite x22_1 (F78.k4 K y5 y19 y20 y21 w1) (F78.k8 K y5 w1))) : F78.l3 K y5 y19 y20 y21 w := by unfold F78.l3; exact nav_round (Eq.mpr (by kernel_rfl) h)
theorem F78.k4.to {K : VK} {y5 y19 y20 y21 : Value} {w : World} (h : (C.idx 1 y19 y21 w fun x23_1 w1 =>
  C.load1 x23_1 w1 fun x24_2 w2 =>
  C.ite x24_2 (C.int .add y5 (.int .i64 1) w2 fun x27_3 w3 =>
  F78.k7 K x27_3 y19 y20 y21 w3) (F78.k7 K y5 y19 y20 y21 w2))) : F78.k4 K y5 y19 y20 y21 w := Eq.mpr (by kernel_rfl) h
theorem F78.k7.to {K : VK} {y5 y19 y20 y21 : Value} {w : World} (h : (C.int .add y21 (.int .i64 1) w fun x28_1 w1 =>
  F78.l3 K y5 y19 y20 x28_1 w1)) : F78.k7 K y5 y19 y20 y21 w := Eq.mpr (by kernel_rfl) h
theorem F78.sh {K : VK} {x0 x1 : Value} {w : World} (h : (C.draw w fun S w1 =>
  C.nilCheck x0 w1 fun x9_2 w2 =>
  C.field 0 x9_2 w2 fun x10_3 w3 =>
  C.nilCheck x0 w3 fun x14_4 w4 =>
  C.field 0 x14_4 w4 fun x15_5 w5 =>
  C.load1S S x10_3 w5 fun x11_6 w6 =>
  C.load1S S x15_5 w6 fun x16_7 w7 =>
  C.len x16_7 w7 fun x17_8 w8 =>
  ∃ x18_9, (∀ w', S w' → (builtin .min #[3, 3] 3 #[false, false] #[x1, x17_8]).run Try.prog w' = .ok (.value x18_9) w') ∧ (∃ x19_10, (∀ w', S w' → (Instr.sliceAt 90 x11_6 (some x18_9) none none).run Try.prog w' = .ok x19_10 w') ∧ (C.len x19_10 w8 fun x20_11 w11 =>
  F78.l3 K (.int .i64 0) x19_10 x20_11 (.int .i64 0) w11)))) : C.call Try.prog 78 #[x0, x1] w K := calls_of_vc (A := F78.ann) (args := [x0, x1]) (Eq.mpr (by kernel_rfl) h)

/-! ### 79 slices.Clone[[]bool,bool] (90) -/
namespace F79
def ann : Ann := ⟨[(3, [0])], [], [], []⟩
noncomputable def code : Code := match Try.f79.body with | some c => c | none => .skip
noncomputable def top (K : VK) : QE := retQ Try.prog Try.f79.results.toList K
noncomputable def k3 (K : VK) (y0 : Value) (w : World) : Prop := nav ann Try.prog 8 (fun c Q => vcCode ann Try.prog 8 c Q [(0, y0)] w) [1, 1] code (top K)
attribute [irreducible] k3
end F79
theorem F79.k3.to {K : VK} {y0 : Value} {w : World} (h : (C.run Try.prog (Instr.buildSlice 90 0 #[]) w fun x5_1 w1 =>
  C.run Try.prog (Builtin.append_ #[90, 90] 90 #[x5_1, y0]) w1 fun x7_2 w2 =>
  K x7_2 w2)) : F79.k3 K y0 w := Eq.mpr (by kernel_rfl) h
theorem F79.sh {K : VK} {x0 : Value} {w : World} (h : (C.bin Try.prog .eql 90 (.tmp 3) (.const (.slice none 0 0)) x0 (.slice none 0 0) w fun x4_1 w1 =>
  C.ite x4_1 (K (.slice none 0 0) w1) (F79.k3 K x0 w1))) : C.call Try.prog 79 #[x0] w K := calls_of_vc (A := F79.ann) (args := [x0]) (Eq.mpr (by kernel_rfl) h)

/-! ### 80 slices.Repeat[[]bool,bool] (90, 3) -/
namespace F80
def ann : Ann := ⟨[(3, [0, 1]), (6, [0, 6]), (9, [7, 8]), (10, [7])], [(8, [7, 8])], [], [(9, (.take 0 (.take 1 (.take 2 (.take 4 (.take 5 (.take 3 (.take 6 (.go 7 (.take 8 (.take 9 .fin)) .fin)))))))))]⟩
noncomputable def code : Code := match Try.f80.body with | some c => c | none => .skip
noncomputable def top (K : VK) : QE := retQ Try.prog Try.f80.results.toList K
noncomputable def k3 (K : VK) (y0 y1 : Value) (w : World) : Prop := nav ann Try.prog 48 (fun c Q => vcCode ann Try.prog 48 c Q [(0, y0), (1, y1)] w) [1, 1] code (top K)
attribute [irreducible] k3
noncomputable def k6 (K : VK) (y0 y6 : Value) (w : World) : Prop := nav ann Try.prog 48 (fun c Q => vcCode ann Try.prog 48 c Q [(0, y0), (6, y6)] w) [1, 1, 1, 1] code (top K)
attribute [irreducible] k6
noncomputable def k10 (K : VK) (y7 : Value) (w : World) : Prop := nav ann Try.prog 48 (fun c Q => vcCode ann Try.prog 48 c Q [(7, y7)] w) [1, 1, 1, 1, 1, 1, 1] code (top K)
attribute [irreducible] k10
noncomputable def l8 (K : VK) (y7 y8 : Value) (w : World) : Prop := nav ann Try.prog 48 (isLoop Try.prog 48 [(7, y7), (8, y8)] w) [1, 1, 1, 1, 1, 1, 0, 0] code (top K)
attribute [irreducible] l8
noncomputable def k9 (K : VK) (y7 y8 : Value) (w : World) : Prop := nav ann Try.prog 48 (fun c Q => vcCode ann Try.prog 48 c Q [(7, y7), (8, y8)] w) [1, 1, 1, 1, 1, 1, 0, 0, 0, 1] code (top K)
attribute [irreducible] k9
end F80
theorem F80.k3.to {K : VK} {y0 y1 : Value} {w : World} (h : (C.len y0 w fun x14_1 w1 =>
  C.conv .u64 x14_1 w1 fun x15_2 w2 =>
  C.conv .u64 y1 w2 fun x17_3 w3 =>
  C.call Try.prog 81 #[x15_2, x17_3] w3 fun x18_4 w4 =>
  C.ext 0 x18_4 w4 fun x19_5 w5 =>
  C.ext 1 x18_4 w5 fun x20_6 w6 =>
  C.int .gtr x19_5 (.int .u64 0) w6 fun x22_7 w7 =>
  C.guarded false x22_7 (fun K => K x20_6 w7) w7 fun x24_8 w8 =>
  C.guarded false x22_7 (fun K => C.int .gtr x24_8 (.int .u64 9223372036854775807) w8 K) w8 fun x25_9 w9 =>
  C.pick (some x22_7) (some (.bool true)) (some x25_9) w9 fun x26_10 w10 =>
  C.ite x26_10 (C.run Try.prog (Instr.makeInterface 9 (.string { data := #[116, 104, 101, 32, 114, 101, 115, 117, 108, 116, 32, 111, 102, 32, 40, 108, 101, 110, 40, 120, 41, 32, 42, 32, 99, 111, 117, 110, 116, 41, 32, 111, 118, 101, 114, 102, 108, 111, 119, 115] })) w10 fun x27_11 w11 =>
  False) (F80.k6 K y0 x20_6 w10))) : F80.k3 K y0 y1 w := Eq.mpr (by kernel_rfl) h
theorem F80.k6.to {K : VK} {y0 y6 : Value} {w : World} (h : (C.conv .i64 y6 w fun x29_1 w1 =>
  C.run Try.prog (Instr.makeSlice 90 x29_1 x29_1) w1 fun x30_2 w2 =>
  C.run Try.prog (Builtin.copy_ #[90, 90] 3 #[x30_2, y0]) w2 fun x33_3 w3 =>
  F80.l8 K x30_2 x33_3 w3)) : F80.k6 K y0 y6 w := Eq.mpr (by kernel_rfl) h
theorem F80.k10.to {K : VK} {y7 : Value} {w : World} (h : (K y7 w)) : F80.k10 K y7 w := Eq.mpr (by kernel_rfl) h
theorem F80.l8.to {K : VK} {y7 y8 : Value} {w : World} (h : (C.len y7 w fun x36_1 w1 =>
  C.int .lss y8 x36_1 w1 fun x37_2 w2 =>
  C.ite x37_2 (F80.k9 K y7 y8 w2) (F80.k10 K y7 w2))) : F80.l8 K y7 y8 w := by unfold F80.l8; exact nav_round (Eq.mpr (by kernel_rfl) h)
theorem F80.k9.to {K : VK} {y7 y8 : Value} {w : World} (h : (C.draw w fun S w1 =>
  ∃ x41_2, (∀ w', S w' → (Instr.sliceAt 90 y7 (some y8) none none).run Try.prog w' = .ok x41_2 w') ∧ (∃ x44_3, (∀ w', S w' → (Instr.sliceAt 90 y7 none (some y8) none).run Try.prog w' = .ok x44_3 w') ∧ ((C.run Try.prog (Builtin.copy_ #[90, 90] 3 #[x41_2, x44_3]) w1 fun x45_4 w4 =>
  (S w4 ∧
  C.int .add y8 x45_4 w4 fun x46_5 w5 =>
  F80.l8 K y7 x46_5 w5)) ∧ True)))) : F80.k9 K y7 y8 w := Eq.mpr (by kernel_rfl) h
theorem F80.sh {K : VK} {x0 x1 : Value} {w : World} (h : (C.int .lss x1 (.int .i64 0) w fun x10_1 w1 =>
  C.ite x10_1 (C.run Try.prog (Instr.makeInterface 9 (.string { data := #[99, 97, 110, 110, 111, 116, 32, 98, 101, 32, 110, 101, 103, 97, 116, 105, 118, 101] })) w1 fun x11_2 w2 =>
  False) (F80.k3 K x0 x1 w1))) : C.call Try.prog 80 #[x0, x1] w K := calls_of_vc (A := F80.ann) (args := [x0, x1]) (Eq.mpr (by kernel_rfl) h)

/-! ### 81 math/bits.Mul (97, 97) -/
namespace F81
def ann : Ann := ⟨[(3, [0, 1])], [], [], []⟩
noncomputable def code : Code := match Try.f81.body with | some c => c | none => .skip
noncomputable def top (K : VK) : QE := retQ Try.prog Try.f81.results.toList K
noncomputable def k3 (K : VK) (y0 y1 : Value) (w : World) : Prop := nav ann Try.prog 30 (fun c Q => vcCode ann Try.prog 30 c Q [(0, y0), (1, y1)] w) [1, 1] code (top K)
attribute [irreducible] k3
end F81
theorem F81.k3.to {K : VK} {y0 y1 : Value} {w : World} (h : (C.call Try.prog 83 #[y0, y1] w fun x25_1 w1 =>
  C.ext 0 x25_1 w1 fun x26_2 w2 =>
  C.ext 1 x25_1 w2 fun x27_3 w3 =>
  K (.tuple #[x26_2, x27_3]) w3)) : F81.k3 K y0 y1 w := Eq.mpr (by kernel_rfl) h
theorem F81.sh {K : VK} {x0 x1 : Value} {w : World} (h : (C.ite (.bool false) (C.conv .u32 x0 w fun x12_1 w1 =>
  C.conv .u32 x1 w1 fun x14_2 w2 =>
  C.call Try.prog 82 #[x12_1, x14_2] w2 fun x15_3 w3 =>
  C.ext 0 x15_3 w3 fun x16_4 w4 =>
  C.ext 1 x15_3 w4 fun x17_5 w5 =>
  C.conv .u64 x16_4 w5 fun x19_6 w6 =>
  C.conv .u64 x17_5 w6 fun x21_7 w7 =>
  K (.tuple #[x19_6, x21_7]) w7) (F81.k3 K x0 x1 w))) : C.call Try.prog 81 #[x0, x1] w K := calls_of_vc (A := F81.ann) (args := [x0, x1]) (Eq.mpr (by kernel_rfl) h)

/-! ### 82 math/bits.Mul32 (120, 120) -/
namespace F82
def ann : Ann := ⟨[], [], [], []⟩
noncomputable def code : Code := match Try.f82.body with | some c => c | none => .skip
noncomputable def top (K : VK) : QE := retQ Try.prog Try.f82.results.toList K
end F82
theorem F82.sh {K : VK} {x0 x1 : Value} {w : World} (h : (C.conv .u64 x0 w fun x8_1 w1 =>
  C.conv .u64 x1 w1 fun x10_2 w2 =>
  C.int .mul x8_1 x10_2 w2 fun x11_3 w3 =>
  C.bin Try.prog .shr 123 (.tmp 12) (.const (.int .u64 32)) x11_3 (.int .u64 32) w3 fun x13_4 w4 =>
  C.conv .u32 x13_4 w4 fun x14_5 w5 =>
  C.conv .u32 x11_3 w5 fun x16_6 w6 =>
  K (.tuple #[x14_5, x16_6]) w6)) : C.call Try.prog 82 #[x0, x1] w K := calls_of_vc (A := F82.ann) (args := [x0, x1]) (Eq.mpr (by kernel_rfl) h)

/-! ### 83 math/bits.Mul64 (123, 123) -/
namespace F83
def ann : Ann := ⟨[], [], [], []⟩
noncomputable def code : Code := match Try.f83.body with | some c => c | none => .skip
noncomputable def top (K : VK) : QE := retQ Try.prog Try.f83.results.toList K
end F83
theorem F83.sh {K : VK} {x0 x1 : Value} {w : World} (h : (C.bin Try.prog .and 123 (.tmp 14) (.const (.int .u64 4294967295)) x0 (.int .u64 4294967295) w fun x15_1 w1 =>
  C.bin Try.prog .shr 123 (.tmp 16) (.const (.int .u64 32)) x0 (.int .u64 32) w1 fun x17_2 w2 =>
  C.bin Try.prog .and 123 (.tmp 18) (.const (.int .u64 4294967295)) x1 (.int .u64 4294967295) w2 fun x19_3 w3 =>
  C.bin Try.prog .shr 123 (.tmp 20) (.const (.int .u64 32)) x1 (.int .u64 32) w3 fun x21_4 w4 =>
  C.int .mul x15_1 x19_3 w4 fun x24_5 w5 =>
  C.int .mul x17_2 x19_3 w5 fun x27_6 w6 =>
  C.bin Try.prog .shr 123 (.tmp 28) (.const (.int .u64 32)) x24_5 (.int .u64 32) w6 fun x29_7 w7 =>
  C.int .add x27_6 x29_7 w7 fun x30_8 w8 =>
  C.bin Try.prog .and 123 (.tmp 31) (.const (.int .u64 4294967295)) x30_8 (.int .u64 4294967295) w8 fun x32_9 w9 =>
  C.bin Try.prog .shr 123 (.tmp 33) (.const (.int .u64 32)) x30_8 (.int .u64 32) w9 fun x34_10 w10 =>
  C.int .mul x15_1 x21_4 w10 fun x38_11 w11 =>
  C.int .add x32_9 x38_11 w11 fun x39_12 w12 =>
  C.int .mul x17_2 x21_4 w12 fun x42_13 w13 =>
  C.int .add x42_13 x34_10 w13 fun x44_14 w14 =>
  C.bin Try.prog .shr 123 (.tmp 45) (.const (.int .u64 32)) x39_12 (.int .u64 32) w14 fun x46_15 w15 =>
  C.int .add x44_14 x46_15 w15 fun x47_16 w16 =>
  C.int .mul x0 x1 w16 fun x50_17 w17 =>
  K (.tuple #[x47_16, x50_17]) w17)) : C.call Try.prog 83 #[x0, x1] w K := calls_of_vc (A := F83.ann) (args := [x0, x1]) (Eq.mpr (by kernel_rfl) h)

end Go.Proofs.YtckageghbhkklaaV
