/- What the bodies of these functions ask, as plain statements. Written by gen.py (own work) for the seat Ytfdpmgddlaamcaa. -/
import Derived.Test.YtfdpmgddlaamcaaVc6
import Derived.Test.YtfdpmgddlaamcaaProg
namespace Go.Proofs.YtfdpmgddlaamcaaV
open Go Go.Proofs
set_option linter.unusedVariables false
set_option maxRecDepth 100000

/-! ### 13 scutage/scutagelaw12.alive () -/
namespace F13
def ann : Ann := ⟨[], [], [], [], none⟩
noncomputable def code : Code := match Try.f13.body with | some c => c | none => .skip
noncomputable def top (K : VK) : QE := retQ Try.prog Try.f13.results.toList K
end F13
theorem F13.sh {K : VK} {w : World} (h : (C.call Try.prog 15 #[(.int .i64 2)] w fun x6_1 w1 =>
  C.call Try.prog 19 #[x6_1, (.int .i64 0), (.int .i64 1), (.int .i64 5)] w1 fun x8_2 w2 =>
  C.call Try.prog 19 #[x6_1, (.int .i64 1), (.int .i64 2), (.int .i64 5)] w2 fun x10_3 w3 =>
  C.call Try.prog 20 #[x6_1, (.int .i64 5)] w3 fun x13_4 w4 =>
  C.ext 0 x13_4 w4 fun x14_5 w5 =>
  C.ext 1 x13_4 w5 fun x15_6 w6 =>
  C.guarded true x8_2 (fun K => K x10_3 w6) w6 fun x18_7 w7 =>
  C.guarded true x8_2 (fun K => C.not x18_7 w7 K) w7 fun x19_8 w8 =>
  C.pick (some x8_2) (some x19_8) (some (.bool false)) w8 fun x20_9 w9 =>
  C.guarded true x20_9 (fun K => K x14_5 w9) w9 fun x22_10 w10 =>
  C.guarded true x20_9 (fun K => C.int .eql x22_10 (.int .i64 0) w10 K) w10 fun x23_11 w11 =>
  C.pick (some x20_9) (some x23_11) (some (.bool false)) w11 fun x24_12 w12 =>
  C.guarded true x24_12 (fun K => K x15_6 w12) w12 fun x26_13 w13 =>
  C.guarded true x24_12 (fun K => C.int .eql x26_13 (.int .i64 1) w13 K) w13 fun x27_14 w14 =>
  C.pick (some x24_12) (some x27_14) (some (.bool false)) w14 fun x28_15 w15 =>
  C.guarded true x28_15 (fun K => K x6_1 w15) w15 fun x30_16 w16 =>
  C.guarded true x28_15 (fun K => C.call Try.prog 21 #[x30_16, (.int .i64 0), (.int .i64 1)] w16 K) w16 fun x31_17 w17 =>
  C.guarded true x28_15 (fun K => C.int .eql x31_17 (.int .i64 5) w17 K) w17 fun x32_18 w18 =>
  C.pick (some x28_15) (some x32_18) (some (.bool false)) w18 fun x33_19 w19 =>
  C.guarded true x33_19 (fun K => K x6_1 w19) w19 fun x35_20 w20 =>
  C.guarded true x33_19 (fun K => C.call Try.prog 21 #[x35_20, (.int .i64 1), (.int .i64 2)] w20 K) w20 fun x36_21 w21 =>
  C.guarded true x33_19 (fun K => C.int .eql x36_21 (.int .i64 (-1)) w21 K) w21 fun x37_22 w22 =>
  C.pick (some x33_19) (some x37_22) (some (.bool false)) w22 fun x38_23 w23 =>
  C.guarded true x38_23 (fun K => K x6_1 w23) w23 fun x40_24 w24 =>
  C.guarded true x38_23 (fun K => C.call Try.prog 18 #[x40_24, (.int .i64 0)] w24 K) w24 fun x41_25 w25 =>
  C.guarded true x38_23 (fun K => C.run Try.prog (Instr.buildSlice 34 1 #[(0, (.int .i64 5))]) w25 K) w25 fun x42_26 w26 =>
  C.guarded true x38_23 (fun K => C.call Try.prog 51 #[x41_25, x42_26] w26 K) w26 fun x43_27 w27 =>
  C.pick (some x38_23) (some x43_27) (some (.bool false)) w27 fun x44_28 w28 =>
  C.guarded true x44_28 (fun K => K x6_1 w28) w28 fun x46_29 w29 =>
  C.guarded true x44_28 (fun K => C.call Try.prog 21 #[x46_29, (.int .i64 0), (.int .i64 1)] w29 K) w29 fun x47_30 w30 =>
  C.guarded true x44_28 (fun K => C.int .eql x47_30 (.int .i64 (-1)) w30 K) w30 fun x48_31 w31 =>
  C.pick (some x44_28) (some x48_31) (some (.bool false)) w31 fun x49_32 w32 =>
  K x49_32 w32)) : C.call Try.prog 13 #[] w K := calls_of_vc (A := F13.ann) (args := []) (Eq.mpr (by kernel_rfl) h)

/-! ### 15 scutage/cache.New (3) -/
namespace F15
def ann : Ann := ⟨[], [], [], [], none⟩
noncomputable def code : Code := match Try.f15.body with | some c => c | none => .skip
noncomputable def top (K : VK) : QE := retQ Try.prog Try.f15.results.toList K
end F15
theorem F15.sh {K : VK} {x0 : Value} {w : World} (h : (C.call Try.prog 54 #[x0, (.int .i64 0), (.int .i64 9)] w fun x4_1 w1 =>
  C.run Try.prog (Instr.makeMap 44 none) w1 fun x5_2 w2 =>
  C.run Try.prog (Instr.build 46 #[(0, x4_1), (1, x5_2)]) w2 fun x6_3 w3 =>
  C.new (.cells (Value.cells x6_3) 46) w3 fun x7_4 w4 =>
  K x7_4 w4)) : C.call Try.prog 15 #[x0] w K := calls_of_vc (A := F15.ann) (args := [x0]) (Eq.mpr (by kernel_rfl) h)

/-! ### 16 scutage/scutageplain.Near (3, 3, 3) -/
namespace F16
def ann : Ann := ⟨[(3, [0, 2]), (5, [0])], [], [], [], none⟩
noncomputable def code : Code := match Try.f16.body with | some c => c | none => .skip
noncomputable def top (K : VK) : QE := retQ Try.prog Try.f16.results.toList K
noncomputable def k3 (K : VK) (y0 y2 : Value) (w : World) : Prop := nav ann Try.prog 16 (fun c Q => vcCode ann Try.prog 16 c Q [(0, y0), (2, y2)] w) [1, 1] code (top K)
attribute [irreducible] k3
noncomputable def k5 (K : VK) (y0 : Value) (w : World) : Prop := nav ann Try.prog 16 (fun c Q => vcCode ann Try.prog 16 c Q [(0, y0)] w) [1, 1, 1] code (top K)
attribute [irreducible] k5
end F16
theorem F16.k3.to {K : VK} {y0 y2 : Value} {w : World} (h : (C.int .gtr y0 y2 w fun x13_1 w1 =>
  C.ite x13_1 (K y2 w1) (F16.k5 K y0 w1))) : F16.k3 K y0 y2 w := Eq.mpr (by kernel_rfl) h
theorem F16.k5.to {K : VK} {y0 : Value} {w : World} (h : (K y0 w)) : F16.k5 K y0 w := Eq.mpr (by kernel_rfl) h
theorem F16.sh {K : VK} {x0 x1 x2 : Value} {w : World} (h : (C.int .lss x0 x1 w fun x9_1 w1 =>
  C.ite x9_1 (K x1 w1) (F16.k3 K x0 x2 w1))) : C.call Try.prog 16 #[x0, x1, x2] w K := calls_of_vc (A := F16.ann) (args := [x0, x1, x2]) (Eq.mpr (by kernel_rfl) h)

/-! ### 17 scutage/scutagelaw12.few (22) -/
namespace F17
def ann : Ann := ⟨[(3, [0])], [], [], [], none⟩
noncomputable def code : Code := match Try.f17.body with | some c => c | none => .skip
noncomputable def top (K : VK) : QE := retQ Try.prog Try.f17.results.toList K
noncomputable def k3 (K : VK) (y0 : Value) (w : World) : Prop := nav ann Try.prog 9 (fun c Q => vcCode ann Try.prog 9 c Q [(0, y0)] w) [1, 1] code (top K)
attribute [irreducible] k3
end F17
theorem F17.k3.to {K : VK} {y0 : Value} {w : World} (h : (K y0 w)) : F17.k3 K y0 w := Eq.mpr (by kernel_rfl) h
theorem F17.sh {K : VK} {x0 : Value} {w : World} (h : (C.len x0 w fun x4_1 w1 =>
  C.int .gtr x4_1 (.int .i64 50) w1 fun x5_2 w2 =>
  C.ite x5_2 (C.run Try.prog (Instr.sliceAt 22 x0 none (some (.int .i64 50)) none) w2 fun x7_3 w3 =>
  K x7_3 w3) (F17.k3 K x0 w2))) : C.call Try.prog 17 #[x0] w K := calls_of_vc (A := F17.ann) (args := [x0]) (Eq.mpr (by kernel_rfl) h)

/-! ### 18 (*scutage/cache.Cache).Drop (27, 3) -/
namespace F18
def ann : Ann := ⟨[(3, [0, 1]), (6, [0, 1, 5, 6]), (7, [0, 1, 5, 6]), (11, [5])], [(5, [0, 1, 5, 6])], [], [], none⟩
noncomputable def code : Code := match Try.f18.body with | some c => c | none => .skip
noncomputable def top (K : VK) : QE := retQ Try.prog Try.f18.results.toList K
noncomputable def k3 (K : VK) (y0 y1 : Value) (w : World) : Prop := nav ann Try.prog 35 (fun c Q => vcCode ann Try.prog 35 c Q [(0, y0), (1, y1)] w) [1, 1] code (top K)
attribute [irreducible] k3
noncomputable def k11 (K : VK) (y5 : Value) (w : World) : Prop := nav ann Try.prog 35 (fun c Q => vcCode ann Try.prog 35 c Q [(5, y5)] w) [1, 1, 1, 1] code (top K)
attribute [irreducible] k11
noncomputable def l5 (K : VK) (y0 y1 y5 y6 : Value) (w : World) : Prop := nav ann Try.prog 35 (isLoop ann Try.prog 35 [(0, y0), (1, y1), (5, y5), (6, y6)] w) [1, 1, 1, 0, 1, 0] code (top K)
attribute [irreducible] l5
noncomputable def k7 (K : VK) (y0 y1 y5 y6 : Value) (w : World) : Prop := nav ann Try.prog 35 (fun c Q => vcCode ann Try.prog 35 c Q [(0, y0), (1, y1), (5, y5), (6, y6)] w) [1, 1, 1, 0, 1, 0, 0, 1] code (top K)
attribute [irreducible] k7
noncomputable def k6 (K : VK) (y0 y1 y5 y6 : Value) (w : World) : Prop := nav ann Try.prog 35 (fun c Q => vcCode ann Try.prog 35 c Q [(0, y0), (1, y1), (5, y5), (6, y6)] w) [1, 1, 1, 0, 1, 0, 0, 1, 1] code (top K)
attribute [irreducible] k6
end F18
theorem F18.k3.to {K : VK} {y0 y1 : Value} {w : World} (h : (F18.l5 K y0 y1 (.slice none 0 0) (.int .i64 1) w)) : F18.k3 K y0 y1 w := Eq.mpr (by kernel_rfl) h
theorem F18.k11.to {K : VK} {y5 : Value} {w : World} (h : (C.call Try.prog 56 #[y5] w fun x33_1 w1 =>
  K y5 w1)) : F18.k11 K y5 w := Eq.mpr (by kernel_rfl) h
theorem F18.l5.to {K : VK} {y0 y1 y5 y6 : Value} {w : World} (h : (C.call Try.prog 55 #[y6] w fun x11_1 w1 =>
  C.int .gtr x11_1 (.int .i64 0) w1 fun x12_2 w2 =>
  C.ite x12_2 (F18.k7 K y0 y1 y5 y6 w2) (F18.k11 K y5 w2))) : F18.l5 K y0 y1 y5 y6 w := by unfold F18.l5; exact nav_round (Eq.mpr (by kernel_rfl) h)
theorem F18.k7.to {K : VK} {y0 y1 y5 y6 : Value} {w : World} (h : (C.call Try.prog 21 #[y0, y1, y6] w fun x18_1 w1 =>
  C.int .geq x18_1 (.int .i64 0) w1 fun x20_2 w2 =>
  C.ite x20_2 (C.run Try.prog (Instr.buildSlice 34 1 #[(0, x18_1)]) w2 fun x23_3 w3 =>
  C.run Try.prog (Builtin.append_ #[34, 34] 34 #[y5, x23_3]) w3 fun x24_4 w4 =>
  C.nilCheck y0 w4 fun x26_5 w5 =>
  C.field 1 x26_5 w5 fun x27_6 w6 =>
  C.load1 x27_6 w6 fun x28_7 w7 =>
  C.run Try.prog (Instr.build 104 #[(0, y1), (1, y6)]) w7 fun x31_8 w8 =>
  C.run Try.prog (Builtin.delete_ #[44, 104] 0 #[x28_7, x31_8]) w8 fun _ w9 =>
  F18.k6 K y0 y1 x24_4 y6 w9) (F18.k6 K y0 y1 y5 y6 w2))) : F18.k7 K y0 y1 y5 y6 w := Eq.mpr (by kernel_rfl) h
theorem F18.k6.to {K : VK} {y0 y1 y5 y6 : Value} {w : World} (h : (C.int .add y6 (.int .i64 1) w fun x14_1 w1 =>
  F18.l5 K y0 y1 y5 x14_1 w1)) : F18.k6 K y0 y1 y5 y6 w := Eq.mpr (by kernel_rfl) h
theorem F18.sh {K : VK} {x0 x1 : Value} {w : World} (h : (C.bin Try.prog .eql 27 (.tmp 8) (.const (.pointer none)) x0 (.pointer none) w fun x9_1 w1 =>
  C.ite x9_1 (K (.slice none 0 0) w1) (F18.k3 K x0 x1 w1))) : C.call Try.prog 18 #[x0, x1] w K := calls_of_vc (A := F18.ann) (args := [x0, x1]) (Eq.mpr (by kernel_rfl) h)

/-! ### 19 (*scutage/cache.Cache).Set (27, 3, 3, 3) -/
namespace F19
def ann : Ann := ⟨[(3, [0, 1, 2, 3]), (6, [0, 1, 2, 3])], [], [], [], none⟩
noncomputable def code : Code := match Try.f19.body with | some c => c | none => .skip
noncomputable def top (K : VK) : QE := retQ Try.prog Try.f19.results.toList K
noncomputable def k3 (K : VK) (y0 y1 y2 y3 : Value) (w : World) : Prop := nav ann Try.prog 61 (fun c Q => vcCode ann Try.prog 61 c Q [(0, y0), (1, y1), (2, y2), (3, y3)] w) [1, 1] code (top K)
attribute [irreducible] k3
noncomputable def k6 (K : VK) (y0 y1 y2 y3 : Value) (w : World) : Prop := nav ann Try.prog 61 (fun c Q => vcCode ann Try.prog 61 c Q [(0, y0), (1, y1), (2, y2), (3, y3)] w) [1, 1, 1] code (top K)
attribute [irreducible] k6
end F19
theorem F19.k3.to {K : VK} {y0 y1 y2 y3 : Value} {w : World} (h : (C.call Try.prog 20 #[y0, y3] w fun x48_1 w1 =>
  C.ext 0 x48_1 w1 fun x49_2 w2 =>
  C.ext 1 x48_1 w2 fun x50_3 w3 =>
  C.int .geq x49_2 (.int .i64 0) w3 fun x52_4 w4 =>
  C.ite x52_4 (K (.bool false) w4) (F19.k6 K y0 y1 y2 y3 w4))) : F19.k3 K y0 y1 y2 y3 w := Eq.mpr (by kernel_rfl) h
theorem F19.k6.to {K : VK} {y0 y1 y2 y3 : Value} {w : World} (h : (C.nilCheck y0 w fun x54_1 w1 =>
  C.field 1 x54_1 w1 fun x55_2 w2 =>
  C.load1 x55_2 w2 fun x56_3 w3 =>
  C.run Try.prog (Instr.build 104 #[(0, y1), (1, y2)]) w3 fun x59_4 w4 =>
  C.runU Try.prog (Instr.mapUpdate 44 x56_3 x59_4 y3) w4 fun w5 =>
  K (.bool true) w5)) : F19.k6 K y0 y1 y2 y3 w := Eq.mpr (by kernel_rfl) h
theorem F19.sh {K : VK} {x0 x1 x2 x3 : Value} {w : World} (h : (C.bin Try.prog .eql 27 (.tmp 11) (.const (.pointer none)) x0 (.pointer none) w fun x12_1 w1 =>
  C.guarded false x12_1 (fun K => K x0 w1) w1 fun x14_2 w2 =>
  C.guarded false x12_1 (fun K => C.nilCheck x14_2 w2 K) w2 fun x15_3 w3 =>
  C.guarded false x12_1 (fun K => C.field 1 x15_3 w3 K) w3 fun x16_4 w4 =>
  C.guarded false x12_1 (fun K => C.load1 x16_4 w4 K) w4 fun x17_5 w5 =>
  C.guarded false x12_1 (fun K => C.bin Try.prog .eql 44 (.tmp 17) (.const (.map none)) x17_5 (.map none) w5 K) w5 fun x18_6 w6 =>
  C.pick (some x12_1) (some (.bool true)) (some x18_6) w6 fun x19_7 w7 =>
  C.guarded false x19_7 (fun K => K x1 w7) w7 fun x21_8 w8 =>
  C.guarded false x19_7 (fun K => C.int .lss x21_8 (.int .i64 0) w8 K) w8 fun x22_9 w9 =>
  C.pick (some x19_7) (some (.bool true)) (some x22_9) w9 fun x23_10 w10 =>
  C.guarded false x23_10 (fun K => K x1 w10) w10 fun x25_11 w11 =>
  C.guarded false x23_10 (fun K => K x0 w11) w11 fun x26_12 w12 =>
  C.guarded false x23_10 (fun K => C.nilCheck x26_12 w12 K) w12 fun x27_13 w13 =>
  C.guarded false x23_10 (fun K => C.field 0 x27_13 w13 K) w13 fun x28_14 w14 =>
  C.guarded false x23_10 (fun K => C.load1 x28_14 w14 K) w14 fun x29_15 w15 =>
  C.guarded false x23_10 (fun K => C.int .geq x25_11 x29_15 w15 K) w15 fun x30_16 w16 =>
  C.pick (some x23_10) (some (.bool true)) (some x30_16) w16 fun x31_17 w17 =>
  C.guarded false x31_17 (fun K => K x2 w17) w17 fun x33_18 w18 =>
  C.guarded false x31_17 (fun K => C.call Try.prog 55 #[x33_18] w18 K) w18 fun x34_19 w19 =>
  C.guarded false x31_17 (fun K => C.int .eql x34_19 (.int .i64 0) w19 K) w19 fun x35_20 w20 =>
  C.pick (some x31_17) (some (.bool true)) (some x35_20) w20 fun x36_21 w21 =>
  C.guarded false x36_21 (fun K => K x3 w21) w21 fun x38_22 w22 =>
  C.guarded false x36_21 (fun K => C.int .lss x38_22 (.int .i64 0) w22 K) w22 fun x39_23 w23 =>
  C.pick (some x36_21) (some (.bool true)) (some x39_23) w23 fun x40_24 w24 =>
  C.guarded false x40_24 (fun K => K x3 w24) w24 fun x42_25 w25 =>
  C.guarded false x40_24 (fun K => C.int .geq x42_25 (.int .i64 64) w25 K) w25 fun x43_26 w26 =>
  C.pick (some x40_24) (some (.bool true)) (some x43_26) w26 fun x44_27 w27 =>
  C.ite x44_27 (K (.bool false) w27) (F19.k3 K x0 x1 x2 x3 w27))) : C.call Try.prog 19 #[x0, x1, x2, x3] w K := calls_of_vc (A := F19.ann) (args := [x0, x1, x2, x3]) (Eq.mpr (by kernel_rfl) h)

/-! ### 20 (*scutage/cache.Cache).Owner (27, 3) -/
namespace F20
def ann : Ann := ⟨[(3, [0, 1]), (5, [1, 14]), (8, [])], [(4, [1, 14])], [], [(7, (.take 0 (.take 2 (.take 1 (.take 4 (.take 3 (.take 5 .fin)))))))], none⟩
noncomputable def code : Code := match Try.f20.body with | some c => c | none => .skip
noncomputable def top (K : VK) : QE := retQ Try.prog Try.f20.results.toList K
noncomputable def k3 (K : VK) (y0 y1 : Value) (w : World) : Prop := nav ann Try.prog 27 (fun c Q => vcCode ann Try.prog 27 c Q [(0, y0), (1, y1)] w) [1, 1] code (top K)
attribute [irreducible] k3
noncomputable def k8 (K : VK) (w : World) : Prop := nav ann Try.prog 27 (fun c Q => vcCode ann Try.prog 27 c Q [] w) [1, 1, 1] code (top K)
attribute [irreducible] k8
noncomputable def l4 (K : VK) (y1 y14 : Value) (w : World) : Prop := nav ann Try.prog 27 (isLoop ann Try.prog 27 [(1, y1), (14, y14)] w) [1, 1, 0, 1, 0] code (top K)
attribute [irreducible] l4
noncomputable def k5 (K : VK) (y1 y14 : Value) (w : World) : Prop := nav ann Try.prog 27 (fun c Q => vcCode ann Try.prog 27 c Q [(1, y1), (14, y14)] w) [1, 1, 0, 1, 0, 0, 1, 1] code (top K)
attribute [irreducible] k5
end F20
theorem F20.k3.to {K : VK} {y0 y1 : Value} {w : World} (h : (C.nilCheck y0 w fun x11_1 w1 =>
  C.field 1 x11_1 w1 fun x12_2 w2 =>
  C.load1 x12_2 w2 fun x13_3 w3 =>
  C.run Try.prog (Instr.range 44 x13_3) w3 fun x14_4 w4 =>
  F20.l4 K y1 x14_4 w4)) : F20.k3 K y0 y1 w := Eq.mpr (by kernel_rfl) h
theorem F20.k8.to {K : VK} {w : World} (h : (K (.tuple #[(.int .i64 (-1)), (.int .i64 0)]) w)) : F20.k8 K w := Eq.mpr (by kernel_rfl) h
theorem F20.l4.to {K : VK} {y1 y14 : Value} {w : World} (h : (C.run Try.prog (Instr.next y14 false 0) w fun x15_1 w1 =>
  C.ext 0 x15_1 w1 fun x16_2 w2 =>
  C.ite x16_2 (F20.k5 K y1 y14 w2) (F20.k8 K w2))) : F20.l4 K y1 y14 w := by unfold F20.l4; exact nav_round (Eq.mpr (by kernel_rfl) h)
theorem F20.k5.to {K : VK} {y1 y14 : Value} {w : World} (h : (C.run Try.prog (Instr.entry y14) w fun x17_1 w1 =>
  C.ext 0 x17_1 w1 fun x18_2 w2 =>
  C.ext 1 x17_1 w2 fun x19_3 w3 =>
  C.new (.cells #[.int .i64 0, .int .i64 0] 104) w3 fun x6_4 w4 =>
  C.store 2 x6_4 x18_2 w4 fun w5 =>
  C.int .eql x19_3 y1 w5 fun x22_6 w6 =>
  C.ite x22_6 (C.draw w6 fun S w7 =>
  C.field 0 x6_4 w7 fun x23_8 w8 =>
  C.field 1 x6_4 w8 fun x25_9 w9 =>
  C.load1S S x23_8 w9 fun x24_10 w10 =>
  C.load1S S x25_9 w10 fun x26_11 w11 =>
  K (.tuple #[x24_10, x26_11]) w11) (F20.l4 K y1 y14 w6))) : F20.k5 K y1 y14 w := Eq.mpr (by kernel_rfl) h
theorem F20.sh {K : VK} {x0 x1 : Value} {w : World} (h : (C.bin Try.prog .eql 27 (.tmp 8) (.const (.pointer none)) x0 (.pointer none) w fun x9_1 w1 =>
  C.ite x9_1 (K (.tuple #[(.int .i64 (-1)), (.int .i64 0)]) w1) (F20.k3 K x0 x1 w1))) : C.call Try.prog 20 #[x0, x1] w K := calls_of_vc (A := F20.ann) (args := [x0, x1]) (Eq.mpr (by kernel_rfl) h)

/-! ### 21 (*scutage/cache.Cache).Page (27, 3, 3) -/
namespace F21
def ann : Ann := ⟨[(3, [0, 1, 2]), (6, [])], [], [], [], none⟩
noncomputable def code : Code := match Try.f21.body with | some c => c | none => .skip
noncomputable def top (K : VK) : QE := retQ Try.prog Try.f21.results.toList K
noncomputable def k3 (K : VK) (y0 y1 y2 : Value) (w : World) : Prop := nav ann Try.prog 24 (fun c Q => vcCode ann Try.prog 24 c Q [(0, y0), (1, y1), (2, y2)] w) [1, 1] code (top K)
attribute [irreducible] k3
noncomputable def k6 (K : VK) (w : World) : Prop := nav ann Try.prog 24 (fun c Q => vcCode ann Try.prog 24 c Q [] w) [1, 1, 1] code (top K)
attribute [irreducible] k6
end F21
theorem F21.k3.to {K : VK} {y0 y1 y2 : Value} {w : World} (h : (C.nilCheck y0 w fun x13_1 w1 =>
  C.field 1 x13_1 w1 fun x14_2 w2 =>
  C.load1 x14_2 w2 fun x15_3 w3 =>
  C.run Try.prog (Instr.build 104 #[(0, y1), (1, y2)]) w3 fun x18_4 w4 =>
  C.run Try.prog (Instr.lookup 44 x15_3 x18_4 true) w4 fun x19_5 w5 =>
  C.ext 0 x19_5 w5 fun x20_6 w6 =>
  C.ext 1 x19_5 w6 fun x21_7 w7 =>
  C.ite x21_7 (K x20_6 w7) (F21.k6 K w7))) : F21.k3 K y0 y1 y2 w := Eq.mpr (by kernel_rfl) h
theorem F21.k6.to {K : VK} {w : World} (h : (K (.int .i64 (-1)) w)) : F21.k6 K w := Eq.mpr (by kernel_rfl) h
theorem F21.sh {K : VK} {x0 x1 x2 : Value} {w : World} (h : (C.bin Try.prog .eql 27 (.tmp 9) (.const (.pointer none)) x0 (.pointer none) w fun x10_1 w1 =>
  C.ite x10_1 (K (.int .i64 (-1)) w1) (F21.k3 K x0 x1 x2 w1))) : C.call Try.prog 21 #[x0, x1, x2] w K := calls_of_vc (A := F21.ann) (args := [x0, x1, x2]) (Eq.mpr (by kernel_rfl) h)

/-! ### 23 (*scutage/cache.Cache).All (27) -/
namespace F23
def ann : Ann := ⟨[(3, [0])], [], [], [], none⟩
noncomputable def code : Code := match Try.f23.body with | some c => c | none => .skip
noncomputable def top (K : VK) : QE := retQ Try.prog Try.f23.results.toList K
noncomputable def k3 (K : VK) (y0 : Value) (w : World) : Prop := nav ann Try.prog 11 (fun c Q => vcCode ann Try.prog 11 c Q [(0, y0)] w) [1, 1] code (top K)
attribute [irreducible] k3
end F23
theorem F23.k3.to {K : VK} {y0 : Value} {w : World} (h : (C.nilCheck y0 w fun x6_1 w1 =>
  C.field 1 x6_1 w1 fun x7_2 w2 =>
  C.load1 x7_2 w2 fun x8_3 w3 =>
  C.call Try.prog 58 #[x8_3] w3 fun x9_4 w4 =>
  C.call Try.prog 57 #[x9_4] w4 fun x10_5 w5 =>
  K x10_5 w5)) : F23.k3 K y0 w := Eq.mpr (by kernel_rfl) h
theorem F23.sh {K : VK} {x0 : Value} {w : World} (h : (C.bin Try.prog .eql 27 (.tmp 3) (.const (.pointer none)) x0 (.pointer none) w fun x4_1 w1 =>
  C.ite x4_1 (K (.slice none 0 0) w1) (F23.k3 K x0 w1))) : C.call Try.prog 23 #[x0] w K := calls_of_vc (A := F23.ann) (args := [x0]) (Eq.mpr (by kernel_rfl) h)

/-! ### 24 (*scutage/cache.Cache).Clone (27) -/
namespace F24
def ann : Ann := ⟨[(3, [0])], [], [], [(3, (.take 0 (.take 1 (.take 2 (.take 4 (.take 5 (.take 6 (.take 3 (.take 7 (.go 8 (.take 9 (.go 10 (.take 11 .fin) .fin)) .fin))))))))))], none⟩
noncomputable def code : Code := match Try.f24.body with | some c => c | none => .skip
noncomputable def top (K : VK) : QE := retQ Try.prog Try.f24.results.toList K
noncomputable def k3 (K : VK) (y0 : Value) (w : World) : Prop := nav ann Try.prog 23 (fun c Q => vcCode ann Try.prog 23 c Q [(0, y0)] w) [1, 1] code (top K)
attribute [irreducible] k3
end F24
theorem F24.k3.to {K : VK} {y0 : Value} {w : World} (h : (C.draw w fun S w1 =>
  C.nilCheck y0 w1 fun x13_2 w2 =>
  C.field 0 x13_2 w2 fun x14_3 w3 =>
  C.nilCheck y0 w3 fun x17_4 w4 =>
  C.field 1 x17_4 w4 fun x18_5 w5 =>
  C.load1S S x14_3 w5 fun x15_6 w6 =>
  C.load1S S x18_5 w6 fun x19_7 w7 =>
  (C.call Try.prog 59 #[x19_7] w7 fun x20_8 w8 =>
  (S w8 ∧
  ∃ x21_9, (∀ w', S w' → (Instr.build 46 #[(0, x15_6), (1, x20_8)]).run Try.prog w' = .ok x21_9 w') ∧ ((C.new (.cells (Value.cells x21_9) 46) w8 fun x22_10 w10 =>
  (S w10 ∧
  K x22_10 w10)) ∧ True))) ∧ True)) : F24.k3 K y0 w := Eq.mpr (by kernel_rfl) h
theorem F24.sh {K : VK} {x0 : Value} {w : World} (h : (C.bin Try.prog .eql 27 (.tmp 3) (.const (.pointer none)) x0 (.pointer none) w fun x4_1 w1 =>
  C.guarded false x4_1 (fun K => K x0 w1) w1 fun x6_2 w2 =>
  C.guarded false x4_1 (fun K => C.nilCheck x6_2 w2 K) w2 fun x7_3 w3 =>
  C.guarded false x4_1 (fun K => C.field 1 x7_3 w3 K) w3 fun x8_4 w4 =>
  C.guarded false x4_1 (fun K => C.load1 x8_4 w4 K) w4 fun x9_5 w5 =>
  C.guarded false x4_1 (fun K => C.bin Try.prog .eql 44 (.tmp 9) (.const (.map none)) x9_5 (.map none) w5 K) w5 fun x10_6 w6 =>
  C.pick (some x4_1) (some (.bool true)) (some x10_6) w6 fun x11_7 w7 =>
  C.ite x11_7 (K (.pointer none) w7) (F24.k3 K x0 w7))) : C.call Try.prog 24 #[x0] w K := calls_of_vc (A := F24.ann) (args := [x0]) (Eq.mpr (by kernel_rfl) h)

/-! ### 54 scutage/calc.Clamp (3, 3, 3) -/
namespace F54
def ann : Ann := ⟨[(5, [0])], [], [], [], none⟩
noncomputable def code : Code := match Try.f54.body with | some c => c | none => .skip
noncomputable def top (K : VK) : QE := retQ Try.prog Try.f54.results.toList K
noncomputable def k5 (K : VK) (y0 : Value) (w : World) : Prop := nav ann Try.prog 18 (fun c Q => vcCode ann Try.prog 18 c Q [(0, y0)] w) [1, 1] code (top K)
attribute [irreducible] k5
end F54
theorem F54.k5.to {K : VK} {y0 : Value} {w : World} (h : (K y0 w)) : F54.k5 K y0 w := Eq.mpr (by kernel_rfl) h
theorem F54.sh {K : VK} {x0 x1 x2 : Value} {w : World} (h : (C.int .lss x0 x1 w fun x10_1 w1 =>
  C.ite x10_1 (K x1 w1) (C.int .gtr x0 x2 w1 fun x15_2 w2 =>
  C.ite x15_2 (K x2 w2) (F54.k5 K x0 w2)))) : C.call Try.prog 54 #[x0, x1, x2] w K := calls_of_vc (A := F54.ann) (args := [x0, x1, x2]) (Eq.mpr (by kernel_rfl) h)

/-! ### 55 scutage/class.Size (3) -/
namespace F55
def ann : Ann := ⟨[(3, [0])], [], [], [], none⟩
noncomputable def code : Code := match Try.f55.body with | some c => c | none => .skip
noncomputable def top (K : VK) : QE := retQ Try.prog Try.f55.results.toList K
noncomputable def k3 (K : VK) (y0 : Value) (w : World) : Prop := nav ann Try.prog 12 (fun c Q => vcCode ann Try.prog 12 c Q [(0, y0)] w) [1, 1] code (top K)
attribute [irreducible] k3
end F55
theorem F55.k3.to {K : VK} {y0 : Value} {w : World} (h : (C.int .sub y0 (.int .i64 1) w fun x10_1 w1 =>
  C.bin Try.prog .shl 3 (.const (.int .i64 2)) (.tmp 10) (.int .i64 2) x10_1 w1 fun x11_2 w2 =>
  K x11_2 w2)) : F55.k3 K y0 w := Eq.mpr (by kernel_rfl) h
theorem F55.sh {K : VK} {x0 : Value} {w : World} (h : (C.int .lss x0 (.int .i64 1) w fun x4_1 w1 =>
  C.guarded false x4_1 (fun K => K x0 w1) w1 fun x6_2 w2 =>
  C.guarded false x4_1 (fun K => C.int .geq x6_2 (.int .i64 5) w2 K) w2 fun x7_3 w3 =>
  C.pick (some x4_1) (some (.bool true)) (some x7_3) w3 fun x8_4 w4 =>
  C.ite x8_4 (K (.int .i64 0) w4) (F55.k3 K x0 w4))) : C.call Try.prog 55 #[x0] w K := calls_of_vc (A := F55.ann) (args := [x0]) (Eq.mpr (by kernel_rfl) h)

/-! ### 57 slices.Sorted[int] (109) -/
namespace F57
def ann : Ann := ⟨[], [], [], [], none⟩
noncomputable def code : Code := match Try.f57.body with | some c => c | none => .skip
noncomputable def top (K : VK) : QE := retQ Try.prog Try.f57.results.toList K
end F57
theorem F57.sh {K : VK} {x0 : Value} {w : World} (h : (C.call Try.prog 102 #[x0] w fun x5_1 w1 =>
  C.call Try.prog 56 #[x5_1] w1 fun x7_2 w2 =>
  K x5_1 w2)) : C.call Try.prog 57 #[x0] w K := calls_of_vc (A := F57.ann) (args := [x0]) (Eq.mpr (by kernel_rfl) h)

/-! ### 58 maps.Values[map[scutage/cache.seat]int,scutage/cache.seat,int] (44) -/
namespace F58
def ann : Ann := ⟨[], [], [], [], none⟩
noncomputable def code : Code := match Try.f58.body with | some c => c | none => .skip
noncomputable def top (K : VK) : QE := retQ Try.prog Try.f58.results.toList K
end F58
theorem F58.sh {K : VK} {x0 : Value} {w : World} (h : (C.new (.cells (Value.cells x0) 44) w fun x1_1 w1 =>
  K (.func (.func 103) #[] #[x1_1]) w1)) : C.call Try.prog 58 #[x0] w K := calls_of_vc (A := F58.ann) (args := [x0]) (Eq.mpr (by kernel_rfl) h)

/-! ### 96 scutage/scutagelaw12.owner (24, 3) -/
namespace F96
def ann : Ann := ⟨[(3, [0, 1, 6]), (4, [0, 1, 6]), (6, [])], [(2, [0, 1, 6])], [], [(5, (.take 0 (.take 1 (.take 2 (.take 3 (.take 5 (.take 6 (.take 7 (.take 8 (.take 4 (.take 10 (.take 9 (.take 11 .fin)))))))))))))], none⟩
noncomputable def code : Code := match Try.f96.body with | some c => c | none => .skip
noncomputable def top (K : VK) : QE := retQ Try.prog Try.f96.results.toList K
noncomputable def k6 (K : VK) (w : World) : Prop := nav ann Try.prog 30 (fun c Q => vcCode ann Try.prog 30 c Q [] w) [1, 1] code (top K)
attribute [irreducible] k6
noncomputable def l2 (K : VK) (y0 y1 y6 : Value) (w : World) : Prop := nav ann Try.prog 30 (isLoop ann Try.prog 30 [(0, y0), (1, y1), (6, y6)] w) [1, 0, 1, 0] code (top K)
attribute [irreducible] l2
noncomputable def k4 (K : VK) (y0 y1 y6 : Value) (w : World) : Prop := nav ann Try.prog 30 (fun c Q => vcCode ann Try.prog 30 c Q [(0, y0), (1, y1), (6, y6)] w) [1, 0, 1, 0, 0, 1] code (top K)
attribute [irreducible] k4
noncomputable def k3 (K : VK) (y0 y1 y6 : Value) (w : World) : Prop := nav ann Try.prog 30 (fun c Q => vcCode ann Try.prog 30 c Q [(0, y0), (1, y1), (6, y6)] w) [1, 0, 1, 0, 0, 1, 1] code (top K)
attribute [irreducible] k3
end F96
theorem F96.k6.to {K : VK} {w : World} (h : (K (.tuple #[(.int .i64 (-1)), (.int .i64 0)]) w)) : F96.k6 K w := Eq.mpr (by kernel_rfl) h
theorem F96.l2.to {K : VK} {y0 y1 y6 : Value} {w : World} (h : (C.len y0 w fun x9_1 w1 =>
  C.int .lss y6 x9_1 w1 fun x10_2 w2 =>
  C.ite x10_2 (F96.k4 K y0 y1 y6 w2) (F96.k6 K w2))) : F96.l2 K y0 y1 y6 w := by unfold F96.l2; exact nav_round (Eq.mpr (by kernel_rfl) h)
theorem F96.k4.to {K : VK} {y0 y1 y6 : Value} {w : World} (h : (C.idx 3 y0 y6 w fun x15_1 w1 =>
  C.field 2 x15_1 w1 fun x16_2 w2 =>
  C.load1 x16_2 w2 fun x17_3 w3 =>
  C.int .eql x17_3 y1 w3 fun x19_4 w4 =>
  C.ite x19_4 (C.draw w4 fun S w5 =>
  C.idx 3 y0 y6 w5 fun x22_6 w6 =>
  C.field 0 x22_6 w6 fun x23_7 w7 =>
  C.idx 3 y0 y6 w7 fun x27_8 w8 =>
  C.field 1 x27_8 w8 fun x28_9 w9 =>
  C.load1S S x23_7 w9 fun x24_10 w10 =>
  C.load1S S x28_9 w10 fun x29_11 w11 =>
  K (.tuple #[x24_10, x29_11]) w11) (F96.k3 K y0 y1 y6 w4))) : F96.k4 K y0 y1 y6 w := Eq.mpr (by kernel_rfl) h
theorem F96.k3.to {K : VK} {y0 y1 y6 : Value} {w : World} (h : (C.int .add y6 (.int .i64 1) w fun x12_1 w1 =>
  F96.l2 K y0 y1 x12_1 w1)) : F96.k3 K y0 y1 y6 w := Eq.mpr (by kernel_rfl) h
theorem F96.sh {K : VK} {x0 x1 : Value} {w : World} (h : (F96.l2 K x0 x1 (.int .i64 0) w)) : C.call Try.prog 96 #[x0, x1] w K := calls_of_vc (A := F96.ann) (args := [x0, x1]) (Eq.mpr (by kernel_rfl) h)

/-! ### 98 scutage/scutagelaw12.without (24, 3, 3) -/
namespace F98
def ann : Ann := ⟨[(5, [0, 1, 2, 8, 9, 10]), (6, [0, 1, 2, 8, 9, 10]), (9, [8, 9])], [(4, [0, 1, 2, 8, 9, 10])], [], [], none⟩
noncomputable def code : Code := match Try.f98.body with | some c => c | none => .skip
noncomputable def top (K : VK) : QE := retQ Try.prog Try.f98.results.toList K
noncomputable def k9 (K : VK) (y8 y9 : Value) (w : World) : Prop := nav ann Try.prog 55 (fun c Q => vcCode ann Try.prog 55 c Q [(8, y8), (9, y9)] w) [1, 1, 1, 1] code (top K)
attribute [irreducible] k9
noncomputable def l4 (K : VK) (y0 y1 y2 y8 y9 y10 : Value) (w : World) : Prop := nav ann Try.prog 55 (isLoop ann Try.prog 55 [(0, y0), (1, y1), (2, y2), (8, y8), (9, y9), (10, y10)] w) [1, 1, 1, 0, 1, 0] code (top K)
attribute [irreducible] l4
noncomputable def k6 (K : VK) (y0 y1 y2 y8 y9 y10 : Value) (w : World) : Prop := nav ann Try.prog 55 (fun c Q => vcCode ann Try.prog 55 c Q [(0, y0), (1, y1), (2, y2), (8, y8), (9, y9), (10, y10)] w) [1, 1, 1, 0, 1, 0, 0, 1] code (top K)
attribute [irreducible] k6
noncomputable def k5 (K : VK) (y0 y1 y2 y8 y9 y10 : Value) (w : World) : Prop := nav ann Try.prog 55 (fun c Q => vcCode ann Try.prog 55 c Q [(0, y0), (1, y1), (2, y2), (8, y8), (9, y9), (10, y10)] w) [1, 1, 1, 0, 1, 0, 0, 1, 1] code (top K)
attribute [irreducible] k5
end F98
theorem F98.k9.to {K : VK} {y8 y9 : Value} {w : World} (h : (C.call Try.prog 53 #[y9] w fun x54_1 w1 =>
  K (.tuple #[y8, x54_1]) w1)) : F98.k9 K y8 y9 w := Eq.mpr (by kernel_rfl) h
theorem F98.l4.to {K : VK} {y0 y1 y2 y8 y9 y10 : Value} {w : World} (h : (C.len y0 w fun x13_1 w1 =>
  C.int .lss y10 x13_1 w1 fun x14_2 w2 =>
  C.ite x14_2 (F98.k6 K y0 y1 y2 y8 y9 y10 w2) (F98.k9 K y8 y9 w2))) : F98.l4 K y0 y1 y2 y8 y9 y10 w := by unfold F98.l4; exact nav_round (Eq.mpr (by kernel_rfl) h)
theorem F98.k6.to {K : VK} {y0 y1 y2 y8 y9 y10 : Value} {w : World} (h : (C.idx 3 y0 y10 w fun x19_1 w1 =>
  C.field 0 x19_1 w1 fun x20_2 w2 =>
  C.load1 x20_2 w2 fun x21_3 w3 =>
  C.int .eql x21_3 y1 w3 fun x23_4 w4 =>
  C.guarded true x23_4 (fun K => K y2 w4) w4 fun x25_5 w5 =>
  C.guarded true x23_4 (fun K => C.int .eql x25_5 (.int .i64 0) w5 K) w5 fun x26_6 w6 =>
  C.guarded true x23_4 (fun K => K x26_6 w6) w6 fun x27_7 w7 =>
  C.guarded false x27_7 (fun K => K y0 w7) w7 fun x28_8 w8 =>
  C.guarded false x27_7 (fun K => K y10 w8) w8 fun x29_9 w9 =>
  C.guarded false x27_7 (fun K => C.idx 3 x28_8 x29_9 w9 K) w9 fun x30_10 w10 =>
  C.guarded false x27_7 (fun K => C.field 1 x30_10 w10 K) w10 fun x31_11 w11 =>
  C.guarded false x27_7 (fun K => C.load1 x31_11 w11 K) w11 fun x32_12 w12 =>
  C.guarded false x27_7 (fun K => K y2 w12) w12 fun x33_13 w13 =>
  C.guarded false x27_7 (fun K => C.int .eql x32_12 x33_13 w13 K) w13 fun x34_14 w14 =>
  C.guarded true x23_4 (fun K => C.pick (some x27_7) (some (.bool true)) (some x34_14) w14 K) w14 fun x35_15 w15 =>
  C.pick (some x23_4) (some x35_15) (some (.bool false)) w15 fun x36_16 w16 =>
  C.ite x36_16 (C.idx 3 y0 y10 w16 fun x40_17 w17 =>
  C.field 2 x40_17 w17 fun x41_18 w18 =>
  C.load1 x41_18 w18 fun x42_19 w19 =>
  C.run Try.prog (Instr.buildSlice 34 1 #[(0, x42_19)]) w19 fun x43_20 w20 =>
  C.run Try.prog (Builtin.append_ #[34, 34] 34 #[y9, x43_20]) w20 fun x44_21 w21 =>
  F98.k5 K y0 y1 y2 y8 x44_21 y10 w21) (C.idx 3 y0 y10 w16 fun x48_22 w22 =>
  C.loadA 3 x48_22 w22 fun x49_23 w23 =>
  C.run Try.prog (Instr.buildSlice 24 1 #[(0, x49_23)]) w23 fun x50_24 w24 =>
  C.run Try.prog (Builtin.append_ #[24, 24] 24 #[y8, x50_24]) w24 fun x51_25 w25 =>
  F98.k5 K y0 y1 y2 x51_25 y9 y10 w25))) : F98.k6 K y0 y1 y2 y8 y9 y10 w := Eq.mpr (by kernel_rfl) h
theorem F98.k5.to {K : VK} {y0 y1 y2 y8 y9 y10 : Value} {w : World} (h : (C.int .add y10 (.int .i64 1) w fun x16_1 w1 =>
  F98.l4 K y0 y1 y2 y8 y9 x16_1 w1)) : F98.k5 K y0 y1 y2 y8 y9 y10 w := Eq.mpr (by kernel_rfl) h
theorem F98.sh {K : VK} {x0 x1 x2 : Value} {w : World} (h : (F98.l4 K x0 x1 x2 (.slice none 0 0) (.slice none 0 0) (.int .i64 0) w)) : C.call Try.prog 98 #[x0, x1, x2] w K := calls_of_vc (A := F98.ann) (args := [x0, x1, x2]) (Eq.mpr (by kernel_rfl) h)

/-! ### 99 scutage/scutagelaw12.page (24, 3, 3) -/
namespace F99
def ann : Ann := ⟨[(3, [0, 1, 2, 7]), (4, [0, 1, 2, 7]), (6, [])], [(2, [0, 1, 2, 7])], [], [], none⟩
noncomputable def code : Code := match Try.f99.body with | some c => c | none => .skip
noncomputable def top (K : VK) : QE := retQ Try.prog Try.f99.results.toList K
noncomputable def k6 (K : VK) (w : World) : Prop := nav ann Try.prog 35 (fun c Q => vcCode ann Try.prog 35 c Q [] w) [1, 1] code (top K)
attribute [irreducible] k6
noncomputable def l2 (K : VK) (y0 y1 y2 y7 : Value) (w : World) : Prop := nav ann Try.prog 35 (isLoop ann Try.prog 35 [(0, y0), (1, y1), (2, y2), (7, y7)] w) [1, 0, 1, 0] code (top K)
attribute [irreducible] l2
noncomputable def k4 (K : VK) (y0 y1 y2 y7 : Value) (w : World) : Prop := nav ann Try.prog 35 (fun c Q => vcCode ann Try.prog 35 c Q [(0, y0), (1, y1), (2, y2), (7, y7)] w) [1, 0, 1, 0, 0, 1] code (top K)
attribute [irreducible] k4
noncomputable def k3 (K : VK) (y0 y1 y2 y7 : Value) (w : World) : Prop := nav ann Try.prog 35 (fun c Q => vcCode ann Try.prog 35 c Q [(0, y0), (1, y1), (2, y2), (7, y7)] w) [1, 0, 1, 0, 0, 1, 1] code (top K)
attribute [irreducible] k3
end F99
theorem F99.k6.to {K : VK} {w : World} (h : (K (.int .i64 (-1)) w)) : F99.k6 K w := Eq.mpr (by kernel_rfl) h
theorem F99.l2.to {K : VK} {y0 y1 y2 y7 : Value} {w : World} (h : (C.len y0 w fun x10_1 w1 =>
  C.int .lss y7 x10_1 w1 fun x11_2 w2 =>
  C.ite x11_2 (F99.k4 K y0 y1 y2 y7 w2) (F99.k6 K w2))) : F99.l2 K y0 y1 y2 y7 w := by unfold F99.l2; exact nav_round (Eq.mpr (by kernel_rfl) h)
theorem F99.k4.to {K : VK} {y0 y1 y2 y7 : Value} {w : World} (h : (C.idx 3 y0 y7 w fun x16_1 w1 =>
  C.field 0 x16_1 w1 fun x17_2 w2 =>
  C.load1 x17_2 w2 fun x18_3 w3 =>
  C.int .eql x18_3 y1 w3 fun x20_4 w4 =>
  C.guarded true x20_4 (fun K => K y0 w4) w4 fun x22_5 w5 =>
  C.guarded true x20_4 (fun K => K y7 w5) w5 fun x23_6 w6 =>
  C.guarded true x20_4 (fun K => C.idx 3 x22_5 x23_6 w6 K) w6 fun x24_7 w7 =>
  C.guarded true x20_4 (fun K => C.field 1 x24_7 w7 K) w7 fun x25_8 w8 =>
  C.guarded true x20_4 (fun K => C.load1 x25_8 w8 K) w8 fun x26_9 w9 =>
  C.guarded true x20_4 (fun K => K y2 w9) w9 fun x27_10 w10 =>
  C.guarded true x20_4 (fun K => C.int .eql x26_9 x27_10 w10 K) w10 fun x28_11 w11 =>
  C.pick (some x20_4) (some x28_11) (some (.bool false)) w11 fun x29_12 w12 =>
  C.ite x29_12 (C.idx 3 y0 y7 w12 fun x32_13 w13 =>
  C.field 2 x32_13 w13 fun x33_14 w14 =>
  C.load1 x33_14 w14 fun x34_15 w15 =>
  K x34_15 w15) (F99.k3 K y0 y1 y2 y7 w12))) : F99.k4 K y0 y1 y2 y7 w := Eq.mpr (by kernel_rfl) h
theorem F99.k3.to {K : VK} {y0 y1 y2 y7 : Value} {w : World} (h : (C.int .add y7 (.int .i64 1) w fun x13_1 w1 =>
  F99.l2 K y0 y1 y2 x13_1 w1)) : F99.k3 K y0 y1 y2 y7 w := Eq.mpr (by kernel_rfl) h
theorem F99.sh {K : VK} {x0 x1 x2 : Value} {w : World} (h : (F99.l2 K x0 x1 x2 (.int .i64 0) w)) : C.call Try.prog 99 #[x0, x1, x2] w K := calls_of_vc (A := F99.ann) (args := [x0, x1, x2]) (Eq.mpr (by kernel_rfl) h)

/-! ### 102 slices.Collect[int] (109) -/
namespace F102
def ann : Ann := ⟨[], [], [], [], none⟩
noncomputable def code : Code := match Try.f102.body with | some c => c | none => .skip
noncomputable def top (K : VK) : QE := retQ Try.prog Try.f102.results.toList K
end F102
theorem F102.sh {K : VK} {x0 : Value} {w : World} (h : (C.call Try.prog 141 #[(.slice none 0 0), x0] w fun x4_1 w1 =>
  K x4_1 w1)) : C.call Try.prog 102 #[x0] w K := calls_of_vc (A := F102.ann) (args := [x0]) (Eq.mpr (by kernel_rfl) h)

/-! ### 103 maps.Values[map[scutage/cache.seat]int,scutage/cache.seat,int]$1 (160) -/
namespace F103
def ann : Ann := ⟨[(2, [0, 6])], [(1, [0, 6])], [], [], none⟩
noncomputable def code : Code := match Try.f103.body with | some c => c | none => .skip
noncomputable def top (K : VK) : QE := retQ Try.prog Try.f103.results.toList K
noncomputable def l1 (K : VK) (y0 y6 : Value) (w : World) : Prop := nav ann Try.prog 15 (isLoop ann Try.prog 15 [(0, y0), (6, y6)] w) [1, 0] code (top K)
attribute [irreducible] l1
noncomputable def k2 (K : VK) (y0 y6 : Value) (w : World) : Prop := nav ann Try.prog 15 (fun c Q => vcCode ann Try.prog 15 c Q [(0, y0), (6, y6)] w) [1, 0, 0, 1, 1] code (top K)
attribute [irreducible] k2
end F103
theorem F103.l1.to {K : VK} {y0 y6 : Value} {w : World} (h : (C.run Try.prog (Instr.next y6 false 0) w fun x7_1 w1 =>
  C.ext 0 x7_1 w1 fun x8_2 w2 =>
  C.ite x8_2 (F103.k2 K y0 y6 w2) (K (.tuple #[]) w2))) : F103.l1 K y0 y6 w := by unfold F103.l1; exact nav_round (Eq.mpr (by kernel_rfl) h)
theorem F103.k2.to {K : VK} {y0 y6 : Value} {w : World} (h : (C.run Try.prog (Instr.entry y6) w fun x9_1 w1 =>
  C.ext 1 x9_1 w1 fun x10_2 w2 =>
  vcCall Try.prog y0 [x10_2] w2 fun x13_3 w3 =>
  C.not x13_3 w3 fun x14_4 w4 =>
  C.ite x14_4 (K (.tuple #[]) w4) (F103.l1 K y0 y6 w4))) : F103.k2 K y0 y6 w := Eq.mpr (by kernel_rfl) h
theorem F103.sh {K : VK} {x0 x1 : Value} {w : World} (h : (C.load1 x1 w fun x5_1 w1 =>
  C.run Try.prog (Instr.range 44 x5_1) w1 fun x6_2 w2 =>
  F103.l1 K x0 x6_2 w2)) : C.call Try.prog 103 #[x0, x1] w K := calls_of_vc (A := F103.ann) (args := [x0, x1]) (Eq.mpr (by kernel_rfl) h)

/-! ### 141 slices.AppendSeq[[]int,int] (34, 109) -/
namespace F141
def ann : Ann := ⟨[(4, [2, 4294967291])], [], [], [], none⟩
noncomputable def code : Code := match Try.f141.body with | some c => c | none => .skip
noncomputable def top (K : VK) : QE := retQ Try.prog Try.f141.results.toList K
noncomputable def as2 : Code := asOf (codeAt [1, 0, 1, 0] code)
noncomputable def bd2 : Code := bdOf (codeAt [1, 0, 1, 0] code)
noncomputable def k4 (K : VK) (y2 y4294967291 : Value) (w : World) : Prop := nav ann Try.prog 13 (fun c Q => vcCode ann Try.prog 13 c Q [(2, y2), (4294967291, y4294967291)] w) [1, 1] code (top K)
attribute [irreducible] k4
end F141
theorem F141.k4.to {K : VK} {y2 y4294967291 : Value} {w : World} (h : (C.load1 y2 w fun x12_1 w1 =>
  C.leave y4294967291 w1 fun w2 =>
  K x12_1 w2)) : F141.k4 K y2 y4294967291 w := Eq.mpr (by kernel_rfl) h
theorem F141.sh {K : VK} {x0 x1 : Value} {w : World} (h : (C.new (.cells (Value.cells x0) 34) w fun x2_1 w1 =>
  C.range Try.prog 13 x1 #[7] F141.as2 F141.bd2 [(6, x1), (4, (.slice none 0 0)), (2, x2_1), (0, x0), (1, x1)] w1 fun D2 j w2 =>
  C.left j (F141.k4 K x2_1 (.int .i64 (D2 : Int)) w2) (C.leave (.int .i64 (D2 : Int)) w2 fun w3 =>
  K (.slice none 0 0) w3) (fun id => cond (Nat.beq id 0) (F141.k4 K x2_1 (.int .i64 (D2 : Int)) w2) (False)))) : C.call Try.prog 141 #[x0, x1] w K := calls_of_vc (A := F141.ann) (args := [x0, x1]) (Eq.mpr (by kernel_rfl) h)
namespace R141_2
def ann (l : Nat) : Ann := ⟨[], [], [], [], some l⟩
noncomputable def top (l : Nat) (K : VK) : QE := roundQ l K
end R141_2
theorem R141_2.yield {l : Nat} {r : Loop} {K : VK} {y2 a7 : Value} {w : World} (hr : w.heap[l]? = some (.loop r)) (hn : r.tmps.size = 13) (hp : r.params = #[7]) (ha : r.assign = F141.as2) (hb : r.body = F141.bd2)
    (he : ∀ t v, lkT [(2, y2)] t = some v → r.tmps[t]? = some v) (h : (C.begin l w fun w1 =>
  C.load1 y2 w1 fun x8_2 w2 =>
  C.run Try.prog (Instr.buildSlice 34 1 #[(0, a7)]) w2 fun x10_3 w3 =>
  C.run Try.prog (Builtin.append_ #[34, 34] 34 #[x8_2, x10_3]) w3 fun x11_4 w4 =>
  C.store 1 y2 x11_4 w4 fun w5 =>
  C.endr l none true (.ready) w5 K)) : C.yield Try.prog l #[a7] w K :=
  yield_of (A := R141_2.ann l) (env := [(2, y2)]) rfl hr hn (by rw [hp]; rfl) he rfl (by rw [hp]; decide) (by rw [ha, hb, hp]; exact Eq.mpr (by kernel_rfl) h)

end Go.Proofs.YtfdpmgddlaamcaaV
