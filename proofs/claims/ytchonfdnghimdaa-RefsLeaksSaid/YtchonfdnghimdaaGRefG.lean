/- What the bodies of these functions ask, as plain statements. Written by gen.py (own work) for the seat Ytchonfdnghimdaa. -/
import Derived.Test.YtchonfdnghimdaaVc3
import Derived.Test.YtchonfdnghimdaaProg
namespace Go.Proofs.YtchonfdnghimdaaV
open Go Go.Proofs
set_option linter.unusedVariables false
set_option maxRecDepth 100000

/-! ### 9 scutage/scutageref33.From (30, 3) -/
namespace F9
def ann : Ann := ⟨[(5, [5, 6, 7]), (6, [5, 6, 7]), (7, [6])], [(4, [5, 6, 7])], [], [], none⟩
noncomputable def code : Code := match Try.f9.body with | some c => c | none => .skip
noncomputable def top (K : VK) : QE := retQ Try.prog Try.f9.results.toList K
noncomputable def k7 (K : VK) (y6 : Value) (w : World) : Prop := nav ann Try.prog 32 (fun c Q => vcCode ann Try.prog 32 c Q [(6, y6)] w) [1, 1, 1, 1] code (top K)
attribute [irreducible] k7
noncomputable def l4 (K : VK) (y5 y6 y7 : Value) (w : World) : Prop := nav ann Try.prog 32 (isLoop ann Try.prog 32 [(5, y5), (6, y6), (7, y7)] w) [1, 1, 1, 0, 1, 0] code (top K)
attribute [irreducible] l4
noncomputable def k6 (K : VK) (y5 y6 y7 : Value) (w : World) : Prop := nav ann Try.prog 32 (fun c Q => vcCode ann Try.prog 32 c Q [(5, y5), (6, y6), (7, y7)] w) [1, 1, 1, 0, 1, 0, 0, 1] code (top K)
attribute [irreducible] k6
noncomputable def k5 (K : VK) (y5 y6 y7 : Value) (w : World) : Prop := nav ann Try.prog 32 (fun c Q => vcCode ann Try.prog 32 c Q [(5, y5), (6, y6), (7, y7)] w) [1, 1, 1, 0, 1, 0, 0, 1, 1] code (top K)
attribute [irreducible] k5
end F9
theorem F9.k7.to {K : VK} {y6 : Value} {w : World} (h : (K y6 w)) : F9.k7 K y6 w := Eq.mpr (by kernel_rfl) h
theorem F9.l4.to {K : VK} {y5 y6 y7 : Value} {w : World} (h : (C.len y5 w fun x19_1 w1 =>
  C.int .lss y7 x19_1 w1 fun x20_2 w2 =>
  C.ite x20_2 (F9.k6 K y5 y6 y7 w2) (F9.k7 K y6 w2))) : F9.l4 K y5 y6 y7 w := by unfold F9.l4; exact nav_round (Eq.mpr (by kernel_rfl) h)
theorem F9.k6.to {K : VK} {y5 y6 y7 : Value} {w : World} (h : (C.idx 1 y5 y7 w fun x27_1 w1 =>
  C.load1 x27_1 w1 fun x28_2 w2 =>
  C.int .geq x28_2 (.int .i64 0) w2 fun x29_3 w3 =>
  C.idx 1 y6 y7 w3 fun x30_4 w4 =>
  C.store 1 x30_4 x29_3 w4 fun w5 =>
  F9.k5 K y5 y6 y7 w5)) : F9.k6 K y5 y6 y7 w := Eq.mpr (by kernel_rfl) h
theorem F9.k5.to {K : VK} {y5 y6 y7 : Value} {w : World} (h : (C.int .add y7 (.int .i64 1) w fun x22_1 w1 =>
  F9.l4 K y5 y6 x22_1 w1)) : F9.k5 K y5 y6 y7 w := Eq.mpr (by kernel_rfl) h
theorem F9.sh {K : VK} {x0 x1 : Value} {w : World} (h : (C.new (.cells (Value.cells x0) 30) w fun x2_1 w1 =>
  C.field 0 x2_1 w1 fun x8_2 w2 =>
  C.load1 x8_2 w2 fun x9_3 w3 =>
  C.run Try.prog (Instr.buildSlice 23 1 #[(0, x1)]) w3 fun x11_4 w4 =>
  C.run Try.prog (Instr.build 30 #[(0, x9_3), (1, x11_4)]) w4 fun x12_5 w5 =>
  C.call Try.prog 21 #[x12_5] w5 fun x13_6 w6 =>
  C.len x13_6 w6 fun x15_7 w7 =>
  C.run Try.prog (Instr.makeSlice 28 x15_7 x15_7) w7 fun x16_8 w8 =>
  F9.l4 K x13_6 x16_8 (.int .i64 0) w8)) : C.call Try.prog 9 #[x0, x1] w K := calls_of_vc (A := F9.ann) (args := [x0, x1]) (Eq.mpr (by kernel_rfl) h)

/-! ### 16 scutage/scutageref33.Leads (30, 3, 3) -/
namespace F16
def ann : Ann := ⟨[(3, [1, 2, 3, 7]), (4, [1, 2, 3, 7]), (6, [])], [(2, [1, 2, 3, 7])], [], [], none⟩
noncomputable def code : Code := match Try.f16.body with | some c => c | none => .skip
noncomputable def top (K : VK) : QE := retQ Try.prog Try.f16.results.toList K
noncomputable def k6 (K : VK) (w : World) : Prop := nav ann Try.prog 28 (fun c Q => vcCode ann Try.prog 28 c Q [] w) [1, 1] code (top K)
attribute [irreducible] k6
noncomputable def l2 (K : VK) (y1 y2 y3 y7 : Value) (w : World) : Prop := nav ann Try.prog 28 (isLoop ann Try.prog 28 [(1, y1), (2, y2), (3, y3), (7, y7)] w) [1, 0, 1, 0] code (top K)
attribute [irreducible] l2
noncomputable def k4 (K : VK) (y1 y2 y3 y7 : Value) (w : World) : Prop := nav ann Try.prog 28 (fun c Q => vcCode ann Try.prog 28 c Q [(1, y1), (2, y2), (3, y3), (7, y7)] w) [1, 0, 1, 0, 0, 1] code (top K)
attribute [irreducible] k4
noncomputable def k3 (K : VK) (y1 y2 y3 y7 : Value) (w : World) : Prop := nav ann Try.prog 28 (fun c Q => vcCode ann Try.prog 28 c Q [(1, y1), (2, y2), (3, y3), (7, y7)] w) [1, 0, 1, 0, 0, 1, 1] code (top K)
attribute [irreducible] k3
end F16
theorem F16.k6.to {K : VK} {w : World} (h : (K (.bool false) w)) : F16.k6 K w := Eq.mpr (by kernel_rfl) h
theorem F16.l2.to {K : VK} {y1 y2 y3 y7 : Value} {w : World} (h : (C.field 0 y3 w fun x9_1 w1 =>
  C.load1 x9_1 w1 fun x10_2 w2 =>
  C.idx 1 x10_2 y1 w2 fun x12_3 w3 =>
  C.load1 x12_3 w3 fun x13_4 w4 =>
  C.len x13_4 w4 fun x14_5 w5 =>
  C.int .lss y7 x14_5 w5 fun x15_6 w6 =>
  C.ite x15_6 (F16.k4 K y1 y2 y3 y7 w6) (F16.k6 K w6))) : F16.l2 K y1 y2 y3 y7 w := by unfold F16.l2; exact nav_round (Eq.mpr (by kernel_rfl) h)
theorem F16.k4.to {K : VK} {y1 y2 y3 y7 : Value} {w : World} (h : (C.field 0 y3 w fun x18_1 w1 =>
  C.load1 x18_1 w1 fun x19_2 w2 =>
  C.idx 1 x19_2 y1 w2 fun x21_3 w3 =>
  C.load1 x21_3 w3 fun x22_4 w4 =>
  C.idx 1 x22_4 y7 w4 fun x24_5 w5 =>
  C.load1 x24_5 w5 fun x25_6 w6 =>
  C.int .eql x25_6 y2 w6 fun x27_7 w7 =>
  C.ite x27_7 (K (.bool true) w7) (F16.k3 K y1 y2 y3 y7 w7))) : F16.k4 K y1 y2 y3 y7 w := Eq.mpr (by kernel_rfl) h
theorem F16.k3.to {K : VK} {y1 y2 y3 y7 : Value} {w : World} (h : (C.int .add y7 (.int .i64 1) w fun x17_1 w1 =>
  F16.l2 K y1 y2 y3 x17_1 w1)) : F16.k3 K y1 y2 y3 y7 w := Eq.mpr (by kernel_rfl) h
theorem F16.sh {K : VK} {x0 x1 x2 : Value} {w : World} (h : (C.new (.cells (Value.cells x0) 30) w fun x3_1 w1 =>
  F16.l2 K x1 x2 x3_1 (.int .i64 0) w1)) : C.call Try.prog 16 #[x0, x1, x2] w K := calls_of_vc (A := F16.ann) (args := [x0, x1, x2]) (Eq.mpr (by kernel_rfl) h)

/-! ### 21 scutage/scutageref33.Dist (30) -/
namespace F21
def ann : Ann := ⟨[(5, [1, 3, 4, 5]), (6, [1, 3, 4, 5]), (7, [1, 3, 4]), (9, [1, 3, 4, 6]), (10, [1, 3, 4, 6]), (12, [1, 3, 4]), (14, [1, 3, 4, 7]), (15, [1, 3, 4, 7]), (17, [1, 3, 4, 7, 8]), (18, [1, 3, 4, 7, 8]), (19, [1, 3, 4, 7, 8]), (21, [1, 3, 4, 7, 8, 9]), (22, [1, 3, 4, 7, 8, 9]), (25, [4])], [(4, [1, 3, 4, 5]), (8, [1, 3, 4, 6]), (13, [1, 3, 4, 7]), (16, [1, 3, 4, 7, 8]), (20, [1, 3, 4, 7, 8, 9])], [], [(10, (.take 1 (.take 3 (.take 0 (.take 2 (.take 4 (.take 5 (.go 6 .fin .fin))))))))], none⟩
noncomputable def code : Code := match Try.f21.body with | some c => c | none => .skip
noncomputable def top (K : VK) : QE := retQ Try.prog Try.f21.results.toList K
noncomputable def k7 (K : VK) (y1 y3 y4 : Value) (w : World) : Prop := nav ann Try.prog 93 (fun c Q => vcCode ann Try.prog 93 c Q [(1, y1), (3, y3), (4, y4)] w) [1, 1, 1, 1] code (top K)
attribute [irreducible] k7
noncomputable def l4 (K : VK) (y1 y3 y4 y5 : Value) (w : World) : Prop := nav ann Try.prog 93 (isLoop ann Try.prog 93 [(1, y1), (3, y3), (4, y4), (5, y5)] w) [1, 1, 1, 0, 1, 0] code (top K)
attribute [irreducible] l4
noncomputable def k6 (K : VK) (y1 y3 y4 y5 : Value) (w : World) : Prop := nav ann Try.prog 93 (fun c Q => vcCode ann Try.prog 93 c Q [(1, y1), (3, y3), (4, y4), (5, y5)] w) [1, 1, 1, 0, 1, 0, 0, 1] code (top K)
attribute [irreducible] k6
noncomputable def k5 (K : VK) (y1 y3 y4 y5 : Value) (w : World) : Prop := nav ann Try.prog 93 (fun c Q => vcCode ann Try.prog 93 c Q [(1, y1), (3, y3), (4, y4), (5, y5)] w) [1, 1, 1, 0, 1, 0, 0, 1, 1] code (top K)
attribute [irreducible] k5
noncomputable def k12 (K : VK) (y1 y3 y4 : Value) (w : World) : Prop := nav ann Try.prog 93 (fun c Q => vcCode ann Try.prog 93 c Q [(1, y1), (3, y3), (4, y4)] w) [1, 1, 1, 1, 1] code (top K)
attribute [irreducible] k12
noncomputable def l8 (K : VK) (y1 y3 y4 y6 : Value) (w : World) : Prop := nav ann Try.prog 93 (isLoop ann Try.prog 93 [(1, y1), (3, y3), (4, y4), (6, y6)] w) [1, 1, 1, 1, 0, 1, 0] code (top K)
attribute [irreducible] l8
noncomputable def k10 (K : VK) (y1 y3 y4 y6 : Value) (w : World) : Prop := nav ann Try.prog 93 (fun c Q => vcCode ann Try.prog 93 c Q [(1, y1), (3, y3), (4, y4), (6, y6)] w) [1, 1, 1, 1, 0, 1, 0, 0, 1] code (top K)
attribute [irreducible] k10
noncomputable def k9 (K : VK) (y1 y3 y4 y6 : Value) (w : World) : Prop := nav ann Try.prog 93 (fun c Q => vcCode ann Try.prog 93 c Q [(1, y1), (3, y3), (4, y4), (6, y6)] w) [1, 1, 1, 1, 0, 1, 0, 0, 1, 1] code (top K)
attribute [irreducible] k9
noncomputable def k25 (K : VK) (y4 : Value) (w : World) : Prop := nav ann Try.prog 93 (fun c Q => vcCode ann Try.prog 93 c Q [(4, y4)] w) [1, 1, 1, 1, 1, 1] code (top K)
attribute [irreducible] k25
noncomputable def l13 (K : VK) (y1 y3 y4 y7 : Value) (w : World) : Prop := nav ann Try.prog 93 (isLoop ann Try.prog 93 [(1, y1), (3, y3), (4, y4), (7, y7)] w) [1, 1, 1, 1, 1, 0, 1, 0] code (top K)
attribute [irreducible] l13
noncomputable def k15 (K : VK) (y1 y3 y4 y7 : Value) (w : World) : Prop := nav ann Try.prog 93 (fun c Q => vcCode ann Try.prog 93 c Q [(1, y1), (3, y3), (4, y4), (7, y7)] w) [1, 1, 1, 1, 1, 0, 1, 0, 0, 1] code (top K)
attribute [irreducible] k15
noncomputable def k14 (K : VK) (y1 y3 y4 y7 : Value) (w : World) : Prop := nav ann Try.prog 93 (fun c Q => vcCode ann Try.prog 93 c Q [(1, y1), (3, y3), (4, y4), (7, y7)] w) [1, 1, 1, 1, 1, 0, 1, 0, 0, 1, 1] code (top K)
attribute [irreducible] k14
noncomputable def l16 (K : VK) (y1 y3 y4 y7 y8 : Value) (w : World) : Prop := nav ann Try.prog 93 (isLoop ann Try.prog 93 [(1, y1), (3, y3), (4, y4), (7, y7), (8, y8)] w) [1, 1, 1, 1, 1, 0, 1, 0, 0, 1, 0, 0, 1, 0] code (top K)
attribute [irreducible] l16
noncomputable def k18 (K : VK) (y1 y3 y4 y7 y8 : Value) (w : World) : Prop := nav ann Try.prog 93 (fun c Q => vcCode ann Try.prog 93 c Q [(1, y1), (3, y3), (4, y4), (7, y7), (8, y8)] w) [1, 1, 1, 1, 1, 0, 1, 0, 0, 1, 0, 0, 1, 0, 0, 1] code (top K)
attribute [irreducible] k18
noncomputable def k17 (K : VK) (y1 y3 y4 y7 y8 : Value) (w : World) : Prop := nav ann Try.prog 93 (fun c Q => vcCode ann Try.prog 93 c Q [(1, y1), (3, y3), (4, y4), (7, y7), (8, y8)] w) [1, 1, 1, 1, 1, 0, 1, 0, 0, 1, 0, 0, 1, 0, 0, 1, 1] code (top K)
attribute [irreducible] k17
noncomputable def k19 (K : VK) (y1 y3 y4 y7 y8 : Value) (w : World) : Prop := nav ann Try.prog 93 (fun c Q => vcCode ann Try.prog 93 c Q [(1, y1), (3, y3), (4, y4), (7, y7), (8, y8)] w) [1, 1, 1, 1, 1, 0, 1, 0, 0, 1, 0, 0, 1, 0, 0, 1, 0, 0, 1] code (top K)
attribute [irreducible] k19
noncomputable def l20 (K : VK) (y1 y3 y4 y7 y8 y9 : Value) (w : World) : Prop := nav ann Try.prog 93 (isLoop ann Try.prog 93 [(1, y1), (3, y3), (4, y4), (7, y7), (8, y8), (9, y9)] w) [1, 1, 1, 1, 1, 0, 1, 0, 0, 1, 0, 0, 1, 0, 0, 1, 0, 0, 1, 1, 0] code (top K)
attribute [irreducible] l20
noncomputable def k22 (K : VK) (y1 y3 y4 y7 y8 y9 : Value) (w : World) : Prop := nav ann Try.prog 93 (fun c Q => vcCode ann Try.prog 93 c Q [(1, y1), (3, y3), (4, y4), (7, y7), (8, y8), (9, y9)] w) [1, 1, 1, 1, 1, 0, 1, 0, 0, 1, 0, 0, 1, 0, 0, 1, 0, 0, 1, 1, 0, 0, 1] code (top K)
attribute [irreducible] k22
noncomputable def k21 (K : VK) (y1 y3 y4 y7 y8 y9 : Value) (w : World) : Prop := nav ann Try.prog 93 (fun c Q => vcCode ann Try.prog 93 c Q [(1, y1), (3, y3), (4, y4), (7, y7), (8, y8), (9, y9)] w) [1, 1, 1, 1, 1, 0, 1, 0, 0, 1, 0, 0, 1, 0, 0, 1, 0, 0, 1, 1, 0, 0, 1, 1] code (top K)
attribute [irreducible] k21
end F21
theorem F21.k7.to {K : VK} {y1 y3 y4 : Value} {w : World} (h : (F21.l8 K y1 y3 y4 (.int .i64 0) w)) : F21.k7 K y1 y3 y4 w := Eq.mpr (by kernel_rfl) h
theorem F21.l4.to {K : VK} {y1 y3 y4 y5 : Value} {w : World} (h : (C.int .lss y5 y3 w fun x16_1 w1 =>
  C.ite x16_1 (F21.k6 K y1 y3 y4 y5 w1) (F21.k7 K y1 y3 y4 w1))) : F21.l4 K y1 y3 y4 y5 w := by unfold F21.l4; exact nav_round (Eq.mpr (by kernel_rfl) h)
theorem F21.k6.to {K : VK} {y1 y3 y4 y5 : Value} {w : World} (h : (C.run Try.prog (Instr.buildSlice 23 1 #[(0, (.int .i64 (-1)))]) w fun x20_1 w1 =>
  C.run Try.prog (Builtin.append_ #[23, 23] 23 #[y4, x20_1]) w1 fun x21_2 w2 =>
  F21.k5 K y1 y3 x21_2 y5 w2)) : F21.k6 K y1 y3 y4 y5 w := Eq.mpr (by kernel_rfl) h
theorem F21.k5.to {K : VK} {y1 y3 y4 y5 : Value} {w : World} (h : (C.int .add y5 (.int .i64 1) w fun x18_1 w1 =>
  F21.l4 K y1 y3 y4 x18_1 w1)) : F21.k5 K y1 y3 y4 y5 w := Eq.mpr (by kernel_rfl) h
theorem F21.k12.to {K : VK} {y1 y3 y4 : Value} {w : World} (h : (F21.l13 K y1 y3 y4 (.int .i64 0) w)) : F21.k12 K y1 y3 y4 w := Eq.mpr (by kernel_rfl) h
theorem F21.l8.to {K : VK} {y1 y3 y4 y6 : Value} {w : World} (h : (C.field 1 y1 w fun x23_1 w1 =>
  C.load1 x23_1 w1 fun x24_2 w2 =>
  C.len x24_2 w2 fun x25_3 w3 =>
  C.int .lss y6 x25_3 w3 fun x26_4 w4 =>
  C.ite x26_4 (F21.k10 K y1 y3 y4 y6 w4) (F21.k12 K y1 y3 y4 w4))) : F21.l8 K y1 y3 y4 y6 w := by unfold F21.l8; exact nav_round (Eq.mpr (by kernel_rfl) h)
theorem F21.k10.to {K : VK} {y1 y3 y4 y6 : Value} {w : World} (h : (C.draw w fun S w1 =>
  C.field 1 y1 w1 fun x30_2 w2 =>
  C.loadAS S 2 y1 w2 fun x29_3 w3 =>
  C.load1S S x30_2 w3 fun x31_4 w4 =>
  C.idx 1 x31_4 y6 w4 fun x33_5 w5 =>
  C.load1S S x33_5 w5 fun x34_6 w6 =>
  (C.call Try.prog 40 #[x29_3, x34_6] w6 fun x35_7 w7 =>
  (S w7 ∧
  C.ite x35_7 (C.field 1 y1 w7 fun x37_8 w8 =>
  C.load1 x37_8 w8 fun x38_9 w9 =>
  C.idx 1 x38_9 y6 w9 fun x40_10 w10 =>
  C.load1 x40_10 w10 fun x41_11 w11 =>
  C.idx 1 y4 x41_11 w11 fun x42_12 w12 =>
  C.store 1 x42_12 (.int .i64 0) w12 fun w13 =>
  F21.k9 K y1 y3 y4 y6 w13) (F21.k9 K y1 y3 y4 y6 w7))) ∧ True)) : F21.k10 K y1 y3 y4 y6 w := Eq.mpr (by kernel_rfl) h
theorem F21.k9.to {K : VK} {y1 y3 y4 y6 : Value} {w : World} (h : (C.int .add y6 (.int .i64 1) w fun x28_1 w1 =>
  F21.l8 K y1 y3 y4 x28_1 w1)) : F21.k9 K y1 y3 y4 y6 w := Eq.mpr (by kernel_rfl) h
theorem F21.k25.to {K : VK} {y4 : Value} {w : World} (h : (K y4 w)) : F21.k25 K y4 w := Eq.mpr (by kernel_rfl) h
theorem F21.l13.to {K : VK} {y1 y3 y4 y7 : Value} {w : World} (h : (C.int .lss y7 y3 w fun x45_1 w1 =>
  C.ite x45_1 (F21.k15 K y1 y3 y4 y7 w1) (F21.k25 K y4 w1))) : F21.l13 K y1 y3 y4 y7 w := by unfold F21.l13; exact nav_round (Eq.mpr (by kernel_rfl) h)
theorem F21.k15.to {K : VK} {y1 y3 y4 y7 : Value} {w : World} (h : (F21.l16 K y1 y3 y4 y7 (.int .i64 0) w)) : F21.k15 K y1 y3 y4 y7 w := Eq.mpr (by kernel_rfl) h
theorem F21.k14.to {K : VK} {y1 y3 y4 y7 : Value} {w : World} (h : (C.int .add y7 (.int .i64 1) w fun x47_1 w1 =>
  F21.l13 K y1 y3 y4 x47_1 w1)) : F21.k14 K y1 y3 y4 y7 w := Eq.mpr (by kernel_rfl) h
theorem F21.l16.to {K : VK} {y1 y3 y4 y7 y8 : Value} {w : World} (h : (C.int .lss y8 y3 w fun x50_1 w1 =>
  C.ite x50_1 (F21.k18 K y1 y3 y4 y7 y8 w1) (F21.k14 K y1 y3 y4 y7 w1))) : F21.l16 K y1 y3 y4 y7 y8 w := by unfold F21.l16; exact nav_round (Eq.mpr (by kernel_rfl) h)
theorem F21.k18.to {K : VK} {y1 y3 y4 y7 y8 : Value} {w : World} (h : (C.idx 1 y4 y8 w fun x55_1 w1 =>
  C.load1 x55_1 w1 fun x56_2 w2 =>
  C.int .neq x56_2 y7 w2 fun x58_3 w3 =>
  C.ite x58_3 (F21.k17 K y1 y3 y4 y7 y8 w3) (F21.k19 K y1 y3 y4 y7 y8 w3))) : F21.k18 K y1 y3 y4 y7 y8 w := Eq.mpr (by kernel_rfl) h
theorem F21.k17.to {K : VK} {y1 y3 y4 y7 y8 : Value} {w : World} (h : (C.int .add y8 (.int .i64 1) w fun x52_1 w1 =>
  F21.l16 K y1 y3 y4 y7 x52_1 w1)) : F21.k17 K y1 y3 y4 y7 y8 w := Eq.mpr (by kernel_rfl) h
theorem F21.k19.to {K : VK} {y1 y3 y4 y7 y8 : Value} {w : World} (h : (F21.l20 K y1 y3 y4 y7 y8 (.int .i64 0) w)) : F21.k19 K y1 y3 y4 y7 y8 w := Eq.mpr (by kernel_rfl) h
theorem F21.l20.to {K : VK} {y1 y3 y4 y7 y8 y9 : Value} {w : World} (h : (C.field 0 y1 w fun x60_1 w1 =>
  C.load1 x60_1 w1 fun x61_2 w2 =>
  C.idx 1 x61_2 y8 w2 fun x63_3 w3 =>
  C.load1 x63_3 w3 fun x64_4 w4 =>
  C.len x64_4 w4 fun x65_5 w5 =>
  C.int .lss y9 x65_5 w5 fun x66_6 w6 =>
  C.ite x66_6 (F21.k22 K y1 y3 y4 y7 y8 y9 w6) (F21.k17 K y1 y3 y4 y7 y8 w6))) : F21.l20 K y1 y3 y4 y7 y8 y9 w := by unfold F21.l20; exact nav_round (Eq.mpr (by kernel_rfl) h)
theorem F21.k22.to {K : VK} {y1 y3 y4 y7 y8 y9 : Value} {w : World} (h : (C.field 0 y1 w fun x69_1 w1 =>
  C.load1 x69_1 w1 fun x70_2 w2 =>
  C.idx 1 x70_2 y8 w2 fun x72_3 w3 =>
  C.load1 x72_3 w3 fun x73_4 w4 =>
  C.idx 1 x73_4 y9 w4 fun x75_5 w5 =>
  C.load1 x75_5 w5 fun x76_6 w6 =>
  C.loadA 2 y1 w6 fun x77_7 w7 =>
  C.call Try.prog 40 #[x77_7, x76_6] w7 fun x79_8 w8 =>
  C.guarded true x79_8 (fun K => K y4 w8) w8 fun x81_9 w9 =>
  C.guarded true x79_8 (fun K => K x76_6 w9) w9 fun x82_10 w10 =>
  C.guarded true x79_8 (fun K => C.idx 1 x81_9 x82_10 w10 K) w10 fun x83_11 w11 =>
  C.guarded true x79_8 (fun K => C.load1 x83_11 w11 K) w11 fun x84_12 w12 =>
  C.guarded true x79_8 (fun K => C.int .lss x84_12 (.int .i64 0) w12 K) w12 fun x85_13 w13 =>
  C.pick (some x79_8) (some x85_13) (some (.bool false)) w13 fun x86_14 w14 =>
  C.ite x86_14 (C.int .add y7 (.int .i64 1) w14 fun x90_15 w15 =>
  C.idx 1 y4 x76_6 w15 fun x91_16 w16 =>
  C.store 1 x91_16 x90_15 w16 fun w17 =>
  F21.k21 K y1 y3 y4 y7 y8 y9 w17) (F21.k21 K y1 y3 y4 y7 y8 y9 w14))) : F21.k22 K y1 y3 y4 y7 y8 y9 w := Eq.mpr (by kernel_rfl) h
theorem F21.k21.to {K : VK} {y1 y3 y4 y7 y8 y9 : Value} {w : World} (h : (C.int .add y9 (.int .i64 1) w fun x68_1 w1 =>
  F21.l20 K y1 y3 y4 y7 y8 x68_1 w1)) : F21.k21 K y1 y3 y4 y7 y8 y9 w := Eq.mpr (by kernel_rfl) h
theorem F21.sh {K : VK} {x0 : Value} {w : World} (h : (C.new (.cells (Value.cells x0) 30) w fun x1_1 w1 =>
  C.field 0 x1_1 w1 fun x11_2 w2 =>
  C.load1 x11_2 w2 fun x12_3 w3 =>
  C.len x12_3 w3 fun x13_4 w4 =>
  F21.l4 K x1_1 x13_4 (.slice none 0 0) (.int .i64 0) w4)) : C.call Try.prog 21 #[x0] w K := calls_of_vc (A := F21.ann) (args := [x0]) (Eq.mpr (by kernel_rfl) h)

/-! ### 40 scutage/scutageref33.Is (30, 3) -/
namespace F40
def ann : Ann := ⟨[], [], [], [], none⟩
noncomputable def code : Code := match Try.f40.body with | some c => c | none => .skip
noncomputable def top (K : VK) : QE := retQ Try.prog Try.f40.results.toList K
end F40
theorem F40.sh {K : VK} {x0 x1 : Value} {w : World} (h : (C.new (.cells (Value.cells x0) 30) w fun x2_1 w1 =>
  C.int .geq x1 (.int .i64 0) w1 fun x6_2 w2 =>
  C.guarded true x6_2 (fun K => K x1 w2) w2 fun x8_3 w3 =>
  C.guarded true x6_2 (fun K => C.field 0 x2_1 w3 K) w3 fun x9_4 w4 =>
  C.guarded true x6_2 (fun K => C.load1 x9_4 w4 K) w4 fun x10_5 w5 =>
  C.guarded true x6_2 (fun K => C.len x10_5 w5 K) w5 fun x11_6 w6 =>
  C.guarded true x6_2 (fun K => C.int .lss x8_3 x11_6 w6 K) w6 fun x12_7 w7 =>
  C.pick (some x6_2) (some x12_7) (some (.bool false)) w7 fun x13_8 w8 =>
  K x13_8 w8)) : C.call Try.prog 40 #[x0, x1] w K := calls_of_vc (A := F40.ann) (args := [x0, x1]) (Eq.mpr (by kernel_rfl) h)

end Go.Proofs.YtchonfdnghimdaaV
