/- What the bodies of these functions ask, as plain statements. Written by gen.py (own work) for the seat Ytchonfdnghimdaa. -/
import Derived.Test.YtchonfdnghimdaaVc3
import Derived.Test.YtchonfdnghimdaaProg
namespace Go.Proofs.YtchonfdnghimdaaV
open Go Go.Proofs
set_option linter.unusedVariables false
set_option maxRecDepth 100000

/-! ### 3 scutage/scutagelaw34.SccParts (25) -/
namespace F3
def ann : Ann := ⟨[(3, [1]), (9, [1, 3, 4, 5, 6]), (10, [1, 3, 4, 5, 6]), (11, [1, 3, 4, 5, 6]), (15, [1, 3, 4, 5, 6, 7, 8, 9]), (16, [1, 3, 4, 5, 6, 7, 8, 9]), (19, [1, 3, 4, 5, 6, 7]), (20, [1, 4]), (23, [4, 10]), (25, [4, 10, 11]), (26, [4, 10, 11]), (28, [])], [(8, [1, 3, 4, 5, 6]), (14, [1, 3, 4, 5, 6, 7, 8, 9]), (24, [4, 10, 11])], [], [(26, (.take 0 (.take 1 (.take 2 (.take 4 (.take 5 (.take 6 (.take 3 (.take 7 (.go 8 (.take 9 .fin) .fin))))))))))], none⟩
noncomputable def code : Code := match Try.f3.body with | some c => c | none => .skip
noncomputable def top (K : VK) : QE := retQ Try.prog Try.f3.results.toList K
noncomputable def k3 (K : VK) (y1 : Value) (w : World) : Prop := nav ann Try.prog 86 (fun c Q => vcCode ann Try.prog 86 c Q [(1, y1)] w) [1, 1] code (top K)
attribute [irreducible] k3
noncomputable def k20 (K : VK) (y1 y4 : Value) (w : World) : Prop := nav ann Try.prog 86 (fun c Q => vcCode ann Try.prog 86 c Q [(1, y1), (4, y4)] w) [1, 1, 1, 1, 1, 1, 1] code (top K)
attribute [irreducible] k20
noncomputable def l8 (K : VK) (y1 y3 y4 y5 y6 : Value) (w : World) : Prop := nav ann Try.prog 86 (isLoop ann Try.prog 86 [(1, y1), (3, y3), (4, y4), (5, y5), (6, y6)] w) [1, 1, 1, 1, 1, 1, 0, 1, 0] code (top K)
attribute [irreducible] l8
noncomputable def k10 (K : VK) (y1 y3 y4 y5 y6 : Value) (w : World) : Prop := nav ann Try.prog 86 (fun c Q => vcCode ann Try.prog 86 c Q [(1, y1), (3, y3), (4, y4), (5, y5), (6, y6)] w) [1, 1, 1, 1, 1, 1, 0, 1, 0, 0, 1] code (top K)
attribute [irreducible] k10
noncomputable def k9 (K : VK) (y1 y3 y4 y5 y6 : Value) (w : World) : Prop := nav ann Try.prog 86 (fun c Q => vcCode ann Try.prog 86 c Q [(1, y1), (3, y3), (4, y4), (5, y5), (6, y6)] w) [1, 1, 1, 1, 1, 1, 0, 1, 0, 0, 1, 1] code (top K)
attribute [irreducible] k9
noncomputable def k11 (K : VK) (y1 y3 y4 y5 y6 : Value) (w : World) : Prop := nav ann Try.prog 86 (fun c Q => vcCode ann Try.prog 86 c Q [(1, y1), (3, y3), (4, y4), (5, y5), (6, y6)] w) [1, 1, 1, 1, 1, 1, 0, 1, 0, 0, 1, 0, 0, 1] code (top K)
attribute [irreducible] k11
noncomputable def k19 (K : VK) (y1 y3 y4 y5 y6 y7 : Value) (w : World) : Prop := nav ann Try.prog 86 (fun c Q => vcCode ann Try.prog 86 c Q [(1, y1), (3, y3), (4, y4), (5, y5), (6, y6), (7, y7)] w) [1, 1, 1, 1, 1, 1, 0, 1, 0, 0, 1, 0, 0, 1, 1, 1, 1] code (top K)
attribute [irreducible] k19
noncomputable def l14 (K : VK) (y1 y3 y4 y5 y6 y7 y8 y9 : Value) (w : World) : Prop := nav ann Try.prog 86 (isLoop ann Try.prog 86 [(1, y1), (3, y3), (4, y4), (5, y5), (6, y6), (7, y7), (8, y8), (9, y9)] w) [1, 1, 1, 1, 1, 1, 0, 1, 0, 0, 1, 0, 0, 1, 1, 1, 0, 1, 0] code (top K)
attribute [irreducible] l14
noncomputable def k16 (K : VK) (y1 y3 y4 y5 y6 y7 y8 y9 : Value) (w : World) : Prop := nav ann Try.prog 86 (fun c Q => vcCode ann Try.prog 86 c Q [(1, y1), (3, y3), (4, y4), (5, y5), (6, y6), (7, y7), (8, y8), (9, y9)] w) [1, 1, 1, 1, 1, 1, 0, 1, 0, 0, 1, 0, 0, 1, 1, 1, 0, 1, 0, 0, 1] code (top K)
attribute [irreducible] k16
noncomputable def k15 (K : VK) (y1 y3 y4 y5 y6 y7 y8 y9 : Value) (w : World) : Prop := nav ann Try.prog 86 (fun c Q => vcCode ann Try.prog 86 c Q [(1, y1), (3, y3), (4, y4), (5, y5), (6, y6), (7, y7), (8, y8), (9, y9)] w) [1, 1, 1, 1, 1, 1, 0, 1, 0, 0, 1, 0, 0, 1, 1, 1, 0, 1, 0, 0, 1, 1] code (top K)
attribute [irreducible] k15
noncomputable def k23 (K : VK) (y4 y10 : Value) (w : World) : Prop := nav ann Try.prog 86 (fun c Q => vcCode ann Try.prog 86 c Q [(4, y4), (10, y10)] w) [1, 1, 1, 1, 1, 1, 1, 1, 1] code (top K)
attribute [irreducible] k23
noncomputable def k28 (K : VK) (w : World) : Prop := nav ann Try.prog 86 (fun c Q => vcCode ann Try.prog 86 c Q [] w) [1, 1, 1, 1, 1, 1, 1, 1, 1, 1] code (top K)
attribute [irreducible] k28
noncomputable def l24 (K : VK) (y4 y10 y11 : Value) (w : World) : Prop := nav ann Try.prog 86 (isLoop ann Try.prog 86 [(4, y4), (10, y10), (11, y11)] w) [1, 1, 1, 1, 1, 1, 1, 1, 1, 0, 1, 0] code (top K)
attribute [irreducible] l24
noncomputable def k26 (K : VK) (y4 y10 y11 : Value) (w : World) : Prop := nav ann Try.prog 86 (fun c Q => vcCode ann Try.prog 86 c Q [(4, y4), (10, y10), (11, y11)] w) [1, 1, 1, 1, 1, 1, 1, 1, 1, 0, 1, 0, 0, 1] code (top K)
attribute [irreducible] k26
noncomputable def k25 (K : VK) (y4 y10 y11 : Value) (w : World) : Prop := nav ann Try.prog 86 (fun c Q => vcCode ann Try.prog 86 c Q [(4, y4), (10, y10), (11, y11)] w) [1, 1, 1, 1, 1, 1, 1, 1, 1, 0, 1, 0, 0, 1, 1] code (top K)
attribute [irreducible] k25
end F3
theorem F3.k3.to {K : VK} {y1 : Value} {w : World} (h : (C.loadA 2 y1 w fun x14_1 w1 =>
  C.call Try.prog 8 #[x14_1] w1 fun x15_2 w2 =>
  C.store 2 y1 x15_2 w2 fun w3 =>
  C.field 0 y1 w3 fun x16_4 w4 =>
  C.load1 x16_4 w4 fun x17_5 w5 =>
  C.len x17_5 w5 fun x18_6 w6 =>
  C.run Try.prog (Instr.makeSlice 28 x18_6 x18_6) w6 fun x20_7 w7 =>
  F3.l8 K y1 x18_6 (.slice none 0 0) x20_7 (.int .i64 0) w7)) : F3.k3 K y1 w := Eq.mpr (by kernel_rfl) h
theorem F3.k20.to {K : VK} {y1 y4 : Value} {w : World} (h : (C.loadA 2 y1 w fun x63_1 w1 =>
  C.call Try.prog 11 #[x63_1] w1 fun x64_2 w2 =>
  C.len x64_2 w2 fun x66_3 w3 =>
  C.len y4 w3 fun x68_4 w4 =>
  C.int .neq x66_3 x68_4 w4 fun x69_5 w5 =>
  C.ite x69_5 (K (.bool false) w5) (F3.k23 K y4 x64_2 w5))) : F3.k20 K y1 y4 w := Eq.mpr (by kernel_rfl) h
theorem F3.l8.to {K : VK} {y1 y3 y4 y5 y6 : Value} {w : World} (h : (C.int .lss y6 y3 w fun x23_1 w1 =>
  C.ite x23_1 (F3.k10 K y1 y3 y4 y5 y6 w1) (F3.k20 K y1 y4 w1))) : F3.l8 K y1 y3 y4 y5 y6 w := by unfold F3.l8; exact nav_round (Eq.mpr (by kernel_rfl) h)
theorem F3.k10.to {K : VK} {y1 y3 y4 y5 y6 : Value} {w : World} (h : (C.idx 1 y5 y6 w fun x28_1 w1 =>
  C.load1 x28_1 w1 fun x29_2 w2 =>
  C.ite x29_2 (F3.k9 K y1 y3 y4 y5 y6 w2) (F3.k11 K y1 y3 y4 y5 y6 w2))) : F3.k10 K y1 y3 y4 y5 y6 w := Eq.mpr (by kernel_rfl) h
theorem F3.k9.to {K : VK} {y1 y3 y4 y5 y6 : Value} {w : World} (h : (C.int .add y6 (.int .i64 1) w fun x25_1 w1 =>
  F3.l8 K y1 y3 y4 y5 x25_1 w1)) : F3.k9 K y1 y3 y4 y5 y6 w := Eq.mpr (by kernel_rfl) h
theorem F3.k11.to {K : VK} {y1 y3 y4 y5 y6 : Value} {w : World} (h : (C.loadA 2 y1 w fun x30_1 w1 =>
  C.call Try.prog 10 #[x30_1] w1 fun x31_2 w2 =>
  C.call Try.prog 9 #[x31_2, y6] w2 fun x33_3 w3 =>
  F3.l14 K y1 y3 y4 y5 y6 (.slice none 0 0) x33_3 (.int .i64 0) w3)) : F3.k11 K y1 y3 y4 y5 y6 w := Eq.mpr (by kernel_rfl) h
theorem F3.k19.to {K : VK} {y1 y3 y4 y5 y6 y7 : Value} {w : World} (h : (C.run Try.prog (Instr.buildSlice 22 1 #[(0, y7)]) w fun x61_1 w1 =>
  C.run Try.prog (Builtin.append_ #[22, 22] 22 #[y4, x61_1]) w1 fun x62_2 w2 =>
  F3.k9 K y1 y3 x62_2 y5 y6 w2)) : F3.k19 K y1 y3 y4 y5 y6 y7 w := Eq.mpr (by kernel_rfl) h
theorem F3.l14.to {K : VK} {y1 y3 y4 y5 y6 y7 y8 y9 : Value} {w : World} (h : (C.int .lss y9 y3 w fun x36_1 w1 =>
  C.ite x36_1 (F3.k16 K y1 y3 y4 y5 y6 y7 y8 y9 w1) (F3.k19 K y1 y3 y4 y5 y6 y7 w1))) : F3.l14 K y1 y3 y4 y5 y6 y7 y8 y9 w := by unfold F3.l14; exact nav_round (Eq.mpr (by kernel_rfl) h)
theorem F3.k16.to {K : VK} {y1 y3 y4 y5 y6 y7 y8 y9 : Value} {w : World} (h : (C.idx 1 y8 y9 w fun x41_1 w1 =>
  C.load1 x41_1 w1 fun x42_2 w2 =>
  C.guarded true x42_2 (fun K => C.loadA 2 y1 w2 K) w2 fun x44_3 w3 =>
  C.guarded true x42_2 (fun K => C.call Try.prog 10 #[x44_3] w3 K) w3 fun x45_4 w4 =>
  C.guarded true x42_2 (fun K => K y9 w4) w4 fun x46_5 w5 =>
  C.guarded true x42_2 (fun K => C.call Try.prog 9 #[x45_4, x46_5] w5 K) w5 fun x47_6 w6 =>
  C.guarded true x42_2 (fun K => K y6 w6) w6 fun x48_7 w7 =>
  C.guarded true x42_2 (fun K => C.idx 1 x47_6 x48_7 w7 K) w7 fun x49_8 w8 =>
  C.guarded true x42_2 (fun K => C.load1 x49_8 w8 K) w8 fun x50_9 w9 =>
  C.pick (some x42_2) (some x50_9) (some (.bool false)) w9 fun x51_10 w10 =>
  C.ite x51_10 (C.run Try.prog (Instr.buildSlice 23 1 #[(0, y9)]) w10 fun x54_11 w11 =>
  C.run Try.prog (Builtin.append_ #[23, 23] 23 #[y7, x54_11]) w11 fun x55_12 w12 =>
  C.idx 1 y5 y9 w12 fun x58_13 w13 =>
  C.store 1 x58_13 (.bool true) w13 fun w14 =>
  F3.k15 K y1 y3 y4 y5 y6 x55_12 y8 y9 w14) (F3.k15 K y1 y3 y4 y5 y6 y7 y8 y9 w10))) : F3.k16 K y1 y3 y4 y5 y6 y7 y8 y9 w := Eq.mpr (by kernel_rfl) h
theorem F3.k15.to {K : VK} {y1 y3 y4 y5 y6 y7 y8 y9 : Value} {w : World} (h : (C.int .add y9 (.int .i64 1) w fun x38_1 w1 =>
  F3.l14 K y1 y3 y4 y5 y6 y7 y8 x38_1 w1)) : F3.k15 K y1 y3 y4 y5 y6 y7 y8 y9 w := Eq.mpr (by kernel_rfl) h
theorem F3.k23.to {K : VK} {y4 y10 : Value} {w : World} (h : (F3.l24 K y4 y10 (.int .i64 0) w)) : F3.k23 K y4 y10 w := Eq.mpr (by kernel_rfl) h
theorem F3.k28.to {K : VK} {w : World} (h : (K (.bool true) w)) : F3.k28 K w := Eq.mpr (by kernel_rfl) h
theorem F3.l24.to {K : VK} {y4 y10 y11 : Value} {w : World} (h : (C.len y4 w fun x72_1 w1 =>
  C.int .lss y11 x72_1 w1 fun x73_2 w2 =>
  C.ite x73_2 (F3.k26 K y4 y10 y11 w2) (F3.k28 K w2))) : F3.l24 K y4 y10 y11 w := by unfold F3.l24; exact nav_round (Eq.mpr (by kernel_rfl) h)
theorem F3.k26.to {K : VK} {y4 y10 y11 : Value} {w : World} (h : (C.draw w fun S w1 =>
  C.idx 1 y10 y11 w1 fun x78_2 w2 =>
  C.idx 1 y4 y11 w2 fun x82_3 w3 =>
  C.load1S S x78_2 w3 fun x79_4 w4 =>
  C.load1S S x82_3 w4 fun x83_5 w5 =>
  (C.call Try.prog 12 #[x79_4, x83_5] w5 fun x84_6 w6 =>
  (S w6 ∧
  C.not x84_6 w6 fun x85_7 w7 =>
  C.ite x85_7 (K (.bool false) w7) (F3.k25 K y4 y10 y11 w7))) ∧ True)) : F3.k26 K y4 y10 y11 w := Eq.mpr (by kernel_rfl) h
theorem F3.k25.to {K : VK} {y4 y10 y11 : Value} {w : World} (h : (C.int .add y11 (.int .i64 1) w fun x75_1 w1 =>
  F3.l24 K y4 y10 x75_1 w1)) : F3.k25 K y4 y10 y11 w := Eq.mpr (by kernel_rfl) h
theorem F3.sh {K : VK} {x0 : Value} {w : World} (h : (C.new (.cells (Value.cells x0) 25) w fun x1_1 w1 =>
  C.call Try.prog 7 #[] w1 fun x12_2 w2 =>
  C.not x12_2 w2 fun x13_3 w3 =>
  C.ite x13_3 (K (.bool false) w3) (F3.k3 K x1_1 w3))) : C.call Try.prog 3 #[x0] w K := calls_of_vc (A := F3.ann) (args := [x0]) (Eq.mpr (by kernel_rfl) h)

/-! ### 4 scutage/scutagelaw34.SccRings (25, 3, 3) -/
namespace F4
def ann : Ann := ⟨[(3, [1, 2, 3]), (8, [1, 2, 3, 7, 8, 9]), (9, [1, 2, 3, 7, 8, 9]), (12, [1, 2, 3, 7, 8, 9, 10, 11]), (13, [1, 2, 3, 7, 8, 9, 10, 11]), (15, [1, 2, 3, 7, 8, 9, 10]), (17, [1, 2, 3, 7, 8]), (20, [1, 2, 3, 8, 13])], [(7, [1, 2, 3, 7, 8, 9]), (11, [1, 2, 3, 7, 8, 9, 10, 11])], [], [], none⟩
noncomputable def code : Code := match Try.f4.body with | some c => c | none => .skip
noncomputable def top (K : VK) : QE := retQ Try.prog Try.f4.results.toList K
noncomputable def k3 (K : VK) (y1 y2 y3 : Value) (w : World) : Prop := nav ann Try.prog 113 (fun c Q => vcCode ann Try.prog 113 c Q [(1, y1), (2, y2), (3, y3)] w) [1, 1] code (top K)
attribute [irreducible] k3
noncomputable def k17 (K : VK) (y1 y2 y3 y7 y8 : Value) (w : World) : Prop := nav ann Try.prog 113 (fun c Q => vcCode ann Try.prog 113 c Q [(1, y1), (2, y2), (3, y3), (7, y7), (8, y8)] w) [1, 1, 1, 1, 1, 1] code (top K)
attribute [irreducible] k17
noncomputable def l7 (K : VK) (y1 y2 y3 y7 y8 y9 : Value) (w : World) : Prop := nav ann Try.prog 113 (isLoop ann Try.prog 113 [(1, y1), (2, y2), (3, y3), (7, y7), (8, y8), (9, y9)] w) [1, 1, 1, 1, 1, 0, 1, 0] code (top K)
attribute [irreducible] l7
noncomputable def k9 (K : VK) (y1 y2 y3 y7 y8 y9 : Value) (w : World) : Prop := nav ann Try.prog 113 (fun c Q => vcCode ann Try.prog 113 c Q [(1, y1), (2, y2), (3, y3), (7, y7), (8, y8), (9, y9)] w) [1, 1, 1, 1, 1, 0, 1, 0, 0, 1] code (top K)
attribute [irreducible] k9
noncomputable def k8 (K : VK) (y1 y2 y3 y7 y8 y9 : Value) (w : World) : Prop := nav ann Try.prog 113 (fun c Q => vcCode ann Try.prog 113 c Q [(1, y1), (2, y2), (3, y3), (7, y7), (8, y8), (9, y9)] w) [1, 1, 1, 1, 1, 0, 1, 0, 0, 1, 1] code (top K)
attribute [irreducible] k8
noncomputable def k15 (K : VK) (y1 y2 y3 y7 y8 y9 y10 : Value) (w : World) : Prop := nav ann Try.prog 113 (fun c Q => vcCode ann Try.prog 113 c Q [(1, y1), (2, y2), (3, y3), (7, y7), (8, y8), (9, y9), (10, y10)] w) [1, 1, 1, 1, 1, 0, 1, 0, 0, 1, 0, 0, 1, 1] code (top K)
attribute [irreducible] k15
noncomputable def l11 (K : VK) (y1 y2 y3 y7 y8 y9 y10 y11 : Value) (w : World) : Prop := nav ann Try.prog 113 (isLoop ann Try.prog 113 [(1, y1), (2, y2), (3, y3), (7, y7), (8, y8), (9, y9), (10, y10), (11, y11)] w) [1, 1, 1, 1, 1, 0, 1, 0, 0, 1, 0, 0, 1, 0, 1, 0] code (top K)
attribute [irreducible] l11
noncomputable def k13 (K : VK) (y1 y2 y3 y7 y8 y9 y10 y11 : Value) (w : World) : Prop := nav ann Try.prog 113 (fun c Q => vcCode ann Try.prog 113 c Q [(1, y1), (2, y2), (3, y3), (7, y7), (8, y8), (9, y9), (10, y10), (11, y11)] w) [1, 1, 1, 1, 1, 0, 1, 0, 0, 1, 0, 0, 1, 0, 1, 0, 0, 1] code (top K)
attribute [irreducible] k13
noncomputable def k12 (K : VK) (y1 y2 y3 y7 y8 y9 y10 y11 : Value) (w : World) : Prop := nav ann Try.prog 113 (fun c Q => vcCode ann Try.prog 113 c Q [(1, y1), (2, y2), (3, y3), (7, y7), (8, y8), (9, y9), (10, y10), (11, y11)] w) [1, 1, 1, 1, 1, 0, 1, 0, 0, 1, 0, 0, 1, 0, 1, 0, 0, 1, 1] code (top K)
attribute [irreducible] k12
noncomputable def k20 (K : VK) (y1 y2 y3 y8 y13 : Value) (w : World) : Prop := nav ann Try.prog 113 (fun c Q => vcCode ann Try.prog 113 c Q [(1, y1), (2, y2), (3, y3), (8, y8), (13, y13)] w) [1, 1, 1, 1, 1, 1, 1, 1] code (top K)
attribute [irreducible] k20
end F4
theorem F4.k3.to {K : VK} {y1 y2 y3 : Value} {w : World} (h : (C.loadA 2 y3 w fun x16_1 w1 =>
  C.call Try.prog 8 #[x16_1] w1 fun x17_2 w2 =>
  C.store 2 y3 x17_2 w2 fun w3 =>
  C.field 0 y3 w3 fun x18_4 w4 =>
  C.load1 x18_4 w4 fun x19_5 w5 =>
  C.len x19_5 w5 fun x20_6 w6 =>
  F4.l7 K y1 y2 y3 x20_6 (.slice none 0 0) (.int .i64 0) w6)) : F4.k3 K y1 y2 y3 w := Eq.mpr (by kernel_rfl) h
theorem F4.k17.to {K : VK} {y1 y2 y3 y7 y8 : Value} {w : World} (h : (C.int .geq y1 (.int .i64 0) w fun x69_1 w1 =>
  C.guarded true x69_1 (fun K => K y2 w1) w1 fun x71_2 w2 =>
  C.guarded true x69_1 (fun K => C.int .geq x71_2 (.int .i64 0) w2 K) w2 fun x72_3 w3 =>
  C.pick (some x69_1) (some x72_3) (some (.bool false)) w3 fun x73_4 w4 =>
  C.guarded true x73_4 (fun K => K y1 w4) w4 fun x75_5 w5 =>
  C.guarded true x73_4 (fun K => K y7 w5) w5 fun x76_6 w6 =>
  C.guarded true x73_4 (fun K => C.int .lss x75_5 x76_6 w6 K) w6 fun x77_7 w7 =>
  C.pick (some x73_4) (some x77_7) (some (.bool false)) w7 fun x78_8 w8 =>
  C.guarded true x78_8 (fun K => K y2 w8) w8 fun x80_9 w9 =>
  C.guarded true x78_8 (fun K => K y7 w9) w9 fun x81_10 w10 =>
  C.guarded true x78_8 (fun K => C.int .lss x80_9 x81_10 w10 K) w10 fun x82_11 w11 =>
  C.pick (some x78_8) (some x82_11) (some (.bool false)) w11 fun x83_12 w12 =>
  C.ite x83_12 (C.loadA 2 y3 w12 fun x85_13 w13 =>
  C.call Try.prog 10 #[x85_13] w13 fun x86_14 w14 =>
  C.call Try.prog 9 #[x86_14, y1] w14 fun x88_15 w15 =>
  C.idx 1 x88_15 y2 w15 fun x90_16 w16 =>
  C.load1 x90_16 w16 fun x91_17 w17 =>
  C.guarded true x91_17 (fun K => C.loadA 2 y3 w17 K) w17 fun x93_18 w18 =>
  C.guarded true x91_17 (fun K => C.call Try.prog 10 #[x93_18] w18 K) w18 fun x94_19 w19 =>
  C.guarded true x91_17 (fun K => K y2 w19) w19 fun x95_20 w20 =>
  C.guarded true x91_17 (fun K => C.call Try.prog 9 #[x94_19, x95_20] w20 K) w20 fun x96_21 w21 =>
  C.guarded true x91_17 (fun K => K y1 w21) w21 fun x97_22 w22 =>
  C.guarded true x91_17 (fun K => C.idx 1 x96_21 x97_22 w22 K) w22 fun x98_23 w23 =>
  C.guarded true x91_17 (fun K => C.load1 x98_23 w23 K) w23 fun x99_24 w24 =>
  C.pick (some x91_17) (some x99_24) (some (.bool false)) w24 fun x100_25 w25 =>
  F4.k20 K y1 y2 y3 y8 x100_25 w25) (F4.k20 K y1 y2 y3 y8 x83_12 w12))) : F4.k17 K y1 y2 y3 y7 y8 w := Eq.mpr (by kernel_rfl) h
theorem F4.l7.to {K : VK} {y1 y2 y3 y7 y8 y9 : Value} {w : World} (h : (C.int .lss y9 y7 w fun x23_1 w1 =>
  C.ite x23_1 (F4.k9 K y1 y2 y3 y7 y8 y9 w1) (F4.k17 K y1 y2 y3 y7 y8 w1))) : F4.l7 K y1 y2 y3 y7 y8 y9 w := by unfold F4.l7; exact nav_round (Eq.mpr (by kernel_rfl) h)
theorem F4.k9.to {K : VK} {y1 y2 y3 y7 y8 y9 : Value} {w : World} (h : (F4.l11 K y1 y2 y3 y7 y8 y9 (.bool false) (.int .i64 0) w)) : F4.k9 K y1 y2 y3 y7 y8 y9 w := Eq.mpr (by kernel_rfl) h
theorem F4.k8.to {K : VK} {y1 y2 y3 y7 y8 y9 : Value} {w : World} (h : (C.int .add y9 (.int .i64 1) w fun x25_1 w1 =>
  F4.l7 K y1 y2 y3 y7 y8 x25_1 w1)) : F4.k8 K y1 y2 y3 y7 y8 y9 w := Eq.mpr (by kernel_rfl) h
theorem F4.k15.to {K : VK} {y1 y2 y3 y7 y8 y9 y10 : Value} {w : World} (h : (C.ite y10 (C.run Try.prog (Instr.buildSlice 23 1 #[(0, y9)]) w fun x66_1 w1 =>
  C.run Try.prog (Builtin.append_ #[23, 23] 23 #[y8, x66_1]) w1 fun x67_2 w2 =>
  F4.k8 K y1 y2 y3 y7 x67_2 y9 w2) (F4.k8 K y1 y2 y3 y7 y8 y9 w))) : F4.k15 K y1 y2 y3 y7 y8 y9 y10 w := Eq.mpr (by kernel_rfl) h
theorem F4.l11.to {K : VK} {y1 y2 y3 y7 y8 y9 y10 y11 : Value} {w : World} (h : (C.field 0 y3 w fun x27_1 w1 =>
  C.load1 x27_1 w1 fun x28_2 w2 =>
  C.idx 1 x28_2 y9 w2 fun x30_3 w3 =>
  C.load1 x30_3 w3 fun x31_4 w4 =>
  C.len x31_4 w4 fun x32_5 w5 =>
  C.int .lss y11 x32_5 w5 fun x33_6 w6 =>
  C.ite x33_6 (F4.k13 K y1 y2 y3 y7 y8 y9 y10 y11 w6) (F4.k15 K y1 y2 y3 y7 y8 y9 y10 w6))) : F4.l11 K y1 y2 y3 y7 y8 y9 y10 y11 w := by unfold F4.l11; exact nav_round (Eq.mpr (by kernel_rfl) h)
theorem F4.k13.to {K : VK} {y1 y2 y3 y7 y8 y9 y10 y11 : Value} {w : World} (h : (C.field 0 y3 w fun x36_1 w1 =>
  C.load1 x36_1 w1 fun x37_2 w2 =>
  C.idx 1 x37_2 y9 w2 fun x39_3 w3 =>
  C.load1 x39_3 w3 fun x40_4 w4 =>
  C.idx 1 x40_4 y11 w4 fun x42_5 w5 =>
  C.load1 x42_5 w5 fun x43_6 w6 =>
  C.guarded false y10 (fun K => K x43_6 w6) w6 fun x46_7 w7 =>
  C.guarded false y10 (fun K => C.int .geq x46_7 (.int .i64 0) w7 K) w7 fun x47_8 w8 =>
  C.guarded false y10 (fun K => K x47_8 w8) w8 fun x48_9 w9 =>
  C.guarded true x48_9 (fun K => K x43_6 w9) w9 fun x49_10 w10 =>
  C.guarded true x48_9 (fun K => K y7 w10) w10 fun x50_11 w11 =>
  C.guarded true x48_9 (fun K => C.int .lss x49_10 x50_11 w11 K) w11 fun x51_12 w12 =>
  C.guarded false y10 (fun K => C.pick (some x48_9) (some x51_12) (some (.bool false)) w12 K) w12 fun x52_13 w13 =>
  C.guarded false y10 (fun K => K x52_13 w13) w13 fun x53_14 w14 =>
  C.guarded true x53_14 (fun K => C.loadA 2 y3 w14 K) w14 fun x54_15 w15 =>
  C.guarded true x53_14 (fun K => C.call Try.prog 10 #[x54_15] w15 K) w15 fun x55_16 w16 =>
  C.guarded true x53_14 (fun K => K x43_6 w16) w16 fun x56_17 w17 =>
  C.guarded true x53_14 (fun K => C.call Try.prog 9 #[x55_16, x56_17] w17 K) w17 fun x57_18 w18 =>
  C.guarded true x53_14 (fun K => K y9 w18) w18 fun x58_19 w19 =>
  C.guarded true x53_14 (fun K => C.idx 1 x57_18 x58_19 w19 K) w19 fun x59_20 w20 =>
  C.guarded true x53_14 (fun K => C.load1 x59_20 w20 K) w20 fun x60_21 w21 =>
  C.guarded false y10 (fun K => C.pick (some x53_14) (some x60_21) (some (.bool false)) w21 K) w21 fun x61_22 w22 =>
  C.pick (some y10) (some (.bool true)) (some x61_22) w22 fun x62_23 w23 =>
  F4.k12 K y1 y2 y3 y7 y8 y9 x62_23 y11 w23)) : F4.k13 K y1 y2 y3 y7 y8 y9 y10 y11 w := Eq.mpr (by kernel_rfl) h
theorem F4.k12.to {K : VK} {y1 y2 y3 y7 y8 y9 y10 y11 : Value} {w : World} (h : (C.int .add y11 (.int .i64 1) w fun x35_1 w1 =>
  F4.l11 K y1 y2 y3 y7 y8 y9 y10 x35_1 w1)) : F4.k12 K y1 y2 y3 y7 y8 y9 y10 y11 w := Eq.mpr (by kernel_rfl) h
theorem F4.k20.to {K : VK} {y1 y2 y3 y8 y13 : Value} {w : World} (h : (C.loadA 2 y3 w fun x101_1 w1 =>
  C.call Try.prog 13 #[x101_1] w1 fun x102_2 w2 =>
  C.call Try.prog 12 #[x102_2, y8] w2 fun x104_3 w3 =>
  C.guarded true x104_3 (fun K => C.loadA 2 y3 w3 K) w3 fun x106_4 w4 =>
  C.guarded true x104_3 (fun K => K y1 w4) w4 fun x107_5 w5 =>
  C.guarded true x104_3 (fun K => K y2 w5) w5 fun x108_6 w6 =>
  C.guarded true x104_3 (fun K => C.call Try.prog 14 #[x106_4, x107_5, x108_6] w6 K) w6 fun x109_7 w7 =>
  C.guarded true x104_3 (fun K => K y13 w7) w7 fun x110_8 w8 =>
  C.guarded true x104_3 (fun K => C.bin Try.prog .eql 4 (.tmp 109) (.tmp 110) x109_7 x110_8 w8 K) w8 fun x111_9 w9 =>
  C.pick (some x104_3) (some x111_9) (some (.bool false)) w9 fun x112_10 w10 =>
  K x112_10 w10)) : F4.k20 K y1 y2 y3 y8 y13 w := Eq.mpr (by kernel_rfl) h
theorem F4.sh {K : VK} {x0 x1 x2 : Value} {w : World} (h : (C.new (.cells (Value.cells x0) 25) w fun x3_1 w1 =>
  C.call Try.prog 7 #[] w1 fun x14_2 w2 =>
  C.not x14_2 w2 fun x15_3 w3 =>
  C.ite x15_3 (K (.bool false) w3) (F4.k3 K x1 x2 x3_1 w3))) : C.call Try.prog 4 #[x0, x1, x2] w K := calls_of_vc (A := F4.ann) (args := [x0, x1, x2]) (Eq.mpr (by kernel_rfl) h)

/-! ### 5 scutage/scutagelaw34.SccOrders (25) -/
namespace F5
def ann : Ann := ⟨[(3, [1]), (7, [1, 3, 4]), (10, [1, 3, 4, 5, 6]), (11, [1, 3, 4, 5, 6]), (14, [1, 3, 4, 5, 6, 7, 8]), (15, [1, 3, 4, 5, 6, 7, 8]), (18, [1, 3, 4, 5, 6, 7, 8, 9, 10]), (19, [1, 3, 4, 5, 6, 7, 8, 9, 10]), (20, [1, 3, 4, 5, 6, 7, 8, 9]), (22, [1, 3, 4, 5, 6, 7]), (24, [1, 3, 4, 5, 6, 7]), (25, [3, 4])], [(9, [1, 3, 4, 5, 6]), (13, [1, 3, 4, 5, 6, 7, 8]), (17, [1, 3, 4, 5, 6, 7, 8, 9, 10])], [], [(4, (.take 0 (.take 1 (.take 2 (.take 3 (.go 4 (.take 5 (.take 6 .fin)) .fin))))))], none⟩
noncomputable def code : Code := match Try.f5.body with | some c => c | none => .skip
noncomputable def top (K : VK) : QE := retQ Try.prog Try.f5.results.toList K
noncomputable def k3 (K : VK) (y1 : Value) (w : World) : Prop := nav ann Try.prog 90 (fun c Q => vcCode ann Try.prog 90 c Q [(1, y1)] w) [1, 1] code (top K)
attribute [irreducible] k3
noncomputable def k7 (K : VK) (y1 y3 y4 : Value) (w : World) : Prop := nav ann Try.prog 90 (fun c Q => vcCode ann Try.prog 90 c Q [(1, y1), (3, y3), (4, y4)] w) [1, 1, 1, 1, 1] code (top K)
attribute [irreducible] k7
noncomputable def k25 (K : VK) (y3 y4 : Value) (w : World) : Prop := nav ann Try.prog 90 (fun c Q => vcCode ann Try.prog 90 c Q [(3, y3), (4, y4)] w) [1, 1, 1, 1, 1, 1, 1] code (top K)
attribute [irreducible] k25
noncomputable def l9 (K : VK) (y1 y3 y4 y5 y6 : Value) (w : World) : Prop := nav ann Try.prog 90 (isLoop ann Try.prog 90 [(1, y1), (3, y3), (4, y4), (5, y5), (6, y6)] w) [1, 1, 1, 1, 1, 1, 0, 1, 0] code (top K)
attribute [irreducible] l9
noncomputable def k11 (K : VK) (y1 y3 y4 y5 y6 : Value) (w : World) : Prop := nav ann Try.prog 90 (fun c Q => vcCode ann Try.prog 90 c Q [(1, y1), (3, y3), (4, y4), (5, y5), (6, y6)] w) [1, 1, 1, 1, 1, 1, 0, 1, 0, 0, 1] code (top K)
attribute [irreducible] k11
noncomputable def k10 (K : VK) (y1 y3 y4 y5 y6 : Value) (w : World) : Prop := nav ann Try.prog 90 (fun c Q => vcCode ann Try.prog 90 c Q [(1, y1), (3, y3), (4, y4), (5, y5), (6, y6)] w) [1, 1, 1, 1, 1, 1, 0, 1, 0, 0, 1, 1] code (top K)
attribute [irreducible] k10
noncomputable def k22 (K : VK) (y1 y3 y4 y5 y6 y7 : Value) (w : World) : Prop := nav ann Try.prog 90 (fun c Q => vcCode ann Try.prog 90 c Q [(1, y1), (3, y3), (4, y4), (5, y5), (6, y6), (7, y7)] w) [1, 1, 1, 1, 1, 1, 0, 1, 0, 0, 1, 0, 0, 1, 1] code (top K)
attribute [irreducible] k22
noncomputable def l13 (K : VK) (y1 y3 y4 y5 y6 y7 y8 : Value) (w : World) : Prop := nav ann Try.prog 90 (isLoop ann Try.prog 90 [(1, y1), (3, y3), (4, y4), (5, y5), (6, y6), (7, y7), (8, y8)] w) [1, 1, 1, 1, 1, 1, 0, 1, 0, 0, 1, 0, 0, 1, 0, 1, 0] code (top K)
attribute [irreducible] l13
noncomputable def k15 (K : VK) (y1 y3 y4 y5 y6 y7 y8 : Value) (w : World) : Prop := nav ann Try.prog 90 (fun c Q => vcCode ann Try.prog 90 c Q [(1, y1), (3, y3), (4, y4), (5, y5), (6, y6), (7, y7), (8, y8)] w) [1, 1, 1, 1, 1, 1, 0, 1, 0, 0, 1, 0, 0, 1, 0, 1, 0, 0, 1] code (top K)
attribute [irreducible] k15
noncomputable def k14 (K : VK) (y1 y3 y4 y5 y6 y7 y8 : Value) (w : World) : Prop := nav ann Try.prog 90 (fun c Q => vcCode ann Try.prog 90 c Q [(1, y1), (3, y3), (4, y4), (5, y5), (6, y6), (7, y7), (8, y8)] w) [1, 1, 1, 1, 1, 1, 0, 1, 0, 0, 1, 0, 0, 1, 0, 1, 0, 0, 1, 1] code (top K)
attribute [irreducible] k14
noncomputable def k20 (K : VK) (y1 y3 y4 y5 y6 y7 y8 y9 : Value) (w : World) : Prop := nav ann Try.prog 90 (fun c Q => vcCode ann Try.prog 90 c Q [(1, y1), (3, y3), (4, y4), (5, y5), (6, y6), (7, y7), (8, y8), (9, y9)] w) [1, 1, 1, 1, 1, 1, 0, 1, 0, 0, 1, 0, 0, 1, 0, 1, 0, 0, 1, 0, 0, 1, 1] code (top K)
attribute [irreducible] k20
noncomputable def l17 (K : VK) (y1 y3 y4 y5 y6 y7 y8 y9 y10 : Value) (w : World) : Prop := nav ann Try.prog 90 (isLoop ann Try.prog 90 [(1, y1), (3, y3), (4, y4), (5, y5), (6, y6), (7, y7), (8, y8), (9, y9), (10, y10)] w) [1, 1, 1, 1, 1, 1, 0, 1, 0, 0, 1, 0, 0, 1, 0, 1, 0, 0, 1, 0, 0, 1, 0, 1, 0] code (top K)
attribute [irreducible] l17
noncomputable def k19 (K : VK) (y1 y3 y4 y5 y6 y7 y8 y9 y10 : Value) (w : World) : Prop := nav ann Try.prog 90 (fun c Q => vcCode ann Try.prog 90 c Q [(1, y1), (3, y3), (4, y4), (5, y5), (6, y6), (7, y7), (8, y8), (9, y9), (10, y10)] w) [1, 1, 1, 1, 1, 1, 0, 1, 0, 0, 1, 0, 0, 1, 0, 1, 0, 0, 1, 0, 0, 1, 0, 1, 0, 0, 1] code (top K)
attribute [irreducible] k19
noncomputable def k18 (K : VK) (y1 y3 y4 y5 y6 y7 y8 y9 y10 : Value) (w : World) : Prop := nav ann Try.prog 90 (fun c Q => vcCode ann Try.prog 90 c Q [(1, y1), (3, y3), (4, y4), (5, y5), (6, y6), (7, y7), (8, y8), (9, y9), (10, y10)] w) [1, 1, 1, 1, 1, 1, 0, 1, 0, 0, 1, 0, 0, 1, 0, 1, 0, 0, 1, 0, 0, 1, 0, 1, 0, 0, 1, 1] code (top K)
attribute [irreducible] k18
noncomputable def k24 (K : VK) (y1 y3 y4 y5 y6 y7 : Value) (w : World) : Prop := nav ann Try.prog 90 (fun c Q => vcCode ann Try.prog 90 c Q [(1, y1), (3, y3), (4, y4), (5, y5), (6, y6), (7, y7)] w) [1, 1, 1, 1, 1, 1, 0, 1, 0, 0, 1, 0, 0, 1, 1, 1] code (top K)
attribute [irreducible] k24
end F5
theorem F5.k3.to {K : VK} {y1 : Value} {w : World} (h : (C.loadA 2 y1 w fun x13_1 w1 =>
  C.call Try.prog 8 #[x13_1] w1 fun x14_2 w2 =>
  C.store 2 y1 x14_2 w2 fun w3 =>
  C.draw w3 fun S w4 =>
  C.field 0 y1 w4 fun x15_5 w5 =>
  C.load1S S x15_5 w5 fun x16_6 w6 =>
  C.len x16_6 w6 fun x17_7 w7 =>
  C.loadAS S 2 y1 w7 fun x18_8 w8 =>
  (C.call Try.prog 15 #[x18_8] w8 fun x19_9 w9 =>
  (S w9 ∧
  C.loadA 2 y1 w9 fun x20_10 w10 =>
  C.call Try.prog 13 #[x20_10] w10 fun x21_11 w11 =>
  C.len x21_11 w11 fun x22_12 w12 =>
  C.int .gtr x22_12 (.int .i64 0) w12 fun x23_13 w13 =>
  C.ite x23_13 (C.len x19_9 w13 fun x25_14 w14 =>
  C.int .eql x25_14 (.int .i64 0) w14 fun x26_15 w15 =>
  K x26_15 w15) (F5.k7 K y1 x17_7 x19_9 w13))) ∧ True)) : F5.k3 K y1 w := Eq.mpr (by kernel_rfl) h
theorem F5.k7.to {K : VK} {y1 y3 y4 : Value} {w : World} (h : (C.run Try.prog (Instr.makeSlice 28 y3 y3) w fun x28_1 w1 =>
  F5.l9 K y1 y3 y4 x28_1 (.int .i64 0) w1)) : F5.k7 K y1 y3 y4 w := Eq.mpr (by kernel_rfl) h
theorem F5.k25.to {K : VK} {y3 y4 : Value} {w : World} (h : (C.len y4 w fun x87_1 w1 =>
  C.int .eql x87_1 y3 w1 fun x89_2 w2 =>
  K x89_2 w2)) : F5.k25 K y3 y4 w := Eq.mpr (by kernel_rfl) h
theorem F5.l9.to {K : VK} {y1 y3 y4 y5 y6 : Value} {w : World} (h : (C.int .lss y6 y3 w fun x31_1 w1 =>
  C.ite x31_1 (F5.k11 K y1 y3 y4 y5 y6 w1) (F5.k25 K y3 y4 w1))) : F5.l9 K y1 y3 y4 y5 y6 w := by unfold F5.l9; exact nav_round (Eq.mpr (by kernel_rfl) h)
theorem F5.k11.to {K : VK} {y1 y3 y4 y5 y6 : Value} {w : World} (h : (C.int .sub y3 (.int .i64 1) w fun x35_1 w1 =>
  F5.l13 K y1 y3 y4 y5 y6 (.int .i64 (-1)) x35_1 w1)) : F5.k11 K y1 y3 y4 y5 y6 w := Eq.mpr (by kernel_rfl) h
theorem F5.k10.to {K : VK} {y1 y3 y4 y5 y6 : Value} {w : World} (h : (C.int .add y6 (.int .i64 1) w fun x33_1 w1 =>
  F5.l9 K y1 y3 y4 y5 x33_1 w1)) : F5.k10 K y1 y3 y4 y5 y6 w := Eq.mpr (by kernel_rfl) h
theorem F5.k22.to {K : VK} {y1 y3 y4 y5 y6 y7 : Value} {w : World} (h : (C.len y4 w fun x69_1 w1 =>
  C.int .geq y6 x69_1 w1 fun x70_2 w2 =>
  C.guarded false x70_2 (fun K => K y7 w2) w2 fun x72_3 w3 =>
  C.guarded false x70_2 (fun K => C.int .lss x72_3 (.int .i64 0) w3 K) w3 fun x73_4 w4 =>
  C.pick (some x70_2) (some (.bool true)) (some x73_4) w4 fun x74_5 w5 =>
  C.guarded false x74_5 (fun K => K y4 w5) w5 fun x76_6 w6 =>
  C.guarded false x74_5 (fun K => K y6 w6) w6 fun x77_7 w7 =>
  C.guarded false x74_5 (fun K => C.idx 1 x76_6 x77_7 w7 K) w7 fun x78_8 w8 =>
  C.guarded false x74_5 (fun K => C.load1 x78_8 w8 K) w8 fun x79_9 w9 =>
  C.guarded false x74_5 (fun K => K y7 w9) w9 fun x80_10 w10 =>
  C.guarded false x74_5 (fun K => C.int .neq x79_9 x80_10 w10 K) w10 fun x81_11 w11 =>
  C.pick (some x74_5) (some (.bool true)) (some x81_11) w11 fun x82_12 w12 =>
  C.ite x82_12 (K (.bool false) w12) (F5.k24 K y1 y3 y4 y5 y6 y7 w12))) : F5.k22 K y1 y3 y4 y5 y6 y7 w := Eq.mpr (by kernel_rfl) h
theorem F5.l13.to {K : VK} {y1 y3 y4 y5 y6 y7 y8 : Value} {w : World} (h : (C.int .geq y8 (.int .i64 0) w fun x37_1 w1 =>
  C.ite x37_1 (F5.k15 K y1 y3 y4 y5 y6 y7 y8 w1) (F5.k22 K y1 y3 y4 y5 y6 y7 w1))) : F5.l13 K y1 y3 y4 y5 y6 y7 y8 w := by unfold F5.l13; exact nav_round (Eq.mpr (by kernel_rfl) h)
theorem F5.k15.to {K : VK} {y1 y3 y4 y5 y6 y7 y8 : Value} {w : World} (h : (C.idx 1 y5 y8 w fun x42_1 w1 =>
  C.load1 x42_1 w1 fun x43_2 w2 =>
  C.not x43_2 w2 fun x44_3 w3 =>
  F5.l17 K y1 y3 y4 y5 y6 y7 y8 x44_3 (.int .i64 0) w3)) : F5.k15 K y1 y3 y4 y5 y6 y7 y8 w := Eq.mpr (by kernel_rfl) h
theorem F5.k14.to {K : VK} {y1 y3 y4 y5 y6 y7 y8 : Value} {w : World} (h : (C.int .sub y8 (.int .i64 1) w fun x39_1 w1 =>
  F5.l13 K y1 y3 y4 y5 y6 y7 x39_1 w1)) : F5.k14 K y1 y3 y4 y5 y6 y7 y8 w := Eq.mpr (by kernel_rfl) h
theorem F5.k20.to {K : VK} {y1 y3 y4 y5 y6 y7 y8 y9 : Value} {w : World} (h : (C.ite y9 (F5.k14 K y1 y3 y4 y5 y6 y8 y8 w) (F5.k14 K y1 y3 y4 y5 y6 y7 y8 w))) : F5.k20 K y1 y3 y4 y5 y6 y7 y8 y9 w := Eq.mpr (by kernel_rfl) h
theorem F5.l17.to {K : VK} {y1 y3 y4 y5 y6 y7 y8 y9 y10 : Value} {w : World} (h : (C.int .lss y10 y3 w fun x47_1 w1 =>
  C.ite x47_1 (F5.k19 K y1 y3 y4 y5 y6 y7 y8 y9 y10 w1) (F5.k20 K y1 y3 y4 y5 y6 y7 y8 y9 w1))) : F5.l17 K y1 y3 y4 y5 y6 y7 y8 y9 y10 w := by unfold F5.l17; exact nav_round (Eq.mpr (by kernel_rfl) h)
theorem F5.k19.to {K : VK} {y1 y3 y4 y5 y6 y7 y8 y9 y10 : Value} {w : World} (h : (C.guarded true y9 (fun K => K y5 w) w fun x52_1 w1 =>
  C.guarded true y9 (fun K => K y10 w1) w1 fun x53_2 w2 =>
  C.guarded true y9 (fun K => C.idx 1 x52_1 x53_2 w2 K) w2 fun x54_3 w3 =>
  C.guarded true y9 (fun K => C.load1 x54_3 w3 K) w3 fun x55_4 w4 =>
  C.guarded true y9 (fun K => K x55_4 w4) w4 fun x56_5 w5 =>
  C.guarded false x56_5 (fun K => C.loadA 2 y1 w5 K) w5 fun x57_6 w6 =>
  C.guarded false x56_5 (fun K => C.call Try.prog 10 #[x57_6] w6 K) w6 fun x58_7 w7 =>
  C.guarded false x56_5 (fun K => K y10 w7) w7 fun x59_8 w8 =>
  C.guarded false x56_5 (fun K => K y8 w8) w8 fun x60_9 w9 =>
  C.guarded false x56_5 (fun K => C.call Try.prog 16 #[x58_7, x59_8, x60_9] w9 K) w9 fun x61_10 w10 =>
  C.guarded false x56_5 (fun K => C.not x61_10 w10 K) w10 fun x62_11 w11 =>
  C.guarded true y9 (fun K => C.pick (some x56_5) (some (.bool true)) (some x62_11) w11 K) w11 fun x63_12 w12 =>
  C.pick (some y9) (some x63_12) (some (.bool false)) w12 fun x64_13 w13 =>
  F5.k18 K y1 y3 y4 y5 y6 y7 y8 x64_13 y10 w13)) : F5.k19 K y1 y3 y4 y5 y6 y7 y8 y9 y10 w := Eq.mpr (by kernel_rfl) h
theorem F5.k18.to {K : VK} {y1 y3 y4 y5 y6 y7 y8 y9 y10 : Value} {w : World} (h : (C.int .add y10 (.int .i64 1) w fun x49_1 w1 =>
  F5.l17 K y1 y3 y4 y5 y6 y7 y8 y9 x49_1 w1)) : F5.k18 K y1 y3 y4 y5 y6 y7 y8 y9 y10 w := Eq.mpr (by kernel_rfl) h
theorem F5.k24.to {K : VK} {y1 y3 y4 y5 y6 y7 : Value} {w : World} (h : (C.idx 1 y5 y7 w fun x85_1 w1 =>
  C.store 1 x85_1 (.bool true) w1 fun w2 =>
  F5.k10 K y1 y3 y4 y5 y6 w2)) : F5.k24 K y1 y3 y4 y5 y6 y7 w := Eq.mpr (by kernel_rfl) h
theorem F5.sh {K : VK} {x0 : Value} {w : World} (h : (C.new (.cells (Value.cells x0) 25) w fun x1_1 w1 =>
  C.call Try.prog 7 #[] w1 fun x11_2 w2 =>
  C.not x11_2 w2 fun x12_3 w3 =>
  C.ite x12_3 (K (.bool false) w3) (F5.k3 K x1_1 w3))) : C.call Try.prog 5 #[x0] w K := calls_of_vc (A := F5.ann) (args := [x0]) (Eq.mpr (by kernel_rfl) h)

/-! ### 7 scutage/scutagelaw34.alive () -/
namespace F7
def ann : Ann := ⟨[], [], [], [], none⟩
noncomputable def code : Code := match Try.f7.body with | some c => c | none => .skip
noncomputable def top (K : VK) : QE := retQ Try.prog Try.f7.results.toList K
end F7
theorem F7.sh {K : VK} {w : World} (h : (C.run Try.prog (Instr.buildSlice 23 1 #[(0, (.int .i64 1))]) w fun x3_1 w1 =>
  C.run Try.prog (Instr.buildSlice 23 1 #[(0, (.int .i64 0))]) w1 fun x4_2 w2 =>
  C.run Try.prog (Instr.buildSlice 23 1 #[(0, (.int .i64 0))]) w2 fun x5_3 w3 =>
  C.run Try.prog (Instr.buildSlice 22 3 #[(0, x3_1), (1, x4_2), (2, x5_3)]) w3 fun x6_4 w4 =>
  C.run Try.prog (Instr.build 25 #[(0, x6_4)]) w4 fun x7_5 w5 =>
  C.new (.cells #[.slice none 0 0, .slice none 0 0] 25) w5 fun x1_6 w6 =>
  C.store 2 x1_6 x7_5 w6 fun w7 =>
  C.loadA 2 x1_6 w7 fun x8_8 w8 =>
  C.call Try.prog 11 #[x8_8] w8 fun x9_9 w9 =>
  C.len x9_9 w9 fun x11_10 w10 =>
  C.int .eql x11_10 (.int .i64 2) w10 fun x12_11 w11 =>
  C.guarded true x12_11 (fun K => K x9_9 w11) w11 fun x14_12 w12 =>
  C.guarded true x12_11 (fun K => C.idx 1 x14_12 (.int .i64 0) w12 K) w12 fun x15_13 w13 =>
  C.guarded true x12_11 (fun K => C.load1 x15_13 w13 K) w13 fun x16_14 w14 =>
  C.guarded true x12_11 (fun K => C.run Try.prog (Instr.buildSlice 23 2 #[(0, (.int .i64 0)), (1, (.int .i64 1))]) w14 K) w14 fun x17_15 w15 =>
  C.guarded true x12_11 (fun K => C.call Try.prog 12 #[x16_14, x17_15] w15 K) w15 fun x18_16 w16 =>
  C.pick (some x12_11) (some x18_16) (some (.bool false)) w16 fun x19_17 w17 =>
  C.guarded true x19_17 (fun K => K x9_9 w17) w17 fun x21_18 w18 =>
  C.guarded true x19_17 (fun K => C.idx 1 x21_18 (.int .i64 1) w18 K) w18 fun x22_19 w19 =>
  C.guarded true x19_17 (fun K => C.load1 x22_19 w19 K) w19 fun x23_20 w20 =>
  C.guarded true x19_17 (fun K => C.run Try.prog (Instr.buildSlice 23 1 #[(0, (.int .i64 2))]) w20 K) w20 fun x24_21 w21 =>
  C.guarded true x19_17 (fun K => C.call Try.prog 12 #[x23_20, x24_21] w21 K) w21 fun x25_22 w22 =>
  C.pick (some x19_17) (some x25_22) (some (.bool false)) w22 fun x26_23 w23 =>
  C.guarded true x26_23 (fun K => C.loadA 2 x1_6 w23 K) w23 fun x28_24 w24 =>
  C.guarded true x26_23 (fun K => C.call Try.prog 13 #[x28_24] w24 K) w24 fun x29_25 w25 =>
  C.guarded true x26_23 (fun K => C.run Try.prog (Instr.buildSlice 23 2 #[(0, (.int .i64 0)), (1, (.int .i64 1))]) w25 K) w25 fun x30_26 w26 =>
  C.guarded true x26_23 (fun K => C.call Try.prog 12 #[x29_25, x30_26] w26 K) w26 fun x31_27 w27 =>
  C.pick (some x26_23) (some x31_27) (some (.bool false)) w27 fun x32_28 w28 =>
  C.guarded true x32_28 (fun K => C.loadA 2 x1_6 w28 K) w28 fun x34_29 w29 =>
  C.guarded true x32_28 (fun K => C.call Try.prog 14 #[x34_29, (.int .i64 0), (.int .i64 1)] w29 K) w29 fun x35_30 w30 =>
  C.pick (some x32_28) (some x35_30) (some (.bool false)) w30 fun x36_31 w31 =>
  C.guarded true x36_31 (fun K => C.loadA 2 x1_6 w31 K) w31 fun x38_32 w32 =>
  C.guarded true x36_31 (fun K => C.call Try.prog 14 #[x38_32, (.int .i64 0), (.int .i64 2)] w32 K) w32 fun x39_33 w33 =>
  C.guarded true x36_31 (fun K => C.not x39_33 w33 K) w33 fun x40_34 w34 =>
  C.pick (some x36_31) (some x40_34) (some (.bool false)) w34 fun x41_35 w35 =>
  C.guarded true x41_35 (fun K => C.loadA 2 x1_6 w35 K) w35 fun x43_36 w36 =>
  C.guarded true x41_35 (fun K => C.call Try.prog 15 #[x43_36] w36 K) w36 fun x44_37 w37 =>
  C.guarded true x41_35 (fun K => C.len x44_37 w37 K) w37 fun x45_38 w38 =>
  C.guarded true x41_35 (fun K => C.int .eql x45_38 (.int .i64 0) w38 K) w38 fun x46_39 w39 =>
  C.pick (some x41_35) (some x46_39) (some (.bool false)) w39 fun x47_40 w40 =>
  C.guarded true x47_40 (fun K => C.run Try.prog (Instr.buildSlice 23 1 #[(0, (.int .i64 1))]) w40 K) w40 fun x49_41 w41 =>
  C.guarded true x47_40 (fun K => C.run Try.prog (Instr.buildSlice 22 2 #[(0, x49_41), (1, (.slice none 0 0))]) w41 K) w41 fun x50_42 w42 =>
  C.guarded true x47_40 (fun K => C.run Try.prog (Instr.build 25 #[(0, x50_42)]) w42 K) w42 fun x51_43 w43 =>
  C.guarded true x47_40 (fun K => C.call Try.prog 15 #[x51_43] w43 K) w43 fun x52_44 w44 =>
  C.guarded true x47_40 (fun K => C.run Try.prog (Instr.buildSlice 23 2 #[(0, (.int .i64 0)), (1, (.int .i64 1))]) w44 K) w44 fun x53_45 w45 =>
  C.guarded true x47_40 (fun K => C.call Try.prog 12 #[x52_44, x53_45] w45 K) w45 fun x54_46 w46 =>
  C.pick (some x47_40) (some x54_46) (some (.bool false)) w46 fun x55_47 w47 =>
  K x55_47 w47)) : C.call Try.prog 7 #[] w K := calls_of_vc (A := F7.ann) (args := []) (Eq.mpr (by kernel_rfl) h)

/-! ### 8 scutage/scutagelaw34.few (25) -/
namespace F8
def ann : Ann := ⟨[(3, [1, 2])], [], [], [], none⟩
noncomputable def code : Code := match Try.f8.body with | some c => c | none => .skip
noncomputable def top (K : VK) : QE := retQ Try.prog Try.f8.results.toList K
noncomputable def k3 (K : VK) (y1 y2 : Value) (w : World) : Prop := nav ann Try.prog 12 (fun c Q => vcCode ann Try.prog 12 c Q [(1, y1), (2, y2)] w) [1, 1] code (top K)
attribute [irreducible] k3
end F8
theorem F8.k3.to {K : VK} {y1 y2 : Value} {w : World} (h : (C.loadA 2 y1 w fun x11_1 w1 =>
  C.store 2 y2 x11_1 w1 fun w2 =>
  C.loadA 2 y2 w2 fun r3 _ =>
  K r3 w2)) : F8.k3 K y1 y2 w := Eq.mpr (by kernel_rfl) h
theorem F8.sh {K : VK} {x0 : Value} {w : World} (h : (C.new (.cells (Value.cells x0) 25) w fun x1_1 w1 =>
  C.new (.cells #[.slice none 0 0, .slice none 0 0] 25) w1 fun x2_2 w2 =>
  C.field 0 x1_1 w2 fun x3_3 w3 =>
  C.load1 x3_3 w3 fun x4_4 w4 =>
  C.len x4_4 w4 fun x5_5 w5 =>
  C.int .gtr x5_5 (.int .i64 16) w5 fun x6_6 w6 =>
  C.ite x6_6 (C.field 0 x1_1 w6 fun x7_7 w7 =>
  C.load1 x7_7 w7 fun x8_8 w8 =>
  C.run Try.prog (Instr.sliceAt 22 x8_8 none (some (.int .i64 16)) none) w8 fun x9_9 w9 =>
  C.field 0 x1_1 w9 fun x10_10 w10 =>
  C.store 1 x10_10 x9_9 w10 fun w11 =>
  F8.k3 K x1_1 x2_2 w11) (F8.k3 K x1_1 x2_2 w6))) : C.call Try.prog 8 #[x0] w K := calls_of_vc (A := F8.ann) (args := [x0]) (Eq.mpr (by kernel_rfl) h)

/-! ### 10 scutage/scutagelaw34.plain (25) -/
namespace F10
def ann : Ann := ⟨[], [], [], [], none⟩
noncomputable def code : Code := match Try.f10.body with | some c => c | none => .skip
noncomputable def top (K : VK) : QE := retQ Try.prog Try.f10.results.toList K
end F10
theorem F10.sh {K : VK} {x0 : Value} {w : World} (h : (C.new (.cells (Value.cells x0) 25) w fun x1_1 w1 =>
  C.new (.cells #[.slice none 0 0, .slice none 0 0] 30) w1 fun x2_2 w2 =>
  C.field 0 x1_1 w2 fun x3_3 w3 =>
  C.load1 x3_3 w3 fun x4_4 w4 =>
  C.field 1 x1_1 w4 fun x5_5 w5 =>
  C.load1 x5_5 w5 fun x6_6 w6 =>
  C.run Try.prog (Instr.build 30 #[(0, x4_4), (1, x6_6)]) w6 fun x7_7 w7 =>
  C.store 2 x2_2 x7_7 w7 fun w8 =>
  C.loadA 2 x2_2 w8 fun r9 _ =>
  K r9 w8)) : C.call Try.prog 10 #[x0] w K := calls_of_vc (A := F10.ann) (args := [x0]) (Eq.mpr (by kernel_rfl) h)

end Go.Proofs.YtchonfdnghimdaaV
