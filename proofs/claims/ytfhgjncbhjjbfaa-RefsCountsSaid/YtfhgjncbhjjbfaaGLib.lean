/- What the bodies of these functions ask, as plain statements. Written by gen.py (own work) for the seat Ytfhgjncbhjjbfaa. -/
import Derived.Test.YtfhgjncbhjjbfaaVc3
import Derived.Test.YtfhgjncbhjjbfaaProg
namespace Go.Proofs.YtfhgjncbhjjbfaaV
open Go Go.Proofs
set_option linter.unusedVariables false
set_option maxRecDepth 100000

/-! ### 34 scutage/scutageplain.Ints (44, 44) -/
namespace F34
def ann : Ann := ⟨[(3, [0, 1]), (5, [0, 1, 5]), (6, [0, 1, 5]), (8, [])], [(4, [0, 1, 5])], [], [(6, (.take 0 (.take 1 (.take 2 (.take 4 (.take 5 (.take 6 (.take 3 (.take 7 (.take 8 .fin))))))))))], none⟩
noncomputable def code : Code := match Try.f34.body with | some c => c | none => .skip
noncomputable def top (K : VK) : QE := retQ Try.prog Try.f34.results.toList K
noncomputable def k3 (K : VK) (y0 y1 : Value) (w : World) : Prop := nav ann Try.prog 26 (fun c Q => vcCode ann Try.prog 26 c Q [(0, y0), (1, y1)] w) [1, 1] code (top K)
attribute [irreducible] k3
noncomputable def k8 (K : VK) (w : World) : Prop := nav ann Try.prog 26 (fun c Q => vcCode ann Try.prog 26 c Q [] w) [1, 1, 1] code (top K)
attribute [irreducible] k8
noncomputable def l4 (K : VK) (y0 y1 y5 : Value) (w : World) : Prop := nav ann Try.prog 26 (isLoop ann Try.prog 26 [(0, y0), (1, y1), (5, y5)] w) [1, 1, 0, 1, 0] code (top K)
attribute [irreducible] l4
noncomputable def k6 (K : VK) (y0 y1 y5 : Value) (w : World) : Prop := nav ann Try.prog 26 (fun c Q => vcCode ann Try.prog 26 c Q [(0, y0), (1, y1), (5, y5)] w) [1, 1, 0, 1, 0, 0, 1] code (top K)
attribute [irreducible] k6
noncomputable def k5 (K : VK) (y0 y1 y5 : Value) (w : World) : Prop := nav ann Try.prog 26 (fun c Q => vcCode ann Try.prog 26 c Q [(0, y0), (1, y1), (5, y5)] w) [1, 1, 0, 1, 0, 0, 1, 1] code (top K)
attribute [irreducible] k5
end F34
theorem F34.k3.to {K : VK} {y0 y1 : Value} {w : World} (h : (F34.l4 K y0 y1 (.int .i64 0) w)) : F34.k3 K y0 y1 w := Eq.mpr (by kernel_rfl) h
theorem F34.k8.to {K : VK} {w : World} (h : (K (.bool true) w)) : F34.k8 K w := Eq.mpr (by kernel_rfl) h
theorem F34.l4.to {K : VK} {y0 y1 y5 : Value} {w : World} (h : (C.len y0 w fun x13_1 w1 =>
  C.int .lss y5 x13_1 w1 fun x14_2 w2 =>
  C.ite x14_2 (F34.k6 K y0 y1 y5 w2) (F34.k8 K w2))) : F34.l4 K y0 y1 y5 w := by unfold F34.l4; exact nav_round (Eq.mpr (by kernel_rfl) h)
theorem F34.k6.to {K : VK} {y0 y1 y5 : Value} {w : World} (h : (C.draw w fun S w1 =>
  C.idx 1 y0 y5 w1 fun x19_2 w2 =>
  C.idx 1 y1 y5 w2 fun x23_3 w3 =>
  C.load1S S x19_2 w3 fun x20_4 w4 =>
  C.load1S S x23_3 w4 fun x24_5 w5 =>
  C.int .neq x20_4 x24_5 w5 fun x25_6 w6 =>
  C.ite x25_6 (K (.bool false) w6) (F34.k5 K y0 y1 y5 w6))) : F34.k6 K y0 y1 y5 w := Eq.mpr (by kernel_rfl) h
theorem F34.k5.to {K : VK} {y0 y1 y5 : Value} {w : World} (h : (C.int .add y5 (.int .i64 1) w fun x16_1 w1 =>
  F34.l4 K y0 y1 x16_1 w1)) : F34.k5 K y0 y1 y5 w := Eq.mpr (by kernel_rfl) h
theorem F34.sh {K : VK} {x0 x1 : Value} {w : World} (h : (C.len x0 w fun x7_1 w1 =>
  C.len x1 w1 fun x9_2 w2 =>
  C.int .neq x7_1 x9_2 w2 fun x10_3 w3 =>
  C.ite x10_3 (K (.bool false) w3) (F34.k3 K x0 x1 w3))) : C.call Try.prog 34 #[x0, x1] w K := calls_of_vc (A := F34.ann) (args := [x0, x1]) (Eq.mpr (by kernel_rfl) h)

/-! ### 48 scutage/scutageplain.In (44, 3) -/
namespace F48
def ann : Ann := ⟨[(3, [0, 1, 5]), (4, [0, 1, 5]), (6, [])], [(2, [0, 1, 5])], [], [], none⟩
noncomputable def code : Code := match Try.f48.body with | some c => c | none => .skip
noncomputable def top (K : VK) : QE := retQ Try.prog Try.f48.results.toList K
noncomputable def k6 (K : VK) (w : World) : Prop := nav ann Try.prog 18 (fun c Q => vcCode ann Try.prog 18 c Q [] w) [1, 1] code (top K)
attribute [irreducible] k6
noncomputable def l2 (K : VK) (y0 y1 y5 : Value) (w : World) : Prop := nav ann Try.prog 18 (isLoop ann Try.prog 18 [(0, y0), (1, y1), (5, y5)] w) [1, 0, 1, 0] code (top K)
attribute [irreducible] l2
noncomputable def k4 (K : VK) (y0 y1 y5 : Value) (w : World) : Prop := nav ann Try.prog 18 (fun c Q => vcCode ann Try.prog 18 c Q [(0, y0), (1, y1), (5, y5)] w) [1, 0, 1, 0, 0, 1] code (top K)
attribute [irreducible] k4
noncomputable def k3 (K : VK) (y0 y1 y5 : Value) (w : World) : Prop := nav ann Try.prog 18 (fun c Q => vcCode ann Try.prog 18 c Q [(0, y0), (1, y1), (5, y5)] w) [1, 0, 1, 0, 0, 1, 1] code (top K)
attribute [irreducible] k3
end F48
theorem F48.k6.to {K : VK} {w : World} (h : (K (.bool false) w)) : F48.k6 K w := Eq.mpr (by kernel_rfl) h
theorem F48.l2.to {K : VK} {y0 y1 y5 : Value} {w : World} (h : (C.len y0 w fun x8_1 w1 =>
  C.int .lss y5 x8_1 w1 fun x9_2 w2 =>
  C.ite x9_2 (F48.k4 K y0 y1 y5 w2) (F48.k6 K w2))) : F48.l2 K y0 y1 y5 w := by unfold F48.l2; exact nav_round (Eq.mpr (by kernel_rfl) h)
theorem F48.k4.to {K : VK} {y0 y1 y5 : Value} {w : World} (h : (C.idx 1 y0 y5 w fun x14_1 w1 =>
  C.load1 x14_1 w1 fun x15_2 w2 =>
  C.int .eql x15_2 y1 w2 fun x17_3 w3 =>
  C.ite x17_3 (K (.bool true) w3) (F48.k3 K y0 y1 y5 w3))) : F48.k4 K y0 y1 y5 w := Eq.mpr (by kernel_rfl) h
theorem F48.k3.to {K : VK} {y0 y1 y5 : Value} {w : World} (h : (C.int .add y5 (.int .i64 1) w fun x11_1 w1 =>
  F48.l2 K y0 y1 x11_1 w1)) : F48.k3 K y0 y1 y5 w := Eq.mpr (by kernel_rfl) h
theorem F48.sh {K : VK} {x0 x1 : Value} {w : World} (h : (F48.l2 K x0 x1 (.int .i64 0) w)) : C.call Try.prog 48 #[x0, x1] w K := calls_of_vc (A := F48.ann) (args := [x0, x1]) (Eq.mpr (by kernel_rfl) h)

/-! ### 63 slices.Contains[[]int,int] (44, 3) -/
namespace F63
def ann : Ann := ⟨[], [], [], [], none⟩
noncomputable def code : Code := match Try.f63.body with | some c => c | none => .skip
noncomputable def top (K : VK) : QE := retQ Try.prog Try.f63.results.toList K
end F63
theorem F63.sh {K : VK} {x0 x1 : Value} {w : World} (h : (C.call Try.prog 92 #[x0, x1] w fun x7_1 w1 =>
  C.int .geq x7_1 (.int .i64 0) w1 fun x8_2 w2 =>
  K x8_2 w2)) : C.call Try.prog 63 #[x0, x1] w K := calls_of_vc (A := F63.ann) (args := [x0, x1]) (Eq.mpr (by kernel_rfl) h)

/-! ### 65 slices.Repeat[[]int,int] (44, 3) -/
namespace F65
def ann : Ann := ⟨[(3, [0, 1]), (6, [0, 6]), (9, [7, 8]), (10, [7])], [(8, [7, 8])], [], [(9, (.take 0 (.take 1 (.take 2 (.take 4 (.take 5 (.take 3 (.take 6 (.go 7 (.take 8 (.take 9 .fin)) .fin)))))))))], none⟩
noncomputable def code : Code := match Try.f65.body with | some c => c | none => .skip
noncomputable def top (K : VK) : QE := retQ Try.prog Try.f65.results.toList K
noncomputable def k3 (K : VK) (y0 y1 : Value) (w : World) : Prop := nav ann Try.prog 48 (fun c Q => vcCode ann Try.prog 48 c Q [(0, y0), (1, y1)] w) [1, 1] code (top K)
attribute [irreducible] k3
noncomputable def k6 (K : VK) (y0 y6 : Value) (w : World) : Prop := nav ann Try.prog 48 (fun c Q => vcCode ann Try.prog 48 c Q [(0, y0), (6, y6)] w) [1, 1, 1, 1] code (top K)
attribute [irreducible] k6
noncomputable def k10 (K : VK) (y7 : Value) (w : World) : Prop := nav ann Try.prog 48 (fun c Q => vcCode ann Try.prog 48 c Q [(7, y7)] w) [1, 1, 1, 1, 1, 1, 1] code (top K)
attribute [irreducible] k10
noncomputable def l8 (K : VK) (y7 y8 : Value) (w : World) : Prop := nav ann Try.prog 48 (isLoop ann Try.prog 48 [(7, y7), (8, y8)] w) [1, 1, 1, 1, 1, 1, 0, 0] code (top K)
attribute [irreducible] l8
noncomputable def k9 (K : VK) (y7 y8 : Value) (w : World) : Prop := nav ann Try.prog 48 (fun c Q => vcCode ann Try.prog 48 c Q [(7, y7), (8, y8)] w) [1, 1, 1, 1, 1, 1, 0, 0, 0, 1] code (top K)
attribute [irreducible] k9
end F65
theorem F65.k3.to {K : VK} {y0 y1 : Value} {w : World} (h : (C.len y0 w fun x14_1 w1 =>
  C.conv .u64 x14_1 w1 fun x15_2 w2 =>
  C.conv .u64 y1 w2 fun x17_3 w3 =>
  C.call Try.prog 83 #[x15_2, x17_3] w3 fun x18_4 w4 =>
  C.ext 0 x18_4 w4 fun x19_5 w5 =>
  C.ext 1 x18_4 w5 fun x20_6 w6 =>
  C.int .gtr x19_5 (.int .u64 0) w6 fun x22_7 w7 =>
  C.guarded false x22_7 (fun K => K x20_6 w7) w7 fun x24_8 w8 =>
  C.guarded false x22_7 (fun K => C.int .gtr x24_8 (.int .u64 9223372036854775807) w8 K) w8 fun x25_9 w9 =>
  C.pick (some x22_7) (some (.bool true)) (some x25_9) w9 fun x26_10 w10 =>
  C.ite x26_10 (C.run Try.prog (Instr.makeInterface 9 (.string { data := #[116, 104, 101, 32, 114, 101, 115, 117, 108, 116, 32, 111, 102, 32, 40, 108, 101, 110, 40, 120, 41, 32, 42, 32, 99, 111, 117, 110, 116, 41, 32, 111, 118, 101, 114, 102, 108, 111, 119, 115] })) w10 fun x27_11 w11 =>
  False) (F65.k6 K y0 x20_6 w10))) : F65.k3 K y0 y1 w := Eq.mpr (by kernel_rfl) h
theorem F65.k6.to {K : VK} {y0 y6 : Value} {w : World} (h : (C.conv .i64 y6 w fun x29_1 w1 =>
  C.run Try.prog (Instr.makeSlice 44 x29_1 x29_1) w1 fun x30_2 w2 =>
  C.run Try.prog (Builtin.copy_ #[44, 44] 3 #[x30_2, y0]) w2 fun x33_3 w3 =>
  F65.l8 K x30_2 x33_3 w3)) : F65.k6 K y0 y6 w := Eq.mpr (by kernel_rfl) h
theorem F65.k10.to {K : VK} {y7 : Value} {w : World} (h : (K y7 w)) : F65.k10 K y7 w := Eq.mpr (by kernel_rfl) h
theorem F65.l8.to {K : VK} {y7 y8 : Value} {w : World} (h : (C.len y7 w fun x36_1 w1 =>
  C.int .lss y8 x36_1 w1 fun x37_2 w2 =>
  C.ite x37_2 (F65.k9 K y7 y8 w2) (F65.k10 K y7 w2))) : F65.l8 K y7 y8 w := by unfold F65.l8; exact nav_round (Eq.mpr (by kernel_rfl) h)
theorem F65.k9.to {K : VK} {y7 y8 : Value} {w : World} (h : (C.draw w fun S w1 =>
  ∃ x41_2, (∀ w', S w' → (Instr.sliceAt 44 y7 (some y8) none none).run Try.prog w' = .ok x41_2 w') ∧ (∃ x44_3, (∀ w', S w' → (Instr.sliceAt 44 y7 none (some y8) none).run Try.prog w' = .ok x44_3 w') ∧ ((C.run Try.prog (Builtin.copy_ #[44, 44] 3 #[x41_2, x44_3]) w1 fun x45_4 w4 =>
  (S w4 ∧
  C.int .add y8 x45_4 w4 fun x46_5 w5 =>
  F65.l8 K y7 x46_5 w5)) ∧ True)))) : F65.k9 K y7 y8 w := Eq.mpr (by kernel_rfl) h
theorem F65.sh {K : VK} {x0 x1 : Value} {w : World} (h : (C.int .lss x1 (.int .i64 0) w fun x10_1 w1 =>
  C.ite x10_1 (C.run Try.prog (Instr.makeInterface 9 (.string { data := #[99, 97, 110, 110, 111, 116, 32, 98, 101, 32, 110, 101, 103, 97, 116, 105, 118, 101] })) w1 fun x11_2 w2 =>
  False) (F65.k3 K x0 x1 w1))) : C.call Try.prog 65 #[x0, x1] w K := calls_of_vc (A := F65.ann) (args := [x0, x1]) (Eq.mpr (by kernel_rfl) h)

/-! ### 79 slices.DeleteFunc[[]int,int] (44, 80) -/
namespace F79
def ann : Ann := ⟨[(4, [0, 1, 5]), (6, [0, 1, 5, 6]), (7, [0, 1, 5, 6]), (11, [0, 5])], [(5, [0, 1, 5, 6])], [], [], none⟩
noncomputable def code : Code := match Try.f79.body with | some c => c | none => .skip
noncomputable def top (K : VK) : QE := retQ Try.prog Try.f79.results.toList K
noncomputable def k4 (K : VK) (y0 y1 y5 : Value) (w : World) : Prop := nav ann Try.prog 42 (fun c Q => vcCode ann Try.prog 42 c Q [(0, y0), (1, y1), (5, y5)] w) [1, 1, 1] code (top K)
attribute [irreducible] k4
noncomputable def k11 (K : VK) (y0 y5 : Value) (w : World) : Prop := nav ann Try.prog 42 (fun c Q => vcCode ann Try.prog 42 c Q [(0, y0), (5, y5)] w) [1, 1, 1, 1] code (top K)
attribute [irreducible] k11
noncomputable def l5 (K : VK) (y0 y1 y5 y6 : Value) (w : World) : Prop := nav ann Try.prog 42 (isLoop ann Try.prog 42 [(0, y0), (1, y1), (5, y5), (6, y6)] w) [1, 1, 1, 0, 1, 0] code (top K)
attribute [irreducible] l5
noncomputable def k7 (K : VK) (y0 y1 y5 y6 : Value) (w : World) : Prop := nav ann Try.prog 42 (fun c Q => vcCode ann Try.prog 42 c Q [(0, y0), (1, y1), (5, y5), (6, y6)] w) [1, 1, 1, 0, 1, 0, 0, 1] code (top K)
attribute [irreducible] k7
noncomputable def k6 (K : VK) (y0 y1 y5 y6 : Value) (w : World) : Prop := nav ann Try.prog 42 (fun c Q => vcCode ann Try.prog 42 c Q [(0, y0), (1, y1), (5, y5), (6, y6)] w) [1, 1, 1, 0, 1, 0, 0, 1, 1] code (top K)
attribute [irreducible] k6
end F79
theorem F79.k4.to {K : VK} {y0 y1 y5 : Value} {w : World} (h : (C.int .add y5 (.int .i64 1) w fun x15_1 w1 =>
  F79.l5 K y0 y1 y5 x15_1 w1)) : F79.k4 K y0 y1 y5 w := Eq.mpr (by kernel_rfl) h
theorem F79.k11.to {K : VK} {y0 y5 : Value} {w : World} (h : (C.run Try.prog (Instr.sliceAt 44 y0 (some y5) none none) w fun x38_1 w1 =>
  C.run Try.prog (Builtin.clear_ #[44] 0 #[x38_1]) w1 fun _ w2 =>
  C.run Try.prog (Instr.sliceAt 44 y0 none (some y5) none) w2 fun x41_3 w3 =>
  K x41_3 w3)) : F79.k11 K y0 y5 w := Eq.mpr (by kernel_rfl) h
theorem F79.l5.to {K : VK} {y0 y1 y5 y6 : Value} {w : World} (h : (C.len y0 w fun x18_1 w1 =>
  C.int .lss y6 x18_1 w1 fun x19_2 w2 =>
  C.ite x19_2 (F79.k7 K y0 y1 y5 y6 w2) (F79.k11 K y0 y5 w2))) : F79.l5 K y0 y1 y5 y6 w := by unfold F79.l5; exact nav_round (Eq.mpr (by kernel_rfl) h)
theorem F79.k7.to {K : VK} {y0 y1 y5 y6 : Value} {w : World} (h : (C.idx 1 y0 y6 w fun x24_1 w1 =>
  C.load1 x24_1 w1 fun x25_2 w2 =>
  vcCall Try.prog y1 [x25_2] w2 fun x28_3 w3 =>
  C.not x28_3 w3 fun x29_4 w4 =>
  C.ite x29_4 (C.idx 1 y0 y5 w4 fun x33_5 w5 =>
  C.store 1 x33_5 x25_2 w5 fun w6 =>
  C.int .add y5 (.int .i64 1) w6 fun x35_7 w7 =>
  F79.k6 K y0 y1 x35_7 y6 w7) (F79.k6 K y0 y1 y5 y6 w4))) : F79.k7 K y0 y1 y5 y6 w := Eq.mpr (by kernel_rfl) h
theorem F79.k6.to {K : VK} {y0 y1 y5 y6 : Value} {w : World} (h : (C.int .add y6 (.int .i64 1) w fun x21_1 w1 =>
  F79.l5 K y0 y1 y5 x21_1 w1)) : F79.k6 K y0 y1 y5 y6 w := Eq.mpr (by kernel_rfl) h
theorem F79.sh {K : VK} {x0 x1 : Value} {w : World} (h : (C.call Try.prog 99 #[x0, x1] w fun x10_1 w1 =>
  C.int .eql x10_1 (.int .i64 (-1)) w1 fun x12_2 w2 =>
  C.ite x12_2 (K x0 w2) (F79.k4 K x0 x1 x10_1 w2))) : C.call Try.prog 79 #[x0, x1] w K := calls_of_vc (A := F79.ann) (args := [x0, x1]) (Eq.mpr (by kernel_rfl) h)

/-! ### 92 slices.Index[[]int,int] (44, 3) -/
namespace F92
def ann : Ann := ⟨[(3, [0, 1, 7, 8]), (6, [0, 1, 7, 8]), (7, [])], [(2, [0, 1, 7, 8])], [], [], none⟩
noncomputable def code : Code := match Try.f92.body with | some c => c | none => .skip
noncomputable def top (K : VK) : QE := retQ Try.prog Try.f92.results.toList K
noncomputable def k7 (K : VK) (w : World) : Prop := nav ann Try.prog 19 (fun c Q => vcCode ann Try.prog 19 c Q [] w) [1, 1] code (top K)
attribute [irreducible] k7
noncomputable def l2 (K : VK) (y0 y1 y7 y8 : Value) (w : World) : Prop := nav ann Try.prog 19 (isLoop ann Try.prog 19 [(0, y0), (1, y1), (7, y7), (8, y8)] w) [1, 0, 1, 0] code (top K)
attribute [irreducible] l2
noncomputable def k3 (K : VK) (y0 y1 y7 y8 : Value) (w : World) : Prop := nav ann Try.prog 19 (fun c Q => vcCode ann Try.prog 19 c Q [(0, y0), (1, y1), (7, y7), (8, y8)] w) [1, 0, 1, 0, 0, 1, 1] code (top K)
attribute [irreducible] k3
noncomputable def k6 (K : VK) (y0 y1 y7 y8 : Value) (w : World) : Prop := nav ann Try.prog 19 (fun c Q => vcCode ann Try.prog 19 c Q [(0, y0), (1, y1), (7, y7), (8, y8)] w) [1, 0, 1, 0, 0, 1, 1, 1] code (top K)
attribute [irreducible] k6
end F92
theorem F92.k7.to {K : VK} {w : World} (h : (K (.int .i64 (-1)) w)) : F92.k7 K w := Eq.mpr (by kernel_rfl) h
theorem F92.l2.to {K : VK} {y0 y1 y7 y8 : Value} {w : World} (h : (C.int .lss y8 y7 w fun x9_1 w1 =>
  C.ite x9_1 (F92.k3 K y0 y1 y7 y8 w1) (F92.k7 K w1))) : F92.l2 K y0 y1 y7 y8 w := by unfold F92.l2; exact nav_round (Eq.mpr (by kernel_rfl) h)
theorem F92.k3.to {K : VK} {y0 y1 y7 y8 : Value} {w : World} (h : (C.idx 1 y0 y8 w fun x14_1 w1 =>
  C.load1 x14_1 w1 fun x15_2 w2 =>
  C.int .eql y1 x15_2 w2 fun x16_3 w3 =>
  C.ite x16_3 (K y8 w3) (F92.k6 K y0 y1 y7 y8 w3))) : F92.k3 K y0 y1 y7 y8 w := Eq.mpr (by kernel_rfl) h
theorem F92.k6.to {K : VK} {y0 y1 y7 y8 : Value} {w : World} (h : (C.int .add y8 (.int .i64 1) w fun x18_1 w1 =>
  F92.l2 K y0 y1 y7 x18_1 w1)) : F92.k6 K y0 y1 y7 y8 w := Eq.mpr (by kernel_rfl) h
theorem F92.sh {K : VK} {x0 x1 : Value} {w : World} (h : (C.len x0 w fun x7_1 w1 =>
  F92.l2 K x0 x1 x7_1 (.int .i64 0) w1)) : C.call Try.prog 92 #[x0, x1] w K := calls_of_vc (A := F92.ann) (args := [x0, x1]) (Eq.mpr (by kernel_rfl) h)

/-! ### 95 slices.Clone[[]int,int] (44) -/
namespace F95
def ann : Ann := ⟨[(3, [0])], [], [], [], none⟩
noncomputable def code : Code := match Try.f95.body with | some c => c | none => .skip
noncomputable def top (K : VK) : QE := retQ Try.prog Try.f95.results.toList K
noncomputable def k3 (K : VK) (y0 : Value) (w : World) : Prop := nav ann Try.prog 8 (fun c Q => vcCode ann Try.prog 8 c Q [(0, y0)] w) [1, 1] code (top K)
attribute [irreducible] k3
end F95
theorem F95.k3.to {K : VK} {y0 : Value} {w : World} (h : (C.run Try.prog (Instr.buildSlice 44 0 #[]) w fun x5_1 w1 =>
  C.run Try.prog (Builtin.append_ #[44, 44] 44 #[x5_1, y0]) w1 fun x7_2 w2 =>
  K x7_2 w2)) : F95.k3 K y0 w := Eq.mpr (by kernel_rfl) h
theorem F95.sh {K : VK} {x0 : Value} {w : World} (h : (C.bin Try.prog .eql 44 (.tmp 3) (.const (.slice none 0 0)) x0 (.slice none 0 0) w fun x4_1 w1 =>
  C.ite x4_1 (K (.slice none 0 0) w1) (F95.k3 K x0 w1))) : C.call Try.prog 95 #[x0] w K := calls_of_vc (A := F95.ann) (args := [x0]) (Eq.mpr (by kernel_rfl) h)

/-! ### 99 slices.IndexFunc[[]int,int] (44, 80) -/
namespace F99
def ann : Ann := ⟨[(3, [0, 1, 7, 8]), (6, [0, 1, 7, 8]), (7, [])], [(2, [0, 1, 7, 8])], [], [], none⟩
noncomputable def code : Code := match Try.f99.body with | some c => c | none => .skip
noncomputable def top (K : VK) : QE := retQ Try.prog Try.f99.results.toList K
noncomputable def k7 (K : VK) (w : World) : Prop := nav ann Try.prog 19 (fun c Q => vcCode ann Try.prog 19 c Q [] w) [1, 1] code (top K)
attribute [irreducible] k7
noncomputable def l2 (K : VK) (y0 y1 y7 y8 : Value) (w : World) : Prop := nav ann Try.prog 19 (isLoop ann Try.prog 19 [(0, y0), (1, y1), (7, y7), (8, y8)] w) [1, 0, 1, 0] code (top K)
attribute [irreducible] l2
noncomputable def k3 (K : VK) (y0 y1 y7 y8 : Value) (w : World) : Prop := nav ann Try.prog 19 (fun c Q => vcCode ann Try.prog 19 c Q [(0, y0), (1, y1), (7, y7), (8, y8)] w) [1, 0, 1, 0, 0, 1, 1] code (top K)
attribute [irreducible] k3
noncomputable def k6 (K : VK) (y0 y1 y7 y8 : Value) (w : World) : Prop := nav ann Try.prog 19 (fun c Q => vcCode ann Try.prog 19 c Q [(0, y0), (1, y1), (7, y7), (8, y8)] w) [1, 0, 1, 0, 0, 1, 1, 1] code (top K)
attribute [irreducible] k6
end F99
theorem F99.k7.to {K : VK} {w : World} (h : (K (.int .i64 (-1)) w)) : F99.k7 K w := Eq.mpr (by kernel_rfl) h
theorem F99.l2.to {K : VK} {y0 y1 y7 y8 : Value} {w : World} (h : (C.int .lss y8 y7 w fun x9_1 w1 =>
  C.ite x9_1 (F99.k3 K y0 y1 y7 y8 w1) (F99.k7 K w1))) : F99.l2 K y0 y1 y7 y8 w := by unfold F99.l2; exact nav_round (Eq.mpr (by kernel_rfl) h)
theorem F99.k3.to {K : VK} {y0 y1 y7 y8 : Value} {w : World} (h : (C.idx 1 y0 y8 w fun x14_1 w1 =>
  C.load1 x14_1 w1 fun x15_2 w2 =>
  vcCall Try.prog y1 [x15_2] w2 fun x16_3 w3 =>
  C.ite x16_3 (K y8 w3) (F99.k6 K y0 y1 y7 y8 w3))) : F99.k3 K y0 y1 y7 y8 w := Eq.mpr (by kernel_rfl) h
theorem F99.k6.to {K : VK} {y0 y1 y7 y8 : Value} {w : World} (h : (C.int .add y8 (.int .i64 1) w fun x18_1 w1 =>
  F99.l2 K y0 y1 y7 x18_1 w1)) : F99.k6 K y0 y1 y7 y8 w := Eq.mpr (by kernel_rfl) h
theorem F99.sh {K : VK} {x0 x1 : Value} {w : World} (h : (C.len x0 w fun x7_1 w1 =>
  F99.l2 K x0 x1 x7_1 (.int .i64 0) w1)) : C.call Try.prog 99 #[x0, x1] w K := calls_of_vc (A := F99.ann) (args := [x0, x1]) (Eq.mpr (by kernel_rfl) h)

/-! ### 74 slices.Reverse[[]int,int] (44) -/
namespace F74
def ann : Ann := ⟨[(2, [0, 2, 3]), (3, [0, 2, 3])], [(1, [0, 2, 3])], [], [(3, (.take 0 (.take 1 (.take 2 (.take 3 (.take 4 (.take 5 (.take 6 (.take 8 (.take 9 (.take 10 (.go 7 (.go 11 (.take 12 (.go 13 (.take 14 (.go 15 .fin .fin)) .fin)) .fin) (.go 11 (.go 7 (.take 12 (.go 13 (.take 14 (.go 15 .fin .fin)) .fin)) .fin) .fin)))))))))))))], none⟩
noncomputable def code : Code := match Try.f74.body with | some c => c | none => .skip
noncomputable def top (K : VK) : QE := retQ Try.prog Try.f74.results.toList K
noncomputable def l1 (K : VK) (y0 y2 y3 : Value) (w : World) : Prop := nav ann Try.prog 28 (isLoop ann Try.prog 28 [(0, y0), (2, y2), (3, y3)] w) [1, 0] code (top K)
attribute [irreducible] l1
noncomputable def k3 (K : VK) (y0 y2 y3 : Value) (w : World) : Prop := nav ann Try.prog 28 (fun c Q => vcCode ann Try.prog 28 c Q [(0, y0), (2, y2), (3, y3)] w) [1, 0, 0, 1] code (top K)
attribute [irreducible] k3
noncomputable def k2 (K : VK) (y0 y2 y3 : Value) (w : World) : Prop := nav ann Try.prog 28 (fun c Q => vcCode ann Try.prog 28 c Q [(0, y0), (2, y2), (3, y3)] w) [1, 0, 0, 1, 1] code (top K)
attribute [irreducible] k2
end F74
theorem F74.l1.to {K : VK} {y0 y2 y3 : Value} {w : World} (h : (C.int .lss y2 y3 w fun x9_1 w1 =>
  C.ite x9_1 (F74.k3 K y0 y2 y3 w1) (K (.tuple #[]) w1))) : F74.l1 K y0 y2 y3 w := by unfold F74.l1; exact nav_round (Eq.mpr (by kernel_rfl) h)
theorem F74.k3.to {K : VK} {y0 y2 y3 : Value} {w : World} (h : (C.draw w fun S w1 =>
  C.idx 1 y0 y3 w1 fun x20_2 w2 =>
  C.idx 1 y0 y2 w2 fun x24_3 w3 =>
  (C.load1 x20_2 w3 fun x21_10 w10 =>
  (S w10 ∧
  (C.load1 x24_3 w10 fun x25_11 w11 =>
  (S w11 ∧
  C.idx 1 y0 y2 w11 fun x26_12 w12 =>
  (C.store 1 x26_12 x21_10 w12 fun w13 =>
  (S w13 ∧
  C.idx 1 y0 y3 w13 fun x27_14 w14 =>
  (C.store 1 x27_14 x25_11 w14 fun w15 =>
  (S w15 ∧
  F74.k2 K y0 y2 y3 w15)) ∧ True)) ∧ True)) ∧ True)) ∧ ((C.load1 x24_3 w3 fun x25_4 w4 =>
  (S w4 ∧
  (C.load1 x20_2 w4 fun x21_5 w5 =>
  (S w5 ∧
  C.idx 1 y0 y2 w5 fun x26_6 w6 =>
  (C.store 1 x26_6 x21_5 w6 fun w7 =>
  (S w7 ∧
  C.idx 1 y0 y3 w7 fun x27_8 w8 =>
  (C.store 1 x27_8 x25_4 w8 fun w9 =>
  (S w9 ∧
  F74.k2 K y0 y2 y3 w9)) ∧ True)) ∧ True)) ∧ True)) ∧ True))) : F74.k3 K y0 y2 y3 w := Eq.mpr (by kernel_rfl) h
theorem F74.k2.to {K : VK} {y0 y2 y3 : Value} {w : World} (h : (C.int .add y2 (.int .i64 1) w fun x11_1 w1 =>
  C.int .sub y3 (.int .i64 1) w1 fun x13_2 w2 =>
  F74.l1 K y0 x11_1 x13_2 w2)) : F74.k2 K y0 y2 y3 w := Eq.mpr (by kernel_rfl) h
theorem F74.sh {K : VK} {x0 : Value} {w : World} (h : (C.len x0 w fun x5_1 w1 =>
  C.int .sub x5_1 (.int .i64 1) w1 fun x6_2 w2 =>
  F74.l1 K x0 (.int .i64 0) x6_2 w2)) : C.call Try.prog 74 #[x0] w K := calls_of_vc (A := F74.ann) (args := [x0]) (Eq.mpr (by kernel_rfl) h)

/-! ### 17 scutage/scutageplain.Bools (33, 33) -/
namespace F17
def ann : Ann := ⟨[(3, [0, 1]), (5, [0, 1, 5]), (6, [0, 1, 5]), (8, [])], [(4, [0, 1, 5])], [], [(6, (.take 0 (.take 1 (.take 2 (.take 4 (.take 5 (.take 6 (.take 3 (.take 7 (.take 8 .fin))))))))))], none⟩
noncomputable def code : Code := match Try.f17.body with | some c => c | none => .skip
noncomputable def top (K : VK) : QE := retQ Try.prog Try.f17.results.toList K
noncomputable def k3 (K : VK) (y0 y1 : Value) (w : World) : Prop := nav ann Try.prog 26 (fun c Q => vcCode ann Try.prog 26 c Q [(0, y0), (1, y1)] w) [1, 1] code (top K)
attribute [irreducible] k3
noncomputable def k8 (K : VK) (w : World) : Prop := nav ann Try.prog 26 (fun c Q => vcCode ann Try.prog 26 c Q [] w) [1, 1, 1] code (top K)
attribute [irreducible] k8
noncomputable def l4 (K : VK) (y0 y1 y5 : Value) (w : World) : Prop := nav ann Try.prog 26 (isLoop ann Try.prog 26 [(0, y0), (1, y1), (5, y5)] w) [1, 1, 0, 1, 0] code (top K)
attribute [irreducible] l4
noncomputable def k6 (K : VK) (y0 y1 y5 : Value) (w : World) : Prop := nav ann Try.prog 26 (fun c Q => vcCode ann Try.prog 26 c Q [(0, y0), (1, y1), (5, y5)] w) [1, 1, 0, 1, 0, 0, 1] code (top K)
attribute [irreducible] k6
noncomputable def k5 (K : VK) (y0 y1 y5 : Value) (w : World) : Prop := nav ann Try.prog 26 (fun c Q => vcCode ann Try.prog 26 c Q [(0, y0), (1, y1), (5, y5)] w) [1, 1, 0, 1, 0, 0, 1, 1] code (top K)
attribute [irreducible] k5
end F17
theorem F17.k3.to {K : VK} {y0 y1 : Value} {w : World} (h : (F17.l4 K y0 y1 (.int .i64 0) w)) : F17.k3 K y0 y1 w := Eq.mpr (by kernel_rfl) h
theorem F17.k8.to {K : VK} {w : World} (h : (K (.bool true) w)) : F17.k8 K w := Eq.mpr (by kernel_rfl) h
theorem F17.l4.to {K : VK} {y0 y1 y5 : Value} {w : World} (h : (C.len y0 w fun x13_1 w1 =>
  C.int .lss y5 x13_1 w1 fun x14_2 w2 =>
  C.ite x14_2 (F17.k6 K y0 y1 y5 w2) (F17.k8 K w2))) : F17.l4 K y0 y1 y5 w := by unfold F17.l4; exact nav_round (Eq.mpr (by kernel_rfl) h)
theorem F17.k6.to {K : VK} {y0 y1 y5 : Value} {w : World} (h : (C.draw w fun S w1 =>
  C.idx 1 y0 y5 w1 fun x19_2 w2 =>
  C.idx 1 y1 y5 w2 fun x23_3 w3 =>
  C.load1S S x19_2 w3 fun x20_4 w4 =>
  C.load1S S x23_3 w4 fun x24_5 w5 =>
  ∃ x25_6, (∀ w', S w' → ((do eqGuard .neq 4 (.tmp 20) (.tmp 24) x20_4 x24_5; binOp .neq 4 x20_4 x24_5 : Sem Value)).run Try.prog w' = .ok x25_6 w') ∧ (C.ite x25_6 (K (.bool false) w5) (F17.k5 K y0 y1 y5 w5)))) : F17.k6 K y0 y1 y5 w := Eq.mpr (by kernel_rfl) h
theorem F17.k5.to {K : VK} {y0 y1 y5 : Value} {w : World} (h : (C.int .add y5 (.int .i64 1) w fun x16_1 w1 =>
  F17.l4 K y0 y1 x16_1 w1)) : F17.k5 K y0 y1 y5 w := Eq.mpr (by kernel_rfl) h
theorem F17.sh {K : VK} {x0 x1 : Value} {w : World} (h : (C.len x0 w fun x7_1 w1 =>
  C.len x1 w1 fun x9_2 w2 =>
  C.int .neq x7_1 x9_2 w2 fun x10_3 w3 =>
  C.ite x10_3 (K (.bool false) w3) (F17.k3 K x0 x1 w3))) : C.call Try.prog 17 #[x0, x1] w K := calls_of_vc (A := F17.ann) (args := [x0, x1]) (Eq.mpr (by kernel_rfl) h)

/-! ### 83 math/bits.Mul (88, 88) -/
namespace F83
def ann : Ann := ⟨[(3, [0, 1])], [], [], [], none⟩
noncomputable def code : Code := match Try.f83.body with | some c => c | none => .skip
noncomputable def top (K : VK) : QE := retQ Try.prog Try.f83.results.toList K
noncomputable def k3 (K : VK) (y0 y1 : Value) (w : World) : Prop := nav ann Try.prog 30 (fun c Q => vcCode ann Try.prog 30 c Q [(0, y0), (1, y1)] w) [1, 1] code (top K)
attribute [irreducible] k3
end F83
theorem F83.k3.to {K : VK} {y0 y1 : Value} {w : World} (h : (C.call Try.prog 108 #[y0, y1] w fun x25_1 w1 =>
  C.ext 0 x25_1 w1 fun x26_2 w2 =>
  C.ext 1 x25_1 w2 fun x27_3 w3 =>
  K (.tuple #[x26_2, x27_3]) w3)) : F83.k3 K y0 y1 w := Eq.mpr (by kernel_rfl) h
theorem F83.sh {K : VK} {x0 x1 : Value} {w : World} (h : (C.ite (.bool false) (C.conv .u32 x0 w fun x12_1 w1 =>
  C.conv .u32 x1 w1 fun x14_2 w2 =>
  C.call Try.prog 107 #[x12_1, x14_2] w2 fun x15_3 w3 =>
  C.ext 0 x15_3 w3 fun x16_4 w4 =>
  C.ext 1 x15_3 w4 fun x17_5 w5 =>
  C.conv .u64 x16_4 w5 fun x19_6 w6 =>
  C.conv .u64 x17_5 w6 fun x21_7 w7 =>
  K (.tuple #[x19_6, x21_7]) w7) (F83.k3 K x0 x1 w))) : C.call Try.prog 83 #[x0, x1] w K := calls_of_vc (A := F83.ann) (args := [x0, x1]) (Eq.mpr (by kernel_rfl) h)

/-! ### 107 math/bits.Mul32 (112, 112) -/
namespace F107
def ann : Ann := ⟨[], [], [], [], none⟩
noncomputable def code : Code := match Try.f107.body with | some c => c | none => .skip
noncomputable def top (K : VK) : QE := retQ Try.prog Try.f107.results.toList K
end F107
theorem F107.sh {K : VK} {x0 x1 : Value} {w : World} (h : (C.conv .u64 x0 w fun x8_1 w1 =>
  C.conv .u64 x1 w1 fun x10_2 w2 =>
  C.int .mul x8_1 x10_2 w2 fun x11_3 w3 =>
  C.bin Try.prog .shr 115 (.tmp 12) (.const (.int .u64 32)) x11_3 (.int .u64 32) w3 fun x13_4 w4 =>
  C.conv .u32 x13_4 w4 fun x14_5 w5 =>
  C.conv .u32 x11_3 w5 fun x16_6 w6 =>
  K (.tuple #[x14_5, x16_6]) w6)) : C.call Try.prog 107 #[x0, x1] w K := calls_of_vc (A := F107.ann) (args := [x0, x1]) (Eq.mpr (by kernel_rfl) h)

/-! ### 108 math/bits.Mul64 (115, 115) -/
namespace F108
def ann : Ann := ⟨[], [], [], [], none⟩
noncomputable def code : Code := match Try.f108.body with | some c => c | none => .skip
noncomputable def top (K : VK) : QE := retQ Try.prog Try.f108.results.toList K
end F108
theorem F108.sh {K : VK} {x0 x1 : Value} {w : World} (h : (C.bin Try.prog .and 115 (.tmp 14) (.const (.int .u64 4294967295)) x0 (.int .u64 4294967295) w fun x15_1 w1 =>
  C.bin Try.prog .shr 115 (.tmp 16) (.const (.int .u64 32)) x0 (.int .u64 32) w1 fun x17_2 w2 =>
  C.bin Try.prog .and 115 (.tmp 18) (.const (.int .u64 4294967295)) x1 (.int .u64 4294967295) w2 fun x19_3 w3 =>
  C.bin Try.prog .shr 115 (.tmp 20) (.const (.int .u64 32)) x1 (.int .u64 32) w3 fun x21_4 w4 =>
  C.int .mul x15_1 x19_3 w4 fun x24_5 w5 =>
  C.int .mul x17_2 x19_3 w5 fun x27_6 w6 =>
  C.bin Try.prog .shr 115 (.tmp 28) (.const (.int .u64 32)) x24_5 (.int .u64 32) w6 fun x29_7 w7 =>
  C.int .add x27_6 x29_7 w7 fun x30_8 w8 =>
  C.bin Try.prog .and 115 (.tmp 31) (.const (.int .u64 4294967295)) x30_8 (.int .u64 4294967295) w8 fun x32_9 w9 =>
  C.bin Try.prog .shr 115 (.tmp 33) (.const (.int .u64 32)) x30_8 (.int .u64 32) w9 fun x34_10 w10 =>
  C.int .mul x15_1 x21_4 w10 fun x38_11 w11 =>
  C.int .add x32_9 x38_11 w11 fun x39_12 w12 =>
  C.int .mul x17_2 x21_4 w12 fun x42_13 w13 =>
  C.int .add x42_13 x34_10 w13 fun x44_14 w14 =>
  C.bin Try.prog .shr 115 (.tmp 45) (.const (.int .u64 32)) x39_12 (.int .u64 32) w14 fun x46_15 w15 =>
  C.int .add x44_14 x46_15 w15 fun x47_16 w16 =>
  C.int .mul x0 x1 w16 fun x50_17 w17 =>
  K (.tuple #[x47_16, x50_17]) w17)) : C.call Try.prog 108 #[x0, x1] w K := calls_of_vc (A := F108.ann) (args := [x0, x1]) (Eq.mpr (by kernel_rfl) h)

end Go.Proofs.YtfhgjncbhjjbfaaV
