/- What the bodies of these functions ask, as plain statements. Written by gen.py (own work) for the seat Ytckageghbhkklaa. -/
import Derived.Test.YtckageghbhkklaaVc3
import Derived.Test.YtckageghbhkklaaProg
namespace Go.Proofs.YtckageghbhkklaaV
open Go Go.Proofs
set_option linter.unusedVariables false
set_option maxRecDepth 100000

/-! ### 48 scutage/scutageplain.Values (64, 64) -/
namespace F48
def ann : Ann := ⟨[(3, [0, 1]), (5, [0, 1, 5]), (6, [0, 1, 5]), (8, [])], [(4, [0, 1, 5])], [], [(6, (.take 0 (.take 1 (.take 2 (.take 4 (.take 5 (.take 6 (.take 3 (.take 7 (.take 8 .fin))))))))))]⟩
noncomputable def code : Code := match Try.f48.body with | some c => c | none => .skip
noncomputable def top (K : VK) : QE := retQ Try.prog Try.f48.results.toList K
noncomputable def k3 (K : VK) (y0 y1 : Value) (w : World) : Prop := nav ann Try.prog 26 (fun c Q => vcCode ann Try.prog 26 c Q [(0, y0), (1, y1)] w) [1, 1] code (top K)
attribute [irreducible] k3
noncomputable def k8 (K : VK) (w : World) : Prop := nav ann Try.prog 26 (fun c Q => vcCode ann Try.prog 26 c Q [] w) [1, 1, 1] code (top K)
attribute [irreducible] k8
noncomputable def l4 (K : VK) (y0 y1 y5 : Value) (w : World) : Prop := nav ann Try.prog 26 (isLoop Try.prog 26 [(0, y0), (1, y1), (5, y5)] w) [1, 1, 0, 1, 0] code (top K)
attribute [irreducible] l4
noncomputable def k6 (K : VK) (y0 y1 y5 : Value) (w : World) : Prop := nav ann Try.prog 26 (fun c Q => vcCode ann Try.prog 26 c Q [(0, y0), (1, y1), (5, y5)] w) [1, 1, 0, 1, 0, 0, 1] code (top K)
attribute [irreducible] k6
noncomputable def k5 (K : VK) (y0 y1 y5 : Value) (w : World) : Prop := nav ann Try.prog 26 (fun c Q => vcCode ann Try.prog 26 c Q [(0, y0), (1, y1), (5, y5)] w) [1, 1, 0, 1, 0, 0, 1, 1] code (top K)
attribute [irreducible] k5
end F48
theorem F48.k3.to {K : VK} {y0 y1 : Value} {w : World} (h : (F48.l4 K y0 y1 (.int .i64 0) w)) : F48.k3 K y0 y1 w := Eq.mpr (by kernel_rfl) h
theorem F48.k8.to {K : VK} {w : World} (h : (K (.bool true) w)) : F48.k8 K w := Eq.mpr (by kernel_rfl) h
theorem F48.l4.to {K : VK} {y0 y1 y5 : Value} {w : World} (h : (C.len y0 w fun x13_1 w1 =>
  C.int .lss y5 x13_1 w1 fun x14_2 w2 =>
  C.ite x14_2 (F48.k6 K y0 y1 y5 w2) (F48.k8 K w2))) : F48.l4 K y0 y1 y5 w := by unfold F48.l4; exact nav_round (Eq.mpr (by kernel_rfl) h)
theorem F48.k6.to {K : VK} {y0 y1 y5 : Value} {w : World} (h : (C.draw w fun S w1 =>
  C.idx 2 y0 y5 w1 fun x19_2 w2 =>
  C.idx 2 y1 y5 w2 fun x23_3 w3 =>
  C.loadAS S 2 x19_2 w3 fun x20_4 w4 =>
  C.loadAS S 2 x23_3 w4 fun x24_5 w5 =>
  ∃ x25_6, (∀ w', S w' → ((do eqGuard .neq 40 (.tmp 20) (.tmp 24) x20_4 x24_5; binOp .neq 40 x20_4 x24_5 : Sem Value)).run Try.prog w' = .ok x25_6 w') ∧ (C.ite x25_6 (K (.bool false) w5) (F48.k5 K y0 y1 y5 w5)))) : F48.k6 K y0 y1 y5 w := Eq.mpr (by kernel_rfl) h
theorem F48.k5.to {K : VK} {y0 y1 y5 : Value} {w : World} (h : (C.int .add y5 (.int .i64 1) w fun x16_1 w1 =>
  F48.l4 K y0 y1 x16_1 w1)) : F48.k5 K y0 y1 y5 w := Eq.mpr (by kernel_rfl) h
theorem F48.sh {K : VK} {x0 x1 : Value} {w : World} (h : (C.len x0 w fun x7_1 w1 =>
  C.len x1 w1 fun x9_2 w2 =>
  C.int .neq x7_1 x9_2 w2 fun x10_3 w3 =>
  C.ite x10_3 (K (.bool false) w3) (F48.k3 K x0 x1 w3))) : C.call Try.prog 48 #[x0, x1] w K := calls_of_vc (A := F48.ann) (args := [x0, x1]) (Eq.mpr (by kernel_rfl) h)

/-! ### 66 scutage/scutageplain.Ints (68, 68) -/
namespace F66
def ann : Ann := ⟨[(3, [0, 1]), (5, [0, 1, 5]), (6, [0, 1, 5]), (8, [])], [(4, [0, 1, 5])], [], [(6, (.take 0 (.take 1 (.take 2 (.take 4 (.take 5 (.take 6 (.take 3 (.take 7 (.take 8 .fin))))))))))]⟩
noncomputable def code : Code := match Try.f66.body with | some c => c | none => .skip
noncomputable def top (K : VK) : QE := retQ Try.prog Try.f66.results.toList K
noncomputable def k3 (K : VK) (y0 y1 : Value) (w : World) : Prop := nav ann Try.prog 26 (fun c Q => vcCode ann Try.prog 26 c Q [(0, y0), (1, y1)] w) [1, 1] code (top K)
attribute [irreducible] k3
noncomputable def k8 (K : VK) (w : World) : Prop := nav ann Try.prog 26 (fun c Q => vcCode ann Try.prog 26 c Q [] w) [1, 1, 1] code (top K)
attribute [irreducible] k8
noncomputable def l4 (K : VK) (y0 y1 y5 : Value) (w : World) : Prop := nav ann Try.prog 26 (isLoop Try.prog 26 [(0, y0), (1, y1), (5, y5)] w) [1, 1, 0, 1, 0] code (top K)
attribute [irreducible] l4
noncomputable def k6 (K : VK) (y0 y1 y5 : Value) (w : World) : Prop := nav ann Try.prog 26 (fun c Q => vcCode ann Try.prog 26 c Q [(0, y0), (1, y1), (5, y5)] w) [1, 1, 0, 1, 0, 0, 1] code (top K)
attribute [irreducible] k6
noncomputable def k5 (K : VK) (y0 y1 y5 : Value) (w : World) : Prop := nav ann Try.prog 26 (fun c Q => vcCode ann Try.prog 26 c Q [(0, y0), (1, y1), (5, y5)] w) [1, 1, 0, 1, 0, 0, 1, 1] code (top K)
attribute [irreducible] k5
end F66
theorem F66.k3.to {K : VK} {y0 y1 : Value} {w : World} (h : (F66.l4 K y0 y1 (.int .i64 0) w)) : F66.k3 K y0 y1 w := Eq.mpr (by kernel_rfl) h
theorem F66.k8.to {K : VK} {w : World} (h : (K (.bool true) w)) : F66.k8 K w := Eq.mpr (by kernel_rfl) h
theorem F66.l4.to {K : VK} {y0 y1 y5 : Value} {w : World} (h : (C.len y0 w fun x13_1 w1 =>
  C.int .lss y5 x13_1 w1 fun x14_2 w2 =>
  C.ite x14_2 (F66.k6 K y0 y1 y5 w2) (F66.k8 K w2))) : F66.l4 K y0 y1 y5 w := by unfold F66.l4; exact nav_round (Eq.mpr (by kernel_rfl) h)
theorem F66.k6.to {K : VK} {y0 y1 y5 : Value} {w : World} (h : (C.draw w fun S w1 =>
  C.idx 1 y0 y5 w1 fun x19_2 w2 =>
  C.idx 1 y1 y5 w2 fun x23_3 w3 =>
  C.load1S S x19_2 w3 fun x20_4 w4 =>
  C.load1S S x23_3 w4 fun x24_5 w5 =>
  C.int .neq x20_4 x24_5 w5 fun x25_6 w6 =>
  C.ite x25_6 (K (.bool false) w6) (F66.k5 K y0 y1 y5 w6))) : F66.k6 K y0 y1 y5 w := Eq.mpr (by kernel_rfl) h
theorem F66.k5.to {K : VK} {y0 y1 y5 : Value} {w : World} (h : (C.int .add y5 (.int .i64 1) w fun x16_1 w1 =>
  F66.l4 K y0 y1 x16_1 w1)) : F66.k5 K y0 y1 y5 w := Eq.mpr (by kernel_rfl) h
theorem F66.sh {K : VK} {x0 x1 : Value} {w : World} (h : (C.len x0 w fun x7_1 w1 =>
  C.len x1 w1 fun x9_2 w2 =>
  C.int .neq x7_1 x9_2 w2 fun x10_3 w3 =>
  C.ite x10_3 (K (.bool false) w3) (F66.k3 K x0 x1 w3))) : C.call Try.prog 66 #[x0, x1] w K := calls_of_vc (A := F66.ann) (args := [x0, x1]) (Eq.mpr (by kernel_rfl) h)

/-! ### 67 slices.Contains[[]int,int] (68, 3) -/
namespace F67
def ann : Ann := ⟨[], [], [], []⟩
noncomputable def code : Code := match Try.f67.body with | some c => c | none => .skip
noncomputable def top (K : VK) : QE := retQ Try.prog Try.f67.results.toList K
end F67
theorem F67.sh {K : VK} {x0 x1 : Value} {w : World} (h : (C.call Try.prog 76 #[x0, x1] w fun x7_1 w1 =>
  C.int .geq x7_1 (.int .i64 0) w1 fun x8_2 w2 =>
  K x8_2 w2)) : C.call Try.prog 67 #[x0, x1] w K := calls_of_vc (A := F67.ann) (args := [x0, x1]) (Eq.mpr (by kernel_rfl) h)

/-! ### 70 slices.Clone[[]scutage/api.Value,scutage/api.Value] (64) -/
namespace F70
def ann : Ann := ⟨[(3, [0])], [], [], []⟩
noncomputable def code : Code := match Try.f70.body with | some c => c | none => .skip
noncomputable def top (K : VK) : QE := retQ Try.prog Try.f70.results.toList K
noncomputable def k3 (K : VK) (y0 : Value) (w : World) : Prop := nav ann Try.prog 8 (fun c Q => vcCode ann Try.prog 8 c Q [(0, y0)] w) [1, 1] code (top K)
attribute [irreducible] k3
end F70
theorem F70.k3.to {K : VK} {y0 : Value} {w : World} (h : (C.run Try.prog (Instr.buildSlice 64 0 #[]) w fun x5_1 w1 =>
  C.run Try.prog (Builtin.append_ #[64, 64] 64 #[x5_1, y0]) w1 fun x7_2 w2 =>
  K x7_2 w2)) : F70.k3 K y0 w := Eq.mpr (by kernel_rfl) h
theorem F70.sh {K : VK} {x0 : Value} {w : World} (h : (C.bin Try.prog .eql 64 (.tmp 3) (.const (.slice none 0 0)) x0 (.slice none 0 0) w fun x4_1 w1 =>
  C.ite x4_1 (K (.slice none 0 0) w1) (F70.k3 K x0 w1))) : C.call Try.prog 70 #[x0] w K := calls_of_vc (A := F70.ann) (args := [x0]) (Eq.mpr (by kernel_rfl) h)

/-! ### 76 slices.Index[[]int,int] (68, 3) -/
namespace F76
def ann : Ann := ⟨[(3, [0, 1, 7, 8]), (6, [0, 1, 7, 8]), (7, [])], [(2, [0, 1, 7, 8])], [], []⟩
noncomputable def code : Code := match Try.f76.body with | some c => c | none => .skip
noncomputable def top (K : VK) : QE := retQ Try.prog Try.f76.results.toList K
noncomputable def k7 (K : VK) (w : World) : Prop := nav ann Try.prog 19 (fun c Q => vcCode ann Try.prog 19 c Q [] w) [1, 1] code (top K)
attribute [irreducible] k7
noncomputable def l2 (K : VK) (y0 y1 y7 y8 : Value) (w : World) : Prop := nav ann Try.prog 19 (isLoop Try.prog 19 [(0, y0), (1, y1), (7, y7), (8, y8)] w) [1, 0, 1, 0] code (top K)
attribute [irreducible] l2
noncomputable def k3 (K : VK) (y0 y1 y7 y8 : Value) (w : World) : Prop := nav ann Try.prog 19 (fun c Q => vcCode ann Try.prog 19 c Q [(0, y0), (1, y1), (7, y7), (8, y8)] w) [1, 0, 1, 0, 0, 1, 1] code (top K)
attribute [irreducible] k3
noncomputable def k6 (K : VK) (y0 y1 y7 y8 : Value) (w : World) : Prop := nav ann Try.prog 19 (fun c Q => vcCode ann Try.prog 19 c Q [(0, y0), (1, y1), (7, y7), (8, y8)] w) [1, 0, 1, 0, 0, 1, 1, 1] code (top K)
attribute [irreducible] k6
end F76
theorem F76.k7.to {K : VK} {w : World} (h : (K (.int .i64 (-1)) w)) : F76.k7 K w := Eq.mpr (by kernel_rfl) h
theorem F76.l2.to {K : VK} {y0 y1 y7 y8 : Value} {w : World} (h : (C.int .lss y8 y7 w fun x9_1 w1 =>
  C.ite x9_1 (F76.k3 K y0 y1 y7 y8 w1) (F76.k7 K w1))) : F76.l2 K y0 y1 y7 y8 w := by unfold F76.l2; exact nav_round (Eq.mpr (by kernel_rfl) h)
theorem F76.k3.to {K : VK} {y0 y1 y7 y8 : Value} {w : World} (h : (C.idx 1 y0 y8 w fun x14_1 w1 =>
  C.load1 x14_1 w1 fun x15_2 w2 =>
  C.int .eql y1 x15_2 w2 fun x16_3 w3 =>
  C.ite x16_3 (K y8 w3) (F76.k6 K y0 y1 y7 y8 w3))) : F76.k3 K y0 y1 y7 y8 w := Eq.mpr (by kernel_rfl) h
theorem F76.k6.to {K : VK} {y0 y1 y7 y8 : Value} {w : World} (h : (C.int .add y8 (.int .i64 1) w fun x18_1 w1 =>
  F76.l2 K y0 y1 y7 x18_1 w1)) : F76.k6 K y0 y1 y7 y8 w := Eq.mpr (by kernel_rfl) h
theorem F76.sh {K : VK} {x0 x1 : Value} {w : World} (h : (C.len x0 w fun x7_1 w1 =>
  F76.l2 K x0 x1 x7_1 (.int .i64 0) w1)) : C.call Try.prog 76 #[x0, x1] w K := calls_of_vc (A := F76.ann) (args := [x0, x1]) (Eq.mpr (by kernel_rfl) h)

/-! ### 77 scutage/scutageplain.In (68, 3) -/
namespace F77
def ann : Ann := ⟨[(3, [0, 1, 5]), (4, [0, 1, 5]), (6, [])], [(2, [0, 1, 5])], [], []⟩
noncomputable def code : Code := match Try.f77.body with | some c => c | none => .skip
noncomputable def top (K : VK) : QE := retQ Try.prog Try.f77.results.toList K
noncomputable def k6 (K : VK) (w : World) : Prop := nav ann Try.prog 18 (fun c Q => vcCode ann Try.prog 18 c Q [] w) [1, 1] code (top K)
attribute [irreducible] k6
noncomputable def l2 (K : VK) (y0 y1 y5 : Value) (w : World) : Prop := nav ann Try.prog 18 (isLoop Try.prog 18 [(0, y0), (1, y1), (5, y5)] w) [1, 0, 1, 0] code (top K)
attribute [irreducible] l2
noncomputable def k4 (K : VK) (y0 y1 y5 : Value) (w : World) : Prop := nav ann Try.prog 18 (fun c Q => vcCode ann Try.prog 18 c Q [(0, y0), (1, y1), (5, y5)] w) [1, 0, 1, 0, 0, 1] code (top K)
attribute [irreducible] k4
noncomputable def k3 (K : VK) (y0 y1 y5 : Value) (w : World) : Prop := nav ann Try.prog 18 (fun c Q => vcCode ann Try.prog 18 c Q [(0, y0), (1, y1), (5, y5)] w) [1, 0, 1, 0, 0, 1, 1] code (top K)
attribute [irreducible] k3
end F77
theorem F77.k6.to {K : VK} {w : World} (h : (K (.bool false) w)) : F77.k6 K w := Eq.mpr (by kernel_rfl) h
theorem F77.l2.to {K : VK} {y0 y1 y5 : Value} {w : World} (h : (C.len y0 w fun x8_1 w1 =>
  C.int .lss y5 x8_1 w1 fun x9_2 w2 =>
  C.ite x9_2 (F77.k4 K y0 y1 y5 w2) (F77.k6 K w2))) : F77.l2 K y0 y1 y5 w := by unfold F77.l2; exact nav_round (Eq.mpr (by kernel_rfl) h)
theorem F77.k4.to {K : VK} {y0 y1 y5 : Value} {w : World} (h : (C.idx 1 y0 y5 w fun x14_1 w1 =>
  C.load1 x14_1 w1 fun x15_2 w2 =>
  C.int .eql x15_2 y1 w2 fun x17_3 w3 =>
  C.ite x17_3 (K (.bool true) w3) (F77.k3 K y0 y1 y5 w3))) : F77.k4 K y0 y1 y5 w := Eq.mpr (by kernel_rfl) h
theorem F77.k3.to {K : VK} {y0 y1 y5 : Value} {w : World} (h : (C.int .add y5 (.int .i64 1) w fun x11_1 w1 =>
  F77.l2 K y0 y1 x11_1 w1)) : F77.k3 K y0 y1 y5 w := Eq.mpr (by kernel_rfl) h
theorem F77.sh {K : VK} {x0 x1 : Value} {w : World} (h : (F77.l2 K x0 x1 (.int .i64 0) w)) : C.call Try.prog 77 #[x0, x1] w K := calls_of_vc (A := F77.ann) (args := [x0, x1]) (Eq.mpr (by kernel_rfl) h)

end Go.Proofs.YtckageghbhkklaaV
