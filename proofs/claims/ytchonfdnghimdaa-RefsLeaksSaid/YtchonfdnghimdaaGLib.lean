/- What the bodies of these functions ask, as plain statements. Written by gen.py (own work) for the seat Ytchonfdnghimdaa. -/
import Derived.Test.YtchonfdnghimdaaVc3
import Derived.Test.YtchonfdnghimdaaProg
namespace Go.Proofs.YtchonfdnghimdaaV
open Go Go.Proofs
set_option linter.unusedVariables false
set_option maxRecDepth 100000

/-! ### 12 scutage/scutageplain.Ints (23, 23) -/
namespace F12
def ann : Ann := ⟨[(3, [0, 1]), (5, [0, 1, 5]), (6, [0, 1, 5]), (8, [])], [(4, [0, 1, 5])], [], [(6, (.take 0 (.take 1 (.take 2 (.take 4 (.take 5 (.take 6 (.take 3 (.take 7 (.take 8 .fin))))))))))], none⟩
noncomputable def code : Code := match Try.f12.body with | some c => c | none => .skip
noncomputable def top (K : VK) : QE := retQ Try.prog Try.f12.results.toList K
noncomputable def k3 (K : VK) (y0 y1 : Value) (w : World) : Prop := nav ann Try.prog 26 (fun c Q => vcCode ann Try.prog 26 c Q [(0, y0), (1, y1)] w) [1, 1] code (top K)
attribute [irreducible] k3
noncomputable def k8 (K : VK) (w : World) : Prop := nav ann Try.prog 26 (fun c Q => vcCode ann Try.prog 26 c Q [] w) [1, 1, 1] code (top K)
attribute [irreducible] k8
noncomputable def l4 (K : VK) (y0 y1 y5 : Value) (w : World) : Prop := nav ann Try.prog 26 (isLoop ann Try.prog 26 [(0, y0), (1, y1), (5, y5)] w) [1, 1, 0, 1, 0] code (top K)
attribute [irreducible] l4
noncomputable def k6 (K : VK) (y0 y1 y5 : Value) (w : World) : Prop := nav ann Try.prog 26 (fun c Q => vcCode ann Try.prog 26 c Q [(0, y0), (1, y1), (5, y5)] w) [1, 1, 0, 1, 0, 0, 1] code (top K)
attribute [irreducible] k6
noncomputable def k5 (K : VK) (y0 y1 y5 : Value) (w : World) : Prop := nav ann Try.prog 26 (fun c Q => vcCode ann Try.prog 26 c Q [(0, y0), (1, y1), (5, y5)] w) [1, 1, 0, 1, 0, 0, 1, 1] code (top K)
attribute [irreducible] k5
end F12
theorem F12.k3.to {K : VK} {y0 y1 : Value} {w : World} (h : (F12.l4 K y0 y1 (.int .i64 0) w)) : F12.k3 K y0 y1 w := Eq.mpr (by kernel_rfl) h
theorem F12.k8.to {K : VK} {w : World} (h : (K (.bool true) w)) : F12.k8 K w := Eq.mpr (by kernel_rfl) h
theorem F12.l4.to {K : VK} {y0 y1 y5 : Value} {w : World} (h : (C.len y0 w fun x13_1 w1 =>
  C.int .lss y5 x13_1 w1 fun x14_2 w2 =>
  C.ite x14_2 (F12.k6 K y0 y1 y5 w2) (F12.k8 K w2))) : F12.l4 K y0 y1 y5 w := by unfold F12.l4; exact nav_round (Eq.mpr (by kernel_rfl) h)
theorem F12.k6.to {K : VK} {y0 y1 y5 : Value} {w : World} (h : (C.draw w fun S w1 =>
  C.idx 1 y0 y5 w1 fun x19_2 w2 =>
  C.idx 1 y1 y5 w2 fun x23_3 w3 =>
  C.load1S S x19_2 w3 fun x20_4 w4 =>
  C.load1S S x23_3 w4 fun x24_5 w5 =>
  C.int .neq x20_4 x24_5 w5 fun x25_6 w6 =>
  C.ite x25_6 (K (.bool false) w6) (F12.k5 K y0 y1 y5 w6))) : F12.k6 K y0 y1 y5 w := Eq.mpr (by kernel_rfl) h
theorem F12.k5.to {K : VK} {y0 y1 y5 : Value} {w : World} (h : (C.int .add y5 (.int .i64 1) w fun x16_1 w1 =>
  F12.l4 K y0 y1 x16_1 w1)) : F12.k5 K y0 y1 y5 w := Eq.mpr (by kernel_rfl) h
theorem F12.sh {K : VK} {x0 x1 : Value} {w : World} (h : (C.len x0 w fun x7_1 w1 =>
  C.len x1 w1 fun x9_2 w2 =>
  C.int .neq x7_1 x9_2 w2 fun x10_3 w3 =>
  C.ite x10_3 (K (.bool false) w3) (F12.k3 K x0 x1 w3))) : C.call Try.prog 12 #[x0, x1] w K := calls_of_vc (A := F12.ann) (args := [x0, x1]) (Eq.mpr (by kernel_rfl) h)

/-! ### 20 scutage/scutageplain.In (23, 3) -/
namespace F20
def ann : Ann := ⟨[(3, [0, 1, 5]), (4, [0, 1, 5]), (6, [])], [(2, [0, 1, 5])], [], [], none⟩
noncomputable def code : Code := match Try.f20.body with | some c => c | none => .skip
noncomputable def top (K : VK) : QE := retQ Try.prog Try.f20.results.toList K
noncomputable def k6 (K : VK) (w : World) : Prop := nav ann Try.prog 18 (fun c Q => vcCode ann Try.prog 18 c Q [] w) [1, 1] code (top K)
attribute [irreducible] k6
noncomputable def l2 (K : VK) (y0 y1 y5 : Value) (w : World) : Prop := nav ann Try.prog 18 (isLoop ann Try.prog 18 [(0, y0), (1, y1), (5, y5)] w) [1, 0, 1, 0] code (top K)
attribute [irreducible] l2
noncomputable def k4 (K : VK) (y0 y1 y5 : Value) (w : World) : Prop := nav ann Try.prog 18 (fun c Q => vcCode ann Try.prog 18 c Q [(0, y0), (1, y1), (5, y5)] w) [1, 0, 1, 0, 0, 1] code (top K)
attribute [irreducible] k4
noncomputable def k3 (K : VK) (y0 y1 y5 : Value) (w : World) : Prop := nav ann Try.prog 18 (fun c Q => vcCode ann Try.prog 18 c Q [(0, y0), (1, y1), (5, y5)] w) [1, 0, 1, 0, 0, 1, 1] code (top K)
attribute [irreducible] k3
end F20
theorem F20.k6.to {K : VK} {w : World} (h : (K (.bool false) w)) : F20.k6 K w := Eq.mpr (by kernel_rfl) h
theorem F20.l2.to {K : VK} {y0 y1 y5 : Value} {w : World} (h : (C.len y0 w fun x8_1 w1 =>
  C.int .lss y5 x8_1 w1 fun x9_2 w2 =>
  C.ite x9_2 (F20.k4 K y0 y1 y5 w2) (F20.k6 K w2))) : F20.l2 K y0 y1 y5 w := by unfold F20.l2; exact nav_round (Eq.mpr (by kernel_rfl) h)
theorem F20.k4.to {K : VK} {y0 y1 y5 : Value} {w : World} (h : (C.idx 1 y0 y5 w fun x14_1 w1 =>
  C.load1 x14_1 w1 fun x15_2 w2 =>
  C.int .eql x15_2 y1 w2 fun x17_3 w3 =>
  C.ite x17_3 (K (.bool true) w3) (F20.k3 K y0 y1 y5 w3))) : F20.k4 K y0 y1 y5 w := Eq.mpr (by kernel_rfl) h
theorem F20.k3.to {K : VK} {y0 y1 y5 : Value} {w : World} (h : (C.int .add y5 (.int .i64 1) w fun x11_1 w1 =>
  F20.l2 K y0 y1 x11_1 w1)) : F20.k3 K y0 y1 y5 w := Eq.mpr (by kernel_rfl) h
theorem F20.sh {K : VK} {x0 x1 : Value} {w : World} (h : (F20.l2 K x0 x1 (.int .i64 0) w)) : C.call Try.prog 20 #[x0, x1] w K := calls_of_vc (A := F20.ann) (args := [x0, x1]) (Eq.mpr (by kernel_rfl) h)

/-! ### 29 slices.Contains[[]int,int] (23, 3) -/
namespace F29
def ann : Ann := ⟨[], [], [], [], none⟩
noncomputable def code : Code := match Try.f29.body with | some c => c | none => .skip
noncomputable def top (K : VK) : QE := retQ Try.prog Try.f29.results.toList K
end F29
theorem F29.sh {K : VK} {x0 x1 : Value} {w : World} (h : (C.call Try.prog 47 #[x0, x1] w fun x7_1 w1 =>
  C.int .geq x7_1 (.int .i64 0) w1 fun x8_2 w2 =>
  K x8_2 w2)) : C.call Try.prog 29 #[x0, x1] w K := calls_of_vc (A := F29.ann) (args := [x0, x1]) (Eq.mpr (by kernel_rfl) h)

/-! ### 30 slices.ContainsFunc[[][]int,[]int] (22, 52) -/
namespace F30
def ann : Ann := ⟨[], [], [], [], none⟩
noncomputable def code : Code := match Try.f30.body with | some c => c | none => .skip
noncomputable def top (K : VK) : QE := retQ Try.prog Try.f30.results.toList K
end F30
theorem F30.sh {K : VK} {x0 x1 : Value} {w : World} (h : (C.call Try.prog 48 #[x0, x1] w fun x7_1 w1 =>
  C.int .geq x7_1 (.int .i64 0) w1 fun x8_2 w2 =>
  K x8_2 w2)) : C.call Try.prog 30 #[x0, x1] w K := calls_of_vc (A := F30.ann) (args := [x0, x1]) (Eq.mpr (by kernel_rfl) h)

/-! ### 31 scutage/scc.Same$1 (23) -/
namespace F31
def ann : Ann := ⟨[], [], [], [], none⟩
noncomputable def code : Code := match Try.f31.body with | some c => c | none => .skip
noncomputable def top (K : VK) : QE := retQ Try.prog Try.f31.results.toList K
end F31
theorem F31.sh {K : VK} {x0 x1 x2 : Value} {w : World} (h : (C.load1 x1 w fun x6_1 w1 =>
  C.call Try.prog 29 #[x0, x6_1] w1 fun x7_2 w2 =>
  C.guarded true x7_2 (fun K => K x0 w2) w2 fun x9_3 w3 =>
  C.guarded true x7_2 (fun K => C.load1 x2 w3 K) w3 fun x10_4 w4 =>
  C.guarded true x7_2 (fun K => C.call Try.prog 29 #[x9_3, x10_4] w4 K) w4 fun x11_5 w5 =>
  C.pick (some x7_2) (some x11_5) (some (.bool false)) w5 fun x12_6 w6 =>
  K x12_6 w6)) : C.call Try.prog 31 #[x0, x1, x2] w K := calls_of_vc (A := F31.ann) (args := [x0, x1, x2]) (Eq.mpr (by kernel_rfl) h)

/-! ### 32 slices.ContainsFunc[[]int,int] (23, 54) -/
namespace F32
def ann : Ann := ⟨[], [], [], [], none⟩
noncomputable def code : Code := match Try.f32.body with | some c => c | none => .skip
noncomputable def top (K : VK) : QE := retQ Try.prog Try.f32.results.toList K
end F32
theorem F32.sh {K : VK} {x0 x1 : Value} {w : World} (h : (C.call Try.prog 49 #[x0, x1] w fun x7_1 w1 =>
  C.int .geq x7_1 (.int .i64 0) w1 fun x8_2 w2 =>
  K x8_2 w2)) : C.call Try.prog 32 #[x0, x1] w K := calls_of_vc (A := F32.ann) (args := [x0, x1]) (Eq.mpr (by kernel_rfl) h)

/-! ### 47 slices.Index[[]int,int] (23, 3) -/
namespace F47
def ann : Ann := ⟨[(3, [0, 1, 7, 8]), (6, [0, 1, 7, 8]), (7, [])], [(2, [0, 1, 7, 8])], [], [], none⟩
noncomputable def code : Code := match Try.f47.body with | some c => c | none => .skip
noncomputable def top (K : VK) : QE := retQ Try.prog Try.f47.results.toList K
noncomputable def k7 (K : VK) (w : World) : Prop := nav ann Try.prog 19 (fun c Q => vcCode ann Try.prog 19 c Q [] w) [1, 1] code (top K)
attribute [irreducible] k7
noncomputable def l2 (K : VK) (y0 y1 y7 y8 : Value) (w : World) : Prop := nav ann Try.prog 19 (isLoop ann Try.prog 19 [(0, y0), (1, y1), (7, y7), (8, y8)] w) [1, 0, 1, 0] code (top K)
attribute [irreducible] l2
noncomputable def k3 (K : VK) (y0 y1 y7 y8 : Value) (w : World) : Prop := nav ann Try.prog 19 (fun c Q => vcCode ann Try.prog 19 c Q [(0, y0), (1, y1), (7, y7), (8, y8)] w) [1, 0, 1, 0, 0, 1, 1] code (top K)
attribute [irreducible] k3
noncomputable def k6 (K : VK) (y0 y1 y7 y8 : Value) (w : World) : Prop := nav ann Try.prog 19 (fun c Q => vcCode ann Try.prog 19 c Q [(0, y0), (1, y1), (7, y7), (8, y8)] w) [1, 0, 1, 0, 0, 1, 1, 1] code (top K)
attribute [irreducible] k6
end F47
theorem F47.k7.to {K : VK} {w : World} (h : (K (.int .i64 (-1)) w)) : F47.k7 K w := Eq.mpr (by kernel_rfl) h
theorem F47.l2.to {K : VK} {y0 y1 y7 y8 : Value} {w : World} (h : (C.int .lss y8 y7 w fun x9_1 w1 =>
  C.ite x9_1 (F47.k3 K y0 y1 y7 y8 w1) (F47.k7 K w1))) : F47.l2 K y0 y1 y7 y8 w := by unfold F47.l2; exact nav_round (Eq.mpr (by kernel_rfl) h)
theorem F47.k3.to {K : VK} {y0 y1 y7 y8 : Value} {w : World} (h : (C.idx 1 y0 y8 w fun x14_1 w1 =>
  C.load1 x14_1 w1 fun x15_2 w2 =>
  C.int .eql y1 x15_2 w2 fun x16_3 w3 =>
  C.ite x16_3 (K y8 w3) (F47.k6 K y0 y1 y7 y8 w3))) : F47.k3 K y0 y1 y7 y8 w := Eq.mpr (by kernel_rfl) h
theorem F47.k6.to {K : VK} {y0 y1 y7 y8 : Value} {w : World} (h : (C.int .add y8 (.int .i64 1) w fun x18_1 w1 =>
  F47.l2 K y0 y1 y7 x18_1 w1)) : F47.k6 K y0 y1 y7 y8 w := Eq.mpr (by kernel_rfl) h
theorem F47.sh {K : VK} {x0 x1 : Value} {w : World} (h : (C.len x0 w fun x7_1 w1 =>
  F47.l2 K x0 x1 x7_1 (.int .i64 0) w1)) : C.call Try.prog 47 #[x0, x1] w K := calls_of_vc (A := F47.ann) (args := [x0, x1]) (Eq.mpr (by kernel_rfl) h)

/-! ### 48 slices.IndexFunc[[][]int,[]int] (22, 52) -/
namespace F48
def ann : Ann := ⟨[(3, [0, 1, 7, 8]), (6, [0, 1, 7, 8]), (7, [])], [(2, [0, 1, 7, 8])], [], [], none⟩
noncomputable def code : Code := match Try.f48.body with | some c => c | none => .skip
noncomputable def top (K : VK) : QE := retQ Try.prog Try.f48.results.toList K
noncomputable def k7 (K : VK) (w : World) : Prop := nav ann Try.prog 19 (fun c Q => vcCode ann Try.prog 19 c Q [] w) [1, 1] code (top K)
attribute [irreducible] k7
noncomputable def l2 (K : VK) (y0 y1 y7 y8 : Value) (w : World) : Prop := nav ann Try.prog 19 (isLoop ann Try.prog 19 [(0, y0), (1, y1), (7, y7), (8, y8)] w) [1, 0, 1, 0] code (top K)
attribute [irreducible] l2
noncomputable def k3 (K : VK) (y0 y1 y7 y8 : Value) (w : World) : Prop := nav ann Try.prog 19 (fun c Q => vcCode ann Try.prog 19 c Q [(0, y0), (1, y1), (7, y7), (8, y8)] w) [1, 0, 1, 0, 0, 1, 1] code (top K)
attribute [irreducible] k3
noncomputable def k6 (K : VK) (y0 y1 y7 y8 : Value) (w : World) : Prop := nav ann Try.prog 19 (fun c Q => vcCode ann Try.prog 19 c Q [(0, y0), (1, y1), (7, y7), (8, y8)] w) [1, 0, 1, 0, 0, 1, 1, 1] code (top K)
attribute [irreducible] k6
end F48
theorem F48.k7.to {K : VK} {w : World} (h : (K (.int .i64 (-1)) w)) : F48.k7 K w := Eq.mpr (by kernel_rfl) h
theorem F48.l2.to {K : VK} {y0 y1 y7 y8 : Value} {w : World} (h : (C.int .lss y8 y7 w fun x9_1 w1 =>
  C.ite x9_1 (F48.k3 K y0 y1 y7 y8 w1) (F48.k7 K w1))) : F48.l2 K y0 y1 y7 y8 w := by unfold F48.l2; exact nav_round (Eq.mpr (by kernel_rfl) h)
theorem F48.k3.to {K : VK} {y0 y1 y7 y8 : Value} {w : World} (h : (C.idx 1 y0 y8 w fun x14_1 w1 =>
  C.load1 x14_1 w1 fun x15_2 w2 =>
  vcCall Try.prog y1 [x15_2] w2 fun x16_3 w3 =>
  C.ite x16_3 (K y8 w3) (F48.k6 K y0 y1 y7 y8 w3))) : F48.k3 K y0 y1 y7 y8 w := Eq.mpr (by kernel_rfl) h
theorem F48.k6.to {K : VK} {y0 y1 y7 y8 : Value} {w : World} (h : (C.int .add y8 (.int .i64 1) w fun x18_1 w1 =>
  F48.l2 K y0 y1 y7 x18_1 w1)) : F48.k6 K y0 y1 y7 y8 w := Eq.mpr (by kernel_rfl) h
theorem F48.sh {K : VK} {x0 x1 : Value} {w : World} (h : (C.len x0 w fun x7_1 w1 =>
  F48.l2 K x0 x1 x7_1 (.int .i64 0) w1)) : C.call Try.prog 48 #[x0, x1] w K := calls_of_vc (A := F48.ann) (args := [x0, x1]) (Eq.mpr (by kernel_rfl) h)

/-! ### 49 slices.IndexFunc[[]int,int] (23, 54) -/
namespace F49
def ann : Ann := ⟨[(3, [0, 1, 7, 8]), (6, [0, 1, 7, 8]), (7, [])], [(2, [0, 1, 7, 8])], [], [], none⟩
noncomputable def code : Code := match Try.f49.body with | some c => c | none => .skip
noncomputable def top (K : VK) : QE := retQ Try.prog Try.f49.results.toList K
noncomputable def k7 (K : VK) (w : World) : Prop := nav ann Try.prog 19 (fun c Q => vcCode ann Try.prog 19 c Q [] w) [1, 1] code (top K)
attribute [irreducible] k7
noncomputable def l2 (K : VK) (y0 y1 y7 y8 : Value) (w : World) : Prop := nav ann Try.prog 19 (isLoop ann Try.prog 19 [(0, y0), (1, y1), (7, y7), (8, y8)] w) [1, 0, 1, 0] code (top K)
attribute [irreducible] l2
noncomputable def k3 (K : VK) (y0 y1 y7 y8 : Value) (w : World) : Prop := nav ann Try.prog 19 (fun c Q => vcCode ann Try.prog 19 c Q [(0, y0), (1, y1), (7, y7), (8, y8)] w) [1, 0, 1, 0, 0, 1, 1] code (top K)
attribute [irreducible] k3
noncomputable def k6 (K : VK) (y0 y1 y7 y8 : Value) (w : World) : Prop := nav ann Try.prog 19 (fun c Q => vcCode ann Try.prog 19 c Q [(0, y0), (1, y1), (7, y7), (8, y8)] w) [1, 0, 1, 0, 0, 1, 1, 1] code (top K)
attribute [irreducible] k6
end F49
theorem F49.k7.to {K : VK} {w : World} (h : (K (.int .i64 (-1)) w)) : F49.k7 K w := Eq.mpr (by kernel_rfl) h
theorem F49.l2.to {K : VK} {y0 y1 y7 y8 : Value} {w : World} (h : (C.int .lss y8 y7 w fun x9_1 w1 =>
  C.ite x9_1 (F49.k3 K y0 y1 y7 y8 w1) (F49.k7 K w1))) : F49.l2 K y0 y1 y7 y8 w := by unfold F49.l2; exact nav_round (Eq.mpr (by kernel_rfl) h)
theorem F49.k3.to {K : VK} {y0 y1 y7 y8 : Value} {w : World} (h : (C.idx 1 y0 y8 w fun x14_1 w1 =>
  C.load1 x14_1 w1 fun x15_2 w2 =>
  vcCall Try.prog y1 [x15_2] w2 fun x16_3 w3 =>
  C.ite x16_3 (K y8 w3) (F49.k6 K y0 y1 y7 y8 w3))) : F49.k3 K y0 y1 y7 y8 w := Eq.mpr (by kernel_rfl) h
theorem F49.k6.to {K : VK} {y0 y1 y7 y8 : Value} {w : World} (h : (C.int .add y8 (.int .i64 1) w fun x18_1 w1 =>
  F49.l2 K y0 y1 y7 x18_1 w1)) : F49.k6 K y0 y1 y7 y8 w := Eq.mpr (by kernel_rfl) h
theorem F49.sh {K : VK} {x0 x1 : Value} {w : World} (h : (C.len x0 w fun x7_1 w1 =>
  F49.l2 K x0 x1 x7_1 (.int .i64 0) w1)) : C.call Try.prog 49 #[x0, x1] w K := calls_of_vc (A := F49.ann) (args := [x0, x1]) (Eq.mpr (by kernel_rfl) h)

end Go.Proofs.YtchonfdnghimdaaV
