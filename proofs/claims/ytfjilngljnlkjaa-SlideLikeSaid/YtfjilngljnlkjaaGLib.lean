/- What the bodies of these functions ask, as plain statements. Written by gen.py (own work) for the seat Ytfjilngljnlkjaa. -/
import Derived.Test.YtfjilngljnlkjaaVc3
import Derived.Test.YtfjilngljnlkjaaProg
namespace Go.Proofs.YtfjilngljnlkjaaV
open Go Go.Proofs
set_option linter.unusedVariables false
set_option maxRecDepth 100000

/-! ### 51 slices.ContainsFunc[[]int64,int64] (22, 95) -/
namespace F51
def ann : Ann := ⟨[], [], [], [], none⟩
noncomputable def code : Code := match Try.f51.body with | some c => c | none => .skip
noncomputable def top (K : VK) : QE := retQ Try.prog Try.f51.results.toList K
end F51
theorem F51.sh {K : VK} {x0 x1 : Value} {w : World} (h : (C.call Try.prog 70 #[x0, x1] w fun x7_1 w1 =>
  C.int .geq x7_1 (.int .i64 0) w1 fun x8_2 w2 =>
  K x8_2 w2)) : C.call Try.prog 51 #[x0, x1] w K := calls_of_vc (A := F51.ann) (args := [x0, x1]) (Eq.mpr (by kernel_rfl) h)

/-! ### 62 slices.Clone[[]int64,int64] (22) -/
namespace F62
def ann : Ann := ⟨[(3, [0])], [], [], [], none⟩
noncomputable def code : Code := match Try.f62.body with | some c => c | none => .skip
noncomputable def top (K : VK) : QE := retQ Try.prog Try.f62.results.toList K
noncomputable def k3 (K : VK) (y0 : Value) (w : World) : Prop := nav ann Try.prog 8 (fun c Q => vcCode ann Try.prog 8 c Q [(0, y0)] w) [1, 1] code (top K)
attribute [irreducible] k3
end F62
theorem F62.k3.to {K : VK} {y0 : Value} {w : World} (h : (C.run Try.prog (Instr.buildSlice 22 0 #[]) w fun x5_1 w1 =>
  C.run Try.prog (Builtin.append_ #[22, 22] 22 #[x5_1, y0]) w1 fun x7_2 w2 =>
  K x7_2 w2)) : F62.k3 K y0 w := Eq.mpr (by kernel_rfl) h
theorem F62.sh {K : VK} {x0 : Value} {w : World} (h : (C.bin Try.prog .eql 22 (.tmp 3) (.const (.slice none 0 0)) x0 (.slice none 0 0) w fun x4_1 w1 =>
  C.ite x4_1 (K (.slice none 0 0) w1) (F62.k3 K x0 w1))) : C.call Try.prog 62 #[x0] w K := calls_of_vc (A := F62.ann) (args := [x0]) (Eq.mpr (by kernel_rfl) h)

/-! ### 64 slices.IndexFunc[[]scutage/slide.Move,scutage/slide.Move] (52, 106) -/
namespace F64
def ann : Ann := ⟨[(3, [0, 1, 7, 8]), (6, [0, 1, 7, 8]), (7, [])], [(2, [0, 1, 7, 8])], [], [], none⟩
noncomputable def code : Code := match Try.f64.body with | some c => c | none => .skip
noncomputable def top (K : VK) : QE := retQ Try.prog Try.f64.results.toList K
noncomputable def k7 (K : VK) (w : World) : Prop := nav ann Try.prog 19 (fun c Q => vcCode ann Try.prog 19 c Q [] w) [1, 1] code (top K)
attribute [irreducible] k7
noncomputable def l2 (K : VK) (y0 y1 y7 y8 : Value) (w : World) : Prop := nav ann Try.prog 19 (isLoop ann Try.prog 19 [(0, y0), (1, y1), (7, y7), (8, y8)] w) [1, 0, 1, 0] code (top K)
attribute [irreducible] l2
noncomputable def k3 (K : VK) (y0 y1 y7 y8 : Value) (w : World) : Prop := nav ann Try.prog 19 (fun c Q => vcCode ann Try.prog 19 c Q [(0, y0), (1, y1), (7, y7), (8, y8)] w) [1, 0, 1, 0, 0, 1, 1] code (top K)
attribute [irreducible] k3
noncomputable def k6 (K : VK) (y0 y1 y7 y8 : Value) (w : World) : Prop := nav ann Try.prog 19 (fun c Q => vcCode ann Try.prog 19 c Q [(0, y0), (1, y1), (7, y7), (8, y8)] w) [1, 0, 1, 0, 0, 1, 1, 1] code (top K)
attribute [irreducible] k6
end F64
theorem F64.k7.to {K : VK} {w : World} (h : (K (.int .i64 (-1)) w)) : F64.k7 K w := Eq.mpr (by kernel_rfl) h
theorem F64.l2.to {K : VK} {y0 y1 y7 y8 : Value} {w : World} (h : (C.int .lss y8 y7 w fun x9_1 w1 =>
  C.ite x9_1 (F64.k3 K y0 y1 y7 y8 w1) (F64.k7 K w1))) : F64.l2 K y0 y1 y7 y8 w := by unfold F64.l2; exact nav_round (Eq.mpr (by kernel_rfl) h)
theorem F64.k3.to {K : VK} {y0 y1 y7 y8 : Value} {w : World} (h : (C.idx 2 y0 y8 w fun x14_1 w1 =>
  C.loadA 2 x14_1 w1 fun x15_2 w2 =>
  vcCall Try.prog y1 [x15_2] w2 fun x16_3 w3 =>
  C.ite x16_3 (K y8 w3) (F64.k6 K y0 y1 y7 y8 w3))) : F64.k3 K y0 y1 y7 y8 w := Eq.mpr (by kernel_rfl) h
theorem F64.k6.to {K : VK} {y0 y1 y7 y8 : Value} {w : World} (h : (C.int .add y8 (.int .i64 1) w fun x18_1 w1 =>
  F64.l2 K y0 y1 y7 x18_1 w1)) : F64.k6 K y0 y1 y7 y8 w := Eq.mpr (by kernel_rfl) h
theorem F64.sh {K : VK} {x0 x1 : Value} {w : World} (h : (C.len x0 w fun x7_1 w1 =>
  F64.l2 K x0 x1 x7_1 (.int .i64 0) w1)) : C.call Try.prog 64 #[x0, x1] w K := calls_of_vc (A := F64.ann) (args := [x0, x1]) (Eq.mpr (by kernel_rfl) h)

/-! ### 68 slices.Contains[[]int,int] (26, 3) -/
namespace F68
def ann : Ann := ⟨[], [], [], [], none⟩
noncomputable def code : Code := match Try.f68.body with | some c => c | none => .skip
noncomputable def top (K : VK) : QE := retQ Try.prog Try.f68.results.toList K
end F68
theorem F68.sh {K : VK} {x0 x1 : Value} {w : World} (h : (C.call Try.prog 87 #[x0, x1] w fun x7_1 w1 =>
  C.int .geq x7_1 (.int .i64 0) w1 fun x8_2 w2 =>
  K x8_2 w2)) : C.call Try.prog 68 #[x0, x1] w K := calls_of_vc (A := F68.ann) (args := [x0, x1]) (Eq.mpr (by kernel_rfl) h)

/-! ### 70 slices.IndexFunc[[]int64,int64] (22, 95) -/
namespace F70
def ann : Ann := ⟨[(3, [0, 1, 7, 8]), (6, [0, 1, 7, 8]), (7, [])], [(2, [0, 1, 7, 8])], [], [], none⟩
noncomputable def code : Code := match Try.f70.body with | some c => c | none => .skip
noncomputable def top (K : VK) : QE := retQ Try.prog Try.f70.results.toList K
noncomputable def k7 (K : VK) (w : World) : Prop := nav ann Try.prog 19 (fun c Q => vcCode ann Try.prog 19 c Q [] w) [1, 1] code (top K)
attribute [irreducible] k7
noncomputable def l2 (K : VK) (y0 y1 y7 y8 : Value) (w : World) : Prop := nav ann Try.prog 19 (isLoop ann Try.prog 19 [(0, y0), (1, y1), (7, y7), (8, y8)] w) [1, 0, 1, 0] code (top K)
attribute [irreducible] l2
noncomputable def k3 (K : VK) (y0 y1 y7 y8 : Value) (w : World) : Prop := nav ann Try.prog 19 (fun c Q => vcCode ann Try.prog 19 c Q [(0, y0), (1, y1), (7, y7), (8, y8)] w) [1, 0, 1, 0, 0, 1, 1] code (top K)
attribute [irreducible] k3
noncomputable def k6 (K : VK) (y0 y1 y7 y8 : Value) (w : World) : Prop := nav ann Try.prog 19 (fun c Q => vcCode ann Try.prog 19 c Q [(0, y0), (1, y1), (7, y7), (8, y8)] w) [1, 0, 1, 0, 0, 1, 1, 1] code (top K)
attribute [irreducible] k6
end F70
theorem F70.k7.to {K : VK} {w : World} (h : (K (.int .i64 (-1)) w)) : F70.k7 K w := Eq.mpr (by kernel_rfl) h
theorem F70.l2.to {K : VK} {y0 y1 y7 y8 : Value} {w : World} (h : (C.int .lss y8 y7 w fun x9_1 w1 =>
  C.ite x9_1 (F70.k3 K y0 y1 y7 y8 w1) (F70.k7 K w1))) : F70.l2 K y0 y1 y7 y8 w := by unfold F70.l2; exact nav_round (Eq.mpr (by kernel_rfl) h)
theorem F70.k3.to {K : VK} {y0 y1 y7 y8 : Value} {w : World} (h : (C.idx 1 y0 y8 w fun x14_1 w1 =>
  C.load1 x14_1 w1 fun x15_2 w2 =>
  vcCall Try.prog y1 [x15_2] w2 fun x16_3 w3 =>
  C.ite x16_3 (K y8 w3) (F70.k6 K y0 y1 y7 y8 w3))) : F70.k3 K y0 y1 y7 y8 w := Eq.mpr (by kernel_rfl) h
theorem F70.k6.to {K : VK} {y0 y1 y7 y8 : Value} {w : World} (h : (C.int .add y8 (.int .i64 1) w fun x18_1 w1 =>
  F70.l2 K y0 y1 y7 x18_1 w1)) : F70.k6 K y0 y1 y7 y8 w := Eq.mpr (by kernel_rfl) h
theorem F70.sh {K : VK} {x0 x1 : Value} {w : World} (h : (C.len x0 w fun x7_1 w1 =>
  F70.l2 K x0 x1 x7_1 (.int .i64 0) w1)) : C.call Try.prog 70 #[x0, x1] w K := calls_of_vc (A := F70.ann) (args := [x0, x1]) (Eq.mpr (by kernel_rfl) h)

/-! ### 87 slices.Index[[]int,int] (26, 3) -/
namespace F87
def ann : Ann := ⟨[(3, [0, 1, 7, 8]), (6, [0, 1, 7, 8]), (7, [])], [(2, [0, 1, 7, 8])], [], [], none⟩
noncomputable def code : Code := match Try.f87.body with | some c => c | none => .skip
noncomputable def top (K : VK) : QE := retQ Try.prog Try.f87.results.toList K
noncomputable def k7 (K : VK) (w : World) : Prop := nav ann Try.prog 19 (fun c Q => vcCode ann Try.prog 19 c Q [] w) [1, 1] code (top K)
attribute [irreducible] k7
noncomputable def l2 (K : VK) (y0 y1 y7 y8 : Value) (w : World) : Prop := nav ann Try.prog 19 (isLoop ann Try.prog 19 [(0, y0), (1, y1), (7, y7), (8, y8)] w) [1, 0, 1, 0] code (top K)
attribute [irreducible] l2
noncomputable def k3 (K : VK) (y0 y1 y7 y8 : Value) (w : World) : Prop := nav ann Try.prog 19 (fun c Q => vcCode ann Try.prog 19 c Q [(0, y0), (1, y1), (7, y7), (8, y8)] w) [1, 0, 1, 0, 0, 1, 1] code (top K)
attribute [irreducible] k3
noncomputable def k6 (K : VK) (y0 y1 y7 y8 : Value) (w : World) : Prop := nav ann Try.prog 19 (fun c Q => vcCode ann Try.prog 19 c Q [(0, y0), (1, y1), (7, y7), (8, y8)] w) [1, 0, 1, 0, 0, 1, 1, 1] code (top K)
attribute [irreducible] k6
end F87
theorem F87.k7.to {K : VK} {w : World} (h : (K (.int .i64 (-1)) w)) : F87.k7 K w := Eq.mpr (by kernel_rfl) h
theorem F87.l2.to {K : VK} {y0 y1 y7 y8 : Value} {w : World} (h : (C.int .lss y8 y7 w fun x9_1 w1 =>
  C.ite x9_1 (F87.k3 K y0 y1 y7 y8 w1) (F87.k7 K w1))) : F87.l2 K y0 y1 y7 y8 w := by unfold F87.l2; exact nav_round (Eq.mpr (by kernel_rfl) h)
theorem F87.k3.to {K : VK} {y0 y1 y7 y8 : Value} {w : World} (h : (C.idx 1 y0 y8 w fun x14_1 w1 =>
  C.load1 x14_1 w1 fun x15_2 w2 =>
  C.int .eql y1 x15_2 w2 fun x16_3 w3 =>
  C.ite x16_3 (K y8 w3) (F87.k6 K y0 y1 y7 y8 w3))) : F87.k3 K y0 y1 y7 y8 w := Eq.mpr (by kernel_rfl) h
theorem F87.k6.to {K : VK} {y0 y1 y7 y8 : Value} {w : World} (h : (C.int .add y8 (.int .i64 1) w fun x18_1 w1 =>
  F87.l2 K y0 y1 y7 x18_1 w1)) : F87.k6 K y0 y1 y7 y8 w := Eq.mpr (by kernel_rfl) h
theorem F87.sh {K : VK} {x0 x1 : Value} {w : World} (h : (C.len x0 w fun x7_1 w1 =>
  F87.l2 K x0 x1 x7_1 (.int .i64 0) w1)) : C.call Try.prog 87 #[x0, x1] w K := calls_of_vc (A := F87.ann) (args := [x0, x1]) (Eq.mpr (by kernel_rfl) h)

/-! ### 14 scutage/scutageplain.Ints (26, 26) -/
namespace F14
def ann : Ann := ⟨[(3, [0, 1]), (5, [0, 1, 5]), (6, [0, 1, 5]), (8, [])], [(4, [0, 1, 5])], [], [(6, (.take 0 (.take 1 (.take 2 (.take 4 (.take 5 (.take 6 (.take 3 (.take 7 (.take 8 .fin))))))))))], none⟩
noncomputable def code : Code := match Try.f14.body with | some c => c | none => .skip
noncomputable def top (K : VK) : QE := retQ Try.prog Try.f14.results.toList K
noncomputable def k3 (K : VK) (y0 y1 : Value) (w : World) : Prop := nav ann Try.prog 26 (fun c Q => vcCode ann Try.prog 26 c Q [(0, y0), (1, y1)] w) [1, 1] code (top K)
attribute [irreducible] k3
noncomputable def k8 (K : VK) (w : World) : Prop := nav ann Try.prog 26 (fun c Q => vcCode ann Try.prog 26 c Q [] w) [1, 1, 1] code (top K)
attribute [irreducible] k8
noncomputable def l4 (K : VK) (y0 y1 y5 : Value) (w : World) : Prop := nav ann Try.prog 26 (isLoop ann Try.prog 26 [(0, y0), (1, y1), (5, y5)] w) [1, 1, 0, 1, 0] code (top K)
attribute [irreducible] l4
noncomputable def k6 (K : VK) (y0 y1 y5 : Value) (w : World) : Prop := nav ann Try.prog 26 (fun c Q => vcCode ann Try.prog 26 c Q [(0, y0), (1, y1), (5, y5)] w) [1, 1, 0, 1, 0, 0, 1] code (top K)
attribute [irreducible] k6
noncomputable def k5 (K : VK) (y0 y1 y5 : Value) (w : World) : Prop := nav ann Try.prog 26 (fun c Q => vcCode ann Try.prog 26 c Q [(0, y0), (1, y1), (5, y5)] w) [1, 1, 0, 1, 0, 0, 1, 1] code (top K)
attribute [irreducible] k5
end F14
theorem F14.k3.to {K : VK} {y0 y1 : Value} {w : World} (h : (F14.l4 K y0 y1 (.int .i64 0) w)) : F14.k3 K y0 y1 w := Eq.mpr (by kernel_rfl) h
theorem F14.k8.to {K : VK} {w : World} (h : (K (.bool true) w)) : F14.k8 K w := Eq.mpr (by kernel_rfl) h
theorem F14.l4.to {K : VK} {y0 y1 y5 : Value} {w : World} (h : (C.len y0 w fun x13_1 w1 =>
  C.int .lss y5 x13_1 w1 fun x14_2 w2 =>
  C.ite x14_2 (F14.k6 K y0 y1 y5 w2) (F14.k8 K w2))) : F14.l4 K y0 y1 y5 w := by unfold F14.l4; exact nav_round (Eq.mpr (by kernel_rfl) h)
theorem F14.k6.to {K : VK} {y0 y1 y5 : Value} {w : World} (h : (C.draw w fun S w1 =>
  C.idx 1 y0 y5 w1 fun x19_2 w2 =>
  C.idx 1 y1 y5 w2 fun x23_3 w3 =>
  C.load1S S x19_2 w3 fun x20_4 w4 =>
  C.load1S S x23_3 w4 fun x24_5 w5 =>
  C.int .neq x20_4 x24_5 w5 fun x25_6 w6 =>
  C.ite x25_6 (K (.bool false) w6) (F14.k5 K y0 y1 y5 w6))) : F14.k6 K y0 y1 y5 w := Eq.mpr (by kernel_rfl) h
theorem F14.k5.to {K : VK} {y0 y1 y5 : Value} {w : World} (h : (C.int .add y5 (.int .i64 1) w fun x16_1 w1 =>
  F14.l4 K y0 y1 x16_1 w1)) : F14.k5 K y0 y1 y5 w := Eq.mpr (by kernel_rfl) h
theorem F14.sh {K : VK} {x0 x1 : Value} {w : World} (h : (C.len x0 w fun x7_1 w1 =>
  C.len x1 w1 fun x9_2 w2 =>
  C.int .neq x7_1 x9_2 w2 fun x10_3 w3 =>
  C.ite x10_3 (K (.bool false) w3) (F14.k3 K x0 x1 w3))) : C.call Try.prog 14 #[x0, x1] w K := calls_of_vc (A := F14.ann) (args := [x0, x1]) (Eq.mpr (by kernel_rfl) h)

/-! ### 21 scutage/scutageplain.Words (22, 22) -/
namespace F21
def ann : Ann := ⟨[(3, [0, 1]), (5, [0, 1, 5]), (6, [0, 1, 5]), (8, [])], [(4, [0, 1, 5])], [], [(6, (.take 0 (.take 1 (.take 2 (.take 4 (.take 5 (.take 6 (.take 3 (.take 7 (.take 8 .fin))))))))))], none⟩
noncomputable def code : Code := match Try.f21.body with | some c => c | none => .skip
noncomputable def top (K : VK) : QE := retQ Try.prog Try.f21.results.toList K
noncomputable def k3 (K : VK) (y0 y1 : Value) (w : World) : Prop := nav ann Try.prog 26 (fun c Q => vcCode ann Try.prog 26 c Q [(0, y0), (1, y1)] w) [1, 1] code (top K)
attribute [irreducible] k3
noncomputable def k8 (K : VK) (w : World) : Prop := nav ann Try.prog 26 (fun c Q => vcCode ann Try.prog 26 c Q [] w) [1, 1, 1] code (top K)
attribute [irreducible] k8
noncomputable def l4 (K : VK) (y0 y1 y5 : Value) (w : World) : Prop := nav ann Try.prog 26 (isLoop ann Try.prog 26 [(0, y0), (1, y1), (5, y5)] w) [1, 1, 0, 1, 0] code (top K)
attribute [irreducible] l4
noncomputable def k6 (K : VK) (y0 y1 y5 : Value) (w : World) : Prop := nav ann Try.prog 26 (fun c Q => vcCode ann Try.prog 26 c Q [(0, y0), (1, y1), (5, y5)] w) [1, 1, 0, 1, 0, 0, 1] code (top K)
attribute [irreducible] k6
noncomputable def k5 (K : VK) (y0 y1 y5 : Value) (w : World) : Prop := nav ann Try.prog 26 (fun c Q => vcCode ann Try.prog 26 c Q [(0, y0), (1, y1), (5, y5)] w) [1, 1, 0, 1, 0, 0, 1, 1] code (top K)
attribute [irreducible] k5
end F21
theorem F21.k3.to {K : VK} {y0 y1 : Value} {w : World} (h : (F21.l4 K y0 y1 (.int .i64 0) w)) : F21.k3 K y0 y1 w := Eq.mpr (by kernel_rfl) h
theorem F21.k8.to {K : VK} {w : World} (h : (K (.bool true) w)) : F21.k8 K w := Eq.mpr (by kernel_rfl) h
theorem F21.l4.to {K : VK} {y0 y1 y5 : Value} {w : World} (h : (C.len y0 w fun x13_1 w1 =>
  C.int .lss y5 x13_1 w1 fun x14_2 w2 =>
  C.ite x14_2 (F21.k6 K y0 y1 y5 w2) (F21.k8 K w2))) : F21.l4 K y0 y1 y5 w := by unfold F21.l4; exact nav_round (Eq.mpr (by kernel_rfl) h)
theorem F21.k6.to {K : VK} {y0 y1 y5 : Value} {w : World} (h : (C.draw w fun S w1 =>
  C.idx 1 y0 y5 w1 fun x19_2 w2 =>
  C.idx 1 y1 y5 w2 fun x23_3 w3 =>
  C.load1S S x19_2 w3 fun x20_4 w4 =>
  C.load1S S x23_3 w4 fun x24_5 w5 =>
  C.int .neq x20_4 x24_5 w5 fun x25_6 w6 =>
  C.ite x25_6 (K (.bool false) w6) (F21.k5 K y0 y1 y5 w6))) : F21.k6 K y0 y1 y5 w := Eq.mpr (by kernel_rfl) h
theorem F21.k5.to {K : VK} {y0 y1 y5 : Value} {w : World} (h : (C.int .add y5 (.int .i64 1) w fun x16_1 w1 =>
  F21.l4 K y0 y1 x16_1 w1)) : F21.k5 K y0 y1 y5 w := Eq.mpr (by kernel_rfl) h
theorem F21.sh {K : VK} {x0 x1 : Value} {w : World} (h : (C.len x0 w fun x7_1 w1 =>
  C.len x1 w1 fun x9_2 w2 =>
  C.int .neq x7_1 x9_2 w2 fun x10_3 w3 =>
  C.ite x10_3 (K (.bool false) w3) (F21.k3 K x0 x1 w3))) : C.call Try.prog 21 #[x0, x1] w K := calls_of_vc (A := F21.ann) (args := [x0, x1]) (Eq.mpr (by kernel_rfl) h)

/-! ### 22 scutage/scutageplain.View (42, 42) -/
namespace F22
def ann : Ann := ⟨[(3, [2, 3]), (5, [2, 3, 5]), (6, [2, 3, 5]), (8, [2, 3]), (10, [2, 3, 6]), (11, [2, 3, 6]), (13, [])], [(4, [2, 3, 5]), (9, [2, 3, 6])], [], [(6, (.take 0 (.take 2 (.take 5 (.take 7 (.take 1 (.take 3 (.take 4 (.take 6 (.take 8 (.take 9 (.go 10 (.take 11 .fin) .fin)))))))))))), (11, (.take 0 (.take 2 (.take 6 (.take 8 (.take 1 (.take 3 (.take 4 (.take 5 (.take 7 (.take 9 (.take 10 (.take 11 (.take 12 (.take 13 (.take 14 (.take 16 (.take 20 (.take 22 (.take 15 (.take 17 (.take 18 (.take 19 (.take 21 (.take 23 (.take 24 (.take 25 (.go 26 (.take 27 (.take 28 .fin)) .fin))))))))))))))))))))))))))))], none⟩
noncomputable def code : Code := match Try.f22.body with | some c => c | none => .skip
noncomputable def top (K : VK) : QE := retQ Try.prog Try.f22.results.toList K
noncomputable def k3 (K : VK) (y2 y3 : Value) (w : World) : Prop := nav ann Try.prog 78 (fun c Q => vcCode ann Try.prog 78 c Q [(2, y2), (3, y3)] w) [1, 1] code (top K)
attribute [irreducible] k3
noncomputable def k8 (K : VK) (y2 y3 : Value) (w : World) : Prop := nav ann Try.prog 78 (fun c Q => vcCode ann Try.prog 78 c Q [(2, y2), (3, y3)] w) [1, 1, 1] code (top K)
attribute [irreducible] k8
noncomputable def l4 (K : VK) (y2 y3 y5 : Value) (w : World) : Prop := nav ann Try.prog 78 (isLoop ann Try.prog 78 [(2, y2), (3, y3), (5, y5)] w) [1, 1, 0, 1, 0] code (top K)
attribute [irreducible] l4
noncomputable def k6 (K : VK) (y2 y3 y5 : Value) (w : World) : Prop := nav ann Try.prog 78 (fun c Q => vcCode ann Try.prog 78 c Q [(2, y2), (3, y3), (5, y5)] w) [1, 1, 0, 1, 0, 0, 1] code (top K)
attribute [irreducible] k6
noncomputable def k5 (K : VK) (y2 y3 y5 : Value) (w : World) : Prop := nav ann Try.prog 78 (fun c Q => vcCode ann Try.prog 78 c Q [(2, y2), (3, y3), (5, y5)] w) [1, 1, 0, 1, 0, 0, 1, 1] code (top K)
attribute [irreducible] k5
noncomputable def k13 (K : VK) (w : World) : Prop := nav ann Try.prog 78 (fun c Q => vcCode ann Try.prog 78 c Q [] w) [1, 1, 1, 1] code (top K)
attribute [irreducible] k13
noncomputable def l9 (K : VK) (y2 y3 y6 : Value) (w : World) : Prop := nav ann Try.prog 78 (isLoop ann Try.prog 78 [(2, y2), (3, y3), (6, y6)] w) [1, 1, 1, 0, 1, 0] code (top K)
attribute [irreducible] l9
noncomputable def k11 (K : VK) (y2 y3 y6 : Value) (w : World) : Prop := nav ann Try.prog 78 (fun c Q => vcCode ann Try.prog 78 c Q [(2, y2), (3, y3), (6, y6)] w) [1, 1, 1, 0, 1, 0, 0, 1] code (top K)
attribute [irreducible] k11
noncomputable def k10 (K : VK) (y2 y3 y6 : Value) (w : World) : Prop := nav ann Try.prog 78 (fun c Q => vcCode ann Try.prog 78 c Q [(2, y2), (3, y3), (6, y6)] w) [1, 1, 1, 0, 1, 0, 0, 1, 1] code (top K)
attribute [irreducible] k10
end F22
theorem F22.k3.to {K : VK} {y2 y3 : Value} {w : World} (h : (F22.l4 K y2 y3 (.int .i64 0) w)) : F22.k3 K y2 y3 w := Eq.mpr (by kernel_rfl) h
theorem F22.k8.to {K : VK} {y2 y3 : Value} {w : World} (h : (F22.l9 K y2 y3 (.int .i64 0) w)) : F22.k8 K y2 y3 w := Eq.mpr (by kernel_rfl) h
theorem F22.l4.to {K : VK} {y2 y3 y5 : Value} {w : World} (h : (C.field 0 y2 w fun x24_1 w1 =>
  C.load1 x24_1 w1 fun x25_2 w2 =>
  C.len x25_2 w2 fun x26_3 w3 =>
  C.int .lss y5 x26_3 w3 fun x27_4 w4 =>
  C.ite x27_4 (F22.k6 K y2 y3 y5 w4) (F22.k8 K y2 y3 w4))) : F22.l4 K y2 y3 y5 w := by unfold F22.l4; exact nav_round (Eq.mpr (by kernel_rfl) h)
theorem F22.k6.to {K : VK} {y2 y3 y5 : Value} {w : World} (h : (C.draw w fun S w1 =>
  C.field 0 y2 w1 fun x30_2 w2 =>
  C.field 0 y3 w2 fun x35_3 w3 =>
  C.load1S S x30_2 w3 fun x31_4 w4 =>
  C.idx 1 x31_4 y5 w4 fun x33_5 w5 =>
  C.load1S S x33_5 w5 fun x34_6 w6 =>
  C.load1S S x35_3 w6 fun x36_7 w7 =>
  C.idx 1 x36_7 y5 w7 fun x38_8 w8 =>
  C.load1S S x38_8 w8 fun x39_9 w9 =>
  (C.call Try.prog 45 #[x34_6, x39_9] w9 fun x40_10 w10 =>
  (S w10 ∧
  C.not x40_10 w10 fun x41_11 w11 =>
  C.ite x41_11 (K (.bool false) w11) (F22.k5 K y2 y3 y5 w11))) ∧ True)) : F22.k6 K y2 y3 y5 w := Eq.mpr (by kernel_rfl) h
theorem F22.k5.to {K : VK} {y2 y3 y5 : Value} {w : World} (h : (C.int .add y5 (.int .i64 1) w fun x29_1 w1 =>
  F22.l4 K y2 y3 x29_1 w1)) : F22.k5 K y2 y3 y5 w := Eq.mpr (by kernel_rfl) h
theorem F22.k13.to {K : VK} {w : World} (h : (K (.bool true) w)) : F22.k13 K w := Eq.mpr (by kernel_rfl) h
theorem F22.l9.to {K : VK} {y2 y3 y6 : Value} {w : World} (h : (C.field 1 y2 w fun x43_1 w1 =>
  C.load1 x43_1 w1 fun x44_2 w2 =>
  C.len x44_2 w2 fun x45_3 w3 =>
  C.int .lss y6 x45_3 w3 fun x46_4 w4 =>
  C.ite x46_4 (F22.k11 K y2 y3 y6 w4) (F22.k13 K w4))) : F22.l9 K y2 y3 y6 w := by unfold F22.l9; exact nav_round (Eq.mpr (by kernel_rfl) h)
theorem F22.k11.to {K : VK} {y2 y3 y6 : Value} {w : World} (h : (C.draw w fun S w1 =>
  C.field 1 y2 w1 fun x49_2 w2 =>
  C.field 1 y3 w2 fun x55_3 w3 =>
  C.load1S S x49_2 w3 fun x50_4 w4 =>
  C.idx 2 x50_4 y6 w4 fun x52_5 w5 =>
  C.field 0 x52_5 w5 fun x53_6 w6 =>
  C.load1S S x53_6 w6 fun x54_7 w7 =>
  C.load1S S x55_3 w7 fun x56_8 w8 =>
  C.idx 2 x56_8 y6 w8 fun x58_9 w9 =>
  C.field 0 x58_9 w9 fun x59_10 w10 =>
  C.load1S S x59_10 w10 fun x60_11 w11 =>
  C.int .neq x54_7 x60_11 w11 fun x61_12 w12 =>
  C.guarded false x61_12 (fun K => C.field 1 y2 w12 K) w12 fun x63_13 w13 =>
  C.guarded false x61_12 (fun K => K y6 w13) w13 fun x65_14 w14 =>
  C.guarded false x61_12 (fun K => C.field 1 y3 w14 K) w14 fun x69_15 w15 =>
  C.guarded false x61_12 (fun K => K y6 w15) w15 fun x71_16 w16 =>
  C.guarded false x61_12 (fun K => C.load1S S x63_13 w16 K) w16 fun x64_17 w17 =>
  C.guarded false x61_12 (fun K => C.idx 2 x64_17 x65_14 w17 K) w17 fun x66_18 w18 =>
  C.guarded false x61_12 (fun K => C.field 1 x66_18 w18 K) w18 fun x67_19 w19 =>
  C.guarded false x61_12 (fun K => C.load1S S x67_19 w19 K) w19 fun x68_20 w20 =>
  C.guarded false x61_12 (fun K => C.load1S S x69_15 w20 K) w20 fun x70_21 w21 =>
  C.guarded false x61_12 (fun K => C.idx 2 x70_21 x71_16 w21 K) w21 fun x72_22 w22 =>
  C.guarded false x61_12 (fun K => C.field 1 x72_22 w22 K) w22 fun x73_23 w23 =>
  C.guarded false x61_12 (fun K => C.load1S S x73_23 w23 K) w23 fun x74_24 w24 =>
  (C.guarded false x61_12 (fun K => C.call Try.prog 45 #[x68_20, x74_24] w24 K) w24 fun x75_25 w25 =>
  (S w25 ∧
  C.guarded false x61_12 (fun K => C.not x75_25 w25 K) w25 fun x76_26 w26 =>
  C.pick (some x61_12) (some (.bool true)) (some x76_26) w26 fun x77_27 w27 =>
  C.ite x77_27 (K (.bool false) w27) (F22.k10 K y2 y3 y6 w27))) ∧ True)) : F22.k11 K y2 y3 y6 w := Eq.mpr (by kernel_rfl) h
theorem F22.k10.to {K : VK} {y2 y3 y6 : Value} {w : World} (h : (C.int .add y6 (.int .i64 1) w fun x48_1 w1 =>
  F22.l9 K y2 y3 x48_1 w1)) : F22.k10 K y2 y3 y6 w := Eq.mpr (by kernel_rfl) h
theorem F22.sh {K : VK} {x0 x1 : Value} {w : World} (h : (C.new (.cells (Value.cells x0) 42) w fun x2_1 w1 =>
  C.new (.cells (Value.cells x1) 42) w1 fun x3_2 w2 =>
  C.field 0 x2_1 w2 fun x7_3 w3 =>
  C.load1 x7_3 w3 fun x8_4 w4 =>
  C.len x8_4 w4 fun x9_5 w5 =>
  C.field 0 x3_2 w5 fun x10_6 w6 =>
  C.load1 x10_6 w6 fun x11_7 w7 =>
  C.len x11_7 w7 fun x12_8 w8 =>
  C.int .neq x9_5 x12_8 w8 fun x13_9 w9 =>
  C.guarded false x13_9 (fun K => C.field 1 x2_1 w9 K) w9 fun x15_10 w10 =>
  C.guarded false x13_9 (fun K => C.load1 x15_10 w10 K) w10 fun x16_11 w11 =>
  C.guarded false x13_9 (fun K => C.len x16_11 w11 K) w11 fun x17_12 w12 =>
  C.guarded false x13_9 (fun K => C.field 1 x3_2 w12 K) w12 fun x18_13 w13 =>
  C.guarded false x13_9 (fun K => C.load1 x18_13 w13 K) w13 fun x19_14 w14 =>
  C.guarded false x13_9 (fun K => C.len x19_14 w14 K) w14 fun x20_15 w15 =>
  C.guarded false x13_9 (fun K => C.int .neq x17_12 x20_15 w15 K) w15 fun x21_16 w16 =>
  C.pick (some x13_9) (some (.bool true)) (some x21_16) w16 fun x22_17 w17 =>
  C.ite x22_17 (K (.bool false) w17) (F22.k3 K x2_1 x3_2 w17))) : C.call Try.prog 22 #[x0, x1] w K := calls_of_vc (A := F22.ann) (args := [x0, x1]) (Eq.mpr (by kernel_rfl) h)

/-! ### 45 scutage/scutageplain.Values (57, 57) -/
namespace F45
def ann : Ann := ⟨[(3, [0, 1]), (5, [0, 1, 5]), (6, [0, 1, 5]), (8, [])], [(4, [0, 1, 5])], [], [(6, (.take 0 (.take 1 (.take 2 (.take 4 (.take 5 (.take 6 (.take 3 (.take 7 (.take 8 .fin))))))))))], none⟩
noncomputable def code : Code := match Try.f45.body with | some c => c | none => .skip
noncomputable def top (K : VK) : QE := retQ Try.prog Try.f45.results.toList K
noncomputable def k3 (K : VK) (y0 y1 : Value) (w : World) : Prop := nav ann Try.prog 26 (fun c Q => vcCode ann Try.prog 26 c Q [(0, y0), (1, y1)] w) [1, 1] code (top K)
attribute [irreducible] k3
noncomputable def k8 (K : VK) (w : World) : Prop := nav ann Try.prog 26 (fun c Q => vcCode ann Try.prog 26 c Q [] w) [1, 1, 1] code (top K)
attribute [irreducible] k8
noncomputable def l4 (K : VK) (y0 y1 y5 : Value) (w : World) : Prop := nav ann Try.prog 26 (isLoop ann Try.prog 26 [(0, y0), (1, y1), (5, y5)] w) [1, 1, 0, 1, 0] code (top K)
attribute [irreducible] l4
noncomputable def k6 (K : VK) (y0 y1 y5 : Value) (w : World) : Prop := nav ann Try.prog 26 (fun c Q => vcCode ann Try.prog 26 c Q [(0, y0), (1, y1), (5, y5)] w) [1, 1, 0, 1, 0, 0, 1] code (top K)
attribute [irreducible] k6
noncomputable def k5 (K : VK) (y0 y1 y5 : Value) (w : World) : Prop := nav ann Try.prog 26 (fun c Q => vcCode ann Try.prog 26 c Q [(0, y0), (1, y1), (5, y5)] w) [1, 1, 0, 1, 0, 0, 1, 1] code (top K)
attribute [irreducible] k5
end F45
theorem F45.k3.to {K : VK} {y0 y1 : Value} {w : World} (h : (F45.l4 K y0 y1 (.int .i64 0) w)) : F45.k3 K y0 y1 w := Eq.mpr (by kernel_rfl) h
theorem F45.k8.to {K : VK} {w : World} (h : (K (.bool true) w)) : F45.k8 K w := Eq.mpr (by kernel_rfl) h
theorem F45.l4.to {K : VK} {y0 y1 y5 : Value} {w : World} (h : (C.len y0 w fun x13_1 w1 =>
  C.int .lss y5 x13_1 w1 fun x14_2 w2 =>
  C.ite x14_2 (F45.k6 K y0 y1 y5 w2) (F45.k8 K w2))) : F45.l4 K y0 y1 y5 w := by unfold F45.l4; exact nav_round (Eq.mpr (by kernel_rfl) h)
theorem F45.k6.to {K : VK} {y0 y1 y5 : Value} {w : World} (h : (C.draw w fun S w1 =>
  C.idx 2 y0 y5 w1 fun x19_2 w2 =>
  C.idx 2 y1 y5 w2 fun x23_3 w3 =>
  C.loadAS S 2 x19_2 w3 fun x20_4 w4 =>
  C.loadAS S 2 x23_3 w4 fun x24_5 w5 =>
  ∃ x25_6, (∀ w', S w' → ((do eqGuard .neq 75 (.tmp 20) (.tmp 24) x20_4 x24_5; binOp .neq 75 x20_4 x24_5 : Sem Value)).run Try.prog w' = .ok x25_6 w') ∧ (C.ite x25_6 (K (.bool false) w5) (F45.k5 K y0 y1 y5 w5)))) : F45.k6 K y0 y1 y5 w := Eq.mpr (by kernel_rfl) h
theorem F45.k5.to {K : VK} {y0 y1 y5 : Value} {w : World} (h : (C.int .add y5 (.int .i64 1) w fun x16_1 w1 =>
  F45.l4 K y0 y1 x16_1 w1)) : F45.k5 K y0 y1 y5 w := Eq.mpr (by kernel_rfl) h
theorem F45.sh {K : VK} {x0 x1 : Value} {w : World} (h : (C.len x0 w fun x7_1 w1 =>
  C.len x1 w1 fun x9_2 w2 =>
  C.int .neq x7_1 x9_2 w2 fun x10_3 w3 =>
  C.ite x10_3 (K (.bool false) w3) (F45.k3 K x0 x1 w3))) : C.call Try.prog 45 #[x0, x1] w K := calls_of_vc (A := F45.ann) (args := [x0, x1]) (Eq.mpr (by kernel_rfl) h)

/-! ### 69 scutage/scutageplain.In (26, 3) -/
namespace F69
def ann : Ann := ⟨[(3, [0, 1, 5]), (4, [0, 1, 5]), (6, [])], [(2, [0, 1, 5])], [], [], none⟩
noncomputable def code : Code := match Try.f69.body with | some c => c | none => .skip
noncomputable def top (K : VK) : QE := retQ Try.prog Try.f69.results.toList K
noncomputable def k6 (K : VK) (w : World) : Prop := nav ann Try.prog 18 (fun c Q => vcCode ann Try.prog 18 c Q [] w) [1, 1] code (top K)
attribute [irreducible] k6
noncomputable def l2 (K : VK) (y0 y1 y5 : Value) (w : World) : Prop := nav ann Try.prog 18 (isLoop ann Try.prog 18 [(0, y0), (1, y1), (5, y5)] w) [1, 0, 1, 0] code (top K)
attribute [irreducible] l2
noncomputable def k4 (K : VK) (y0 y1 y5 : Value) (w : World) : Prop := nav ann Try.prog 18 (fun c Q => vcCode ann Try.prog 18 c Q [(0, y0), (1, y1), (5, y5)] w) [1, 0, 1, 0, 0, 1] code (top K)
attribute [irreducible] k4
noncomputable def k3 (K : VK) (y0 y1 y5 : Value) (w : World) : Prop := nav ann Try.prog 18 (fun c Q => vcCode ann Try.prog 18 c Q [(0, y0), (1, y1), (5, y5)] w) [1, 0, 1, 0, 0, 1, 1] code (top K)
attribute [irreducible] k3
end F69
theorem F69.k6.to {K : VK} {w : World} (h : (K (.bool false) w)) : F69.k6 K w := Eq.mpr (by kernel_rfl) h
theorem F69.l2.to {K : VK} {y0 y1 y5 : Value} {w : World} (h : (C.len y0 w fun x8_1 w1 =>
  C.int .lss y5 x8_1 w1 fun x9_2 w2 =>
  C.ite x9_2 (F69.k4 K y0 y1 y5 w2) (F69.k6 K w2))) : F69.l2 K y0 y1 y5 w := by unfold F69.l2; exact nav_round (Eq.mpr (by kernel_rfl) h)
theorem F69.k4.to {K : VK} {y0 y1 y5 : Value} {w : World} (h : (C.idx 1 y0 y5 w fun x14_1 w1 =>
  C.load1 x14_1 w1 fun x15_2 w2 =>
  C.int .eql x15_2 y1 w2 fun x17_3 w3 =>
  C.ite x17_3 (K (.bool true) w3) (F69.k3 K y0 y1 y5 w3))) : F69.k4 K y0 y1 y5 w := Eq.mpr (by kernel_rfl) h
theorem F69.k3.to {K : VK} {y0 y1 y5 : Value} {w : World} (h : (C.int .add y5 (.int .i64 1) w fun x11_1 w1 =>
  F69.l2 K y0 y1 x11_1 w1)) : F69.k3 K y0 y1 y5 w := Eq.mpr (by kernel_rfl) h
theorem F69.sh {K : VK} {x0 x1 : Value} {w : World} (h : (F69.l2 K x0 x1 (.int .i64 0) w)) : C.call Try.prog 69 #[x0, x1] w K := calls_of_vc (A := F69.ann) (args := [x0, x1]) (Eq.mpr (by kernel_rfl) h)

end Go.Proofs.YtfjilngljnlkjaaV
