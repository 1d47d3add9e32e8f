/- What the bodies of these functions ask, as plain statements. Written by gen.py (own work) for the seat Ytfdpmgddlaamcaa. -/
import Derived.Test.YtfdpmgddlaamcaaVc3
import Derived.Test.YtfdpmgddlaamcaaProg
namespace Go.Proofs.YtfdpmgddlaamcaaV
open Go Go.Proofs
set_option linter.unusedVariables false
set_option maxRecDepth 100000

/-! ### 22 scutage/scutageplain.In (34, 3) -/
namespace F22
def ann : Ann := ⟨[(3, [0, 1, 5]), (4, [0, 1, 5]), (6, [])], [(2, [0, 1, 5])], [], [], none⟩
noncomputable def code : Code := match Try.f22.body with | some c => c | none => .skip
noncomputable def top (K : VK) : QE := retQ Try.prog Try.f22.results.toList K
noncomputable def k6 (K : VK) (w : World) : Prop := nav ann Try.prog 18 (fun c Q => vcCode ann Try.prog 18 c Q [] w) [1, 1] code (top K)
attribute [irreducible] k6
noncomputable def l2 (K : VK) (y0 y1 y5 : Value) (w : World) : Prop := nav ann Try.prog 18 (isLoop ann Try.prog 18 [(0, y0), (1, y1), (5, y5)] w) [1, 0, 1, 0] code (top K)
attribute [irreducible] l2
noncomputable def k4 (K : VK) (y0 y1 y5 : Value) (w : World) : Prop := nav ann Try.prog 18 (fun c Q => vcCode ann Try.prog 18 c Q [(0, y0), (1, y1), (5, y5)] w) [1, 0, 1, 0, 0, 1] code (top K)
attribute [irreducible] k4
noncomputable def k3 (K : VK) (y0 y1 y5 : Value) (w : World) : Prop := nav ann Try.prog 18 (fun c Q => vcCode ann Try.prog 18 c Q [(0, y0), (1, y1), (5, y5)] w) [1, 0, 1, 0, 0, 1, 1] code (top K)
attribute [irreducible] k3
end F22
theorem F22.k6.to {K : VK} {w : World} (h : (K (.bool false) w)) : F22.k6 K w := Eq.mpr (by kernel_rfl) h
theorem F22.l2.to {K : VK} {y0 y1 y5 : Value} {w : World} (h : (C.len y0 w fun x8_1 w1 =>
  C.int .lss y5 x8_1 w1 fun x9_2 w2 =>
  C.ite x9_2 (F22.k4 K y0 y1 y5 w2) (F22.k6 K w2))) : F22.l2 K y0 y1 y5 w := by unfold F22.l2; exact nav_round (Eq.mpr (by kernel_rfl) h)
theorem F22.k4.to {K : VK} {y0 y1 y5 : Value} {w : World} (h : (C.idx 1 y0 y5 w fun x14_1 w1 =>
  C.load1 x14_1 w1 fun x15_2 w2 =>
  C.int .eql x15_2 y1 w2 fun x17_3 w3 =>
  C.ite x17_3 (K (.bool true) w3) (F22.k3 K y0 y1 y5 w3))) : F22.k4 K y0 y1 y5 w := Eq.mpr (by kernel_rfl) h
theorem F22.k3.to {K : VK} {y0 y1 y5 : Value} {w : World} (h : (C.int .add y5 (.int .i64 1) w fun x11_1 w1 =>
  F22.l2 K y0 y1 x11_1 w1)) : F22.k3 K y0 y1 y5 w := Eq.mpr (by kernel_rfl) h
theorem F22.sh {K : VK} {x0 x1 : Value} {w : World} (h : (F22.l2 K x0 x1 (.int .i64 0) w)) : C.call Try.prog 22 #[x0, x1] w K := calls_of_vc (A := F22.ann) (args := [x0, x1]) (Eq.mpr (by kernel_rfl) h)

/-! ### 51 scutage/scutageplain.Ints (34, 34) -/
namespace F51
def ann : Ann := ⟨[(3, [0, 1]), (5, [0, 1, 5]), (6, [0, 1, 5]), (8, [])], [(4, [0, 1, 5])], [], [(6, (.take 0 (.take 1 (.take 2 (.take 4 (.take 5 (.take 6 (.take 3 (.take 7 (.take 8 .fin))))))))))], none⟩
noncomputable def code : Code := match Try.f51.body with | some c => c | none => .skip
noncomputable def top (K : VK) : QE := retQ Try.prog Try.f51.results.toList K
noncomputable def k3 (K : VK) (y0 y1 : Value) (w : World) : Prop := nav ann Try.prog 26 (fun c Q => vcCode ann Try.prog 26 c Q [(0, y0), (1, y1)] w) [1, 1] code (top K)
attribute [irreducible] k3
noncomputable def k8 (K : VK) (w : World) : Prop := nav ann Try.prog 26 (fun c Q => vcCode ann Try.prog 26 c Q [] w) [1, 1, 1] code (top K)
attribute [irreducible] k8
noncomputable def l4 (K : VK) (y0 y1 y5 : Value) (w : World) : Prop := nav ann Try.prog 26 (isLoop ann Try.prog 26 [(0, y0), (1, y1), (5, y5)] w) [1, 1, 0, 1, 0] code (top K)
attribute [irreducible] l4
noncomputable def k6 (K : VK) (y0 y1 y5 : Value) (w : World) : Prop := nav ann Try.prog 26 (fun c Q => vcCode ann Try.prog 26 c Q [(0, y0), (1, y1), (5, y5)] w) [1, 1, 0, 1, 0, 0, 1] code (top K)
attribute [irreducible] k6
noncomputable def k5 (K : VK) (y0 y1 y5 : Value) (w : World) : Prop := nav ann Try.prog 26 (fun c Q => vcCode ann Try.prog 26 c Q [(0, y0), (1, y1), (5, y5)] w) [1, 1, 0, 1, 0, 0, 1, 1] code (top K)
attribute [irreducible] k5
end F51
theorem F51.k3.to {K : VK} {y0 y1 : Value} {w : World} (h : (F51.l4 K y0 y1 (.int .i64 0) w)) : F51.k3 K y0 y1 w := Eq.mpr (by kernel_rfl) h
theorem F51.k8.to {K : VK} {w : World} (h : (K (.bool true) w)) : F51.k8 K w := Eq.mpr (by kernel_rfl) h
theorem F51.l4.to {K : VK} {y0 y1 y5 : Value} {w : World} (h : (C.len y0 w fun x13_1 w1 =>
  C.int .lss y5 x13_1 w1 fun x14_2 w2 =>
  C.ite x14_2 (F51.k6 K y0 y1 y5 w2) (F51.k8 K w2))) : F51.l4 K y0 y1 y5 w := by unfold F51.l4; exact nav_round (Eq.mpr (by kernel_rfl) h)
theorem F51.k6.to {K : VK} {y0 y1 y5 : Value} {w : World} (h : (C.draw w fun S w1 =>
  C.idx 1 y0 y5 w1 fun x19_2 w2 =>
  C.idx 1 y1 y5 w2 fun x23_3 w3 =>
  C.load1S S x19_2 w3 fun x20_4 w4 =>
  C.load1S S x23_3 w4 fun x24_5 w5 =>
  C.int .neq x20_4 x24_5 w5 fun x25_6 w6 =>
  C.ite x25_6 (K (.bool false) w6) (F51.k5 K y0 y1 y5 w6))) : F51.k6 K y0 y1 y5 w := Eq.mpr (by kernel_rfl) h
theorem F51.k5.to {K : VK} {y0 y1 y5 : Value} {w : World} (h : (C.int .add y5 (.int .i64 1) w fun x16_1 w1 =>
  F51.l4 K y0 y1 x16_1 w1)) : F51.k5 K y0 y1 y5 w := Eq.mpr (by kernel_rfl) h
theorem F51.sh {K : VK} {x0 x1 : Value} {w : World} (h : (C.len x0 w fun x7_1 w1 =>
  C.len x1 w1 fun x9_2 w2 =>
  C.int .neq x7_1 x9_2 w2 fun x10_3 w3 =>
  C.ite x10_3 (K (.bool false) w3) (F51.k3 K x0 x1 w3))) : C.call Try.prog 51 #[x0, x1] w K := calls_of_vc (A := F51.ann) (args := [x0, x1]) (Eq.mpr (by kernel_rfl) h)

end Go.Proofs.YtfdpmgddlaamcaaV
