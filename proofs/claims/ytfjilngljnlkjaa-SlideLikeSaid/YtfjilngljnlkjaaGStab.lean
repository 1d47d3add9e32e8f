/- What the bodies of these functions ask, as plain statements. Written by gen.py (own work) for the seat Ytfjilngljnlkjaa. -/
import Derived.Test.YtfjilngljnlkjaaVc3
import Derived.Test.YtfjilngljnlkjaaProg
namespace Go.Proofs.YtfjilngljnlkjaaV
open Go Go.Proofs
set_option linter.unusedVariables false
set_option maxRecDepth 100000

/-! ### 41 slices.SortStableFunc[[]scutage/api.Node,scutage/api.Node] (40, 85) -/
namespace F41
def ann : Ann := ⟨[], [], [], [], none⟩
noncomputable def code : Code := match Try.f41.body with | some c => c | none => .skip
noncomputable def top (K : VK) : QE := retQ Try.prog Try.f41.results.toList K
end F41
theorem F41.sh {K : VK} {x0 x1 : Value} {w : World} (h : (C.len x0 w fun x6_1 w1 =>
  C.call Try.prog 59 #[x0, x6_1, x1] w1 fun x8_2 w2 =>
  K (.tuple #[]) w2)) : C.call Try.prog 41 #[x0, x1] w K := calls_of_vc (A := F41.ann) (args := [x0, x1]) (Eq.mpr (by kernel_rfl) h)

/-! ### 59 slices.stableCmpFunc[scutage/api.Node] (40, 3, 85) -/
namespace F59
def ann : Ann := ⟨[(3, [0, 1, 2, 6, 7, 8]), (6, [0, 1, 2, 6, 7]), (8, [0, 1, 2, 6]), (10, [0, 1, 2, 6, 7, 8]), (13, [0, 1, 2, 6, 7]), (16, [0, 1, 2, 6])], [(2, [0, 1, 2, 6, 7, 8]), (7, [0, 1, 2, 6]), (9, [0, 1, 2, 6, 7, 8])], [], [], none⟩
noncomputable def code : Code := match Try.f59.body with | some c => c | none => .skip
noncomputable def top (K : VK) : QE := retQ Try.prog Try.f59.results.toList K
noncomputable def k6 (K : VK) (y0 y1 y2 y6 y7 : Value) (w : World) : Prop := nav ann Try.prog 63 (fun c Q => vcCode ann Try.prog 63 c Q [(0, y0), (1, y1), (2, y2), (6, y6), (7, y7)] w) [1, 1, 1] code (top K)
attribute [irreducible] k6
noncomputable def l2 (K : VK) (y0 y1 y2 y6 y7 y8 : Value) (w : World) : Prop := nav ann Try.prog 63 (isLoop ann Try.prog 63 [(0, y0), (1, y1), (2, y2), (6, y6), (7, y7), (8, y8)] w) [1, 1, 0, 0] code (top K)
attribute [irreducible] l2
noncomputable def k3 (K : VK) (y0 y1 y2 y6 y7 y8 : Value) (w : World) : Prop := nav ann Try.prog 63 (fun c Q => vcCode ann Try.prog 63 c Q [(0, y0), (1, y1), (2, y2), (6, y6), (7, y7), (8, y8)] w) [1, 1, 0, 0, 0, 1] code (top K)
attribute [irreducible] k3
noncomputable def l7 (K : VK) (y0 y1 y2 y6 : Value) (w : World) : Prop := nav ann Try.prog 63 (isLoop ann Try.prog 63 [(0, y0), (1, y1), (2, y2), (6, y6)] w) [1, 1, 1, 1, 0] code (top K)
attribute [irreducible] l7
noncomputable def k8 (K : VK) (y0 y1 y2 y6 : Value) (w : World) : Prop := nav ann Try.prog 63 (fun c Q => vcCode ann Try.prog 63 c Q [(0, y0), (1, y1), (2, y2), (6, y6)] w) [1, 1, 1, 1, 0, 0, 1] code (top K)
attribute [irreducible] k8
noncomputable def k13 (K : VK) (y0 y1 y2 y6 y7 : Value) (w : World) : Prop := nav ann Try.prog 63 (fun c Q => vcCode ann Try.prog 63 c Q [(0, y0), (1, y1), (2, y2), (6, y6), (7, y7)] w) [1, 1, 1, 1, 0, 0, 1, 0, 1, 1] code (top K)
attribute [irreducible] k13
noncomputable def l9 (K : VK) (y0 y1 y2 y6 y7 y8 : Value) (w : World) : Prop := nav ann Try.prog 63 (isLoop ann Try.prog 63 [(0, y0), (1, y1), (2, y2), (6, y6), (7, y7), (8, y8)] w) [1, 1, 1, 1, 0, 0, 1, 0, 1, 0, 0] code (top K)
attribute [irreducible] l9
noncomputable def k10 (K : VK) (y0 y1 y2 y6 y7 y8 : Value) (w : World) : Prop := nav ann Try.prog 63 (fun c Q => vcCode ann Try.prog 63 c Q [(0, y0), (1, y1), (2, y2), (6, y6), (7, y7), (8, y8)] w) [1, 1, 1, 1, 0, 0, 1, 0, 1, 0, 0, 0, 1] code (top K)
attribute [irreducible] k10
noncomputable def k16 (K : VK) (y0 y1 y2 y6 : Value) (w : World) : Prop := nav ann Try.prog 63 (fun c Q => vcCode ann Try.prog 63 c Q [(0, y0), (1, y1), (2, y2), (6, y6)] w) [1, 1, 1, 1, 0, 0, 1, 0, 1, 1, 1] code (top K)
attribute [irreducible] k16
end F59
theorem F59.k6.to {K : VK} {y0 y1 y2 y6 y7 : Value} {w : World} (h : (C.call Try.prog 83 #[y0, y7, y1, y2] w fun x27_1 w1 =>
  F59.l7 K y0 y1 y2 y6 w1)) : F59.k6 K y0 y1 y2 y6 y7 w := Eq.mpr (by kernel_rfl) h
theorem F59.l2.to {K : VK} {y0 y1 y2 y6 y7 y8 : Value} {w : World} (h : (C.int .leq y8 y1 w fun x13_1 w1 =>
  C.ite x13_1 (F59.k3 K y0 y1 y2 y6 y7 y8 w1) (F59.k6 K y0 y1 y2 y6 y7 w1))) : F59.l2 K y0 y1 y2 y6 y7 y8 w := by unfold F59.l2; exact nav_round (Eq.mpr (by kernel_rfl) h)
theorem F59.k3.to {K : VK} {y0 y1 y2 y6 y7 y8 : Value} {w : World} (h : (C.call Try.prog 83 #[y0, y7, y8, y2] w fun x18_1 w1 =>
  C.int .add y8 y6 w1 fun x22_2 w2 =>
  F59.l2 K y0 y1 y2 y6 y8 x22_2 w2)) : F59.k3 K y0 y1 y2 y6 y7 y8 w := Eq.mpr (by kernel_rfl) h
theorem F59.l7.to {K : VK} {y0 y1 y2 y6 : Value} {w : World} (h : (C.int .lss y6 y1 w fun x30_1 w1 =>
  C.ite x30_1 (F59.k8 K y0 y1 y2 y6 w1) (K (.tuple #[]) w1))) : F59.l7 K y0 y1 y2 y6 w := by unfold F59.l7; exact nav_round (Eq.mpr (by kernel_rfl) h)
theorem F59.k8.to {K : VK} {y0 y1 y2 y6 : Value} {w : World} (h : (C.int .mul (.int .i64 2) y6 w fun x32_1 w1 =>
  F59.l9 K y0 y1 y2 y6 (.int .i64 0) x32_1 w1)) : F59.k8 K y0 y1 y2 y6 w := Eq.mpr (by kernel_rfl) h
theorem F59.k13.to {K : VK} {y0 y1 y2 y6 y7 : Value} {w : World} (h : (C.int .add y7 y6 w fun x51_1 w1 =>
  C.int .lss x51_1 y1 w1 fun x54_2 w2 =>
  C.ite x54_2 (C.call Try.prog 84 #[y0, y7, x51_1, y1, y2] w2 fun x60_3 w3 =>
  F59.k16 K y0 y1 y2 y6 w3) (F59.k16 K y0 y1 y2 y6 w2))) : F59.k13 K y0 y1 y2 y6 y7 w := Eq.mpr (by kernel_rfl) h
theorem F59.l9.to {K : VK} {y0 y1 y2 y6 y7 y8 : Value} {w : World} (h : (C.int .leq y8 y1 w fun x35_1 w1 =>
  C.ite x35_1 (F59.k10 K y0 y1 y2 y6 y7 y8 w1) (F59.k13 K y0 y1 y2 y6 y7 w1))) : F59.l9 K y0 y1 y2 y6 y7 y8 w := by unfold F59.l9; exact nav_round (Eq.mpr (by kernel_rfl) h)
theorem F59.k10.to {K : VK} {y0 y1 y2 y6 y7 y8 : Value} {w : World} (h : (C.int .add y7 y6 w fun x40_1 w1 =>
  C.call Try.prog 84 #[y0, y7, x40_1, y8, y2] w1 fun x43_2 w2 =>
  C.int .mul (.int .i64 2) y6 w2 fun x47_3 w3 =>
  C.int .add y8 x47_3 w3 fun x48_4 w4 =>
  F59.l9 K y0 y1 y2 y6 y8 x48_4 w4)) : F59.k10 K y0 y1 y2 y6 y7 y8 w := Eq.mpr (by kernel_rfl) h
theorem F59.k16.to {K : VK} {y0 y1 y2 y6 : Value} {w : World} (h : (C.int .mul y6 (.int .i64 2) w fun x62_1 w1 =>
  F59.l7 K y0 y1 y2 x62_1 w1)) : F59.k16 K y0 y1 y2 y6 w := Eq.mpr (by kernel_rfl) h
theorem F59.sh {K : VK} {x0 x1 x2 : Value} {w : World} (h : (F59.l2 K x0 x1 x2 (.int .i64 20) (.int .i64 0) (.int .i64 20) w)) : C.call Try.prog 59 #[x0, x1, x2] w K := calls_of_vc (A := F59.ann) (args := [x0, x1, x2]) (Eq.mpr (by kernel_rfl) h)

/-! ### 83 slices.insertionSortCmpFunc[scutage/api.Node] (40, 3, 3, 85) -/
namespace F83
def ann : Ann := ⟨[(2, [0, 1, 2, 3, 8]), (3, [0, 1, 2, 3, 8]), (5, [0, 1, 2, 3, 8, 9]), (6, [0, 1, 2, 3, 8, 9])], [(1, [0, 1, 2, 3, 8]), (4, [0, 1, 2, 3, 8, 9])], [], [(4, (.take 0 (.take 1 (.take 2 (.take 3 (.take 4 (.take 5 (.take 6 (.take 7 (.take 9 (.take 10 (.take 11 (.take 12 (.take 8 (.take 13 (.go 14 (.take 15 (.take 16 .fin)) .fin)))))))))))))))), (6, (.take 0 (.take 1 (.take 2 (.take 3 (.take 4 (.take 5 (.take 6 (.take 7 (.take 8 (.take 10 (.take 11 (.take 12 (.go 9 (.go 13 (.take 14 (.go 15 (.take 16 (.go 17 .fin .fin)) .fin)) .fin) (.go 13 (.go 9 (.take 14 (.go 15 (.take 16 (.go 17 .fin .fin)) .fin)) .fin) .fin)))))))))))))))], none⟩
noncomputable def code : Code := match Try.f83.body with | some c => c | none => .skip
noncomputable def top (K : VK) : QE := retQ Try.prog Try.f83.results.toList K
noncomputable def l1 (K : VK) (y0 y1 y2 y3 y8 : Value) (w : World) : Prop := nav ann Try.prog 53 (isLoop ann Try.prog 53 [(0, y0), (1, y1), (2, y2), (3, y3), (8, y8)] w) [1, 0] code (top K)
attribute [irreducible] l1
noncomputable def k3 (K : VK) (y0 y1 y2 y3 y8 : Value) (w : World) : Prop := nav ann Try.prog 53 (fun c Q => vcCode ann Try.prog 53 c Q [(0, y0), (1, y1), (2, y2), (3, y3), (8, y8)] w) [1, 0, 0, 1] code (top K)
attribute [irreducible] k3
noncomputable def k2 (K : VK) (y0 y1 y2 y3 y8 : Value) (w : World) : Prop := nav ann Try.prog 53 (fun c Q => vcCode ann Try.prog 53 c Q [(0, y0), (1, y1), (2, y2), (3, y3), (8, y8)] w) [1, 0, 0, 1, 1] code (top K)
attribute [irreducible] k2
noncomputable def l4 (K : VK) (y0 y1 y2 y3 y8 y9 : Value) (w : World) : Prop := nav ann Try.prog 53 (isLoop ann Try.prog 53 [(0, y0), (1, y1), (2, y2), (3, y3), (8, y8), (9, y9)] w) [1, 0, 0, 1, 0, 0, 1, 0] code (top K)
attribute [irreducible] l4
noncomputable def k6 (K : VK) (y0 y1 y2 y3 y8 y9 : Value) (w : World) : Prop := nav ann Try.prog 53 (fun c Q => vcCode ann Try.prog 53 c Q [(0, y0), (1, y1), (2, y2), (3, y3), (8, y8), (9, y9)] w) [1, 0, 0, 1, 0, 0, 1, 0, 0, 1] code (top K)
attribute [irreducible] k6
noncomputable def k5 (K : VK) (y0 y1 y2 y3 y8 y9 : Value) (w : World) : Prop := nav ann Try.prog 53 (fun c Q => vcCode ann Try.prog 53 c Q [(0, y0), (1, y1), (2, y2), (3, y3), (8, y8), (9, y9)] w) [1, 0, 0, 1, 0, 0, 1, 0, 0, 1, 1] code (top K)
attribute [irreducible] k5
end F83
theorem F83.l1.to {K : VK} {y0 y1 y2 y3 y8 : Value} {w : World} (h : (C.int .lss y8 y2 w fun x14_1 w1 =>
  C.ite x14_1 (F83.k3 K y0 y1 y2 y3 y8 w1) (K (.tuple #[]) w1))) : F83.l1 K y0 y1 y2 y3 y8 w := by unfold F83.l1; exact nav_round (Eq.mpr (by kernel_rfl) h)
theorem F83.k3.to {K : VK} {y0 y1 y2 y3 y8 : Value} {w : World} (h : (F83.l4 K y0 y1 y2 y3 y8 y8 w)) : F83.k3 K y0 y1 y2 y3 y8 w := Eq.mpr (by kernel_rfl) h
theorem F83.k2.to {K : VK} {y0 y1 y2 y3 y8 : Value} {w : World} (h : (C.int .add y8 (.int .i64 1) w fun x16_1 w1 =>
  F83.l1 K y0 y1 y2 y3 x16_1 w1)) : F83.k2 K y0 y1 y2 y3 y8 w := Eq.mpr (by kernel_rfl) h
theorem F83.l4.to {K : VK} {y0 y1 y2 y3 y8 y9 : Value} {w : World} (h : (C.draw w fun S w1 =>
  C.int .gtr y9 y1 w1 fun x20_2 w2 =>
  C.guarded true x20_2 (fun K => K y3 w2) w2 fun x22_3 w3 =>
  C.guarded true x20_2 (fun K => K y0 w3) w3 fun x23_4 w4 =>
  C.guarded true x20_2 (fun K => K y9 w4) w4 fun x24_5 w5 =>
  C.guarded true x20_2 (fun K => C.idx 2 x23_4 x24_5 w5 K) w5 fun x25_6 w6 =>
  C.guarded true x20_2 (fun K => K y0 w6) w6 fun x27_7 w7 =>
  C.guarded true x20_2 (fun K => K y9 w7) w7 fun x28_8 w8 =>
  C.guarded true x20_2 (fun K => C.int .sub x28_8 (.int .i64 1) w8 K) w8 fun x29_9 w9 =>
  C.guarded true x20_2 (fun K => C.idx 2 x27_7 x29_9 w9 K) w9 fun x30_10 w10 =>
  C.guarded true x20_2 (fun K => C.loadAS S 2 x25_6 w10 K) w10 fun x26_11 w11 =>
  C.guarded true x20_2 (fun K => C.loadAS S 2 x30_10 w11 K) w11 fun x31_12 w12 =>
  (C.plainFn x22_3 (C.guarded true x20_2 (fun K => vcCall Try.prog x22_3 [x26_11, x31_12] w12 K) w12 fun x32_13 w13 =>
  (S w13 ∧
  C.guarded true x20_2 (fun K => C.int .lss x32_13 (.int .i64 0) w13 K) w13 fun x33_14 w14 =>
  C.pick (some x20_2) (some x33_14) (some (.bool false)) w14 fun x34_15 w15 =>
  C.ite x34_15 (F83.k6 K y0 y1 y2 y3 y8 y9 w15) (F83.k2 K y0 y1 y2 y3 y8 w15)))) ∧ True)) : F83.l4 K y0 y1 y2 y3 y8 y9 w := by unfold F83.l4; exact nav_round (Eq.mpr (by kernel_rfl) h)
theorem F83.k6.to {K : VK} {y0 y1 y2 y3 y8 y9 : Value} {w : World} (h : (C.draw w fun S w1 =>
  C.int .sub y9 (.int .i64 1) w1 fun x41_2 w2 =>
  C.int .sub y9 (.int .i64 1) w2 fun x44_3 w3 =>
  C.idx 2 y0 x44_3 w3 fun x45_4 w4 =>
  C.idx 2 y0 y9 w4 fun x49_5 w5 =>
  (C.loadA 2 x45_4 w5 fun x46_12 w12 =>
  (S w12 ∧
  (C.loadA 2 x49_5 w12 fun x50_13 w13 =>
  (S w13 ∧
  C.idx 2 y0 y9 w13 fun x51_14 w14 =>
  (C.store 2 x51_14 x46_12 w14 fun w15 =>
  (S w15 ∧
  C.idx 2 y0 x41_2 w15 fun x52_16 w16 =>
  (C.store 2 x52_16 x50_13 w16 fun w17 =>
  (S w17 ∧
  F83.k5 K y0 y1 y2 y3 y8 y9 w17)) ∧ True)) ∧ True)) ∧ True)) ∧ ((C.loadA 2 x49_5 w5 fun x50_6 w6 =>
  (S w6 ∧
  (C.loadA 2 x45_4 w6 fun x46_7 w7 =>
  (S w7 ∧
  C.idx 2 y0 y9 w7 fun x51_8 w8 =>
  (C.store 2 x51_8 x46_7 w8 fun w9 =>
  (S w9 ∧
  C.idx 2 y0 x41_2 w9 fun x52_10 w10 =>
  (C.store 2 x52_10 x50_6 w10 fun w11 =>
  (S w11 ∧
  F83.k5 K y0 y1 y2 y3 y8 y9 w11)) ∧ True)) ∧ True)) ∧ True)) ∧ True))) : F83.k6 K y0 y1 y2 y3 y8 y9 w := Eq.mpr (by kernel_rfl) h
theorem F83.k5.to {K : VK} {y0 y1 y2 y3 y8 y9 : Value} {w : World} (h : (C.int .sub y9 (.int .i64 1) w fun x36_1 w1 =>
  F83.l4 K y0 y1 y2 y3 y8 x36_1 w1)) : F83.k5 K y0 y1 y2 y3 y8 y9 w := Eq.mpr (by kernel_rfl) h
theorem F83.sh {K : VK} {x0 x1 x2 x3 : Value} {w : World} (h : (C.int .add x1 (.int .i64 1) w fun x11_1 w1 =>
  F83.l1 K x0 x1 x2 x3 x11_1 w1)) : C.call Try.prog 83 #[x0, x1, x2, x3] w K := calls_of_vc (A := F83.ann) (args := [x0, x1, x2, x3]) (Eq.mpr (by kernel_rfl) h)

/-! ### 84 slices.symMergeCmpFunc[scutage/api.Node] (40, 3, 3, 3, 85) -/
namespace F84
def ann : Ann := ⟨[(4, [0, 1, 4, 10, 11]), (8, [0, 1, 10]), (10, [0, 10, 13]), (11, [0, 10, 13]), (12, [0, 1, 2, 3, 4]), (16, [0, 2, 4, 14, 15]), (20, [0, 2, 14]), (22, [0, 14, 17]), (23, [0, 14, 17]), (24, [0, 1, 2, 3, 4]), (32, [0, 1, 2, 3, 4, 18, 19, 20, 21]), (34, [0, 1, 2, 3, 4, 18, 19, 20, 21, 22]), (38, [0, 1, 2, 3, 4, 18, 19, 20]), (41, [0, 1, 3, 4, 18, 20, 24]), (43, [0, 3, 4, 18, 24])], [(3, [0, 1, 4, 10, 11]), (9, [0, 10, 13]), (15, [0, 2, 4, 14, 15]), (21, [0, 14, 17]), (33, [0, 1, 2, 3, 4, 18, 19, 20, 21, 22])], [], [(5, (.take 0 (.take 1 (.take 2 (.take 3 (.take 5 (.take 6 (.take 7 (.take 4 (.take 8 (.go 9 (.take 10 .fin) .fin))))))))))), (11, (.take 0 (.take 1 (.take 2 (.take 3 (.take 4 (.take 5 (.take 6 (.take 7 (.take 8 (.take 10 (.take 11 (.take 12 (.go 9 (.go 13 (.take 14 (.go 15 (.take 16 (.go 17 .fin .fin)) .fin)) .fin) (.go 13 (.go 9 (.take 14 (.go 15 (.take 16 (.go 17 .fin .fin)) .fin)) .fin) .fin))))))))))))))), (17, (.take 0 (.take 1 (.take 2 (.take 3 (.take 5 (.take 6 (.take 7 (.take 4 (.take 8 (.go 9 (.take 10 (.take 11 .fin)) .fin))))))))))), (23, (.take 0 (.take 1 (.take 2 (.take 3 (.take 4 (.take 5 (.take 6 (.take 7 (.take 8 (.take 10 (.take 11 (.take 12 (.go 9 (.go 13 (.take 14 (.go 15 (.take 16 (.go 17 .fin .fin)) .fin)) .fin) (.go 13 (.go 9 (.take 14 (.go 15 (.take 16 (.go 17 .fin .fin)) .fin)) .fin) .fin))))))))))))))), (35, (.take 0 (.take 1 (.take 2 (.take 3 (.take 4 (.take 5 (.take 7 (.take 8 (.take 9 (.take 6 (.take 10 (.go 11 (.take 12 (.take 13 .fin)) .fin)))))))))))))], none⟩
noncomputable def code : Code := match Try.f84.body with | some c => c | none => .skip
noncomputable def top (K : VK) : QE := retQ Try.prog Try.f84.results.toList K
noncomputable def k12 (K : VK) (y0 y1 y2 y3 y4 : Value) (w : World) : Prop := nav ann Try.prog 220 (fun c Q => vcCode ann Try.prog 220 c Q [(0, y0), (1, y1), (2, y2), (3, y3), (4, y4)] w) [1] code (top K)
attribute [irreducible] k12
noncomputable def k8 (K : VK) (y0 y1 y10 : Value) (w : World) : Prop := nav ann Try.prog 220 (fun c Q => vcCode ann Try.prog 220 c Q [(0, y0), (1, y1), (10, y10)] w) [0, 1, 0, 1, 1, 1] code (top K)
attribute [irreducible] k8
noncomputable def l3 (K : VK) (y0 y1 y4 y10 y11 : Value) (w : World) : Prop := nav ann Try.prog 220 (isLoop ann Try.prog 220 [(0, y0), (1, y1), (4, y4), (10, y10), (11, y11)] w) [0, 1, 0, 1, 1, 0, 0] code (top K)
attribute [irreducible] l3
noncomputable def k4 (K : VK) (y0 y1 y4 y10 y11 : Value) (w : World) : Prop := nav ann Try.prog 220 (fun c Q => vcCode ann Try.prog 220 c Q [(0, y0), (1, y1), (4, y4), (10, y10), (11, y11)] w) [0, 1, 0, 1, 1, 0, 0, 0, 1] code (top K)
attribute [irreducible] k4
noncomputable def l9 (K : VK) (y0 y10 y13 : Value) (w : World) : Prop := nav ann Try.prog 220 (isLoop ann Try.prog 220 [(0, y0), (10, y10), (13, y13)] w) [0, 1, 0, 1, 1, 1, 0, 1, 0] code (top K)
attribute [irreducible] l9
noncomputable def k11 (K : VK) (y0 y10 y13 : Value) (w : World) : Prop := nav ann Try.prog 220 (fun c Q => vcCode ann Try.prog 220 c Q [(0, y0), (10, y10), (13, y13)] w) [0, 1, 0, 1, 1, 1, 0, 1, 0, 0, 1] code (top K)
attribute [irreducible] k11
noncomputable def k10 (K : VK) (y0 y10 y13 : Value) (w : World) : Prop := nav ann Try.prog 220 (fun c Q => vcCode ann Try.prog 220 c Q [(0, y0), (10, y10), (13, y13)] w) [0, 1, 0, 1, 1, 1, 0, 1, 0, 0, 1, 1] code (top K)
attribute [irreducible] k10
noncomputable def k24 (K : VK) (y0 y1 y2 y3 y4 : Value) (w : World) : Prop := nav ann Try.prog 220 (fun c Q => vcCode ann Try.prog 220 c Q [(0, y0), (1, y1), (2, y2), (3, y3), (4, y4)] w) [1, 1] code (top K)
attribute [irreducible] k24
noncomputable def k20 (K : VK) (y0 y2 y14 : Value) (w : World) : Prop := nav ann Try.prog 220 (fun c Q => vcCode ann Try.prog 220 c Q [(0, y0), (2, y2), (14, y14)] w) [1, 0, 1, 0, 1, 1, 1] code (top K)
attribute [irreducible] k20
noncomputable def l15 (K : VK) (y0 y2 y4 y14 y15 : Value) (w : World) : Prop := nav ann Try.prog 220 (isLoop ann Try.prog 220 [(0, y0), (2, y2), (4, y4), (14, y14), (15, y15)] w) [1, 0, 1, 0, 1, 1, 0, 0] code (top K)
attribute [irreducible] l15
noncomputable def k16 (K : VK) (y0 y2 y4 y14 y15 : Value) (w : World) : Prop := nav ann Try.prog 220 (fun c Q => vcCode ann Try.prog 220 c Q [(0, y0), (2, y2), (4, y4), (14, y14), (15, y15)] w) [1, 0, 1, 0, 1, 1, 0, 0, 0, 1] code (top K)
attribute [irreducible] k16
noncomputable def l21 (K : VK) (y0 y14 y17 : Value) (w : World) : Prop := nav ann Try.prog 220 (isLoop ann Try.prog 220 [(0, y0), (14, y14), (17, y17)] w) [1, 0, 1, 0, 1, 1, 1, 0, 1, 0] code (top K)
attribute [irreducible] l21
noncomputable def k23 (K : VK) (y0 y14 y17 : Value) (w : World) : Prop := nav ann Try.prog 220 (fun c Q => vcCode ann Try.prog 220 c Q [(0, y0), (14, y14), (17, y17)] w) [1, 0, 1, 0, 1, 1, 1, 0, 1, 0, 0, 1] code (top K)
attribute [irreducible] k23
noncomputable def k22 (K : VK) (y0 y14 y17 : Value) (w : World) : Prop := nav ann Try.prog 220 (fun c Q => vcCode ann Try.prog 220 c Q [(0, y0), (14, y14), (17, y17)] w) [1, 0, 1, 0, 1, 1, 1, 0, 1, 0, 0, 1, 1] code (top K)
attribute [irreducible] k22
noncomputable def k32 (K : VK) (y0 y1 y2 y3 y4 y18 y19 y20 y21 : Value) (w : World) : Prop := nav ann Try.prog 220 (fun c Q => vcCode ann Try.prog 220 c Q [(0, y0), (1, y1), (2, y2), (3, y3), (4, y4), (18, y18), (19, y19), (20, y20), (21, y21)] w) [1, 1, 1, 1, 1, 1] code (top K)
attribute [irreducible] k32
noncomputable def k38 (K : VK) (y0 y1 y2 y3 y4 y18 y19 y20 : Value) (w : World) : Prop := nav ann Try.prog 220 (fun c Q => vcCode ann Try.prog 220 c Q [(0, y0), (1, y1), (2, y2), (3, y3), (4, y4), (18, y18), (19, y19), (20, y20)] w) [1, 1, 1, 1, 1, 1, 1, 1] code (top K)
attribute [irreducible] k38
noncomputable def l33 (K : VK) (y0 y1 y2 y3 y4 y18 y19 y20 y21 y22 : Value) (w : World) : Prop := nav ann Try.prog 220 (isLoop ann Try.prog 220 [(0, y0), (1, y1), (2, y2), (3, y3), (4, y4), (18, y18), (19, y19), (20, y20), (21, y21), (22, y22)] w) [1, 1, 1, 1, 1, 1, 1, 0, 0] code (top K)
attribute [irreducible] l33
noncomputable def k34 (K : VK) (y0 y1 y2 y3 y4 y18 y19 y20 y21 y22 : Value) (w : World) : Prop := nav ann Try.prog 220 (fun c Q => vcCode ann Try.prog 220 c Q [(0, y0), (1, y1), (2, y2), (3, y3), (4, y4), (18, y18), (19, y19), (20, y20), (21, y21), (22, y22)] w) [1, 1, 1, 1, 1, 1, 1, 0, 0, 0, 1] code (top K)
attribute [irreducible] k34
noncomputable def k41 (K : VK) (y0 y1 y3 y4 y18 y20 y24 : Value) (w : World) : Prop := nav ann Try.prog 220 (fun c Q => vcCode ann Try.prog 220 c Q [(0, y0), (1, y1), (3, y3), (4, y4), (18, y18), (20, y20), (24, y24)] w) [1, 1, 1, 1, 1, 1, 1, 1, 1, 1] code (top K)
attribute [irreducible] k41
noncomputable def k43 (K : VK) (y0 y3 y4 y18 y24 : Value) (w : World) : Prop := nav ann Try.prog 220 (fun c Q => vcCode ann Try.prog 220 c Q [(0, y0), (3, y3), (4, y4), (18, y18), (24, y24)] w) [1, 1, 1, 1, 1, 1, 1, 1, 1, 1, 1] code (top K)
attribute [irreducible] k43
end F84
theorem F84.k12.to {K : VK} {y0 y1 y2 y3 y4 : Value} {w : World} (h : (C.int .sub y3 y2 w fun x79_1 w1 =>
  C.int .eql x79_1 (.int .i64 1) w1 fun x80_2 w2 =>
  C.ite x80_2 (F84.l15 K y0 y2 y4 y1 y2 w2) (F84.k24 K y0 y1 y2 y3 y4 w2))) : F84.k12 K y0 y1 y2 y3 y4 w := Eq.mpr (by kernel_rfl) h
theorem F84.k8.to {K : VK} {y0 y1 y10 : Value} {w : World} (h : (F84.l9 K y0 y10 y1 w)) : F84.k8 K y0 y1 y10 w := Eq.mpr (by kernel_rfl) h
theorem F84.l3.to {K : VK} {y0 y1 y4 y10 y11 : Value} {w : World} (h : (C.int .lss y10 y11 w fun x33_1 w1 =>
  C.ite x33_1 (F84.k4 K y0 y1 y4 y10 y11 w1) (F84.k8 K y0 y1 y10 w1))) : F84.l3 K y0 y1 y4 y10 y11 w := by unfold F84.l3; exact nav_round (Eq.mpr (by kernel_rfl) h)
theorem F84.k4.to {K : VK} {y0 y1 y4 y10 y11 : Value} {w : World} (h : (C.int .add y10 y11 w fun x36_1 w1 =>
  C.conv .u64 x36_1 w1 fun x37_2 w2 =>
  C.bin Try.prog .shr 100 (.tmp 37) (.const (.int .u64 1)) x37_2 (.int .u64 1) w2 fun x38_3 w3 =>
  C.conv .i64 x38_3 w3 fun x39_4 w4 =>
  C.draw w4 fun S w5 =>
  C.idx 2 y0 x39_4 w5 fun x43_6 w6 =>
  C.idx 2 y0 y1 w6 fun x47_7 w7 =>
  C.loadAS S 2 x43_6 w7 fun x44_8 w8 =>
  C.loadAS S 2 x47_7 w8 fun x48_9 w9 =>
  (C.plainFn y4 (vcCall Try.prog y4 [x44_8, x48_9] w9 fun x49_10 w10 =>
  (S w10 ∧
  C.int .lss x49_10 (.int .i64 0) w10 fun x50_11 w11 =>
  C.ite x50_11 (C.int .add x39_4 (.int .i64 1) w11 fun x52_12 w12 =>
  F84.l3 K y0 y1 y4 x52_12 y11 w12) (F84.l3 K y0 y1 y4 y10 x39_4 w11)))) ∧ True)) : F84.k4 K y0 y1 y4 y10 y11 w := Eq.mpr (by kernel_rfl) h
theorem F84.l9.to {K : VK} {y0 y10 y13 : Value} {w : World} (h : (C.int .sub y10 (.int .i64 1) w fun x57_1 w1 =>
  C.int .lss y13 x57_1 w1 fun x58_2 w2 =>
  C.ite x58_2 (F84.k11 K y0 y10 y13 w2) (K (.tuple #[]) w2))) : F84.l9 K y0 y10 y13 w := by unfold F84.l9; exact nav_round (Eq.mpr (by kernel_rfl) h)
theorem F84.k11.to {K : VK} {y0 y10 y13 : Value} {w : World} (h : (C.draw w fun S w1 =>
  C.int .add y13 (.int .i64 1) w1 fun x65_2 w2 =>
  C.int .add y13 (.int .i64 1) w2 fun x68_3 w3 =>
  C.idx 2 y0 x68_3 w3 fun x69_4 w4 =>
  C.idx 2 y0 y13 w4 fun x73_5 w5 =>
  (C.loadA 2 x69_4 w5 fun x70_12 w12 =>
  (S w12 ∧
  (C.loadA 2 x73_5 w12 fun x74_13 w13 =>
  (S w13 ∧
  C.idx 2 y0 y13 w13 fun x75_14 w14 =>
  (C.store 2 x75_14 x70_12 w14 fun w15 =>
  (S w15 ∧
  C.idx 2 y0 x65_2 w15 fun x76_16 w16 =>
  (C.store 2 x76_16 x74_13 w16 fun w17 =>
  (S w17 ∧
  F84.k10 K y0 y10 y13 w17)) ∧ True)) ∧ True)) ∧ True)) ∧ ((C.loadA 2 x73_5 w5 fun x74_6 w6 =>
  (S w6 ∧
  (C.loadA 2 x69_4 w6 fun x70_7 w7 =>
  (S w7 ∧
  C.idx 2 y0 y13 w7 fun x75_8 w8 =>
  (C.store 2 x75_8 x70_7 w8 fun w9 =>
  (S w9 ∧
  C.idx 2 y0 x65_2 w9 fun x76_10 w10 =>
  (C.store 2 x76_10 x74_6 w10 fun w11 =>
  (S w11 ∧
  F84.k10 K y0 y10 y13 w11)) ∧ True)) ∧ True)) ∧ True)) ∧ True))) : F84.k11 K y0 y10 y13 w := Eq.mpr (by kernel_rfl) h
theorem F84.k10.to {K : VK} {y0 y10 y13 : Value} {w : World} (h : (C.int .add y13 (.int .i64 1) w fun x60_1 w1 =>
  F84.l9 K y0 y10 x60_1 w1)) : F84.k10 K y0 y10 y13 w := Eq.mpr (by kernel_rfl) h
theorem F84.k24.to {K : VK} {y0 y1 y2 y3 y4 : Value} {w : World} (h : (C.int .add y1 y3 w fun x131_1 w1 =>
  C.conv .u64 x131_1 w1 fun x132_2 w2 =>
  C.bin Try.prog .shr 100 (.tmp 132) (.const (.int .u64 1)) x132_2 (.int .u64 1) w2 fun x133_3 w3 =>
  C.conv .i64 x133_3 w3 fun x134_4 w4 =>
  C.int .add x134_4 y2 w4 fun x137_5 w5 =>
  C.int .gtr y2 x134_4 w5 fun x140_6 w6 =>
  C.ite x140_6 (C.int .sub x137_5 y3 w6 fun x143_7 w7 =>
  F84.k32 K y0 y1 y2 y3 y4 x134_4 x137_5 x143_7 x134_4 w7) (F84.k32 K y0 y1 y2 y3 y4 x134_4 x137_5 y1 y2 w6))) : F84.k24 K y0 y1 y2 y3 y4 w := Eq.mpr (by kernel_rfl) h
theorem F84.k20.to {K : VK} {y0 y2 y14 : Value} {w : World} (h : (F84.l21 K y0 y14 y2 w)) : F84.k20 K y0 y2 y14 w := Eq.mpr (by kernel_rfl) h
theorem F84.l15.to {K : VK} {y0 y2 y4 y14 y15 : Value} {w : World} (h : (C.int .lss y14 y15 w fun x85_1 w1 =>
  C.ite x85_1 (F84.k16 K y0 y2 y4 y14 y15 w1) (F84.k20 K y0 y2 y14 w1))) : F84.l15 K y0 y2 y4 y14 y15 w := by unfold F84.l15; exact nav_round (Eq.mpr (by kernel_rfl) h)
theorem F84.k16.to {K : VK} {y0 y2 y4 y14 y15 : Value} {w : World} (h : (C.int .add y14 y15 w fun x88_1 w1 =>
  C.conv .u64 x88_1 w1 fun x89_2 w2 =>
  C.bin Try.prog .shr 100 (.tmp 89) (.const (.int .u64 1)) x89_2 (.int .u64 1) w2 fun x90_3 w3 =>
  C.conv .i64 x90_3 w3 fun x91_4 w4 =>
  C.draw w4 fun S w5 =>
  C.idx 2 y0 y2 w5 fun x95_6 w6 =>
  C.idx 2 y0 x91_4 w6 fun x99_7 w7 =>
  C.loadAS S 2 x95_6 w7 fun x96_8 w8 =>
  C.loadAS S 2 x99_7 w8 fun x100_9 w9 =>
  (C.plainFn y4 (vcCall Try.prog y4 [x96_8, x100_9] w9 fun x101_10 w10 =>
  (S w10 ∧
  C.int .lss x101_10 (.int .i64 0) w10 fun x102_11 w11 =>
  C.not x102_11 w11 fun x103_12 w12 =>
  C.ite x103_12 (C.int .add x91_4 (.int .i64 1) w12 fun x105_13 w13 =>
  F84.l15 K y0 y2 y4 x105_13 y15 w13) (F84.l15 K y0 y2 y4 y14 x91_4 w12)))) ∧ True)) : F84.k16 K y0 y2 y4 y14 y15 w := Eq.mpr (by kernel_rfl) h
theorem F84.l21.to {K : VK} {y0 y14 y17 : Value} {w : World} (h : (C.int .gtr y17 y14 w fun x110_1 w1 =>
  C.ite x110_1 (F84.k23 K y0 y14 y17 w1) (K (.tuple #[]) w1))) : F84.l21 K y0 y14 y17 w := by unfold F84.l21; exact nav_round (Eq.mpr (by kernel_rfl) h)
theorem F84.k23.to {K : VK} {y0 y14 y17 : Value} {w : World} (h : (C.draw w fun S w1 =>
  C.int .sub y17 (.int .i64 1) w1 fun x117_2 w2 =>
  C.int .sub y17 (.int .i64 1) w2 fun x120_3 w3 =>
  C.idx 2 y0 x120_3 w3 fun x121_4 w4 =>
  C.idx 2 y0 y17 w4 fun x125_5 w5 =>
  (C.loadA 2 x121_4 w5 fun x122_12 w12 =>
  (S w12 ∧
  (C.loadA 2 x125_5 w12 fun x126_13 w13 =>
  (S w13 ∧
  C.idx 2 y0 y17 w13 fun x127_14 w14 =>
  (C.store 2 x127_14 x122_12 w14 fun w15 =>
  (S w15 ∧
  C.idx 2 y0 x117_2 w15 fun x128_16 w16 =>
  (C.store 2 x128_16 x126_13 w16 fun w17 =>
  (S w17 ∧
  F84.k22 K y0 y14 y17 w17)) ∧ True)) ∧ True)) ∧ True)) ∧ ((C.loadA 2 x125_5 w5 fun x126_6 w6 =>
  (S w6 ∧
  (C.loadA 2 x121_4 w6 fun x122_7 w7 =>
  (S w7 ∧
  C.idx 2 y0 y17 w7 fun x127_8 w8 =>
  (C.store 2 x127_8 x122_7 w8 fun w9 =>
  (S w9 ∧
  C.idx 2 y0 x117_2 w9 fun x128_10 w10 =>
  (C.store 2 x128_10 x126_6 w10 fun w11 =>
  (S w11 ∧
  F84.k22 K y0 y14 y17 w11)) ∧ True)) ∧ True)) ∧ True)) ∧ True))) : F84.k23 K y0 y14 y17 w := Eq.mpr (by kernel_rfl) h
theorem F84.k22.to {K : VK} {y0 y14 y17 : Value} {w : World} (h : (C.int .sub y17 (.int .i64 1) w fun x112_1 w1 =>
  F84.l21 K y0 y14 x112_1 w1)) : F84.k22 K y0 y14 y17 w := Eq.mpr (by kernel_rfl) h
theorem F84.k32.to {K : VK} {y0 y1 y2 y3 y4 y18 y19 y20 y21 : Value} {w : World} (h : (C.int .sub y19 (.int .i64 1) w fun x148_1 w1 =>
  F84.l33 K y0 y1 y2 y3 y4 y18 y19 y20 y21 x148_1 w1)) : F84.k32 K y0 y1 y2 y3 y4 y18 y19 y20 y21 w := Eq.mpr (by kernel_rfl) h
theorem F84.k38.to {K : VK} {y0 y1 y2 y3 y4 y18 y19 y20 : Value} {w : World} (h : (C.int .sub y19 y20 w fun x177_1 w1 =>
  C.int .lss y20 y2 w1 fun x180_2 w2 =>
  C.guarded true x180_2 (fun K => K y2 w2) w2 fun x182_3 w3 =>
  C.guarded true x180_2 (fun K => K x177_1 w3) w3 fun x183_4 w4 =>
  C.guarded true x180_2 (fun K => C.int .lss x182_3 x183_4 w4 K) w4 fun x184_5 w5 =>
  C.pick (some x180_2) (some x184_5) (some (.bool false)) w5 fun x185_6 w6 =>
  C.ite x185_6 (C.call Try.prog 94 #[y0, y20, y2, x177_1, y4] w6 fun x191_7 w7 =>
  F84.k41 K y0 y1 y3 y4 y18 y20 x177_1 w7) (F84.k41 K y0 y1 y3 y4 y18 y20 x177_1 w6))) : F84.k38 K y0 y1 y2 y3 y4 y18 y19 y20 w := Eq.mpr (by kernel_rfl) h
theorem F84.l33.to {K : VK} {y0 y1 y2 y3 y4 y18 y19 y20 y21 y22 : Value} {w : World} (h : (C.int .lss y20 y21 w fun x151_1 w1 =>
  C.ite x151_1 (F84.k34 K y0 y1 y2 y3 y4 y18 y19 y20 y21 y22 w1) (F84.k38 K y0 y1 y2 y3 y4 y18 y19 y20 w1))) : F84.l33 K y0 y1 y2 y3 y4 y18 y19 y20 y21 y22 w := by unfold F84.l33; exact nav_round (Eq.mpr (by kernel_rfl) h)
theorem F84.k34.to {K : VK} {y0 y1 y2 y3 y4 y18 y19 y20 y21 y22 : Value} {w : World} (h : (C.int .add y20 y21 w fun x154_1 w1 =>
  C.conv .u64 x154_1 w1 fun x155_2 w2 =>
  C.bin Try.prog .shr 100 (.tmp 155) (.const (.int .u64 1)) x155_2 (.int .u64 1) w2 fun x156_3 w3 =>
  C.conv .i64 x156_3 w3 fun x157_4 w4 =>
  C.draw w4 fun S w5 =>
  C.int .sub y22 x157_4 w5 fun x162_6 w6 =>
  C.idx 2 y0 x162_6 w6 fun x163_7 w7 =>
  C.idx 2 y0 x157_4 w7 fun x167_8 w8 =>
  C.loadAS S 2 x163_7 w8 fun x164_9 w9 =>
  C.loadAS S 2 x167_8 w9 fun x168_10 w10 =>
  (C.plainFn y4 (vcCall Try.prog y4 [x164_9, x168_10] w10 fun x169_11 w11 =>
  (S w11 ∧
  C.int .lss x169_11 (.int .i64 0) w11 fun x170_12 w12 =>
  C.not x170_12 w12 fun x171_13 w13 =>
  C.ite x171_13 (C.int .add x157_4 (.int .i64 1) w13 fun x173_14 w14 =>
  F84.l33 K y0 y1 y2 y3 y4 y18 y19 x173_14 y21 y22 w14) (F84.l33 K y0 y1 y2 y3 y4 y18 y19 y20 x157_4 y22 w13)))) ∧ True)) : F84.k34 K y0 y1 y2 y3 y4 y18 y19 y20 y21 y22 w := Eq.mpr (by kernel_rfl) h
theorem F84.k41.to {K : VK} {y0 y1 y3 y4 y18 y20 y24 : Value} {w : World} (h : (C.int .lss y1 y20 w fun x194_1 w1 =>
  C.guarded true x194_1 (fun K => K y20 w1) w1 fun x196_2 w2 =>
  C.guarded true x194_1 (fun K => K y18 w2) w2 fun x197_3 w3 =>
  C.guarded true x194_1 (fun K => C.int .lss x196_2 x197_3 w3 K) w3 fun x198_4 w4 =>
  C.pick (some x194_1) (some x198_4) (some (.bool false)) w4 fun x199_5 w5 =>
  C.ite x199_5 (C.call Try.prog 84 #[y0, y1, y20, y18, y4] w5 fun x205_6 w6 =>
  F84.k43 K y0 y3 y4 y18 y24 w6) (F84.k43 K y0 y3 y4 y18 y24 w5))) : F84.k41 K y0 y1 y3 y4 y18 y20 y24 w := Eq.mpr (by kernel_rfl) h
theorem F84.k43.to {K : VK} {y0 y3 y4 y18 y24 : Value} {w : World} (h : (C.int .lss y18 y24 w fun x208_1 w1 =>
  C.guarded true x208_1 (fun K => K y24 w1) w1 fun x210_2 w2 =>
  C.guarded true x208_1 (fun K => K y3 w2) w2 fun x211_3 w3 =>
  C.guarded true x208_1 (fun K => C.int .lss x210_2 x211_3 w3 K) w3 fun x212_4 w4 =>
  C.pick (some x208_1) (some x212_4) (some (.bool false)) w4 fun x213_5 w5 =>
  C.ite x213_5 (C.call Try.prog 84 #[y0, y18, y24, y3, y4] w5 fun x219_6 w6 =>
  K (.tuple #[]) w6) (K (.tuple #[]) w5))) : F84.k43 K y0 y3 y4 y18 y24 w := Eq.mpr (by kernel_rfl) h
theorem F84.sh {K : VK} {x0 x1 x2 x3 x4 : Value} {w : World} (h : (C.int .sub x2 x1 w fun x27_1 w1 =>
  C.int .eql x27_1 (.int .i64 1) w1 fun x28_2 w2 =>
  C.ite x28_2 (F84.l3 K x0 x1 x4 x2 x3 w2) (F84.k12 K x0 x1 x2 x3 x4 w2))) : C.call Try.prog 84 #[x0, x1, x2, x3, x4] w K := calls_of_vc (A := F84.ann) (args := [x0, x1, x2, x3, x4]) (Eq.mpr (by kernel_rfl) h)

/-! ### 94 slices.rotateCmpFunc[scutage/api.Node] (40, 3, 3, 3, 85) -/
namespace F94
def ann : Ann := ⟨[(3, [0, 2, 4, 10, 11]), (8, [0, 2, 4, 10])], [(2, [0, 2, 4, 10, 11])], [], [], none⟩
noncomputable def code : Code := match Try.f94.body with | some c => c | none => .skip
noncomputable def top (K : VK) : QE := retQ Try.prog Try.f94.results.toList K
noncomputable def k8 (K : VK) (y0 y2 y4 y10 : Value) (w : World) : Prop := nav ann Try.prog 58 (fun c Q => vcCode ann Try.prog 58 c Q [(0, y0), (2, y2), (4, y4), (10, y10)] w) [1, 1, 1] code (top K)
attribute [irreducible] k8
noncomputable def l2 (K : VK) (y0 y2 y4 y10 y11 : Value) (w : World) : Prop := nav ann Try.prog 58 (isLoop ann Try.prog 58 [(0, y0), (2, y2), (4, y4), (10, y10), (11, y11)] w) [1, 1, 0, 0] code (top K)
attribute [irreducible] l2
noncomputable def k3 (K : VK) (y0 y2 y4 y10 y11 : Value) (w : World) : Prop := nav ann Try.prog 58 (fun c Q => vcCode ann Try.prog 58 c Q [(0, y0), (2, y2), (4, y4), (10, y10), (11, y11)] w) [1, 1, 0, 0, 0, 1] code (top K)
attribute [irreducible] k3
end F94
theorem F94.k8.to {K : VK} {y0 y2 y4 y10 : Value} {w : World} (h : (C.int .sub y2 y10 w fun x53_1 w1 =>
  C.call Try.prog 96 #[y0, x53_1, y2, y10, y4] w1 fun x57_2 w2 =>
  K (.tuple #[]) w2)) : F94.k8 K y0 y2 y4 y10 w := Eq.mpr (by kernel_rfl) h
theorem F94.l2.to {K : VK} {y0 y2 y4 y10 y11 : Value} {w : World} (h : (C.int .neq y10 y11 w fun x20_1 w1 =>
  C.ite x20_1 (F94.k3 K y0 y2 y4 y10 y11 w1) (F94.k8 K y0 y2 y4 y10 w1))) : F94.l2 K y0 y2 y4 y10 y11 w := by unfold F94.l2; exact nav_round (Eq.mpr (by kernel_rfl) h)
theorem F94.k3.to {K : VK} {y0 y2 y4 y10 y11 : Value} {w : World} (h : (C.int .gtr y10 y11 w fun x23_1 w1 =>
  C.ite x23_1 (C.int .sub y2 y10 w1 fun x27_2 w2 =>
  C.call Try.prog 96 #[y0, x27_2, y2, y11, y4] w2 fun x31_3 w3 =>
  C.int .sub y10 y11 w3 fun x34_4 w4 =>
  F94.l2 K y0 y2 y4 x34_4 y11 w4) (C.int .sub y2 y10 w1 fun x38_5 w5 =>
  C.int .add y2 y11 w5 fun x41_6 w6 =>
  C.int .sub x41_6 y10 w6 fun x43_7 w7 =>
  C.call Try.prog 96 #[y0, x38_5, x43_7, y10, y4] w7 fun x46_8 w8 =>
  C.int .sub y11 y10 w8 fun x49_9 w9 =>
  F94.l2 K y0 y2 y4 y10 x49_9 w9))) : F94.k3 K y0 y2 y4 y10 y11 w := Eq.mpr (by kernel_rfl) h
theorem F94.sh {K : VK} {x0 x1 x2 x3 x4 : Value} {w : World} (h : (C.int .sub x2 x1 w fun x14_1 w1 =>
  C.int .sub x3 x2 w1 fun x17_2 w2 =>
  F94.l2 K x0 x2 x4 x14_1 x17_2 w2)) : C.call Try.prog 94 #[x0, x1, x2, x3, x4] w K := calls_of_vc (A := F94.ann) (args := [x0, x1, x2, x3, x4]) (Eq.mpr (by kernel_rfl) h)

/-! ### 96 slices.swapRangeCmpFunc[scutage/api.Node] (40, 3, 3, 3, 85) -/
namespace F96
def ann : Ann := ⟨[(2, [0, 1, 2, 3, 10]), (3, [0, 1, 2, 3, 10])], [(1, [0, 1, 2, 3, 10])], [], [(3, (.take 0 (.take 1 (.take 2 (.take 3 (.take 4 (.take 5 (.take 6 (.take 7 (.take 8 (.take 9 (.take 10 (.take 11 (.take 12 (.take 14 (.take 15 (.take 16 (.take 17 (.take 18 (.go 13 (.go 19 (.take 20 (.go 21 (.take 22 (.go 23 .fin .fin)) .fin)) .fin) (.go 19 (.go 13 (.take 20 (.go 21 (.take 22 (.go 23 .fin .fin)) .fin)) .fin) .fin)))))))))))))))))))))], none⟩
noncomputable def code : Code := match Try.f96.body with | some c => c | none => .skip
noncomputable def top (K : VK) : QE := retQ Try.prog Try.f96.results.toList K
noncomputable def l1 (K : VK) (y0 y1 y2 y3 y10 : Value) (w : World) : Prop := nav ann Try.prog 38 (isLoop ann Try.prog 38 [(0, y0), (1, y1), (2, y2), (3, y3), (10, y10)] w) [1, 0] code (top K)
attribute [irreducible] l1
noncomputable def k3 (K : VK) (y0 y1 y2 y3 y10 : Value) (w : World) : Prop := nav ann Try.prog 38 (fun c Q => vcCode ann Try.prog 38 c Q [(0, y0), (1, y1), (2, y2), (3, y3), (10, y10)] w) [1, 0, 0, 1] code (top K)
attribute [irreducible] k3
noncomputable def k2 (K : VK) (y0 y1 y2 y3 y10 : Value) (w : World) : Prop := nav ann Try.prog 38 (fun c Q => vcCode ann Try.prog 38 c Q [(0, y0), (1, y1), (2, y2), (3, y3), (10, y10)] w) [1, 0, 0, 1, 1] code (top K)
attribute [irreducible] k2
end F96
theorem F96.l1.to {K : VK} {y0 y1 y2 y3 y10 : Value} {w : World} (h : (C.int .lss y10 y3 w fun x13_1 w1 =>
  C.ite x13_1 (F96.k3 K y0 y1 y2 y3 y10 w1) (K (.tuple #[]) w1))) : F96.l1 K y0 y1 y2 y3 y10 w := by unfold F96.l1; exact nav_round (Eq.mpr (by kernel_rfl) h)
theorem F96.k3.to {K : VK} {y0 y1 y2 y3 y10 : Value} {w : World} (h : (C.draw w fun S w1 =>
  C.int .add y1 y10 w1 fun x19_2 w2 =>
  C.int .add y2 y10 w2 fun x23_3 w3 =>
  C.int .add y2 y10 w3 fun x27_4 w4 =>
  C.idx 2 y0 x27_4 w4 fun x28_5 w5 =>
  C.int .add y1 y10 w5 fun x33_6 w6 =>
  C.idx 2 y0 x33_6 w6 fun x34_7 w7 =>
  (C.loadA 2 x28_5 w7 fun x29_14 w14 =>
  (S w14 ∧
  (C.loadA 2 x34_7 w14 fun x35_15 w15 =>
  (S w15 ∧
  C.idx 2 y0 x19_2 w15 fun x36_16 w16 =>
  (C.store 2 x36_16 x29_14 w16 fun w17 =>
  (S w17 ∧
  C.idx 2 y0 x23_3 w17 fun x37_18 w18 =>
  (C.store 2 x37_18 x35_15 w18 fun w19 =>
  (S w19 ∧
  F96.k2 K y0 y1 y2 y3 y10 w19)) ∧ True)) ∧ True)) ∧ True)) ∧ ((C.loadA 2 x34_7 w7 fun x35_8 w8 =>
  (S w8 ∧
  (C.loadA 2 x28_5 w8 fun x29_9 w9 =>
  (S w9 ∧
  C.idx 2 y0 x19_2 w9 fun x36_10 w10 =>
  (C.store 2 x36_10 x29_9 w10 fun w11 =>
  (S w11 ∧
  C.idx 2 y0 x23_3 w11 fun x37_12 w12 =>
  (C.store 2 x37_12 x35_8 w12 fun w13 =>
  (S w13 ∧
  F96.k2 K y0 y1 y2 y3 y10 w13)) ∧ True)) ∧ True)) ∧ True)) ∧ True))) : F96.k3 K y0 y1 y2 y3 y10 w := Eq.mpr (by kernel_rfl) h
theorem F96.k2.to {K : VK} {y0 y1 y2 y3 y10 : Value} {w : World} (h : (C.int .add y10 (.int .i64 1) w fun x15_1 w1 =>
  F96.l1 K y0 y1 y2 y3 x15_1 w1)) : F96.k2 K y0 y1 y2 y3 y10 w := Eq.mpr (by kernel_rfl) h
theorem F96.sh {K : VK} {x0 x1 x2 x3 x4 : Value} {w : World} (h : (F96.l1 K x0 x1 x2 x3 (.int .i64 0) w)) : C.call Try.prog 96 #[x0, x1, x2, x3, x4] w K := calls_of_vc (A := F96.ann) (args := [x0, x1, x2, x3, x4]) (Eq.mpr (by kernel_rfl) h)

end Go.Proofs.YtfjilngljnlkjaaV
