/- What the bodies of these functions ask, as plain statements. Written by gen.py (own work) for the seat Ytfdpmgddlaamcaa. -/
import Derived.Test.YtfdpmgddlaamcaaVc3
import Derived.Test.YtfdpmgddlaamcaaProg
namespace Go.Proofs.YtfdpmgddlaamcaaV
open Go Go.Proofs
set_option linter.unusedVariables false
set_option maxRecDepth 100000

/-! ### 6 scutage/scutagelaw27.ViewChecks (51) -/
namespace F6
def ann : Ann := ⟨[], [], [], [(1, (.go 0 (.take 1 (.take 2 (.take 4 (.go 3 (.go 5 (.take 6 (.take 7 (.take 8 .fin))) .fin) .fin)))) .fin))], none⟩
noncomputable def code : Code := match Try.f6.body with | some c => c | none => .skip
noncomputable def top (K : VK) : QE := retQ Try.prog Try.f6.results.toList K
end F6
theorem F6.sh {K : VK} {x0 : Value} {w : World} (h : (C.new (.cells (Value.cells x0) 51) w fun x1_1 w1 =>
  C.draw w1 fun S w2 =>
  (C.call Try.prog 25 #[] w2 fun x3_3 w3 =>
  (S w3 ∧
  C.guarded true x3_3 (fun K => C.loadAS S 2 x1_1 w3 K) w3 fun x5_4 w4 =>
  C.guarded true x3_3 (fun K => C.loadAS S 2 x1_1 w4 K) w4 fun x7_5 w5 =>
  (C.guarded true x3_3 (fun K => C.call Try.prog 26 #[x5_4] w5 K) w5 fun x6_6 w6 =>
  (S w6 ∧
  (C.guarded true x3_3 (fun K => C.call Try.prog 27 #[x7_5] w6 K) w6 fun x8_7 w7 =>
  (S w7 ∧
  C.guarded true x3_3 (fun K => C.int .eql x6_6 x8_7 w7 K) w7 fun x9_8 w8 =>
  C.pick (some x3_3) (some x9_8) (some (.bool false)) w8 fun x10_9 w9 =>
  K x10_9 w9)) ∧ True)) ∧ True)) ∧ True)) : C.call Try.prog 6 #[x0] w K := calls_of_vc (A := F6.ann) (args := [x0]) (Eq.mpr (by kernel_rfl) h)

/-! ### 7 scutage/scutagelaw27.ViewReaches (51) -/
namespace F7
def ann : Ann := ⟨[(3, [1]), (6, [1, 3, 4, 5]), (7, [1, 3, 4, 5]), (9, [1, 3, 4]), (12, [1, 3, 4, 6, 7]), (13, [1, 3, 4, 6, 7]), (14, [1, 3, 4, 6, 7]), (18, [1, 3, 4, 6, 7, 8, 9]), (19, [1, 3, 4, 6, 7, 8, 9]), (20, [1, 3, 4, 6, 7, 8]), (22, [4, 6])], [(5, [1, 3, 4, 5]), (11, [1, 3, 4, 6, 7]), (17, [1, 3, 4, 6, 7, 8, 9])], [], [(3, (.take 0 (.take 2 (.go 1 (.go 3 (.take 4 (.take 5 .fin)) .fin) .fin)))), (7, (.take 0 (.take 1 (.take 2 (.take 4 (.take 5 (.take 6 (.take 7 (.take 3 (.take 8 (.take 9 .fin))))))))))), (19, (.take 0 (.take 1 (.take 2 (.take 3 (.take 4 (.take 6 (.take 8 (.take 5 (.take 7 (.take 9 (.take 10 (.take 11 (.take 12 (.take 13 (.take 14 .fin))))))))))))))))], none⟩
noncomputable def code : Code := match Try.f7.body with | some c => c | none => .skip
noncomputable def top (K : VK) : QE := retQ Try.prog Try.f7.results.toList K
noncomputable def k3 (K : VK) (y1 : Value) (w : World) : Prop := nav ann Try.prog 71 (fun c Q => vcCode ann Try.prog 71 c Q [(1, y1)] w) [1, 1] code (top K)
attribute [irreducible] k3
noncomputable def k9 (K : VK) (y1 y3 y4 : Value) (w : World) : Prop := nav ann Try.prog 71 (fun c Q => vcCode ann Try.prog 71 c Q [(1, y1), (3, y3), (4, y4)] w) [1, 1, 1, 1] code (top K)
attribute [irreducible] k9
noncomputable def l5 (K : VK) (y1 y3 y4 y5 : Value) (w : World) : Prop := nav ann Try.prog 71 (isLoop ann Try.prog 71 [(1, y1), (3, y3), (4, y4), (5, y5)] w) [1, 1, 1, 0, 1, 0] code (top K)
attribute [irreducible] l5
noncomputable def k7 (K : VK) (y1 y3 y4 y5 : Value) (w : World) : Prop := nav ann Try.prog 71 (fun c Q => vcCode ann Try.prog 71 c Q [(1, y1), (3, y3), (4, y4), (5, y5)] w) [1, 1, 1, 0, 1, 0, 0, 1] code (top K)
attribute [irreducible] k7
noncomputable def k6 (K : VK) (y1 y3 y4 y5 : Value) (w : World) : Prop := nav ann Try.prog 71 (fun c Q => vcCode ann Try.prog 71 c Q [(1, y1), (3, y3), (4, y4), (5, y5)] w) [1, 1, 1, 0, 1, 0, 0, 1, 1] code (top K)
attribute [irreducible] k6
noncomputable def k22 (K : VK) (y4 y6 : Value) (w : World) : Prop := nav ann Try.prog 71 (fun c Q => vcCode ann Try.prog 71 c Q [(4, y4), (6, y6)] w) [1, 1, 1, 1, 1, 1] code (top K)
attribute [irreducible] k22
noncomputable def l11 (K : VK) (y1 y3 y4 y6 y7 : Value) (w : World) : Prop := nav ann Try.prog 71 (isLoop ann Try.prog 71 [(1, y1), (3, y3), (4, y4), (6, y6), (7, y7)] w) [1, 1, 1, 1, 1, 0, 1, 0] code (top K)
attribute [irreducible] l11
noncomputable def k13 (K : VK) (y1 y3 y4 y6 y7 : Value) (w : World) : Prop := nav ann Try.prog 71 (fun c Q => vcCode ann Try.prog 71 c Q [(1, y1), (3, y3), (4, y4), (6, y6), (7, y7)] w) [1, 1, 1, 1, 1, 0, 1, 0, 0, 1] code (top K)
attribute [irreducible] k13
noncomputable def k12 (K : VK) (y1 y3 y4 y6 y7 : Value) (w : World) : Prop := nav ann Try.prog 71 (fun c Q => vcCode ann Try.prog 71 c Q [(1, y1), (3, y3), (4, y4), (6, y6), (7, y7)] w) [1, 1, 1, 1, 1, 0, 1, 0, 0, 1, 1] code (top K)
attribute [irreducible] k12
noncomputable def k14 (K : VK) (y1 y3 y4 y6 y7 : Value) (w : World) : Prop := nav ann Try.prog 71 (fun c Q => vcCode ann Try.prog 71 c Q [(1, y1), (3, y3), (4, y4), (6, y6), (7, y7)] w) [1, 1, 1, 1, 1, 0, 1, 0, 0, 1, 0, 0, 1] code (top K)
attribute [irreducible] k14
noncomputable def k20 (K : VK) (y1 y3 y4 y6 y7 y8 : Value) (w : World) : Prop := nav ann Try.prog 71 (fun c Q => vcCode ann Try.prog 71 c Q [(1, y1), (3, y3), (4, y4), (6, y6), (7, y7), (8, y8)] w) [1, 1, 1, 1, 1, 0, 1, 0, 0, 1, 0, 0, 1, 1, 1, 1] code (top K)
attribute [irreducible] k20
noncomputable def l17 (K : VK) (y1 y3 y4 y6 y7 y8 y9 : Value) (w : World) : Prop := nav ann Try.prog 71 (isLoop ann Try.prog 71 [(1, y1), (3, y3), (4, y4), (6, y6), (7, y7), (8, y8), (9, y9)] w) [1, 1, 1, 1, 1, 0, 1, 0, 0, 1, 0, 0, 1, 1, 1, 0, 1, 0] code (top K)
attribute [irreducible] l17
noncomputable def k19 (K : VK) (y1 y3 y4 y6 y7 y8 y9 : Value) (w : World) : Prop := nav ann Try.prog 71 (fun c Q => vcCode ann Try.prog 71 c Q [(1, y1), (3, y3), (4, y4), (6, y6), (7, y7), (8, y8), (9, y9)] w) [1, 1, 1, 1, 1, 0, 1, 0, 0, 1, 0, 0, 1, 1, 1, 0, 1, 0, 0, 1] code (top K)
attribute [irreducible] k19
noncomputable def k18 (K : VK) (y1 y3 y4 y6 y7 y8 y9 : Value) (w : World) : Prop := nav ann Try.prog 71 (fun c Q => vcCode ann Try.prog 71 c Q [(1, y1), (3, y3), (4, y4), (6, y6), (7, y7), (8, y8), (9, y9)] w) [1, 1, 1, 1, 1, 0, 1, 0, 0, 1, 0, 0, 1, 1, 1, 0, 1, 0, 0, 1, 1] code (top K)
attribute [irreducible] k18
end F7
theorem F7.k3.to {K : VK} {y1 : Value} {w : World} (h : (C.draw w fun S w1 =>
  C.loadAS S 2 y1 w1 fun x12_2 w2 =>
  C.loadAS S 2 y1 w2 fun x14_3 w3 =>
  (C.call Try.prog 28 #[x12_2] w3 fun x13_4 w4 =>
  (S w4 ∧
  (C.call Try.prog 29 #[x14_3] w4 fun x15_5 w5 =>
  (S w5 ∧
  F7.l5 K y1 x13_4 x15_5 (.int .i64 1) w5)) ∧ True)) ∧ True)) : F7.k3 K y1 w := Eq.mpr (by kernel_rfl) h
theorem F7.k9.to {K : VK} {y1 y3 y4 : Value} {w : World} (h : (F7.l11 K y1 y3 y4 (.int .i64 0) (.int .i64 0) w)) : F7.k9 K y1 y3 y4 w := Eq.mpr (by kernel_rfl) h
theorem F7.l5.to {K : VK} {y1 y3 y4 y5 : Value} {w : World} (h : (C.len y4 w fun x18_1 w1 =>
  C.int .lss y5 x18_1 w1 fun x19_2 w2 =>
  C.ite x19_2 (F7.k7 K y1 y3 y4 y5 w2) (F7.k9 K y1 y3 y4 w2))) : F7.l5 K y1 y3 y4 y5 w := by unfold F7.l5; exact nav_round (Eq.mpr (by kernel_rfl) h)
theorem F7.k7.to {K : VK} {y1 y3 y4 y5 : Value} {w : World} (h : (C.draw w fun S w1 =>
  C.idx 1 y4 y5 w1 fun x24_2 w2 =>
  C.int .sub y5 (.int .i64 1) w2 fun x28_3 w3 =>
  C.idx 1 y4 x28_3 w3 fun x29_4 w4 =>
  C.load1S S x24_2 w4 fun x25_5 w5 =>
  C.load1S S x29_4 w5 fun x30_6 w6 =>
  C.int .leq x25_5 x30_6 w6 fun x31_7 w7 =>
  C.ite x31_7 (K (.bool false) w7) (F7.k6 K y1 y3 y4 y5 w7))) : F7.k7 K y1 y3 y4 y5 w := Eq.mpr (by kernel_rfl) h
theorem F7.k6.to {K : VK} {y1 y3 y4 y5 : Value} {w : World} (h : (C.int .add y5 (.int .i64 1) w fun x21_1 w1 =>
  F7.l5 K y1 y3 y4 x21_1 w1)) : F7.k6 K y1 y3 y4 y5 w := Eq.mpr (by kernel_rfl) h
theorem F7.k22.to {K : VK} {y4 y6 : Value} {w : World} (h : (C.len y4 w fun x68_1 w1 =>
  C.int .eql x68_1 y6 w1 fun x70_2 w2 =>
  K x70_2 w2)) : F7.k22 K y4 y6 w := Eq.mpr (by kernel_rfl) h
theorem F7.l11.to {K : VK} {y1 y3 y4 y6 y7 : Value} {w : World} (h : (C.len y3 w fun x34_1 w1 =>
  C.int .lss y7 x34_1 w1 fun x35_2 w2 =>
  C.ite x35_2 (F7.k13 K y1 y3 y4 y6 y7 w2) (F7.k22 K y4 y6 w2))) : F7.l11 K y1 y3 y4 y6 y7 w := by unfold F7.l11; exact nav_round (Eq.mpr (by kernel_rfl) h)
theorem F7.k13.to {K : VK} {y1 y3 y4 y6 y7 : Value} {w : World} (h : (C.idx 1 y3 y7 w fun x40_1 w1 =>
  C.load1 x40_1 w1 fun x41_2 w2 =>
  C.not x41_2 w2 fun x42_3 w3 =>
  C.ite x42_3 (F7.k12 K y1 y3 y4 y6 y7 w3) (F7.k14 K y1 y3 y4 y6 y7 w3))) : F7.k13 K y1 y3 y4 y6 y7 w := Eq.mpr (by kernel_rfl) h
theorem F7.k12.to {K : VK} {y1 y3 y4 y6 y7 : Value} {w : World} (h : (C.int .add y7 (.int .i64 1) w fun x37_1 w1 =>
  F7.l11 K y1 y3 y4 y6 x37_1 w1)) : F7.k12 K y1 y3 y4 y6 y7 w := Eq.mpr (by kernel_rfl) h
theorem F7.k14.to {K : VK} {y1 y3 y4 y6 y7 : Value} {w : World} (h : (C.int .add y6 (.int .i64 1) w fun x44_1 w1 =>
  F7.l17 K y1 y3 y4 x44_1 y7 (.bool false) (.int .i64 0) w1)) : F7.k14 K y1 y3 y4 y6 y7 w := Eq.mpr (by kernel_rfl) h
theorem F7.k20.to {K : VK} {y1 y3 y4 y6 y7 y8 : Value} {w : World} (h : (C.not y8 w fun x66_1 w1 =>
  C.ite x66_1 (K (.bool false) w1) (F7.k12 K y1 y3 y4 y6 y7 w1))) : F7.k20 K y1 y3 y4 y6 y7 y8 w := Eq.mpr (by kernel_rfl) h
theorem F7.l17.to {K : VK} {y1 y3 y4 y6 y7 y8 y9 : Value} {w : World} (h : (C.len y4 w fun x47_1 w1 =>
  C.int .lss y9 x47_1 w1 fun x48_2 w2 =>
  C.ite x48_2 (F7.k19 K y1 y3 y4 y6 y7 y8 y9 w2) (F7.k20 K y1 y3 y4 y6 y7 y8 w2))) : F7.l17 K y1 y3 y4 y6 y7 y8 y9 w := by unfold F7.l17; exact nav_round (Eq.mpr (by kernel_rfl) h)
theorem F7.k19.to {K : VK} {y1 y3 y4 y6 y7 y8 y9 : Value} {w : World} (h : (C.draw w fun S w1 =>
  C.guarded false y8 (fun K => K y4 w1) w1 fun x53_2 w2 =>
  C.guarded false y8 (fun K => K y9 w2) w2 fun x54_3 w3 =>
  C.guarded false y8 (fun K => C.idx 1 x53_2 x54_3 w3 K) w3 fun x55_4 w4 =>
  C.guarded false y8 (fun K => C.field 1 y1 w4 K) w4 fun x57_5 w5 =>
  C.guarded false y8 (fun K => K y7 w5) w5 fun x59_6 w6 =>
  C.guarded false y8 (fun K => C.load1S S x55_4 w6 K) w6 fun x56_7 w7 =>
  C.guarded false y8 (fun K => C.load1S S x57_5 w7 K) w7 fun x58_8 w8 =>
  C.guarded false y8 (fun K => C.idx 2 x58_8 x59_6 w8 K) w8 fun x60_9 w9 =>
  C.guarded false y8 (fun K => C.field 0 x60_9 w9 K) w9 fun x61_10 w10 =>
  C.guarded false y8 (fun K => C.load1S S x61_10 w10 K) w10 fun x62_11 w11 =>
  C.guarded false y8 (fun K => C.int .eql x56_7 x62_11 w11 K) w11 fun x63_12 w12 =>
  C.pick (some y8) (some (.bool true)) (some x63_12) w12 fun x64_13 w13 =>
  F7.k18 K y1 y3 y4 y6 y7 x64_13 y9 w13)) : F7.k19 K y1 y3 y4 y6 y7 y8 y9 w := Eq.mpr (by kernel_rfl) h
theorem F7.k18.to {K : VK} {y1 y3 y4 y6 y7 y8 y9 : Value} {w : World} (h : (C.int .add y9 (.int .i64 1) w fun x50_1 w1 =>
  F7.l17 K y1 y3 y4 y6 y7 y8 x50_1 w1)) : F7.k18 K y1 y3 y4 y6 y7 y8 y9 w := Eq.mpr (by kernel_rfl) h
theorem F7.sh {K : VK} {x0 : Value} {w : World} (h : (C.new (.cells (Value.cells x0) 51) w fun x1_1 w1 =>
  C.call Try.prog 25 #[] w1 fun x10_2 w2 =>
  C.not x10_2 w2 fun x11_3 w3 =>
  C.ite x11_3 (K (.bool false) w3) (F7.k3 K x1_1 w3))) : C.call Try.prog 7 #[x0] w K := calls_of_vc (A := F7.ann) (args := [x0]) (Eq.mpr (by kernel_rfl) h)

/-! ### 8 scutage/scutagelaw27.ViewTells (51, 51, 2) -/
namespace F8
def ann : Ann := ⟨[(3, [2, 3, 4]), (7, [2, 3, 4, 7, 8, 9, 10, 11]), (8, [2, 3, 4, 7, 8, 9, 10, 11]), (9, [2, 3, 4, 7, 8, 9, 10]), (11, [2, 3, 7, 8, 9])], [(6, [2, 3, 4, 7, 8, 9, 10, 11])], [], [(9, (.take 0 (.take 1 (.take 3 (.take 4 (.go 2 (.go 5 (.take 6 (.take 7 (.take 8 (.take 9 (.go 10 (.take 11 (.take 12 (.take 13 (.take 16 (.take 14 (.go 15 (.take 17 (.take 18 (.take 19 (.take 20 (.take 21 (.take 22 (.take 23 (.take 24 .fin)))))))) .fin)))))) .fin))))) .fin) .fin)))))), (11, (.take 0 (.take 1 (.take 2 (.take 3 (.take 4 (.take 5 (.take 6 (.take 7 (.take 8 (.take 9 (.take 10 (.take 11 (.take 12 (.take 13 (.take 14 (.take 15 (.take 16 (.take 18 (.take 17 (.take 19 (.take 20 (.take 21 (.take 22 (.take 24 (.take 26 (.take 23 (.take 25 (.take 27 (.take 28 (.take 29 (.go 30 (.take 31 (.take 32 (.take 33 .fin))) .fin))))))))))))))))))))))))))))))))], none⟩
noncomputable def code : Code := match Try.f8.body with | some c => c | none => .skip
noncomputable def top (K : VK) : QE := retQ Try.prog Try.f8.results.toList K
noncomputable def k3 (K : VK) (y2 y3 y4 : Value) (w : World) : Prop := nav ann Try.prog 98 (fun c Q => vcCode ann Try.prog 98 c Q [(2, y2), (3, y3), (4, y4)] w) [1, 1] code (top K)
attribute [irreducible] k3
noncomputable def k9 (K : VK) (y2 y3 y4 y7 y8 y9 y10 : Value) (w : World) : Prop := nav ann Try.prog 98 (fun c Q => vcCode ann Try.prog 98 c Q [(2, y2), (3, y3), (4, y4), (7, y7), (8, y8), (9, y9), (10, y10)] w) [1, 1, 1, 1, 1] code (top K)
attribute [irreducible] k9
noncomputable def l6 (K : VK) (y2 y3 y4 y7 y8 y9 y10 y11 : Value) (w : World) : Prop := nav ann Try.prog 98 (isLoop ann Try.prog 98 [(2, y2), (3, y3), (4, y4), (7, y7), (8, y8), (9, y9), (10, y10), (11, y11)] w) [1, 1, 1, 1, 0, 1, 0] code (top K)
attribute [irreducible] l6
noncomputable def k8 (K : VK) (y2 y3 y4 y7 y8 y9 y10 y11 : Value) (w : World) : Prop := nav ann Try.prog 98 (fun c Q => vcCode ann Try.prog 98 c Q [(2, y2), (3, y3), (4, y4), (7, y7), (8, y8), (9, y9), (10, y10), (11, y11)] w) [1, 1, 1, 1, 0, 1, 0, 0, 1] code (top K)
attribute [irreducible] k8
noncomputable def k7 (K : VK) (y2 y3 y4 y7 y8 y9 y10 y11 : Value) (w : World) : Prop := nav ann Try.prog 98 (fun c Q => vcCode ann Try.prog 98 c Q [(2, y2), (3, y3), (4, y4), (7, y7), (8, y8), (9, y9), (10, y10), (11, y11)] w) [1, 1, 1, 1, 0, 1, 0, 0, 1, 1] code (top K)
attribute [irreducible] k7
noncomputable def k11 (K : VK) (y2 y3 y7 y8 y9 : Value) (w : World) : Prop := nav ann Try.prog 98 (fun c Q => vcCode ann Try.prog 98 c Q [(2, y2), (3, y3), (7, y7), (8, y8), (9, y9)] w) [1, 1, 1, 1, 1, 1] code (top K)
attribute [irreducible] k11
end F8
theorem F8.k3.to {K : VK} {y2 y3 y4 : Value} {w : World} (h : (C.loadA 2 y3 w fun x15_1 w1 =>
  C.call Try.prog 30 #[x15_1, y2] w1 fun x17_2 w2 =>
  C.ext 0 x17_2 w2 fun x18_3 w3 =>
  C.ext 1 x17_2 w3 fun x19_4 w4 =>
  C.new (.cells #[.int .i64 0, .slice none 0 0] 61) w4 fun x7_5 w5 =>
  C.store 2 x7_5 x18_3 w5 fun w6 =>
  C.loadA 2 y3 w6 fun x20_7 w7 =>
  C.call Try.prog 31 #[x20_7, y2] w7 fun x22_8 w8 =>
  F8.l6 K y2 y3 y4 x7_5 x19_4 x22_8 (.int .i64 0) (.int .i64 0) w8)) : F8.k3 K y2 y3 y4 w := Eq.mpr (by kernel_rfl) h
theorem F8.k9.to {K : VK} {y2 y3 y4 y7 y8 y9 y10 : Value} {w : World} (h : (C.draw w fun S w1 =>
  C.loadAS S 2 y3 w1 fun x40_2 w2 =>
  C.loadAS S 2 y4 w2 fun x41_3 w3 =>
  C.loadAS S 2 y3 w3 fun x43_4 w4 =>
  C.loadAS S 2 y4 w4 fun x44_5 w5 =>
  (C.call Try.prog 32 #[x40_2, x41_3] w5 fun x42_6 w6 =>
  (S w6 ∧
  (C.call Try.prog 33 #[x43_4, x44_5] w6 fun x45_7 w7 =>
  (S w7 ∧
  ∃ x46_8, (∀ w', S w' → ((do eqGuard .neq 4 (.tmp 42) (.tmp 45) x42_6 x45_7; binOp .neq 4 x42_6 x45_7 : Sem Value)).run Try.prog w' = .ok x46_8 w') ∧ (C.guarded false x46_8 (fun K => C.loadAS S 2 y3 w7 K) w7 fun x48_9 w9 =>
  C.guarded false x46_8 (fun K => C.loadAS S 2 y3 w9 K) w9 fun x49_10 w10 =>
  (C.guarded false x46_8 (fun K => C.call Try.prog 32 #[x48_9, x49_10] w10 K) w10 fun x50_11 w11 =>
  (S w11 ∧
  C.guarded false x46_8 (fun K => C.not x50_11 w11 K) w11 fun x51_12 w12 =>
  C.pick (some x46_8) (some (.bool true)) (some x51_12) w12 fun x52_13 w13 =>
  C.guarded false x52_13 (fun K => K y10 w13) w13 fun x56_14 w14 =>
  C.guarded false x52_13 (fun K => C.loadAS S 2 y3 w14 K) w14 fun x54_15 w15 =>
  (C.guarded false x52_13 (fun K => C.call Try.prog 34 #[x54_15] w15 K) w15 fun x55_16 w16 =>
  (S w16 ∧
  C.guarded false x52_13 (fun K => C.int .neq x55_16 x56_14 w16 K) w16 fun x57_17 w17 =>
  C.pick (some x52_13) (some (.bool true)) (some x57_17) w17 fun x58_18 w18 =>
  C.guarded false x58_18 (fun K => K y8 w18) w18 fun x60_19 w19 =>
  C.guarded false x58_18 (fun K => K y9 w19) w19 fun x61_20 w20 =>
  C.guarded false x58_18 (fun K => C.int .geq x61_20 (.int .i64 0) w20 K) w20 fun x62_21 w21 =>
  C.guarded false x58_18 (fun K => ∃ x63_22, (∀ w', S w' → ((do eqGuard .neq 4 (.tmp 60) (.tmp 62) x60_19 x62_21; binOp .neq 4 x60_19 x62_21 : Sem Value)).run Try.prog w' = .ok x63_22 w') ∧ K x63_22 w21) w21 fun x63_22 w22 =>
  C.pick (some x58_18) (some (.bool true)) (some x63_22) w22 fun x64_23 w23 =>
  C.ite x64_23 (K (.bool false) w23) (F8.k11 K y2 y3 y7 y8 y9 w23))) ∧ True)) ∧ True))) ∧ True)) ∧ True)) : F8.k9 K y2 y3 y4 y7 y8 y9 y10 w := Eq.mpr (by kernel_rfl) h
theorem F8.l6.to {K : VK} {y2 y3 y4 y7 y8 y9 y10 y11 : Value} {w : World} (h : (C.field 1 y3 w fun x24_1 w1 =>
  C.load1 x24_1 w1 fun x25_2 w2 =>
  C.len x25_2 w2 fun x26_3 w3 =>
  C.int .lss y11 x26_3 w3 fun x27_4 w4 =>
  C.ite x27_4 (F8.k8 K y2 y3 y4 y7 y8 y9 y10 y11 w4) (F8.k9 K y2 y3 y4 y7 y8 y9 y10 w4))) : F8.l6 K y2 y3 y4 y7 y8 y9 y10 y11 w := by unfold F8.l6; exact nav_round (Eq.mpr (by kernel_rfl) h)
theorem F8.k8.to {K : VK} {y2 y3 y4 y7 y8 y9 y10 y11 : Value} {w : World} (h : (C.int .add y10 (.int .i64 1) w fun x31_1 w1 =>
  C.field 1 y3 w1 fun x32_2 w2 =>
  C.load1 x32_2 w2 fun x33_3 w3 =>
  C.idx 2 x33_3 y11 w3 fun x35_4 w4 =>
  C.field 1 x35_4 w4 fun x36_5 w5 =>
  C.load1 x36_5 w5 fun x37_6 w6 =>
  C.len x37_6 w6 fun x38_7 w7 =>
  C.int .add x31_1 x38_7 w7 fun x39_8 w8 =>
  F8.k7 K y2 y3 y4 y7 y8 y9 x39_8 y11 w8)) : F8.k8 K y2 y3 y4 y7 y8 y9 y10 y11 w := Eq.mpr (by kernel_rfl) h
theorem F8.k7.to {K : VK} {y2 y3 y4 y7 y8 y9 y10 y11 : Value} {w : World} (h : (C.int .add y11 (.int .i64 1) w fun x29_1 w1 =>
  F8.l6 K y2 y3 y4 y7 y8 y9 y10 x29_1 w1)) : F8.k7 K y2 y3 y4 y7 y8 y9 y10 y11 w := Eq.mpr (by kernel_rfl) h
theorem F8.k11.to {K : VK} {y2 y3 y7 y8 y9 : Value} {w : World} (h : (C.draw w fun S w1 =>
  C.not y8 w1 fun x66_2 w2 =>
  C.guarded true x66_2 (fun K => C.field 0 y7 w2 K) w2 fun x68_3 w3 =>
  C.guarded true x66_2 (fun K => C.load1S S x68_3 w3 K) w3 fun x69_4 w4 =>
  C.guarded true x66_2 (fun K => C.int .eql x69_4 (.int .i64 0) w4 K) w4 fun x70_5 w5 =>
  C.pick (some x66_2) (some x70_5) (some (.bool false)) w5 fun x71_6 w6 =>
  C.guarded true x71_6 (fun K => C.field 1 y7 w6 K) w6 fun x73_7 w7 =>
  C.guarded true x71_6 (fun K => C.load1S S x73_7 w7 K) w7 fun x74_8 w8 =>
  C.guarded true x71_6 (fun K => C.len x74_8 w8 K) w8 fun x75_9 w9 =>
  C.guarded true x71_6 (fun K => C.int .eql x75_9 (.int .i64 0) w9 K) w9 fun x76_10 w10 =>
  C.pick (some x71_6) (some x76_10) (some (.bool false)) w10 fun x77_11 w11 =>
  C.guarded false x77_11 (fun K => K y8 w11) w11 fun x79_12 w12 =>
  C.guarded false x77_11 (fun K => K x79_12 w12) w12 fun x80_13 w13 =>
  C.guarded true x80_13 (fun K => C.field 0 y7 w13 K) w13 fun x81_14 w14 =>
  C.guarded true x80_13 (fun K => K y2 w14) w14 fun x83_15 w15 =>
  C.guarded true x80_13 (fun K => C.load1S S x81_14 w15 K) w15 fun x82_16 w16 =>
  C.guarded true x80_13 (fun K => C.int .eql x82_16 x83_15 w16 K) w16 fun x84_17 w17 =>
  C.guarded false x77_11 (fun K => C.pick (some x80_13) (some x84_17) (some (.bool false)) w17 K) w17 fun x85_18 w18 =>
  C.guarded false x77_11 (fun K => K x85_18 w18) w18 fun x86_19 w19 =>
  C.guarded true x86_19 (fun K => C.field 1 y7 w19 K) w19 fun x87_20 w20 =>
  C.guarded true x86_19 (fun K => C.field 1 y3 w20 K) w20 fun x89_21 w21 =>
  C.guarded true x86_19 (fun K => K y9 w21) w21 fun x91_22 w22 =>
  C.guarded true x86_19 (fun K => C.load1S S x87_20 w22 K) w22 fun x88_23 w23 =>
  C.guarded true x86_19 (fun K => C.load1S S x89_21 w23 K) w23 fun x90_24 w24 =>
  C.guarded true x86_19 (fun K => C.idx 2 x90_24 x91_22 w24 K) w24 fun x92_25 w25 =>
  C.guarded true x86_19 (fun K => C.field 1 x92_25 w25 K) w25 fun x93_26 w26 =>
  C.guarded true x86_19 (fun K => C.load1S S x93_26 w26 K) w26 fun x94_27 w27 =>
  (C.guarded true x86_19 (fun K => C.call Try.prog 35 #[x88_23, x94_27] w27 K) w27 fun x95_28 w28 =>
  (S w28 ∧
  C.guarded false x77_11 (fun K => C.pick (some x86_19) (some x95_28) (some (.bool false)) w28 K) w28 fun x96_29 w29 =>
  C.pick (some x77_11) (some (.bool true)) (some x96_29) w29 fun x97_30 w30 =>
  K x97_30 w30)) ∧ True)) : F8.k11 K y2 y3 y7 y8 y9 w := Eq.mpr (by kernel_rfl) h
theorem F8.sh {K : VK} {x0 x1 x2 : Value} {w : World} (h : (C.new (.cells (Value.cells x0) 51) w fun x3_1 w1 =>
  C.new (.cells (Value.cells x1) 51) w1 fun x4_2 w2 =>
  C.call Try.prog 25 #[] w2 fun x12_3 w3 =>
  C.not x12_3 w3 fun x13_4 w4 =>
  C.ite x13_4 (K (.bool false) w4) (F8.k3 K x2 x3_1 x4_2 w4))) : C.call Try.prog 8 #[x0, x1, x2] w K := calls_of_vc (A := F8.ann) (args := [x0, x1, x2]) (Eq.mpr (by kernel_rfl) h)

/-! ### 9 scutage/scutagelaw27.ViewOwn (51, 2) -/
namespace F9
def ann : Ann := ⟨[(3, [1, 2]), (4, [1, 2, 5, 6]), (7, [2, 5, 6, 7]), (9, [2, 5, 6, 7, 9]), (10, [2, 5, 6, 7, 9]), (11, [2, 5, 6]), (13, [2, 5, 6, 10]), (14, [2, 5, 6, 10]), (17, [2, 5, 6, 10, 11]), (18, [2, 5, 6, 10, 11]), (19, [2, 5, 6]), (21, [2, 5, 6, 12]), (22, [2, 5, 6, 12]), (24, [2, 5, 6, 12, 13]), (25, [2, 5, 6, 12, 13]), (26, [2, 6])], [(8, [2, 5, 6, 7, 9]), (12, [2, 5, 6, 10]), (16, [2, 5, 6, 10, 11]), (20, [2, 5, 6, 12]), (23, [2, 5, 6, 12, 13])], [], [(3, (.take 0 (.take 2 (.go 1 (.go 3 (.go 4 (.go 5 (.go 6 (.go 7 .fin .fin) .fin) .fin) (.go 5 (.go 4 (.go 6 (.go 7 .fin .fin) .fin) .fin) .fin)) (.go 4 (.go 3 (.go 5 (.go 6 (.go 7 .fin .fin) .fin) .fin) (.go 5 (.go 3 (.go 6 (.go 7 .fin .fin) .fin) .fin) .fin)) (.go 5 (.go 3 (.go 4 (.go 6 (.go 7 .fin .fin) .fin) .fin) (.go 4 (.go 3 (.go 6 (.go 7 .fin .fin) .fin) .fin) .fin)) .fin))) (.go 4 (.go 1 (.go 3 (.go 5 (.go 6 (.go 7 .fin .fin) .fin) .fin) (.go 5 (.go 3 (.go 6 (.go 7 .fin .fin) .fin) .fin) .fin)) (.go 5 (.go 1 (.go 3 (.go 6 (.go 7 .fin .fin) .fin) .fin) .fin) .fin)) (.go 5 (.go 1 (.go 3 (.go 4 (.go 6 (.go 7 .fin .fin) .fin) .fin) (.go 4 (.go 3 (.go 6 (.go 7 .fin .fin) .fin) .fin) .fin)) (.go 4 (.go 1 (.go 3 (.go 6 (.go 7 .fin .fin) .fin) .fin) .fin) .fin)) .fin))))))], none⟩
noncomputable def code : Code := match Try.f9.body with | some c => c | none => .skip
noncomputable def top (K : VK) : QE := retQ Try.prog Try.f9.results.toList K
noncomputable def k3 (K : VK) (y1 y2 : Value) (w : World) : Prop := nav ann Try.prog 102 (fun c Q => vcCode ann Try.prog 102 c Q [(1, y1), (2, y2)] w) [1, 1] code (top K)
attribute [irreducible] k3
noncomputable def k4 (K : VK) (y1 y2 y5 y6 : Value) (w : World) : Prop := nav ann Try.prog 102 (fun c Q => vcCode ann Try.prog 102 c Q [(1, y1), (2, y2), (5, y5), (6, y6)] w) [1, 1, 1] code (top K)
attribute [irreducible] k4
noncomputable def k7 (K : VK) (y2 y5 y6 y7 : Value) (w : World) : Prop := nav ann Try.prog 102 (fun c Q => vcCode ann Try.prog 102 c Q [(2, y2), (5, y5), (6, y6), (7, y7)] w) [1, 1, 1, 1, 1] code (top K)
attribute [irreducible] k7
noncomputable def k11 (K : VK) (y2 y5 y6 : Value) (w : World) : Prop := nav ann Try.prog 102 (fun c Q => vcCode ann Try.prog 102 c Q [(2, y2), (5, y5), (6, y6)] w) [1, 1, 1, 1, 1, 1] code (top K)
attribute [irreducible] k11
noncomputable def l8 (K : VK) (y2 y5 y6 y7 y9 : Value) (w : World) : Prop := nav ann Try.prog 102 (isLoop ann Try.prog 102 [(2, y2), (5, y5), (6, y6), (7, y7), (9, y9)] w) [1, 1, 1, 1, 1, 0, 1, 0] code (top K)
attribute [irreducible] l8
noncomputable def k10 (K : VK) (y2 y5 y6 y7 y9 : Value) (w : World) : Prop := nav ann Try.prog 102 (fun c Q => vcCode ann Try.prog 102 c Q [(2, y2), (5, y5), (6, y6), (7, y7), (9, y9)] w) [1, 1, 1, 1, 1, 0, 1, 0, 0, 1] code (top K)
attribute [irreducible] k10
noncomputable def k9 (K : VK) (y2 y5 y6 y7 y9 : Value) (w : World) : Prop := nav ann Try.prog 102 (fun c Q => vcCode ann Try.prog 102 c Q [(2, y2), (5, y5), (6, y6), (7, y7), (9, y9)] w) [1, 1, 1, 1, 1, 0, 1, 0, 0, 1, 1] code (top K)
attribute [irreducible] k9
noncomputable def k19 (K : VK) (y2 y5 y6 : Value) (w : World) : Prop := nav ann Try.prog 102 (fun c Q => vcCode ann Try.prog 102 c Q [(2, y2), (5, y5), (6, y6)] w) [1, 1, 1, 1, 1, 1, 1] code (top K)
attribute [irreducible] k19
noncomputable def l12 (K : VK) (y2 y5 y6 y10 : Value) (w : World) : Prop := nav ann Try.prog 102 (isLoop ann Try.prog 102 [(2, y2), (5, y5), (6, y6), (10, y10)] w) [1, 1, 1, 1, 1, 1, 0, 1, 0] code (top K)
attribute [irreducible] l12
noncomputable def k14 (K : VK) (y2 y5 y6 y10 : Value) (w : World) : Prop := nav ann Try.prog 102 (fun c Q => vcCode ann Try.prog 102 c Q [(2, y2), (5, y5), (6, y6), (10, y10)] w) [1, 1, 1, 1, 1, 1, 0, 1, 0, 0, 1] code (top K)
attribute [irreducible] k14
noncomputable def k13 (K : VK) (y2 y5 y6 y10 : Value) (w : World) : Prop := nav ann Try.prog 102 (fun c Q => vcCode ann Try.prog 102 c Q [(2, y2), (5, y5), (6, y6), (10, y10)] w) [1, 1, 1, 1, 1, 1, 0, 1, 0, 0, 1, 1] code (top K)
attribute [irreducible] k13
noncomputable def l16 (K : VK) (y2 y5 y6 y10 y11 : Value) (w : World) : Prop := nav ann Try.prog 102 (isLoop ann Try.prog 102 [(2, y2), (5, y5), (6, y6), (10, y10), (11, y11)] w) [1, 1, 1, 1, 1, 1, 0, 1, 0, 0, 1, 0, 0, 1, 1, 0] code (top K)
attribute [irreducible] l16
noncomputable def k18 (K : VK) (y2 y5 y6 y10 y11 : Value) (w : World) : Prop := nav ann Try.prog 102 (fun c Q => vcCode ann Try.prog 102 c Q [(2, y2), (5, y5), (6, y6), (10, y10), (11, y11)] w) [1, 1, 1, 1, 1, 1, 0, 1, 0, 0, 1, 0, 0, 1, 1, 0, 0, 1] code (top K)
attribute [irreducible] k18
noncomputable def k17 (K : VK) (y2 y5 y6 y10 y11 : Value) (w : World) : Prop := nav ann Try.prog 102 (fun c Q => vcCode ann Try.prog 102 c Q [(2, y2), (5, y5), (6, y6), (10, y10), (11, y11)] w) [1, 1, 1, 1, 1, 1, 0, 1, 0, 0, 1, 0, 0, 1, 1, 0, 0, 1, 1] code (top K)
attribute [irreducible] k17
noncomputable def k26 (K : VK) (y2 y6 : Value) (w : World) : Prop := nav ann Try.prog 102 (fun c Q => vcCode ann Try.prog 102 c Q [(2, y2), (6, y6)] w) [1, 1, 1, 1, 1, 1, 1, 1] code (top K)
attribute [irreducible] k26
noncomputable def l20 (K : VK) (y2 y5 y6 y12 : Value) (w : World) : Prop := nav ann Try.prog 102 (isLoop ann Try.prog 102 [(2, y2), (5, y5), (6, y6), (12, y12)] w) [1, 1, 1, 1, 1, 1, 1, 0, 1, 0] code (top K)
attribute [irreducible] l20
noncomputable def k22 (K : VK) (y2 y5 y6 y12 : Value) (w : World) : Prop := nav ann Try.prog 102 (fun c Q => vcCode ann Try.prog 102 c Q [(2, y2), (5, y5), (6, y6), (12, y12)] w) [1, 1, 1, 1, 1, 1, 1, 0, 1, 0, 0, 1] code (top K)
attribute [irreducible] k22
noncomputable def k21 (K : VK) (y2 y5 y6 y12 : Value) (w : World) : Prop := nav ann Try.prog 102 (fun c Q => vcCode ann Try.prog 102 c Q [(2, y2), (5, y5), (6, y6), (12, y12)] w) [1, 1, 1, 1, 1, 1, 1, 0, 1, 0, 0, 1, 1] code (top K)
attribute [irreducible] k21
noncomputable def l23 (K : VK) (y2 y5 y6 y12 y13 : Value) (w : World) : Prop := nav ann Try.prog 102 (isLoop ann Try.prog 102 [(2, y2), (5, y5), (6, y6), (12, y12), (13, y13)] w) [1, 1, 1, 1, 1, 1, 1, 0, 1, 0, 0, 1, 0, 0, 1, 0] code (top K)
attribute [irreducible] l23
noncomputable def k25 (K : VK) (y2 y5 y6 y12 y13 : Value) (w : World) : Prop := nav ann Try.prog 102 (fun c Q => vcCode ann Try.prog 102 c Q [(2, y2), (5, y5), (6, y6), (12, y12), (13, y13)] w) [1, 1, 1, 1, 1, 1, 1, 0, 1, 0, 0, 1, 0, 0, 1, 0, 0, 1] code (top K)
attribute [irreducible] k25
noncomputable def k24 (K : VK) (y2 y5 y6 y12 y13 : Value) (w : World) : Prop := nav ann Try.prog 102 (fun c Q => vcCode ann Try.prog 102 c Q [(2, y2), (5, y5), (6, y6), (12, y12), (13, y13)] w) [1, 1, 1, 1, 1, 1, 1, 0, 1, 0, 0, 1, 0, 0, 1, 0, 0, 1, 1] code (top K)
attribute [irreducible] k24
end F9
theorem F9.k3.to {K : VK} {y1 y2 : Value} {w : World} (h : (C.draw w fun S w1 =>
  C.loadAS S 2 y2 w1 fun x16_2 w2 =>
  C.loadAS S 2 y2 w2 fun x18_3 w3 =>
  (C.call Try.prog 36 #[x16_2] w3 fun x17_34 w34 =>
  (S w34 ∧
  (C.call Try.prog 36 #[x18_3] w34 fun x19_53 w53 =>
  (S w53 ∧
  (C.new (.cells #[.slice none 0 0, .slice none 0 0] 51) w53 fun x5_58 w58 =>
  (S w58 ∧
  (C.new (.cells #[.slice none 0 0, .slice none 0 0] 51) w58 fun x6_59 w59 =>
  (S w59 ∧
  (C.store 2 x5_58 x17_34 w59 fun w60 =>
  (S w60 ∧
  (C.store 2 x6_59 x19_53 w60 fun w61 =>
  (S w61 ∧
  F9.k4 K y1 y2 x5_58 x6_59 w61)) ∧ True)) ∧ True)) ∧ True)) ∧ ((C.new (.cells #[.slice none 0 0, .slice none 0 0] 51) w53 fun x6_54 w54 =>
  (S w54 ∧
  (C.new (.cells #[.slice none 0 0, .slice none 0 0] 51) w54 fun x5_55 w55 =>
  (S w55 ∧
  (C.store 2 x5_55 x17_34 w55 fun w56 =>
  (S w56 ∧
  (C.store 2 x6_54 x19_53 w56 fun w57 =>
  (S w57 ∧
  F9.k4 K y1 y2 x5_55 x6_54 w57)) ∧ True)) ∧ True)) ∧ True)) ∧ True))) ∧ ((C.new (.cells #[.slice none 0 0, .slice none 0 0] 51) w34 fun x5_44 w44 =>
  (S w44 ∧
  (C.call Try.prog 36 #[x18_3] w44 fun x19_49 w49 =>
  (S w49 ∧
  (C.new (.cells #[.slice none 0 0, .slice none 0 0] 51) w49 fun x6_50 w50 =>
  (S w50 ∧
  (C.store 2 x5_44 x17_34 w50 fun w51 =>
  (S w51 ∧
  (C.store 2 x6_50 x19_49 w51 fun w52 =>
  (S w52 ∧
  F9.k4 K y1 y2 x5_44 x6_50 w52)) ∧ True)) ∧ True)) ∧ True)) ∧ ((C.new (.cells #[.slice none 0 0, .slice none 0 0] 51) w44 fun x6_45 w45 =>
  (S w45 ∧
  (C.call Try.prog 36 #[x18_3] w45 fun x19_46 w46 =>
  (S w46 ∧
  (C.store 2 x5_44 x17_34 w46 fun w47 =>
  (S w47 ∧
  (C.store 2 x6_45 x19_46 w47 fun w48 =>
  (S w48 ∧
  F9.k4 K y1 y2 x5_44 x6_45 w48)) ∧ True)) ∧ True)) ∧ True)) ∧ True))) ∧ ((C.new (.cells #[.slice none 0 0, .slice none 0 0] 51) w34 fun x6_35 w35 =>
  (S w35 ∧
  (C.call Try.prog 36 #[x18_3] w35 fun x19_40 w40 =>
  (S w40 ∧
  (C.new (.cells #[.slice none 0 0, .slice none 0 0] 51) w40 fun x5_41 w41 =>
  (S w41 ∧
  (C.store 2 x5_41 x17_34 w41 fun w42 =>
  (S w42 ∧
  (C.store 2 x6_35 x19_40 w42 fun w43 =>
  (S w43 ∧
  F9.k4 K y1 y2 x5_41 x6_35 w43)) ∧ True)) ∧ True)) ∧ True)) ∧ ((C.new (.cells #[.slice none 0 0, .slice none 0 0] 51) w35 fun x5_36 w36 =>
  (S w36 ∧
  (C.call Try.prog 36 #[x18_3] w36 fun x19_37 w37 =>
  (S w37 ∧
  (C.store 2 x5_36 x17_34 w37 fun w38 =>
  (S w38 ∧
  (C.store 2 x6_35 x19_37 w38 fun w39 =>
  (S w39 ∧
  F9.k4 K y1 y2 x5_36 x6_35 w39)) ∧ True)) ∧ True)) ∧ True)) ∧ True))) ∧ True)))) ∧ ((C.new (.cells #[.slice none 0 0, .slice none 0 0] 51) w3 fun x5_19 w19 =>
  (S w19 ∧
  (C.call Try.prog 36 #[x16_2] w19 fun x17_25 w25 =>
  (S w25 ∧
  (C.call Try.prog 36 #[x18_3] w25 fun x19_30 w30 =>
  (S w30 ∧
  (C.new (.cells #[.slice none 0 0, .slice none 0 0] 51) w30 fun x6_31 w31 =>
  (S w31 ∧
  (C.store 2 x5_19 x17_25 w31 fun w32 =>
  (S w32 ∧
  (C.store 2 x6_31 x19_30 w32 fun w33 =>
  (S w33 ∧
  F9.k4 K y1 y2 x5_19 x6_31 w33)) ∧ True)) ∧ True)) ∧ True)) ∧ ((C.new (.cells #[.slice none 0 0, .slice none 0 0] 51) w25 fun x6_26 w26 =>
  (S w26 ∧
  (C.call Try.prog 36 #[x18_3] w26 fun x19_27 w27 =>
  (S w27 ∧
  (C.store 2 x5_19 x17_25 w27 fun w28 =>
  (S w28 ∧
  (C.store 2 x6_26 x19_27 w28 fun w29 =>
  (S w29 ∧
  F9.k4 K y1 y2 x5_19 x6_26 w29)) ∧ True)) ∧ True)) ∧ True)) ∧ True))) ∧ ((C.new (.cells #[.slice none 0 0, .slice none 0 0] 51) w19 fun x6_20 w20 =>
  (S w20 ∧
  (C.call Try.prog 36 #[x16_2] w20 fun x17_21 w21 =>
  (S w21 ∧
  (C.call Try.prog 36 #[x18_3] w21 fun x19_22 w22 =>
  (S w22 ∧
  (C.store 2 x5_19 x17_21 w22 fun w23 =>
  (S w23 ∧
  (C.store 2 x6_20 x19_22 w23 fun w24 =>
  (S w24 ∧
  F9.k4 K y1 y2 x5_19 x6_20 w24)) ∧ True)) ∧ True)) ∧ True)) ∧ True)) ∧ True))) ∧ ((C.new (.cells #[.slice none 0 0, .slice none 0 0] 51) w3 fun x6_4 w4 =>
  (S w4 ∧
  (C.call Try.prog 36 #[x16_2] w4 fun x17_10 w10 =>
  (S w10 ∧
  (C.call Try.prog 36 #[x18_3] w10 fun x19_15 w15 =>
  (S w15 ∧
  (C.new (.cells #[.slice none 0 0, .slice none 0 0] 51) w15 fun x5_16 w16 =>
  (S w16 ∧
  (C.store 2 x5_16 x17_10 w16 fun w17 =>
  (S w17 ∧
  (C.store 2 x6_4 x19_15 w17 fun w18 =>
  (S w18 ∧
  F9.k4 K y1 y2 x5_16 x6_4 w18)) ∧ True)) ∧ True)) ∧ True)) ∧ ((C.new (.cells #[.slice none 0 0, .slice none 0 0] 51) w10 fun x5_11 w11 =>
  (S w11 ∧
  (C.call Try.prog 36 #[x18_3] w11 fun x19_12 w12 =>
  (S w12 ∧
  (C.store 2 x5_11 x17_10 w12 fun w13 =>
  (S w13 ∧
  (C.store 2 x6_4 x19_12 w13 fun w14 =>
  (S w14 ∧
  F9.k4 K y1 y2 x5_11 x6_4 w14)) ∧ True)) ∧ True)) ∧ True)) ∧ True))) ∧ ((C.new (.cells #[.slice none 0 0, .slice none 0 0] 51) w4 fun x5_5 w5 =>
  (S w5 ∧
  (C.call Try.prog 36 #[x16_2] w5 fun x17_6 w6 =>
  (S w6 ∧
  (C.call Try.prog 36 #[x18_3] w6 fun x19_7 w7 =>
  (S w7 ∧
  (C.store 2 x5_5 x17_6 w7 fun w8 =>
  (S w8 ∧
  (C.store 2 x6_4 x19_7 w8 fun w9 =>
  (S w9 ∧
  F9.k4 K y1 y2 x5_5 x6_4 w9)) ∧ True)) ∧ True)) ∧ True)) ∧ True)) ∧ True))) ∧ True)))) : F9.k3 K y1 y2 w := Eq.mpr (by kernel_rfl) h
theorem F9.k4.to {K : VK} {y1 y2 y5 y6 : Value} {w : World} (h : (C.loadA 2 y2 w fun x21_1 w1 =>
  C.call Try.prog 30 #[x21_1, y1] w1 fun x23_2 w2 =>
  C.ext 0 x23_2 w2 fun x24_3 w3 =>
  C.ext 1 x23_2 w3 fun x25_4 w4 =>
  C.new (.cells #[.int .i64 0, .slice none 0 0] 61) w4 fun x7_5 w5 =>
  C.store 2 x7_5 x24_3 w5 fun w6 =>
  C.loadA 2 y5 w6 fun x26_7 w7 =>
  C.loadA 2 y2 w7 fun x27_8 w8 =>
  C.call Try.prog 33 #[x26_7, x27_8] w8 fun x28_9 w9 =>
  C.not x28_9 w9 fun x29_10 w10 =>
  C.ite x29_10 (K (.bool false) w10) (F9.k7 K y2 y5 y6 x7_5 w10))) : F9.k4 K y1 y2 y5 y6 w := Eq.mpr (by kernel_rfl) h
theorem F9.k7.to {K : VK} {y2 y5 y6 y7 : Value} {w : World} (h : (F9.l8 K y2 y5 y6 y7 (.int .i64 0) w)) : F9.k7 K y2 y5 y6 y7 w := Eq.mpr (by kernel_rfl) h
theorem F9.k11.to {K : VK} {y2 y5 y6 : Value} {w : World} (h : (F9.l12 K y2 y5 y6 (.int .i64 0) w)) : F9.k11 K y2 y5 y6 w := Eq.mpr (by kernel_rfl) h
theorem F9.l8.to {K : VK} {y2 y5 y6 y7 y9 : Value} {w : World} (h : (C.field 1 y7 w fun x31_1 w1 =>
  C.load1 x31_1 w1 fun x32_2 w2 =>
  C.len x32_2 w2 fun x33_3 w3 =>
  C.int .lss y9 x33_3 w3 fun x34_4 w4 =>
  C.ite x34_4 (F9.k10 K y2 y5 y6 y7 y9 w4) (F9.k11 K y2 y5 y6 w4))) : F9.l8 K y2 y5 y6 y7 y9 w := by unfold F9.l8; exact nav_round (Eq.mpr (by kernel_rfl) h)
theorem F9.k10.to {K : VK} {y2 y5 y6 y7 y9 : Value} {w : World} (h : (C.field 1 y7 w fun x37_1 w1 =>
  C.load1 x37_1 w1 fun x38_2 w2 =>
  C.run Try.prog (Instr.build 71 #[(0, (.int .i64 9))]) w2 fun x40_3 w3 =>
  C.idx 2 x38_2 y9 w3 fun x41_4 w4 =>
  C.store 2 x41_4 x40_3 w4 fun w5 =>
  F9.k9 K y2 y5 y6 y7 y9 w5)) : F9.k10 K y2 y5 y6 y7 y9 w := Eq.mpr (by kernel_rfl) h
theorem F9.k9.to {K : VK} {y2 y5 y6 y7 y9 : Value} {w : World} (h : (C.int .add y9 (.int .i64 1) w fun x36_1 w1 =>
  F9.l8 K y2 y5 y6 y7 x36_1 w1)) : F9.k9 K y2 y5 y6 y7 y9 w := Eq.mpr (by kernel_rfl) h
theorem F9.k19.to {K : VK} {y2 y5 y6 : Value} {w : World} (h : (F9.l20 K y2 y5 y6 (.int .i64 0) w)) : F9.k19 K y2 y5 y6 w := Eq.mpr (by kernel_rfl) h
theorem F9.l12.to {K : VK} {y2 y5 y6 y10 : Value} {w : World} (h : (C.field 1 y5 w fun x43_1 w1 =>
  C.load1 x43_1 w1 fun x44_2 w2 =>
  C.len x44_2 w2 fun x45_3 w3 =>
  C.int .lss y10 x45_3 w3 fun x46_4 w4 =>
  C.ite x46_4 (F9.k14 K y2 y5 y6 y10 w4) (F9.k19 K y2 y5 y6 w4))) : F9.l12 K y2 y5 y6 y10 w := by unfold F9.l12; exact nav_round (Eq.mpr (by kernel_rfl) h)
theorem F9.k14.to {K : VK} {y2 y5 y6 y10 : Value} {w : World} (h : (C.field 1 y5 w fun x49_1 w1 =>
  C.load1 x49_1 w1 fun x50_2 w2 =>
  C.idx 2 x50_2 y10 w2 fun x52_3 w3 =>
  C.field 0 x52_3 w3 fun x53_4 w4 =>
  C.store 1 x53_4 (.int .i64 (-9)) w4 fun w5 =>
  F9.l16 K y2 y5 y6 y10 (.int .i64 0) w5)) : F9.k14 K y2 y5 y6 y10 w := Eq.mpr (by kernel_rfl) h
theorem F9.k13.to {K : VK} {y2 y5 y6 y10 : Value} {w : World} (h : (C.int .add y10 (.int .i64 1) w fun x48_1 w1 =>
  F9.l12 K y2 y5 y6 x48_1 w1)) : F9.k13 K y2 y5 y6 y10 w := Eq.mpr (by kernel_rfl) h
theorem F9.l16.to {K : VK} {y2 y5 y6 y10 y11 : Value} {w : World} (h : (C.field 1 y5 w fun x55_1 w1 =>
  C.load1 x55_1 w1 fun x56_2 w2 =>
  C.idx 2 x56_2 y10 w2 fun x58_3 w3 =>
  C.field 1 x58_3 w3 fun x59_4 w4 =>
  C.load1 x59_4 w4 fun x60_5 w5 =>
  C.len x60_5 w5 fun x61_6 w6 =>
  C.int .lss y11 x61_6 w6 fun x62_7 w7 =>
  C.ite x62_7 (F9.k18 K y2 y5 y6 y10 y11 w7) (F9.k13 K y2 y5 y6 y10 w7))) : F9.l16 K y2 y5 y6 y10 y11 w := by unfold F9.l16; exact nav_round (Eq.mpr (by kernel_rfl) h)
theorem F9.k18.to {K : VK} {y2 y5 y6 y10 y11 : Value} {w : World} (h : (C.field 1 y5 w fun x65_1 w1 =>
  C.load1 x65_1 w1 fun x66_2 w2 =>
  C.idx 2 x66_2 y10 w2 fun x68_3 w3 =>
  C.field 1 x68_3 w3 fun x69_4 w4 =>
  C.load1 x69_4 w4 fun x70_5 w5 =>
  C.run Try.prog (Instr.build 71 #[(0, (.int .i64 9))]) w5 fun x72_6 w6 =>
  C.idx 2 x70_5 y11 w6 fun x73_7 w7 =>
  C.store 2 x73_7 x72_6 w7 fun w8 =>
  F9.k17 K y2 y5 y6 y10 y11 w8)) : F9.k18 K y2 y5 y6 y10 y11 w := Eq.mpr (by kernel_rfl) h
theorem F9.k17.to {K : VK} {y2 y5 y6 y10 y11 : Value} {w : World} (h : (C.int .add y11 (.int .i64 1) w fun x64_1 w1 =>
  F9.l16 K y2 y5 y6 y10 x64_1 w1)) : F9.k17 K y2 y5 y6 y10 y11 w := Eq.mpr (by kernel_rfl) h
theorem F9.k26.to {K : VK} {y2 y6 : Value} {w : World} (h : (C.loadA 2 y6 w fun x99_1 w1 =>
  C.loadA 2 y2 w1 fun x100_2 w2 =>
  C.call Try.prog 33 #[x99_1, x100_2] w2 fun x101_3 w3 =>
  K x101_3 w3)) : F9.k26 K y2 y6 w := Eq.mpr (by kernel_rfl) h
theorem F9.l20.to {K : VK} {y2 y5 y6 y12 : Value} {w : World} (h : (C.field 0 y5 w fun x75_1 w1 =>
  C.load1 x75_1 w1 fun x76_2 w2 =>
  C.len x76_2 w2 fun x77_3 w3 =>
  C.int .lss y12 x77_3 w3 fun x78_4 w4 =>
  C.ite x78_4 (F9.k22 K y2 y5 y6 y12 w4) (F9.k26 K y2 y6 w4))) : F9.l20 K y2 y5 y6 y12 w := by unfold F9.l20; exact nav_round (Eq.mpr (by kernel_rfl) h)
theorem F9.k22.to {K : VK} {y2 y5 y6 y12 : Value} {w : World} (h : (F9.l23 K y2 y5 y6 y12 (.int .i64 0) w)) : F9.k22 K y2 y5 y6 y12 w := Eq.mpr (by kernel_rfl) h
theorem F9.k21.to {K : VK} {y2 y5 y6 y12 : Value} {w : World} (h : (C.int .add y12 (.int .i64 1) w fun x80_1 w1 =>
  F9.l20 K y2 y5 y6 x80_1 w1)) : F9.k21 K y2 y5 y6 y12 w := Eq.mpr (by kernel_rfl) h
theorem F9.l23.to {K : VK} {y2 y5 y6 y12 y13 : Value} {w : World} (h : (C.field 0 y5 w fun x82_1 w1 =>
  C.load1 x82_1 w1 fun x83_2 w2 =>
  C.idx 1 x83_2 y12 w2 fun x85_3 w3 =>
  C.load1 x85_3 w3 fun x86_4 w4 =>
  C.len x86_4 w4 fun x87_5 w5 =>
  C.int .lss y13 x87_5 w5 fun x88_6 w6 =>
  C.ite x88_6 (F9.k25 K y2 y5 y6 y12 y13 w6) (F9.k21 K y2 y5 y6 y12 w6))) : F9.l23 K y2 y5 y6 y12 y13 w := by unfold F9.l23; exact nav_round (Eq.mpr (by kernel_rfl) h)
theorem F9.k25.to {K : VK} {y2 y5 y6 y12 y13 : Value} {w : World} (h : (C.field 0 y5 w fun x91_1 w1 =>
  C.load1 x91_1 w1 fun x92_2 w2 =>
  C.idx 1 x92_2 y12 w2 fun x94_3 w3 =>
  C.load1 x94_3 w3 fun x95_4 w4 =>
  C.run Try.prog (Instr.build 71 #[(0, (.int .i64 9))]) w4 fun x97_5 w5 =>
  C.idx 2 x95_4 y13 w5 fun x98_6 w6 =>
  C.store 2 x98_6 x97_5 w6 fun w7 =>
  F9.k24 K y2 y5 y6 y12 y13 w7)) : F9.k25 K y2 y5 y6 y12 y13 w := Eq.mpr (by kernel_rfl) h
theorem F9.k24.to {K : VK} {y2 y5 y6 y12 y13 : Value} {w : World} (h : (C.int .add y13 (.int .i64 1) w fun x90_1 w1 =>
  F9.l23 K y2 y5 y6 y12 x90_1 w1)) : F9.k24 K y2 y5 y6 y12 y13 w := Eq.mpr (by kernel_rfl) h
theorem F9.sh {K : VK} {x0 x1 : Value} {w : World} (h : (C.new (.cells (Value.cells x0) 51) w fun x2_1 w1 =>
  C.call Try.prog 25 #[] w1 fun x14_2 w2 =>
  C.not x14_2 w2 fun x15_3 w3 =>
  C.ite x15_3 (K (.bool false) w3) (F9.k3 K x1 x2_1 w3))) : C.call Try.prog 9 #[x0, x1] w K := calls_of_vc (A := F9.ann) (args := [x0, x1]) (Eq.mpr (by kernel_rfl) h)

/-! ### 25 scutage/scutagelaw27.alive () -/
namespace F25
def ann : Ann := ⟨[], [], [], [], none⟩
noncomputable def code : Code := match Try.f25.body with | some c => c | none => .skip
noncomputable def top (K : VK) : QE := retQ Try.prog Try.f25.results.toList K
end F25
theorem F25.sh {K : VK} {w : World} (h : (C.call Try.prog 60 #[] w fun x4_1 w1 =>
  C.new (.cells #[.slice none 0 0, .slice none 0 0] 51) w1 fun x1_2 w2 =>
  C.store 2 x1_2 x4_1 w2 fun w3 =>
  C.loadA 2 x1_2 w3 fun x6_4 w4 =>
  C.call Try.prog 30 #[x6_4, (.int .i64 0)] w4 fun x7_5 w5 =>
  C.ext 0 x7_5 w5 fun x8_6 w6 =>
  C.ext 1 x7_5 w6 fun x9_7 w7 =>
  C.new (.cells #[.int .i64 0, .slice none 0 0] 61) w7 fun x2_8 w8 =>
  C.store 2 x2_8 x8_6 w8 fun w9 =>
  C.loadA 2 x1_2 w9 fun x10_10 w10 =>
  C.call Try.prog 34 #[x10_10] w10 fun x11_11 w11 =>
  C.int .eql x11_11 (.int .i64 5) w11 fun x12_12 w12 =>
  C.guarded true x12_12 (fun K => C.loadA 2 x1_2 w12 K) w12 fun x14_13 w13 =>
  C.guarded true x12_12 (fun K => C.call Try.prog 26 #[x14_13] w13 K) w13 fun x15_14 w14 =>
  C.guarded true x12_12 (fun K => C.int .eql x15_14 (.int .i64 0) w14 K) w14 fun x16_15 w15 =>
  C.pick (some x12_12) (some x16_15) (some (.bool false)) w15 fun x17_16 w16 =>
  C.guarded true x17_16 (fun K => K x9_7 w16) w16 fun x19_17 w17 =>
  C.pick (some x17_16) (some x19_17) (some (.bool false)) w17 fun x20_18 w18 =>
  C.guarded true x20_18 (fun K => C.field 1 x2_8 w18 K) w18 fun x22_19 w19 =>
  C.guarded true x20_18 (fun K => C.load1 x22_19 w19 K) w19 fun x23_20 w20 =>
  C.guarded true x20_18 (fun K => C.len x23_20 w20 K) w20 fun x24_21 w21 =>
  C.guarded true x20_18 (fun K => C.int .eql x24_21 (.int .i64 4) w21 K) w21 fun x25_22 w22 =>
  C.pick (some x20_18) (some x25_22) (some (.bool false)) w22 fun x26_23 w23 =>
  C.guarded true x26_23 (fun K => C.loadA 2 x1_2 w23 K) w23 fun x28_24 w24 =>
  C.guarded true x26_23 (fun K => C.loadA 2 x1_2 w24 K) w24 fun x29_25 w25 =>
  C.guarded true x26_23 (fun K => C.call Try.prog 32 #[x28_24, x29_25] w25 K) w25 fun x30_26 w26 =>
  C.pick (some x26_23) (some x30_26) (some (.bool false)) w26 fun x31_27 w27 =>
  C.guarded true x31_27 (fun K => C.loadA 2 x1_2 w27 K) w27 fun x33_28 w28 =>
  C.guarded true x31_27 (fun K => C.run Try.prog (Instr.build 51 #[]) w28 K) w28 fun x34_29 w29 =>
  C.guarded true x31_27 (fun K => C.call Try.prog 32 #[x33_28, x34_29] w29 K) w29 fun x35_30 w30 =>
  C.guarded true x31_27 (fun K => C.not x35_30 w30 K) w30 fun x36_31 w31 =>
  C.pick (some x31_27) (some x36_31) (some (.bool false)) w31 fun x37_32 w32 =>
  C.guarded true x37_32 (fun K => C.loadA 2 x1_2 w32 K) w32 fun x39_33 w33 =>
  C.guarded true x37_32 (fun K => C.call Try.prog 29 #[x39_33] w33 K) w33 fun x40_34 w34 =>
  C.guarded true x37_32 (fun K => C.run Try.prog (Instr.buildSlice 57 1 #[(0, (.int .i64 0))]) w34 K) w34 fun x41_35 w35 =>
  C.guarded true x37_32 (fun K => C.call Try.prog 45 #[x40_34, x41_35] w35 K) w35 fun x42_36 w36 =>
  C.pick (some x37_32) (some x42_36) (some (.bool false)) w36 fun x43_37 w37 =>
  K x43_37 w37)) : C.call Try.prog 25 #[] w K := calls_of_vc (A := F25.ann) (args := []) (Eq.mpr (by kernel_rfl) h)

/-! ### 26 scutage/view.Check (51) -/
namespace F26
def ann : Ann := ⟨[(3, [1, 3]), (4, [1, 3]), (6, [1]), (9, [1, 4]), (11, [1]), (13, [])], [(2, [1, 3])], [], [(4, (.take 0 (.take 2 (.take 6 (.take 8 (.take 9 (.take 1 (.take 3 (.take 4 (.take 5 (.take 7 (.take 10 (.take 11 (.take 12 (.take 13 .fin)))))))))))))))], none⟩
noncomputable def code : Code := match Try.f26.body with | some c => c | none => .skip
noncomputable def top (K : VK) : QE := retQ Try.prog Try.f26.results.toList K
noncomputable def k6 (K : VK) (y1 : Value) (w : World) : Prop := nav ann Try.prog 37 (fun c Q => vcCode ann Try.prog 37 c Q [(1, y1)] w) [1, 1] code (top K)
attribute [irreducible] k6
noncomputable def l2 (K : VK) (y1 y3 : Value) (w : World) : Prop := nav ann Try.prog 37 (isLoop ann Try.prog 37 [(1, y1), (3, y3)] w) [1, 0, 1, 0] code (top K)
attribute [irreducible] l2
noncomputable def k4 (K : VK) (y1 y3 : Value) (w : World) : Prop := nav ann Try.prog 37 (fun c Q => vcCode ann Try.prog 37 c Q [(1, y1), (3, y3)] w) [1, 0, 1, 0, 0, 1] code (top K)
attribute [irreducible] k4
noncomputable def k3 (K : VK) (y1 y3 : Value) (w : World) : Prop := nav ann Try.prog 37 (fun c Q => vcCode ann Try.prog 37 c Q [(1, y1), (3, y3)] w) [1, 0, 1, 0, 0, 1, 1] code (top K)
attribute [irreducible] k3
noncomputable def k9 (K : VK) (y1 y4 : Value) (w : World) : Prop := nav ann Try.prog 37 (fun c Q => vcCode ann Try.prog 37 c Q [(1, y1), (4, y4)] w) [1, 1, 1, 1] code (top K)
attribute [irreducible] k9
noncomputable def k11 (K : VK) (y1 : Value) (w : World) : Prop := nav ann Try.prog 37 (fun c Q => vcCode ann Try.prog 37 c Q [(1, y1)] w) [1, 1, 1, 1, 1] code (top K)
attribute [irreducible] k11
noncomputable def k13 (K : VK) (w : World) : Prop := nav ann Try.prog 37 (fun c Q => vcCode ann Try.prog 37 c Q [] w) [1, 1, 1, 1, 1, 1] code (top K)
attribute [irreducible] k13
end F26
theorem F26.k6.to {K : VK} {y1 : Value} {w : World} (h : (C.loadA 2 y1 w fun x26_1 w1 =>
  C.call Try.prog 62 #[x26_1] w1 fun x27_2 w2 =>
  C.call Try.prog 61 #[x27_2] w2 fun x28_3 w3 =>
  C.call Try.prog 63 #[x28_3, (.func (.func 64) #[] #[])] w3 fun x30_4 w4 =>
  C.ite x30_4 (K (.int .i64 4) w4) (F26.k9 K y1 x28_3 w4))) : F26.k6 K y1 w := Eq.mpr (by kernel_rfl) h
theorem F26.l2.to {K : VK} {y1 y3 : Value} {w : World} (h : (C.field 1 y1 w fun x6_1 w1 =>
  C.load1 x6_1 w1 fun x7_2 w2 =>
  C.len x7_2 w2 fun x8_3 w3 =>
  C.int .lss y3 x8_3 w3 fun x9_4 w4 =>
  C.ite x9_4 (F26.k4 K y1 y3 w4) (F26.k6 K y1 w4))) : F26.l2 K y1 y3 w := by unfold F26.l2; exact nav_round (Eq.mpr (by kernel_rfl) h)
theorem F26.k4.to {K : VK} {y1 y3 : Value} {w : World} (h : (C.draw w fun S w1 =>
  C.field 1 y1 w1 fun x12_2 w2 =>
  C.field 1 y1 w2 fun x18_3 w3 =>
  C.int .sub y3 (.int .i64 1) w3 fun x21_4 w4 =>
  C.load1S S x12_2 w4 fun x13_5 w5 =>
  C.idx 2 x13_5 y3 w5 fun x15_6 w6 =>
  C.field 0 x15_6 w6 fun x16_7 w7 =>
  C.load1S S x16_7 w7 fun x17_8 w8 =>
  C.load1S S x18_3 w8 fun x19_9 w9 =>
  C.idx 2 x19_9 x21_4 w9 fun x22_10 w10 =>
  C.field 0 x22_10 w10 fun x23_11 w11 =>
  C.load1S S x23_11 w11 fun x24_12 w12 =>
  C.int .leq x17_8 x24_12 w12 fun x25_13 w13 =>
  C.ite x25_13 (K (.int .i64 9) w13) (F26.k3 K y1 y3 w13))) : F26.k4 K y1 y3 w := Eq.mpr (by kernel_rfl) h
theorem F26.k3.to {K : VK} {y1 y3 : Value} {w : World} (h : (C.int .add y3 (.int .i64 1) w fun x11_1 w1 =>
  F26.l2 K y1 x11_1 w1)) : F26.k3 K y1 y3 w := Eq.mpr (by kernel_rfl) h
theorem F26.k9.to {K : VK} {y1 y4 : Value} {w : World} (h : (C.call Try.prog 63 #[y4, (.func (.func 65) #[] #[y1])] w fun x33_1 w1 =>
  C.ite x33_1 (K (.int .i64 14) w1) (F26.k11 K y1 w1))) : F26.k9 K y1 y4 w := Eq.mpr (by kernel_rfl) h
theorem F26.k11.to {K : VK} {y1 : Value} {w : World} (h : (C.loadA 2 y1 w fun x34_1 w1 =>
  C.call Try.prog 68 #[x34_1] w1 fun x35_2 w2 =>
  C.call Try.prog 67 #[x35_2, (.bool false)] w2 fun x36_3 w3 =>
  C.ite x36_3 (K (.int .i64 10) w3) (F26.k13 K w3))) : F26.k11 K y1 w := Eq.mpr (by kernel_rfl) h
theorem F26.k13.to {K : VK} {w : World} (h : (K (.int .i64 0) w)) : F26.k13 K w := Eq.mpr (by kernel_rfl) h
theorem F26.sh {K : VK} {x0 : Value} {w : World} (h : (C.new (.cells (Value.cells x0) 51) w fun x1_1 w1 =>
  F26.l2 K x1_1 (.int .i64 1) w1)) : C.call Try.prog 26 #[x0] w K := calls_of_vc (A := F26.ann) (args := [x0]) (Eq.mpr (by kernel_rfl) h)

/-! ### 27 scutage/scutagelaw27.check (51) -/
namespace F27
def ann : Ann := ⟨[(3, [1, 3]), (4, [1, 3]), (6, [1]), (9, [1, 4, 5]), (10, [1, 4, 5]), (12, [1, 4]), (14, [1, 4, 6]), (15, [1, 4, 6]), (17, [1]), (20, [7, 8]), (21, [7, 8]), (23, [])], [(2, [1, 3]), (8, [1, 4, 5]), (13, [1, 4, 6]), (19, [7, 8])], [], [(4, (.take 0 (.take 2 (.take 6 (.take 8 (.take 9 (.take 1 (.take 3 (.take 4 (.take 5 (.take 7 (.take 10 (.take 11 (.take 12 (.take 13 .fin))))))))))))))), (15, (.take 0 (.take 1 (.take 2 (.take 3 (.take 4 (.take 5 (.take 6 (.take 8 (.take 9 (.take 10 (.take 11 (.take 7 (.take 12 (.go 13 (.take 14 (.take 15 .fin)) .fin)))))))))))))))], none⟩
noncomputable def code : Code := match Try.f27.body with | some c => c | none => .skip
noncomputable def top (K : VK) : QE := retQ Try.prog Try.f27.results.toList K
noncomputable def k6 (K : VK) (y1 : Value) (w : World) : Prop := nav ann Try.prog 103 (fun c Q => vcCode ann Try.prog 103 c Q [(1, y1)] w) [1, 1] code (top K)
attribute [irreducible] k6
noncomputable def l2 (K : VK) (y1 y3 : Value) (w : World) : Prop := nav ann Try.prog 103 (isLoop ann Try.prog 103 [(1, y1), (3, y3)] w) [1, 0, 1, 0] code (top K)
attribute [irreducible] l2
noncomputable def k4 (K : VK) (y1 y3 : Value) (w : World) : Prop := nav ann Try.prog 103 (fun c Q => vcCode ann Try.prog 103 c Q [(1, y1), (3, y3)] w) [1, 0, 1, 0, 0, 1] code (top K)
attribute [irreducible] k4
noncomputable def k3 (K : VK) (y1 y3 : Value) (w : World) : Prop := nav ann Try.prog 103 (fun c Q => vcCode ann Try.prog 103 c Q [(1, y1), (3, y3)] w) [1, 0, 1, 0, 0, 1, 1] code (top K)
attribute [irreducible] k3
noncomputable def k12 (K : VK) (y1 y4 : Value) (w : World) : Prop := nav ann Try.prog 103 (fun c Q => vcCode ann Try.prog 103 c Q [(1, y1), (4, y4)] w) [1, 1, 1, 1] code (top K)
attribute [irreducible] k12
noncomputable def l8 (K : VK) (y1 y4 y5 : Value) (w : World) : Prop := nav ann Try.prog 103 (isLoop ann Try.prog 103 [(1, y1), (4, y4), (5, y5)] w) [1, 1, 1, 0, 1, 0] code (top K)
attribute [irreducible] l8
noncomputable def k10 (K : VK) (y1 y4 y5 : Value) (w : World) : Prop := nav ann Try.prog 103 (fun c Q => vcCode ann Try.prog 103 c Q [(1, y1), (4, y4), (5, y5)] w) [1, 1, 1, 0, 1, 0, 0, 1] code (top K)
attribute [irreducible] k10
noncomputable def k9 (K : VK) (y1 y4 y5 : Value) (w : World) : Prop := nav ann Try.prog 103 (fun c Q => vcCode ann Try.prog 103 c Q [(1, y1), (4, y4), (5, y5)] w) [1, 1, 1, 0, 1, 0, 0, 1, 1] code (top K)
attribute [irreducible] k9
noncomputable def k17 (K : VK) (y1 : Value) (w : World) : Prop := nav ann Try.prog 103 (fun c Q => vcCode ann Try.prog 103 c Q [(1, y1)] w) [1, 1, 1, 1, 1] code (top K)
attribute [irreducible] k17
noncomputable def l13 (K : VK) (y1 y4 y6 : Value) (w : World) : Prop := nav ann Try.prog 103 (isLoop ann Try.prog 103 [(1, y1), (4, y4), (6, y6)] w) [1, 1, 1, 1, 0, 1, 0] code (top K)
attribute [irreducible] l13
noncomputable def k15 (K : VK) (y1 y4 y6 : Value) (w : World) : Prop := nav ann Try.prog 103 (fun c Q => vcCode ann Try.prog 103 c Q [(1, y1), (4, y4), (6, y6)] w) [1, 1, 1, 1, 0, 1, 0, 0, 1] code (top K)
attribute [irreducible] k15
noncomputable def k14 (K : VK) (y1 y4 y6 : Value) (w : World) : Prop := nav ann Try.prog 103 (fun c Q => vcCode ann Try.prog 103 c Q [(1, y1), (4, y4), (6, y6)] w) [1, 1, 1, 1, 0, 1, 0, 0, 1, 1] code (top K)
attribute [irreducible] k14
noncomputable def k23 (K : VK) (w : World) : Prop := nav ann Try.prog 103 (fun c Q => vcCode ann Try.prog 103 c Q [] w) [1, 1, 1, 1, 1, 1, 1] code (top K)
attribute [irreducible] k23
noncomputable def l19 (K : VK) (y7 y8 : Value) (w : World) : Prop := nav ann Try.prog 103 (isLoop ann Try.prog 103 [(7, y7), (8, y8)] w) [1, 1, 1, 1, 1, 1, 0, 1, 0] code (top K)
attribute [irreducible] l19
noncomputable def k21 (K : VK) (y7 y8 : Value) (w : World) : Prop := nav ann Try.prog 103 (fun c Q => vcCode ann Try.prog 103 c Q [(7, y7), (8, y8)] w) [1, 1, 1, 1, 1, 1, 0, 1, 0, 0, 1] code (top K)
attribute [irreducible] k21
noncomputable def k20 (K : VK) (y7 y8 : Value) (w : World) : Prop := nav ann Try.prog 103 (fun c Q => vcCode ann Try.prog 103 c Q [(7, y7), (8, y8)] w) [1, 1, 1, 1, 1, 1, 0, 1, 0, 0, 1, 1] code (top K)
attribute [irreducible] k20
end F27
theorem F27.k6.to {K : VK} {y1 : Value} {w : World} (h : (C.loadA 2 y1 w fun x30_1 w1 =>
  C.call Try.prog 69 #[x30_1] w1 fun x31_2 w2 =>
  F27.l8 K y1 x31_2 (.int .i64 0) w2)) : F27.k6 K y1 w := Eq.mpr (by kernel_rfl) h
theorem F27.l2.to {K : VK} {y1 y3 : Value} {w : World} (h : (C.field 1 y1 w fun x10_1 w1 =>
  C.load1 x10_1 w1 fun x11_2 w2 =>
  C.len x11_2 w2 fun x12_3 w3 =>
  C.int .lss y3 x12_3 w3 fun x13_4 w4 =>
  C.ite x13_4 (F27.k4 K y1 y3 w4) (F27.k6 K y1 w4))) : F27.l2 K y1 y3 w := by unfold F27.l2; exact nav_round (Eq.mpr (by kernel_rfl) h)
theorem F27.k4.to {K : VK} {y1 y3 : Value} {w : World} (h : (C.draw w fun S w1 =>
  C.field 1 y1 w1 fun x16_2 w2 =>
  C.field 1 y1 w2 fun x22_3 w3 =>
  C.int .sub y3 (.int .i64 1) w3 fun x25_4 w4 =>
  C.load1S S x16_2 w4 fun x17_5 w5 =>
  C.idx 2 x17_5 y3 w5 fun x19_6 w6 =>
  C.field 0 x19_6 w6 fun x20_7 w7 =>
  C.load1S S x20_7 w7 fun x21_8 w8 =>
  C.load1S S x22_3 w8 fun x23_9 w9 =>
  C.idx 2 x23_9 x25_4 w9 fun x26_10 w10 =>
  C.field 0 x26_10 w10 fun x27_11 w11 =>
  C.load1S S x27_11 w11 fun x28_12 w12 =>
  C.int .leq x21_8 x28_12 w12 fun x29_13 w13 =>
  C.ite x29_13 (K (.int .i64 9) w13) (F27.k3 K y1 y3 w13))) : F27.k4 K y1 y3 w := Eq.mpr (by kernel_rfl) h
theorem F27.k3.to {K : VK} {y1 y3 : Value} {w : World} (h : (C.int .add y3 (.int .i64 1) w fun x15_1 w1 =>
  F27.l2 K y1 x15_1 w1)) : F27.k3 K y1 y3 w := Eq.mpr (by kernel_rfl) h
theorem F27.k12.to {K : VK} {y1 y4 : Value} {w : World} (h : (F27.l13 K y1 y4 (.int .i64 0) w)) : F27.k12 K y1 y4 w := Eq.mpr (by kernel_rfl) h
theorem F27.l8.to {K : VK} {y1 y4 y5 : Value} {w : World} (h : (C.len y4 w fun x34_1 w1 =>
  C.int .lss y5 x34_1 w1 fun x35_2 w2 =>
  C.ite x35_2 (F27.k10 K y1 y4 y5 w2) (F27.k12 K y1 y4 w2))) : F27.l8 K y1 y4 y5 w := by unfold F27.l8; exact nav_round (Eq.mpr (by kernel_rfl) h)
theorem F27.k10.to {K : VK} {y1 y4 y5 : Value} {w : World} (h : (C.idx 2 y4 y5 w fun x40_1 w1 =>
  C.field 0 x40_1 w1 fun x41_2 w2 =>
  C.load1 x41_2 w2 fun x42_3 w3 =>
  C.int .lss x42_3 (.int .i64 0) w3 fun x43_4 w4 =>
  C.guarded false x43_4 (fun K => K y4 w4) w4 fun x45_5 w5 =>
  C.guarded false x43_4 (fun K => K y5 w5) w5 fun x46_6 w6 =>
  C.guarded false x43_4 (fun K => C.idx 2 x45_5 x46_6 w6 K) w6 fun x47_7 w7 =>
  C.guarded false x43_4 (fun K => C.field 0 x47_7 w7 K) w7 fun x48_8 w8 =>
  C.guarded false x43_4 (fun K => C.load1 x48_8 w8 K) w8 fun x49_9 w9 =>
  C.guarded false x43_4 (fun K => C.int .gtr x49_9 (.int .i64 2) w9 K) w9 fun x50_10 w10 =>
  C.pick (some x43_4) (some (.bool true)) (some x50_10) w10 fun x51_11 w11 =>
  C.guarded false x51_11 (fun K => K y4 w11) w11 fun x53_12 w12 =>
  C.guarded false x51_11 (fun K => K y5 w12) w12 fun x54_13 w13 =>
  C.guarded false x51_11 (fun K => C.idx 2 x53_12 x54_13 w13 K) w13 fun x55_14 w14 =>
  C.guarded false x51_11 (fun K => C.field 0 x55_14 w14 K) w14 fun x56_15 w15 =>
  C.guarded false x51_11 (fun K => C.load1 x56_15 w15 K) w15 fun x57_16 w16 =>
  C.guarded false x51_11 (fun K => C.int .eql x57_16 (.int .i64 0) w16 K) w16 fun x58_17 w17 =>
  C.guarded false x51_11 (fun K => K x58_17 w17) w17 fun x59_18 w18 =>
  C.guarded true x59_18 (fun K => K y4 w18) w18 fun x60_19 w19 =>
  C.guarded true x59_18 (fun K => K y5 w19) w19 fun x61_20 w20 =>
  C.guarded true x59_18 (fun K => C.idx 2 x60_19 x61_20 w20 K) w20 fun x62_21 w21 =>
  C.guarded true x59_18 (fun K => C.field 1 x62_21 w21 K) w21 fun x63_22 w22 =>
  C.guarded true x59_18 (fun K => C.load1 x63_22 w22 K) w22 fun x64_23 w23 =>
  C.guarded true x59_18 (fun K => C.int .neq x64_23 (.int .i64 0) w23 K) w23 fun x65_24 w24 =>
  C.guarded false x51_11 (fun K => C.pick (some x59_18) (some x65_24) (some (.bool false)) w24 K) w24 fun x66_25 w25 =>
  C.pick (some x51_11) (some (.bool true)) (some x66_25) w25 fun x67_26 w26 =>
  C.ite x67_26 (K (.int .i64 4) w26) (F27.k9 K y1 y4 y5 w26))) : F27.k10 K y1 y4 y5 w := Eq.mpr (by kernel_rfl) h
theorem F27.k9.to {K : VK} {y1 y4 y5 : Value} {w : World} (h : (C.int .add y5 (.int .i64 1) w fun x37_1 w1 =>
  F27.l8 K y1 y4 x37_1 w1)) : F27.k9 K y1 y4 y5 w := Eq.mpr (by kernel_rfl) h
theorem F27.k17.to {K : VK} {y1 : Value} {w : World} (h : (C.loadA 2 y1 w fun x90_1 w1 =>
  C.call Try.prog 28 #[x90_1] w1 fun x91_2 w2 =>
  F27.l19 K x91_2 (.int .i64 0) w2)) : F27.k17 K y1 w := Eq.mpr (by kernel_rfl) h
theorem F27.l13.to {K : VK} {y1 y4 y6 : Value} {w : World} (h : (C.len y4 w fun x70_1 w1 =>
  C.int .lss y6 x70_1 w1 fun x71_2 w2 =>
  C.ite x71_2 (F27.k15 K y1 y4 y6 w2) (F27.k17 K y1 w2))) : F27.l13 K y1 y4 y6 w := by unfold F27.l13; exact nav_round (Eq.mpr (by kernel_rfl) h)
theorem F27.k15.to {K : VK} {y1 y4 y6 : Value} {w : World} (h : (C.draw w fun S w1 =>
  C.idx 2 y4 y6 w1 fun x76_2 w2 =>
  C.field 0 x76_2 w2 fun x77_3 w3 =>
  C.load1S S x77_3 w3 fun x78_4 w4 =>
  C.int .eql x78_4 (.int .i64 2) w4 fun x79_5 w5 =>
  C.guarded true x79_5 (fun K => K y4 w5) w5 fun x82_6 w6 =>
  C.guarded true x79_5 (fun K => K y6 w6) w6 fun x83_7 w7 =>
  C.guarded true x79_5 (fun K => C.idx 2 x82_6 x83_7 w7 K) w7 fun x84_8 w8 =>
  C.guarded true x79_5 (fun K => C.field 1 x84_8 w8 K) w8 fun x85_9 w9 =>
  C.guarded true x79_5 (fun K => C.loadAS S 2 y1 w9 K) w9 fun x81_10 w10 =>
  C.guarded true x79_5 (fun K => C.load1S S x85_9 w10 K) w10 fun x86_11 w11 =>
  (C.guarded true x79_5 (fun K => C.call Try.prog 31 #[x81_10, x86_11] w11 K) w11 fun x87_12 w12 =>
  (S w12 ∧
  C.guarded true x79_5 (fun K => C.int .lss x87_12 (.int .i64 0) w12 K) w12 fun x88_13 w13 =>
  C.pick (some x79_5) (some x88_13) (some (.bool false)) w13 fun x89_14 w14 =>
  C.ite x89_14 (K (.int .i64 14) w14) (F27.k14 K y1 y4 y6 w14))) ∧ True)) : F27.k15 K y1 y4 y6 w := Eq.mpr (by kernel_rfl) h
theorem F27.k14.to {K : VK} {y1 y4 y6 : Value} {w : World} (h : (C.int .add y6 (.int .i64 1) w fun x73_1 w1 =>
  F27.l13 K y1 y4 x73_1 w1)) : F27.k14 K y1 y4 y6 w := Eq.mpr (by kernel_rfl) h
theorem F27.k23.to {K : VK} {w : World} (h : (K (.int .i64 0) w)) : F27.k23 K w := Eq.mpr (by kernel_rfl) h
theorem F27.l19.to {K : VK} {y7 y8 : Value} {w : World} (h : (C.len y7 w fun x94_1 w1 =>
  C.int .lss y8 x94_1 w1 fun x95_2 w2 =>
  C.ite x95_2 (F27.k21 K y7 y8 w2) (F27.k23 K w2))) : F27.l19 K y7 y8 w := by unfold F27.l19; exact nav_round (Eq.mpr (by kernel_rfl) h)
theorem F27.k21.to {K : VK} {y7 y8 : Value} {w : World} (h : (C.idx 1 y7 y8 w fun x100_1 w1 =>
  C.load1 x100_1 w1 fun x101_2 w2 =>
  C.not x101_2 w2 fun x102_3 w3 =>
  C.ite x102_3 (K (.int .i64 10) w3) (F27.k20 K y7 y8 w3))) : F27.k21 K y7 y8 w := Eq.mpr (by kernel_rfl) h
theorem F27.k20.to {K : VK} {y7 y8 : Value} {w : World} (h : (C.int .add y8 (.int .i64 1) w fun x97_1 w1 =>
  F27.l19 K y7 x97_1 w1)) : F27.k20 K y7 y8 w := Eq.mpr (by kernel_rfl) h
theorem F27.sh {K : VK} {x0 : Value} {w : World} (h : (C.new (.cells (Value.cells x0) 51) w fun x1_1 w1 =>
  F27.l2 K x1_1 (.int .i64 1) w1)) : C.call Try.prog 27 #[x0] w K := calls_of_vc (A := F27.ann) (args := [x0]) (Eq.mpr (by kernel_rfl) h)

/-! ### 28 scutage/scutagelaw27.met (51) -/
namespace F28
def ann : Ann := ⟨[(5, [1, 3, 4, 5]), (6, [1, 3, 4, 5]), (7, [1, 3, 4]), (9, [1, 3, 4, 6]), (10, [1, 3, 4, 6]), (14, [3])], [(4, [1, 3, 4, 5]), (8, [1, 3, 4, 6])], [], [(10, (.take 1 (.take 2 (.take 3 (.take 0 (.take 4 (.go 5 (.take 6 .fin) .fin)))))))], none⟩
noncomputable def code : Code := match Try.f28.body with | some c => c | none => .skip
noncomputable def top (K : VK) : QE := retQ Try.prog Try.f28.results.toList K
noncomputable def k7 (K : VK) (y1 y3 y4 : Value) (w : World) : Prop := nav ann Try.prog 62 (fun c Q => vcCode ann Try.prog 62 c Q [(1, y1), (3, y3), (4, y4)] w) [1, 1, 1, 1] code (top K)
attribute [irreducible] k7
noncomputable def l4 (K : VK) (y1 y3 y4 y5 : Value) (w : World) : Prop := nav ann Try.prog 62 (isLoop ann Try.prog 62 [(1, y1), (3, y3), (4, y4), (5, y5)] w) [1, 1, 1, 0, 1, 0] code (top K)
attribute [irreducible] l4
noncomputable def k6 (K : VK) (y1 y3 y4 y5 : Value) (w : World) : Prop := nav ann Try.prog 62 (fun c Q => vcCode ann Try.prog 62 c Q [(1, y1), (3, y3), (4, y4), (5, y5)] w) [1, 1, 1, 0, 1, 0, 0, 1] code (top K)
attribute [irreducible] k6
noncomputable def k5 (K : VK) (y1 y3 y4 y5 : Value) (w : World) : Prop := nav ann Try.prog 62 (fun c Q => vcCode ann Try.prog 62 c Q [(1, y1), (3, y3), (4, y4), (5, y5)] w) [1, 1, 1, 0, 1, 0, 0, 1, 1] code (top K)
attribute [irreducible] k5
noncomputable def k14 (K : VK) (y3 : Value) (w : World) : Prop := nav ann Try.prog 62 (fun c Q => vcCode ann Try.prog 62 c Q [(3, y3)] w) [1, 1, 1, 1, 1] code (top K)
attribute [irreducible] k14
noncomputable def l8 (K : VK) (y1 y3 y4 y6 : Value) (w : World) : Prop := nav ann Try.prog 62 (isLoop ann Try.prog 62 [(1, y1), (3, y3), (4, y4), (6, y6)] w) [1, 1, 1, 1, 0, 1, 0] code (top K)
attribute [irreducible] l8
noncomputable def k10 (K : VK) (y1 y3 y4 y6 : Value) (w : World) : Prop := nav ann Try.prog 62 (fun c Q => vcCode ann Try.prog 62 c Q [(1, y1), (3, y3), (4, y4), (6, y6)] w) [1, 1, 1, 1, 0, 1, 0, 0, 1] code (top K)
attribute [irreducible] k10
noncomputable def k9 (K : VK) (y1 y3 y4 y6 : Value) (w : World) : Prop := nav ann Try.prog 62 (fun c Q => vcCode ann Try.prog 62 c Q [(1, y1), (3, y3), (4, y4), (6, y6)] w) [1, 1, 1, 1, 0, 1, 0, 0, 1, 1] code (top K)
attribute [irreducible] k9
end F28
theorem F28.k7.to {K : VK} {y1 y3 y4 : Value} {w : World} (h : (F28.l8 K y1 y3 y4 (.int .i64 0) w)) : F28.k7 K y1 y3 y4 w := Eq.mpr (by kernel_rfl) h
theorem F28.l4.to {K : VK} {y1 y3 y4 y5 : Value} {w : World} (h : (C.field 0 y1 w fun x14_1 w1 =>
  C.load1 x14_1 w1 fun x15_2 w2 =>
  C.len x15_2 w2 fun x16_3 w3 =>
  C.int .lss y5 x16_3 w3 fun x17_4 w4 =>
  C.ite x17_4 (F28.k6 K y1 y3 y4 y5 w4) (F28.k7 K y1 y3 y4 w4))) : F28.l4 K y1 y3 y4 y5 w := by unfold F28.l4; exact nav_round (Eq.mpr (by kernel_rfl) h)
theorem F28.k6.to {K : VK} {y1 y3 y4 y5 : Value} {w : World} (h : (C.field 0 y1 w fun x21_1 w1 =>
  C.load1 x21_1 w1 fun x22_2 w2 =>
  C.idx 1 x22_2 y5 w2 fun x24_3 w3 =>
  C.load1 x24_3 w3 fun x25_4 w4 =>
  C.call Try.prog 70 #[x25_4] w4 fun x26_5 w5 =>
  C.run Try.prog (Builtin.append_ #[57, 57] 57 #[y4, x26_5]) w5 fun x27_6 w6 =>
  F28.k5 K y1 y3 x27_6 y5 w6)) : F28.k6 K y1 y3 y4 y5 w := Eq.mpr (by kernel_rfl) h
theorem F28.k5.to {K : VK} {y1 y3 y4 y5 : Value} {w : World} (h : (C.int .add y5 (.int .i64 1) w fun x19_1 w1 =>
  F28.l4 K y1 y3 y4 x19_1 w1)) : F28.k5 K y1 y3 y4 y5 w := Eq.mpr (by kernel_rfl) h
theorem F28.k14.to {K : VK} {y3 : Value} {w : World} (h : (K y3 w)) : F28.k14 K y3 w := Eq.mpr (by kernel_rfl) h
theorem F28.l8.to {K : VK} {y1 y3 y4 y6 : Value} {w : World} (h : (C.len y4 w fun x30_1 w1 =>
  C.int .lss y6 x30_1 w1 fun x31_2 w2 =>
  C.ite x31_2 (F28.k10 K y1 y3 y4 y6 w2) (F28.k14 K y3 w2))) : F28.l8 K y1 y3 y4 y6 w := by unfold F28.l8; exact nav_round (Eq.mpr (by kernel_rfl) h)
theorem F28.k10.to {K : VK} {y1 y3 y4 y6 : Value} {w : World} (h : (C.draw w fun S w1 =>
  C.idx 1 y4 y6 w1 fun x37_2 w2 =>
  C.loadAS S 2 y1 w2 fun x34_3 w3 =>
  C.load1S S x37_2 w3 fun x38_4 w4 =>
  (C.call Try.prog 31 #[x34_3, x38_4] w4 fun x39_5 w5 =>
  (S w5 ∧
  C.int .geq x39_5 (.int .i64 0) w5 fun x41_6 w6 =>
  C.guarded true x41_6 (fun K => K y3 w6) w6 fun x43_7 w7 =>
  C.guarded true x41_6 (fun K => K x39_5 w7) w7 fun x44_8 w8 =>
  C.guarded true x41_6 (fun K => C.idx 1 x43_7 x44_8 w8 K) w8 fun x45_9 w9 =>
  C.guarded true x41_6 (fun K => C.load1 x45_9 w9 K) w9 fun x46_10 w10 =>
  C.guarded true x41_6 (fun K => C.not x46_10 w10 K) w10 fun x47_11 w11 =>
  C.pick (some x41_6) (some x47_11) (some (.bool false)) w11 fun x48_12 w12 =>
  C.ite x48_12 (C.idx 1 y3 x39_5 w12 fun x51_13 w13 =>
  C.store 1 x51_13 (.bool true) w13 fun w14 =>
  C.field 1 y1 w14 fun x53_15 w15 =>
  C.load1 x53_15 w15 fun x54_16 w16 =>
  C.idx 2 x54_16 x39_5 w16 fun x56_17 w17 =>
  C.field 1 x56_17 w17 fun x57_18 w18 =>
  C.load1 x57_18 w18 fun x58_19 w19 =>
  C.call Try.prog 70 #[x58_19] w19 fun x59_20 w20 =>
  C.run Try.prog (Builtin.append_ #[57, 57] 57 #[y4, x59_20]) w20 fun x60_21 w21 =>
  F28.k9 K y1 y3 x60_21 y6 w21) (F28.k9 K y1 y3 y4 y6 w12))) ∧ True)) : F28.k10 K y1 y3 y4 y6 w := Eq.mpr (by kernel_rfl) h
theorem F28.k9.to {K : VK} {y1 y3 y4 y6 : Value} {w : World} (h : (C.int .add y6 (.int .i64 1) w fun x33_1 w1 =>
  F28.l8 K y1 y3 y4 x33_1 w1)) : F28.k9 K y1 y3 y4 y6 w := Eq.mpr (by kernel_rfl) h
theorem F28.sh {K : VK} {x0 : Value} {w : World} (h : (C.new (.cells (Value.cells x0) 51) w fun x1_1 w1 =>
  C.field 1 x1_1 w1 fun x8_2 w2 =>
  C.load1 x8_2 w2 fun x9_3 w3 =>
  C.len x9_3 w3 fun x10_4 w4 =>
  C.run Try.prog (Instr.makeSlice 55 x10_4 x10_4) w4 fun x11_5 w5 =>
  C.run Try.prog (Instr.buildSlice 57 1 #[(0, (.int .i64 0))]) w5 fun x12_6 w6 =>
  F28.l4 K x1_1 x11_5 x12_6 (.int .i64 0) w6)) : C.call Try.prog 28 #[x0] w K := calls_of_vc (A := F28.ann) (args := [x0]) (Eq.mpr (by kernel_rfl) h)

/-! ### 29 scutage/view.Reach (51) -/
namespace F29
def ann : Ann := ⟨[(4, [1, 3, 7, 8, 9]), (7, [1, 3, 7, 8, 9]), (8, [3])], [(3, [1, 3, 7, 8, 9])], [], [], none⟩
noncomputable def code : Code := match Try.f29.body with | some c => c | none => .skip
noncomputable def top (K : VK) : QE := retQ Try.prog Try.f29.results.toList K
noncomputable def k8 (K : VK) (y3 : Value) (w : World) : Prop := nav ann Try.prog 29 (fun c Q => vcCode ann Try.prog 29 c Q [(3, y3)] w) [1, 1, 1] code (top K)
attribute [irreducible] k8
noncomputable def l3 (K : VK) (y1 y3 y7 y8 y9 : Value) (w : World) : Prop := nav ann Try.prog 29 (isLoop ann Try.prog 29 [(1, y1), (3, y3), (7, y7), (8, y8), (9, y9)] w) [1, 1, 0, 1, 0] code (top K)
attribute [irreducible] l3
noncomputable def k4 (K : VK) (y1 y3 y7 y8 y9 : Value) (w : World) : Prop := nav ann Try.prog 29 (fun c Q => vcCode ann Try.prog 29 c Q [(1, y1), (3, y3), (7, y7), (8, y8), (9, y9)] w) [1, 1, 0, 1, 0, 0, 1, 1] code (top K)
attribute [irreducible] k4
noncomputable def k7 (K : VK) (y1 y3 y7 y8 y9 : Value) (w : World) : Prop := nav ann Try.prog 29 (fun c Q => vcCode ann Try.prog 29 c Q [(1, y1), (3, y3), (7, y7), (8, y8), (9, y9)] w) [1, 1, 0, 1, 0, 0, 1, 1, 1] code (top K)
attribute [irreducible] k7
end F29
theorem F29.k8.to {K : VK} {y3 : Value} {w : World} (h : (C.call Try.prog 71 #[y3] w fun x26_1 w1 =>
  C.call Try.prog 72 #[y3] w1 fun x28_2 w2 =>
  K x28_2 w2)) : F29.k8 K y3 w := Eq.mpr (by kernel_rfl) h
theorem F29.l3.to {K : VK} {y1 y3 y7 y8 y9 : Value} {w : World} (h : (C.int .lss y9 y8 w fun x10_1 w1 =>
  C.ite x10_1 (F29.k4 K y1 y3 y7 y8 y9 w1) (F29.k8 K y3 w1))) : F29.l3 K y1 y3 y7 y8 y9 w := by unfold F29.l3; exact nav_round (Eq.mpr (by kernel_rfl) h)
theorem F29.k4.to {K : VK} {y1 y3 y7 y8 y9 : Value} {w : World} (h : (C.idx 1 y7 y9 w fun x12_1 w1 =>
  C.load1 x12_1 w1 fun x13_2 w2 =>
  C.ite x13_2 (C.field 1 y1 w2 fun x16_3 w3 =>
  C.load1 x16_3 w3 fun x17_4 w4 =>
  C.idx 2 x17_4 y9 w4 fun x19_5 w5 =>
  C.field 0 x19_5 w5 fun x20_6 w6 =>
  C.load1 x20_6 w6 fun x21_7 w7 =>
  C.run Try.prog (Instr.buildSlice 57 1 #[(0, x21_7)]) w7 fun x22_8 w8 =>
  C.run Try.prog (Builtin.append_ #[57, 57] 57 #[y3, x22_8]) w8 fun x23_9 w9 =>
  F29.k7 K y1 x23_9 y7 y8 y9 w9) (F29.k7 K y1 y3 y7 y8 y9 w2))) : F29.k4 K y1 y3 y7 y8 y9 w := Eq.mpr (by kernel_rfl) h
theorem F29.k7.to {K : VK} {y1 y3 y7 y8 y9 : Value} {w : World} (h : (C.int .add y9 (.int .i64 1) w fun x24_1 w1 =>
  F29.l3 K y1 y3 y7 y8 x24_1 w1)) : F29.k7 K y1 y3 y7 y8 y9 w := Eq.mpr (by kernel_rfl) h
theorem F29.sh {K : VK} {x0 : Value} {w : World} (h : (C.new (.cells (Value.cells x0) 51) w fun x1_1 w1 =>
  C.loadA 2 x1_1 w1 fun x6_2 w2 =>
  C.call Try.prog 68 #[x6_2] w2 fun x7_3 w3 =>
  C.len x7_3 w3 fun x8_4 w4 =>
  F29.l3 K x1_1 (.slice none 0 0) x7_3 x8_4 (.int .i64 0) w4)) : C.call Try.prog 29 #[x0] w K := calls_of_vc (A := F29.ann) (args := [x0]) (Eq.mpr (by kernel_rfl) h)

/-! ### 30 scutage/view.Find (51, 2) -/
namespace F30
def ann : Ann := ⟨[(4, [2, 4, 6])], [], [], [], none⟩
noncomputable def code : Code := match Try.f30.body with | some c => c | none => .skip
noncomputable def top (K : VK) : QE := retQ Try.prog Try.f30.results.toList K
noncomputable def k4 (K : VK) (y2 y4 y6 : Value) (w : World) : Prop := nav ann Try.prog 19 (fun c Q => vcCode ann Try.prog 19 c Q [(2, y2), (4, y4), (6, y6)] w) [1, 1, 1] code (top K)
attribute [irreducible] k4
end F30
theorem F30.k4.to {K : VK} {y2 y4 y6 : Value} {w : World} (h : (C.field 1 y2 w fun x13_1 w1 =>
  C.load1 x13_1 w1 fun x14_2 w2 =>
  C.idx 2 x14_2 y6 w2 fun x16_3 w3 =>
  C.loadA 2 x16_3 w3 fun x17_4 w4 =>
  C.call Try.prog 73 #[x17_4] w4 fun x18_5 w5 =>
  C.store 2 y4 x18_5 w5 fun w6 =>
  C.loadA 2 y4 w6 fun r7 _ =>
  K (.tuple #[r7, (.bool true)]) w6)) : F30.k4 K y2 y4 y6 w := Eq.mpr (by kernel_rfl) h
theorem F30.sh {K : VK} {x0 x1 : Value} {w : World} (h : (C.new (.cells (Value.cells x0) 51) w fun x2_1 w1 =>
  C.new (.cells #[.int .i64 0, .slice none 0 0] 61) w1 fun x4_2 w2 =>
  C.loadA 2 x2_1 w2 fun x7_3 w3 =>
  C.call Try.prog 66 #[x7_3, x1] w3 fun x9_4 w4 =>
  C.int .lss x9_4 (.int .i64 0) w4 fun x11_5 w5 =>
  C.ite x11_5 (C.run Try.prog (Instr.build 61 #[]) w5 fun x12_6 w6 =>
  C.store 2 x4_2 x12_6 w6 fun w7 =>
  C.loadA 2 x4_2 w7 fun r8 _ =>
  K (.tuple #[r8, (.bool false)]) w7) (F30.k4 K x2_1 x4_2 x9_4 w5))) : C.call Try.prog 30 #[x0, x1] w K := calls_of_vc (A := F30.ann) (args := [x0, x1]) (Eq.mpr (by kernel_rfl) h)

/-! ### 31 scutage/scutagelaw27.find (51, 2) -/
namespace F31
def ann : Ann := ⟨[(3, [1, 2, 5]), (4, [1, 2, 5]), (6, [])], [(2, [1, 2, 5])], [], [], none⟩
noncomputable def code : Code := match Try.f31.body with | some c => c | none => .skip
noncomputable def top (K : VK) : QE := retQ Try.prog Try.f31.results.toList K
noncomputable def k6 (K : VK) (w : World) : Prop := nav ann Try.prog 22 (fun c Q => vcCode ann Try.prog 22 c Q [] w) [1, 1] code (top K)
attribute [irreducible] k6
noncomputable def l2 (K : VK) (y1 y2 y5 : Value) (w : World) : Prop := nav ann Try.prog 22 (isLoop ann Try.prog 22 [(1, y1), (2, y2), (5, y5)] w) [1, 0, 1, 0] code (top K)
attribute [irreducible] l2
noncomputable def k4 (K : VK) (y1 y2 y5 : Value) (w : World) : Prop := nav ann Try.prog 22 (fun c Q => vcCode ann Try.prog 22 c Q [(1, y1), (2, y2), (5, y5)] w) [1, 0, 1, 0, 0, 1] code (top K)
attribute [irreducible] k4
noncomputable def k3 (K : VK) (y1 y2 y5 : Value) (w : World) : Prop := nav ann Try.prog 22 (fun c Q => vcCode ann Try.prog 22 c Q [(1, y1), (2, y2), (5, y5)] w) [1, 0, 1, 0, 0, 1, 1] code (top K)
attribute [irreducible] k3
end F31
theorem F31.k6.to {K : VK} {w : World} (h : (K (.int .i64 (-1)) w)) : F31.k6 K w := Eq.mpr (by kernel_rfl) h
theorem F31.l2.to {K : VK} {y1 y2 y5 : Value} {w : World} (h : (C.field 1 y2 w fun x7_1 w1 =>
  C.load1 x7_1 w1 fun x8_2 w2 =>
  C.len x8_2 w2 fun x9_3 w3 =>
  C.int .lss y5 x9_3 w3 fun x10_4 w4 =>
  C.ite x10_4 (F31.k4 K y1 y2 y5 w4) (F31.k6 K w4))) : F31.l2 K y1 y2 y5 w := by unfold F31.l2; exact nav_round (Eq.mpr (by kernel_rfl) h)
theorem F31.k4.to {K : VK} {y1 y2 y5 : Value} {w : World} (h : (C.field 1 y2 w fun x13_1 w1 =>
  C.load1 x13_1 w1 fun x14_2 w2 =>
  C.idx 2 x14_2 y5 w2 fun x16_3 w3 =>
  C.field 0 x16_3 w3 fun x17_4 w4 =>
  C.load1 x17_4 w4 fun x18_5 w5 =>
  C.int .eql x18_5 y1 w5 fun x20_6 w6 =>
  C.ite x20_6 (K y5 w6) (F31.k3 K y1 y2 y5 w6))) : F31.k4 K y1 y2 y5 w := Eq.mpr (by kernel_rfl) h
theorem F31.k3.to {K : VK} {y1 y2 y5 : Value} {w : World} (h : (C.int .add y5 (.int .i64 1) w fun x12_1 w1 =>
  F31.l2 K y1 y2 x12_1 w1)) : F31.k3 K y1 y2 y5 w := Eq.mpr (by kernel_rfl) h
theorem F31.sh {K : VK} {x0 x1 : Value} {w : World} (h : (C.new (.cells (Value.cells x0) 51) w fun x2_1 w1 =>
  F31.l2 K x1 x2_1 (.int .i64 0) w1)) : C.call Try.prog 31 #[x0, x1] w K := calls_of_vc (A := F31.ann) (args := [x0, x1]) (Eq.mpr (by kernel_rfl) h)

/-! ### 32 scutage/view.Same (51, 51) -/
namespace F32
def ann : Ann := ⟨[], [], [], [], none⟩
noncomputable def code : Code := match Try.f32.body with | some c => c | none => .skip
noncomputable def top (K : VK) : QE := retQ Try.prog Try.f32.results.toList K
end F32
theorem F32.sh {K : VK} {x0 x1 : Value} {w : World} (h : (C.new (.cells (Value.cells x0) 51) w fun x2_1 w1 =>
  C.new (.cells (Value.cells x1) 51) w1 fun x3_2 w2 =>
  C.field 0 x2_1 w2 fun x5_3 w3 =>
  C.load1 x5_3 w3 fun x6_4 w4 =>
  C.field 0 x3_2 w4 fun x7_5 w5 =>
  C.load1 x7_5 w5 fun x8_6 w6 =>
  C.call Try.prog 74 #[x6_4, x8_6, (.func (.func 75) #[] #[])] w6 fun x9_7 w7 =>
  C.guarded true x9_7 (fun K => C.field 1 x2_1 w7 K) w7 fun x11_8 w8 =>
  C.guarded true x9_7 (fun K => C.load1 x11_8 w8 K) w8 fun x12_9 w9 =>
  C.guarded true x9_7 (fun K => C.field 1 x3_2 w9 K) w9 fun x13_10 w10 =>
  C.guarded true x9_7 (fun K => C.load1 x13_10 w10 K) w10 fun x14_11 w11 =>
  C.guarded true x9_7 (fun K => C.call Try.prog 76 #[x12_9, x14_11, (.func (.func 77) #[] #[])] w11 K) w11 fun x15_12 w12 =>
  C.pick (some x9_7) (some x15_12) (some (.bool false)) w12 fun x16_13 w13 =>
  K x16_13 w13)) : C.call Try.prog 32 #[x0, x1] w K := calls_of_vc (A := F32.ann) (args := [x0, x1]) (Eq.mpr (by kernel_rfl) h)

/-! ### 33 scutage/scutageplain.View (51, 51) -/
namespace F33
def ann : Ann := ⟨[(3, [2, 3]), (5, [2, 3, 5]), (6, [2, 3, 5]), (8, [2, 3]), (10, [2, 3, 6]), (11, [2, 3, 6]), (13, [])], [(4, [2, 3, 5]), (9, [2, 3, 6])], [], [(6, (.take 0 (.take 2 (.take 5 (.take 7 (.take 1 (.take 3 (.take 4 (.take 6 (.take 8 (.take 9 (.go 10 (.take 11 .fin) .fin)))))))))))), (11, (.take 0 (.take 2 (.take 6 (.take 8 (.take 1 (.take 3 (.take 4 (.take 5 (.take 7 (.take 9 (.take 10 (.take 11 (.take 12 (.take 13 (.take 14 (.take 16 (.take 20 (.take 22 (.take 15 (.take 17 (.take 18 (.take 19 (.take 21 (.take 23 (.take 24 (.take 25 (.go 26 (.take 27 (.take 28 .fin)) .fin))))))))))))))))))))))))))))], none⟩
noncomputable def code : Code := match Try.f33.body with | some c => c | none => .skip
noncomputable def top (K : VK) : QE := retQ Try.prog Try.f33.results.toList K
noncomputable def k3 (K : VK) (y2 y3 : Value) (w : World) : Prop := nav ann Try.prog 78 (fun c Q => vcCode ann Try.prog 78 c Q [(2, y2), (3, y3)] w) [1, 1] code (top K)
attribute [irreducible] k3
noncomputable def k8 (K : VK) (y2 y3 : Value) (w : World) : Prop := nav ann Try.prog 78 (fun c Q => vcCode ann Try.prog 78 c Q [(2, y2), (3, y3)] w) [1, 1, 1] code (top K)
attribute [irreducible] k8
noncomputable def l4 (K : VK) (y2 y3 y5 : Value) (w : World) : Prop := nav ann Try.prog 78 (isLoop ann Try.prog 78 [(2, y2), (3, y3), (5, y5)] w) [1, 1, 0, 1, 0] code (top K)
attribute [irreducible] l4
noncomputable def k6 (K : VK) (y2 y3 y5 : Value) (w : World) : Prop := nav ann Try.prog 78 (fun c Q => vcCode ann Try.prog 78 c Q [(2, y2), (3, y3), (5, y5)] w) [1, 1, 0, 1, 0, 0, 1] code (top K)
attribute [irreducible] k6
noncomputable def k5 (K : VK) (y2 y3 y5 : Value) (w : World) : Prop := nav ann Try.prog 78 (fun c Q => vcCode ann Try.prog 78 c Q [(2, y2), (3, y3), (5, y5)] w) [1, 1, 0, 1, 0, 0, 1, 1] code (top K)
attribute [irreducible] k5
noncomputable def k13 (K : VK) (w : World) : Prop := nav ann Try.prog 78 (fun c Q => vcCode ann Try.prog 78 c Q [] w) [1, 1, 1, 1] code (top K)
attribute [irreducible] k13
noncomputable def l9 (K : VK) (y2 y3 y6 : Value) (w : World) : Prop := nav ann Try.prog 78 (isLoop ann Try.prog 78 [(2, y2), (3, y3), (6, y6)] w) [1, 1, 1, 0, 1, 0] code (top K)
attribute [irreducible] l9
noncomputable def k11 (K : VK) (y2 y3 y6 : Value) (w : World) : Prop := nav ann Try.prog 78 (fun c Q => vcCode ann Try.prog 78 c Q [(2, y2), (3, y3), (6, y6)] w) [1, 1, 1, 0, 1, 0, 0, 1] code (top K)
attribute [irreducible] k11
noncomputable def k10 (K : VK) (y2 y3 y6 : Value) (w : World) : Prop := nav ann Try.prog 78 (fun c Q => vcCode ann Try.prog 78 c Q [(2, y2), (3, y3), (6, y6)] w) [1, 1, 1, 0, 1, 0, 0, 1, 1] code (top K)
attribute [irreducible] k10
end F33
theorem F33.k3.to {K : VK} {y2 y3 : Value} {w : World} (h : (F33.l4 K y2 y3 (.int .i64 0) w)) : F33.k3 K y2 y3 w := Eq.mpr (by kernel_rfl) h
theorem F33.k8.to {K : VK} {y2 y3 : Value} {w : World} (h : (F33.l9 K y2 y3 (.int .i64 0) w)) : F33.k8 K y2 y3 w := Eq.mpr (by kernel_rfl) h
theorem F33.l4.to {K : VK} {y2 y3 y5 : Value} {w : World} (h : (C.field 0 y2 w fun x24_1 w1 =>
  C.load1 x24_1 w1 fun x25_2 w2 =>
  C.len x25_2 w2 fun x26_3 w3 =>
  C.int .lss y5 x26_3 w3 fun x27_4 w4 =>
  C.ite x27_4 (F33.k6 K y2 y3 y5 w4) (F33.k8 K y2 y3 w4))) : F33.l4 K y2 y3 y5 w := by unfold F33.l4; exact nav_round (Eq.mpr (by kernel_rfl) h)
theorem F33.k6.to {K : VK} {y2 y3 y5 : Value} {w : World} (h : (C.draw w fun S w1 =>
  C.field 0 y2 w1 fun x30_2 w2 =>
  C.field 0 y3 w2 fun x35_3 w3 =>
  C.load1S S x30_2 w3 fun x31_4 w4 =>
  C.idx 1 x31_4 y5 w4 fun x33_5 w5 =>
  C.load1S S x33_5 w5 fun x34_6 w6 =>
  C.load1S S x35_3 w6 fun x36_7 w7 =>
  C.idx 1 x36_7 y5 w7 fun x38_8 w8 =>
  C.load1S S x38_8 w8 fun x39_9 w9 =>
  (C.call Try.prog 35 #[x34_6, x39_9] w9 fun x40_10 w10 =>
  (S w10 ∧
  C.not x40_10 w10 fun x41_11 w11 =>
  C.ite x41_11 (K (.bool false) w11) (F33.k5 K y2 y3 y5 w11))) ∧ True)) : F33.k6 K y2 y3 y5 w := Eq.mpr (by kernel_rfl) h
theorem F33.k5.to {K : VK} {y2 y3 y5 : Value} {w : World} (h : (C.int .add y5 (.int .i64 1) w fun x29_1 w1 =>
  F33.l4 K y2 y3 x29_1 w1)) : F33.k5 K y2 y3 y5 w := Eq.mpr (by kernel_rfl) h
theorem F33.k13.to {K : VK} {w : World} (h : (K (.bool true) w)) : F33.k13 K w := Eq.mpr (by kernel_rfl) h
theorem F33.l9.to {K : VK} {y2 y3 y6 : Value} {w : World} (h : (C.field 1 y2 w fun x43_1 w1 =>
  C.load1 x43_1 w1 fun x44_2 w2 =>
  C.len x44_2 w2 fun x45_3 w3 =>
  C.int .lss y6 x45_3 w3 fun x46_4 w4 =>
  C.ite x46_4 (F33.k11 K y2 y3 y6 w4) (F33.k13 K w4))) : F33.l9 K y2 y3 y6 w := by unfold F33.l9; exact nav_round (Eq.mpr (by kernel_rfl) h)
theorem F33.k11.to {K : VK} {y2 y3 y6 : Value} {w : World} (h : (C.draw w fun S w1 =>
  C.field 1 y2 w1 fun x49_2 w2 =>
  C.field 1 y3 w2 fun x55_3 w3 =>
  C.load1S S x49_2 w3 fun x50_4 w4 =>
  C.idx 2 x50_4 y6 w4 fun x52_5 w5 =>
  C.field 0 x52_5 w5 fun x53_6 w6 =>
  C.load1S S x53_6 w6 fun x54_7 w7 =>
  C.load1S S x55_3 w7 fun x56_8 w8 =>
  C.idx 2 x56_8 y6 w8 fun x58_9 w9 =>
  C.field 0 x58_9 w9 fun x59_10 w10 =>
  C.load1S S x59_10 w10 fun x60_11 w11 =>
  C.int .neq x54_7 x60_11 w11 fun x61_12 w12 =>
  C.guarded false x61_12 (fun K => C.field 1 y2 w12 K) w12 fun x63_13 w13 =>
  C.guarded false x61_12 (fun K => K y6 w13) w13 fun x65_14 w14 =>
  C.guarded false x61_12 (fun K => C.field 1 y3 w14 K) w14 fun x69_15 w15 =>
  C.guarded false x61_12 (fun K => K y6 w15) w15 fun x71_16 w16 =>
  C.guarded false x61_12 (fun K => C.load1S S x63_13 w16 K) w16 fun x64_17 w17 =>
  C.guarded false x61_12 (fun K => C.idx 2 x64_17 x65_14 w17 K) w17 fun x66_18 w18 =>
  C.guarded false x61_12 (fun K => C.field 1 x66_18 w18 K) w18 fun x67_19 w19 =>
  C.guarded false x61_12 (fun K => C.load1S S x67_19 w19 K) w19 fun x68_20 w20 =>
  C.guarded false x61_12 (fun K => C.load1S S x69_15 w20 K) w20 fun x70_21 w21 =>
  C.guarded false x61_12 (fun K => C.idx 2 x70_21 x71_16 w21 K) w21 fun x72_22 w22 =>
  C.guarded false x61_12 (fun K => C.field 1 x72_22 w22 K) w22 fun x73_23 w23 =>
  C.guarded false x61_12 (fun K => C.load1S S x73_23 w23 K) w23 fun x74_24 w24 =>
  (C.guarded false x61_12 (fun K => C.call Try.prog 35 #[x68_20, x74_24] w24 K) w24 fun x75_25 w25 =>
  (S w25 ∧
  C.guarded false x61_12 (fun K => C.not x75_25 w25 K) w25 fun x76_26 w26 =>
  C.pick (some x61_12) (some (.bool true)) (some x76_26) w26 fun x77_27 w27 =>
  C.ite x77_27 (K (.bool false) w27) (F33.k10 K y2 y3 y6 w27))) ∧ True)) : F33.k11 K y2 y3 y6 w := Eq.mpr (by kernel_rfl) h
theorem F33.k10.to {K : VK} {y2 y3 y6 : Value} {w : World} (h : (C.int .add y6 (.int .i64 1) w fun x48_1 w1 =>
  F33.l9 K y2 y3 x48_1 w1)) : F33.k10 K y2 y3 y6 w := Eq.mpr (by kernel_rfl) h
theorem F33.sh {K : VK} {x0 x1 : Value} {w : World} (h : (C.new (.cells (Value.cells x0) 51) w fun x2_1 w1 =>
  C.new (.cells (Value.cells x1) 51) w1 fun x3_2 w2 =>
  C.field 0 x2_1 w2 fun x7_3 w3 =>
  C.load1 x7_3 w3 fun x8_4 w4 =>
  C.len x8_4 w4 fun x9_5 w5 =>
  C.field 0 x3_2 w5 fun x10_6 w6 =>
  C.load1 x10_6 w6 fun x11_7 w7 =>
  C.len x11_7 w7 fun x12_8 w8 =>
  C.int .neq x9_5 x12_8 w8 fun x13_9 w9 =>
  C.guarded false x13_9 (fun K => C.field 1 x2_1 w9 K) w9 fun x15_10 w10 =>
  C.guarded false x13_9 (fun K => C.load1 x15_10 w10 K) w10 fun x16_11 w11 =>
  C.guarded false x13_9 (fun K => C.len x16_11 w11 K) w11 fun x17_12 w12 =>
  C.guarded false x13_9 (fun K => C.field 1 x3_2 w12 K) w12 fun x18_13 w13 =>
  C.guarded false x13_9 (fun K => C.load1 x18_13 w13 K) w13 fun x19_14 w14 =>
  C.guarded false x13_9 (fun K => C.len x19_14 w14 K) w14 fun x20_15 w15 =>
  C.guarded false x13_9 (fun K => C.int .neq x17_12 x20_15 w15 K) w15 fun x21_16 w16 =>
  C.pick (some x13_9) (some (.bool true)) (some x21_16) w16 fun x22_17 w17 =>
  C.ite x22_17 (K (.bool false) w17) (F33.k3 K x2_1 x3_2 w17))) : C.call Try.prog 33 #[x0, x1] w K := calls_of_vc (A := F33.ann) (args := [x0, x1]) (Eq.mpr (by kernel_rfl) h)

/-! ### 34 scutage/view.Words (51) -/
namespace F34
def ann : Ann := ⟨[(4, [3, 7, 8, 9]), (6, [3, 7, 8, 9]), (7, [3])], [(3, [3, 7, 8, 9])], [], [], none⟩
noncomputable def code : Code := match Try.f34.body with | some c => c | none => .skip
noncomputable def top (K : VK) : QE := retQ Try.prog Try.f34.results.toList K
noncomputable def k7 (K : VK) (y3 : Value) (w : World) : Prop := nav ann Try.prog 21 (fun c Q => vcCode ann Try.prog 21 c Q [(3, y3)] w) [1, 1, 1] code (top K)
attribute [irreducible] k7
noncomputable def l3 (K : VK) (y3 y7 y8 y9 : Value) (w : World) : Prop := nav ann Try.prog 21 (isLoop ann Try.prog 21 [(3, y3), (7, y7), (8, y8), (9, y9)] w) [1, 1, 0, 1, 0] code (top K)
attribute [irreducible] l3
noncomputable def k4 (K : VK) (y3 y7 y8 y9 : Value) (w : World) : Prop := nav ann Try.prog 21 (fun c Q => vcCode ann Try.prog 21 c Q [(3, y3), (7, y7), (8, y8), (9, y9)] w) [1, 1, 0, 1, 0, 0, 1, 1] code (top K)
attribute [irreducible] k4
noncomputable def k6 (K : VK) (y3 y7 y8 y9 : Value) (w : World) : Prop := nav ann Try.prog 21 (fun c Q => vcCode ann Try.prog 21 c Q [(3, y3), (7, y7), (8, y8), (9, y9)] w) [1, 1, 0, 1, 0, 0, 1, 1, 1] code (top K)
attribute [irreducible] k6
end F34
theorem F34.k7.to {K : VK} {y3 : Value} {w : World} (h : (K y3 w)) : F34.k7 K y3 w := Eq.mpr (by kernel_rfl) h
theorem F34.l3.to {K : VK} {y3 y7 y8 y9 : Value} {w : World} (h : (C.int .lss y9 y8 w fun x10_1 w1 =>
  C.ite x10_1 (F34.k4 K y3 y7 y8 y9 w1) (F34.k7 K y3 w1))) : F34.l3 K y3 y7 y8 y9 w := by unfold F34.l3; exact nav_round (Eq.mpr (by kernel_rfl) h)
theorem F34.k4.to {K : VK} {y3 y7 y8 y9 : Value} {w : World} (h : (C.idx 2 y7 y9 w fun x11_1 w1 =>
  C.loadA 2 x11_1 w1 fun x12_2 w2 =>
  C.new (.cells #[.int .i64 0, .slice none 0 0] 61) w2 fun x5_3 w3 =>
  C.store 2 x5_3 x12_2 w3 fun w4 =>
  C.field 1 x5_3 w4 fun x14_5 w5 =>
  C.load1 x14_5 w5 fun x15_6 w6 =>
  C.len x15_6 w6 fun x16_7 w7 =>
  C.int .add (.int .i64 1) x16_7 w7 fun x17_8 w8 =>
  C.int .add y3 x17_8 w8 fun x18_9 w9 =>
  F34.k6 K x18_9 y7 y8 y9 w9)) : F34.k4 K y3 y7 y8 y9 w := Eq.mpr (by kernel_rfl) h
theorem F34.k6.to {K : VK} {y3 y7 y8 y9 : Value} {w : World} (h : (C.int .add y9 (.int .i64 1) w fun x19_1 w1 =>
  F34.l3 K y3 y7 y8 x19_1 w1)) : F34.k6 K y3 y7 y8 y9 w := Eq.mpr (by kernel_rfl) h
theorem F34.sh {K : VK} {x0 : Value} {w : World} (h : (C.new (.cells (Value.cells x0) 51) w fun x1_1 w1 =>
  C.field 1 x1_1 w1 fun x6_2 w2 =>
  C.load1 x6_2 w2 fun x7_3 w3 =>
  C.len x7_3 w3 fun x8_4 w4 =>
  F34.l3 K (.int .i64 0) x7_3 x8_4 (.int .i64 0) w4)) : C.call Try.prog 34 #[x0] w K := calls_of_vc (A := F34.ann) (args := [x0]) (Eq.mpr (by kernel_rfl) h)

/-! ### 35 scutage/scutageplain.Values (59, 59) -/
namespace F35
def ann : Ann := ⟨[(3, [0, 1]), (5, [0, 1, 5]), (6, [0, 1, 5]), (8, [])], [(4, [0, 1, 5])], [], [(6, (.take 0 (.take 1 (.take 2 (.take 4 (.take 5 (.take 6 (.take 3 (.take 7 (.take 8 .fin))))))))))], none⟩
noncomputable def code : Code := match Try.f35.body with | some c => c | none => .skip
noncomputable def top (K : VK) : QE := retQ Try.prog Try.f35.results.toList K
noncomputable def k3 (K : VK) (y0 y1 : Value) (w : World) : Prop := nav ann Try.prog 26 (fun c Q => vcCode ann Try.prog 26 c Q [(0, y0), (1, y1)] w) [1, 1] code (top K)
attribute [irreducible] k3
noncomputable def k8 (K : VK) (w : World) : Prop := nav ann Try.prog 26 (fun c Q => vcCode ann Try.prog 26 c Q [] w) [1, 1, 1] code (top K)
attribute [irreducible] k8
noncomputable def l4 (K : VK) (y0 y1 y5 : Value) (w : World) : Prop := nav ann Try.prog 26 (isLoop ann Try.prog 26 [(0, y0), (1, y1), (5, y5)] w) [1, 1, 0, 1, 0] code (top K)
attribute [irreducible] l4
noncomputable def k6 (K : VK) (y0 y1 y5 : Value) (w : World) : Prop := nav ann Try.prog 26 (fun c Q => vcCode ann Try.prog 26 c Q [(0, y0), (1, y1), (5, y5)] w) [1, 1, 0, 1, 0, 0, 1] code (top K)
attribute [irreducible] k6
noncomputable def k5 (K : VK) (y0 y1 y5 : Value) (w : World) : Prop := nav ann Try.prog 26 (fun c Q => vcCode ann Try.prog 26 c Q [(0, y0), (1, y1), (5, y5)] w) [1, 1, 0, 1, 0, 0, 1, 1] code (top K)
attribute [irreducible] k5
end F35
theorem F35.k3.to {K : VK} {y0 y1 : Value} {w : World} (h : (F35.l4 K y0 y1 (.int .i64 0) w)) : F35.k3 K y0 y1 w := Eq.mpr (by kernel_rfl) h
theorem F35.k8.to {K : VK} {w : World} (h : (K (.bool true) w)) : F35.k8 K w := Eq.mpr (by kernel_rfl) h
theorem F35.l4.to {K : VK} {y0 y1 y5 : Value} {w : World} (h : (C.len y0 w fun x13_1 w1 =>
  C.int .lss y5 x13_1 w1 fun x14_2 w2 =>
  C.ite x14_2 (F35.k6 K y0 y1 y5 w2) (F35.k8 K w2))) : F35.l4 K y0 y1 y5 w := by unfold F35.l4; exact nav_round (Eq.mpr (by kernel_rfl) h)
theorem F35.k6.to {K : VK} {y0 y1 y5 : Value} {w : World} (h : (C.draw w fun S w1 =>
  C.idx 2 y0 y5 w1 fun x19_2 w2 =>
  C.idx 2 y1 y5 w2 fun x23_3 w3 =>
  C.loadAS S 2 x19_2 w3 fun x20_4 w4 =>
  C.loadAS S 2 x23_3 w4 fun x24_5 w5 =>
  ∃ x25_6, (∀ w', S w' → ((do eqGuard .neq 71 (.tmp 20) (.tmp 24) x20_4 x24_5; binOp .neq 71 x20_4 x24_5 : Sem Value)).run Try.prog w' = .ok x25_6 w') ∧ (C.ite x25_6 (K (.bool false) w5) (F35.k5 K y0 y1 y5 w5)))) : F35.k6 K y0 y1 y5 w := Eq.mpr (by kernel_rfl) h
theorem F35.k5.to {K : VK} {y0 y1 y5 : Value} {w : World} (h : (C.int .add y5 (.int .i64 1) w fun x16_1 w1 =>
  F35.l4 K y0 y1 x16_1 w1)) : F35.k5 K y0 y1 y5 w := Eq.mpr (by kernel_rfl) h
theorem F35.sh {K : VK} {x0 x1 : Value} {w : World} (h : (C.len x0 w fun x7_1 w1 =>
  C.len x1 w1 fun x9_2 w2 =>
  C.int .neq x7_1 x9_2 w2 fun x10_3 w3 =>
  C.ite x10_3 (K (.bool false) w3) (F35.k3 K x0 x1 w3))) : C.call Try.prog 35 #[x0, x1] w K := calls_of_vc (A := F35.ann) (args := [x0, x1]) (Eq.mpr (by kernel_rfl) h)

/-! ### 36 scutage/view.Clone (51) -/
namespace F36
def ann : Ann := ⟨[(4, [1, 2, 3, 9, 10, 11]), (6, [1, 2, 3, 9, 10, 11]), (7, [1, 2, 3]), (9, [2, 3, 24, 25, 26]), (11, [2, 3, 24, 25, 26]), (12, [2, 3])], [(3, [1, 2, 3, 9, 10, 11]), (8, [2, 3, 24, 25, 26])], [], [(5, (.take 0 (.take 2 (.go 1 (.go 3 (.go 4 (.go 5 (.take 6 (.go 7 .fin .fin)) .fin) .fin) .fin) (.go 3 (.go 1 (.go 4 (.go 5 (.take 6 (.go 7 .fin .fin)) .fin) .fin) (.go 4 (.go 1 (.go 5 (.take 6 (.go 7 .fin .fin)) .fin) .fin) .fin)) .fin))))), (10, (.take 0 (.take 2 (.go 1 (.go 3 (.go 4 (.go 5 (.take 6 (.go 7 .fin .fin)) .fin) .fin) .fin) (.go 3 (.go 1 (.go 4 (.go 5 (.take 6 (.go 7 .fin .fin)) .fin) .fin) (.go 4 (.go 1 (.go 5 (.take 6 (.go 7 .fin .fin)) .fin) .fin) .fin)) .fin)))))], none⟩
noncomputable def code : Code := match Try.f36.body with | some c => c | none => .skip
noncomputable def top (K : VK) : QE := retQ Try.prog Try.f36.results.toList K
noncomputable def k7 (K : VK) (y1 y2 y3 : Value) (w : World) : Prop := nav ann Try.prog 39 (fun c Q => vcCode ann Try.prog 39 c Q [(1, y1), (2, y2), (3, y3)] w) [1, 1, 1] code (top K)
attribute [irreducible] k7
noncomputable def l3 (K : VK) (y1 y2 y3 y9 y10 y11 : Value) (w : World) : Prop := nav ann Try.prog 39 (isLoop ann Try.prog 39 [(1, y1), (2, y2), (3, y3), (9, y9), (10, y10), (11, y11)] w) [1, 1, 0, 1, 0] code (top K)
attribute [irreducible] l3
noncomputable def k4 (K : VK) (y1 y2 y3 y9 y10 y11 : Value) (w : World) : Prop := nav ann Try.prog 39 (fun c Q => vcCode ann Try.prog 39 c Q [(1, y1), (2, y2), (3, y3), (9, y9), (10, y10), (11, y11)] w) [1, 1, 0, 1, 0, 0, 1, 1] code (top K)
attribute [irreducible] k4
noncomputable def k6 (K : VK) (y1 y2 y3 y9 y10 y11 : Value) (w : World) : Prop := nav ann Try.prog 39 (fun c Q => vcCode ann Try.prog 39 c Q [(1, y1), (2, y2), (3, y3), (9, y9), (10, y10), (11, y11)] w) [1, 1, 0, 1, 0, 0, 1, 1, 1] code (top K)
attribute [irreducible] k6
noncomputable def k12 (K : VK) (y2 y3 : Value) (w : World) : Prop := nav ann Try.prog 39 (fun c Q => vcCode ann Try.prog 39 c Q [(2, y2), (3, y3)] w) [1, 1, 1, 1] code (top K)
attribute [irreducible] k12
noncomputable def l8 (K : VK) (y2 y3 y24 y25 y26 : Value) (w : World) : Prop := nav ann Try.prog 39 (isLoop ann Try.prog 39 [(2, y2), (3, y3), (24, y24), (25, y25), (26, y26)] w) [1, 1, 1, 0, 1, 0] code (top K)
attribute [irreducible] l8
noncomputable def k9 (K : VK) (y2 y3 y24 y25 y26 : Value) (w : World) : Prop := nav ann Try.prog 39 (fun c Q => vcCode ann Try.prog 39 c Q [(2, y2), (3, y3), (24, y24), (25, y25), (26, y26)] w) [1, 1, 1, 0, 1, 0, 0, 1, 1] code (top K)
attribute [irreducible] k9
noncomputable def k11 (K : VK) (y2 y3 y24 y25 y26 : Value) (w : World) : Prop := nav ann Try.prog 39 (fun c Q => vcCode ann Try.prog 39 c Q [(2, y2), (3, y3), (24, y24), (25, y25), (26, y26)] w) [1, 1, 1, 0, 1, 0, 0, 1, 1, 1] code (top K)
attribute [irreducible] k11
end F36
theorem F36.k7.to {K : VK} {y1 y2 y3 : Value} {w : World} (h : (C.field 1 y1 w fun x23_1 w1 =>
  C.load1 x23_1 w1 fun x24_2 w2 =>
  C.len x24_2 w2 fun x25_3 w3 =>
  F36.l8 K y2 y3 x24_2 x25_3 (.int .i64 0) w3)) : F36.k7 K y1 y2 y3 w := Eq.mpr (by kernel_rfl) h
theorem F36.l3.to {K : VK} {y1 y2 y3 y9 y10 y11 : Value} {w : World} (h : (C.int .lss y11 y10 w fun x12_1 w1 =>
  C.ite x12_1 (F36.k4 K y1 y2 y3 y9 y10 y11 w1) (F36.k7 K y1 y2 y3 w1))) : F36.l3 K y1 y2 y3 y9 y10 y11 w := by unfold F36.l3; exact nav_round (Eq.mpr (by kernel_rfl) h)
theorem F36.k4.to {K : VK} {y1 y2 y3 y9 y10 y11 : Value} {w : World} (h : (C.idx 1 y9 y11 w fun x13_1 w1 =>
  C.load1 x13_1 w1 fun x14_2 w2 =>
  C.draw w2 fun S w3 =>
  C.field 0 y3 w3 fun x15_4 w4 =>
  (C.load1 x15_4 w4 fun x16_16 w16 =>
  (S w16 ∧
  (C.call Try.prog 78 #[x14_2] w16 fun x18_17 w17 =>
  (S w17 ∧
  (C.run Try.prog (Instr.buildSlice 48 1 #[(0, x18_17)]) w17 fun x19_18 w18 =>
  (S w18 ∧
  (C.run Try.prog (Builtin.append_ #[48, 48] 48 #[x16_16, x19_18]) w18 fun x20_19 w19 =>
  (S w19 ∧
  C.field 0 y3 w19 fun x21_20 w20 =>
  (C.store 1 x21_20 x20_19 w20 fun w21 =>
  (S w21 ∧
  F36.k6 K y1 y2 y3 y9 y10 y11 w21)) ∧ True)) ∧ True)) ∧ True)) ∧ True)) ∧ ((C.call Try.prog 78 #[x14_2] w4 fun x18_5 w5 =>
  (S w5 ∧
  (C.load1 x15_4 w5 fun x16_11 w11 =>
  (S w11 ∧
  (C.run Try.prog (Instr.buildSlice 48 1 #[(0, x18_5)]) w11 fun x19_12 w12 =>
  (S w12 ∧
  (C.run Try.prog (Builtin.append_ #[48, 48] 48 #[x16_11, x19_12]) w12 fun x20_13 w13 =>
  (S w13 ∧
  C.field 0 y3 w13 fun x21_14 w14 =>
  (C.store 1 x21_14 x20_13 w14 fun w15 =>
  (S w15 ∧
  F36.k6 K y1 y2 y3 y9 y10 y11 w15)) ∧ True)) ∧ True)) ∧ True)) ∧ ((C.run Try.prog (Instr.buildSlice 48 1 #[(0, x18_5)]) w5 fun x19_6 w6 =>
  (S w6 ∧
  (C.load1 x15_4 w6 fun x16_7 w7 =>
  (S w7 ∧
  (C.run Try.prog (Builtin.append_ #[48, 48] 48 #[x16_7, x19_6]) w7 fun x20_8 w8 =>
  (S w8 ∧
  C.field 0 y3 w8 fun x21_9 w9 =>
  (C.store 1 x21_9 x20_8 w9 fun w10 =>
  (S w10 ∧
  F36.k6 K y1 y2 y3 y9 y10 y11 w10)) ∧ True)) ∧ True)) ∧ True)) ∧ True))) ∧ True))) : F36.k4 K y1 y2 y3 y9 y10 y11 w := Eq.mpr (by kernel_rfl) h
theorem F36.k6.to {K : VK} {y1 y2 y3 y9 y10 y11 : Value} {w : World} (h : (C.int .add y11 (.int .i64 1) w fun x22_1 w1 =>
  F36.l3 K y1 y2 y3 y9 y10 x22_1 w1)) : F36.k6 K y1 y2 y3 y9 y10 y11 w := Eq.mpr (by kernel_rfl) h
theorem F36.k12.to {K : VK} {y2 y3 : Value} {w : World} (h : (C.loadA 2 y3 w fun x38_1 w1 =>
  C.store 2 y2 x38_1 w1 fun w2 =>
  C.loadA 2 y2 w2 fun r3 _ =>
  K r3 w2)) : F36.k12 K y2 y3 w := Eq.mpr (by kernel_rfl) h
theorem F36.l8.to {K : VK} {y2 y3 y24 y25 y26 : Value} {w : World} (h : (C.int .lss y26 y25 w fun x27_1 w1 =>
  C.ite x27_1 (F36.k9 K y2 y3 y24 y25 y26 w1) (F36.k12 K y2 y3 w1))) : F36.l8 K y2 y3 y24 y25 y26 w := by unfold F36.l8; exact nav_round (Eq.mpr (by kernel_rfl) h)
theorem F36.k9.to {K : VK} {y2 y3 y24 y25 y26 : Value} {w : World} (h : (C.idx 2 y24 y26 w fun x28_1 w1 =>
  C.loadA 2 x28_1 w1 fun x29_2 w2 =>
  C.new (.cells #[.int .i64 0, .slice none 0 0] 61) w2 fun x7_3 w3 =>
  C.store 2 x7_3 x29_2 w3 fun w4 =>
  C.draw w4 fun S w5 =>
  C.field 1 y3 w5 fun x30_6 w6 =>
  C.loadAS S 2 x7_3 w6 fun x32_7 w7 =>
  (C.load1 x30_6 w7 fun x31_19 w19 =>
  (S w19 ∧
  (C.call Try.prog 73 #[x32_7] w19 fun x33_20 w20 =>
  (S w20 ∧
  (C.run Try.prog (Instr.buildSlice 49 1 #[(0, x33_20)]) w20 fun x34_21 w21 =>
  (S w21 ∧
  (C.run Try.prog (Builtin.append_ #[49, 49] 49 #[x31_19, x34_21]) w21 fun x35_22 w22 =>
  (S w22 ∧
  C.field 1 y3 w22 fun x36_23 w23 =>
  (C.store 1 x36_23 x35_22 w23 fun w24 =>
  (S w24 ∧
  F36.k11 K y2 y3 y24 y25 y26 w24)) ∧ True)) ∧ True)) ∧ True)) ∧ True)) ∧ ((C.call Try.prog 73 #[x32_7] w7 fun x33_8 w8 =>
  (S w8 ∧
  (C.load1 x30_6 w8 fun x31_14 w14 =>
  (S w14 ∧
  (C.run Try.prog (Instr.buildSlice 49 1 #[(0, x33_8)]) w14 fun x34_15 w15 =>
  (S w15 ∧
  (C.run Try.prog (Builtin.append_ #[49, 49] 49 #[x31_14, x34_15]) w15 fun x35_16 w16 =>
  (S w16 ∧
  C.field 1 y3 w16 fun x36_17 w17 =>
  (C.store 1 x36_17 x35_16 w17 fun w18 =>
  (S w18 ∧
  F36.k11 K y2 y3 y24 y25 y26 w18)) ∧ True)) ∧ True)) ∧ True)) ∧ ((C.run Try.prog (Instr.buildSlice 49 1 #[(0, x33_8)]) w8 fun x34_9 w9 =>
  (S w9 ∧
  (C.load1 x30_6 w9 fun x31_10 w10 =>
  (S w10 ∧
  (C.run Try.prog (Builtin.append_ #[49, 49] 49 #[x31_10, x34_9]) w10 fun x35_11 w11 =>
  (S w11 ∧
  C.field 1 y3 w11 fun x36_12 w12 =>
  (C.store 1 x36_12 x35_11 w12 fun w13 =>
  (S w13 ∧
  F36.k11 K y2 y3 y24 y25 y26 w13)) ∧ True)) ∧ True)) ∧ True)) ∧ True))) ∧ True))) : F36.k9 K y2 y3 y24 y25 y26 w := Eq.mpr (by kernel_rfl) h
theorem F36.k11.to {K : VK} {y2 y3 y24 y25 y26 : Value} {w : World} (h : (C.int .add y26 (.int .i64 1) w fun x37_1 w1 =>
  F36.l8 K y2 y3 y24 y25 x37_1 w1)) : F36.k11 K y2 y3 y24 y25 y26 w := Eq.mpr (by kernel_rfl) h
theorem F36.sh {K : VK} {x0 : Value} {w : World} (h : (C.new (.cells (Value.cells x0) 51) w fun x1_1 w1 =>
  C.new (.cells #[.slice none 0 0, .slice none 0 0] 51) w1 fun x2_2 w2 =>
  C.new (.cells #[.slice none 0 0, .slice none 0 0] 51) w2 fun x3_3 w3 =>
  C.field 0 x1_1 w3 fun x8_4 w4 =>
  C.load1 x8_4 w4 fun x9_5 w5 =>
  C.len x9_5 w5 fun x10_6 w6 =>
  F36.l3 K x1_1 x2_2 x3_3 x9_5 x10_6 (.int .i64 0) w6)) : C.call Try.prog 36 #[x0] w K := calls_of_vc (A := F36.ann) (args := [x0]) (Eq.mpr (by kernel_rfl) h)

/-! ### 60 scutage/scutagelaw27.one () -/
namespace F60
def ann : Ann := ⟨[], [], [], [], none⟩
noncomputable def code : Code := match Try.f60.body with | some c => c | none => .skip
noncomputable def top (K : VK) : QE := retQ Try.prog Try.f60.results.toList K
end F60
theorem F60.sh {K : VK} {w : World} (h : (C.new (.cells #[.slice none 0 0, .slice none 0 0] 51) w fun x0_1 w1 =>
  C.run Try.prog (Instr.makeSlice 59 (.int .i64 4) (.int .i64 4)) w1 fun x1_2 w2 =>
  C.run Try.prog (Instr.build 61 #[(1, x1_2)]) w2 fun x2_3 w3 =>
  C.run Try.prog (Instr.buildSlice 49 1 #[(0, x2_3)]) w3 fun x3_4 w4 =>
  C.run Try.prog (Instr.build 51 #[(1, x3_4)]) w4 fun x4_5 w5 =>
  C.store 2 x0_1 x4_5 w5 fun w6 =>
  C.loadA 2 x0_1 w6 fun r7 _ =>
  K r7 w6)) : C.call Try.prog 60 #[] w K := calls_of_vc (A := F60.ann) (args := []) (Eq.mpr (by kernel_rfl) h)

/-! ### 61 slices.Concat[[]scutage/api.Value,scutage/api.Value] (48) -/
namespace F61
def ann : Ann := ⟨[(4, [0, 3, 9, 10, 11]), (8, [0, 3, 9, 10, 11]), (9, [0, 3]), (12, [6, 25, 26, 27]), (14, [6, 25, 26, 27]), (15, [6])], [(3, [0, 3, 9, 10, 11]), (11, [6, 25, 26, 27])], [], [], none⟩
noncomputable def code : Code := match Try.f61.body with | some c => c | none => .skip
noncomputable def top (K : VK) : QE := retQ Try.prog Try.f61.results.toList K
noncomputable def k9 (K : VK) (y0 y3 : Value) (w : World) : Prop := nav ann Try.prog 36 (fun c Q => vcCode ann Try.prog 36 c Q [(0, y0), (3, y3)] w) [1, 1, 1] code (top K)
attribute [irreducible] k9
noncomputable def l3 (K : VK) (y0 y3 y9 y10 y11 : Value) (w : World) : Prop := nav ann Try.prog 36 (isLoop ann Try.prog 36 [(0, y0), (3, y3), (9, y9), (10, y10), (11, y11)] w) [1, 1, 0, 1, 0] code (top K)
attribute [irreducible] l3
noncomputable def k4 (K : VK) (y0 y3 y9 y10 y11 : Value) (w : World) : Prop := nav ann Try.prog 36 (fun c Q => vcCode ann Try.prog 36 c Q [(0, y0), (3, y3), (9, y9), (10, y10), (11, y11)] w) [1, 1, 0, 1, 0, 0, 1, 1] code (top K)
attribute [irreducible] k4
noncomputable def k8 (K : VK) (y0 y3 y9 y10 y11 : Value) (w : World) : Prop := nav ann Try.prog 36 (fun c Q => vcCode ann Try.prog 36 c Q [(0, y0), (3, y3), (9, y9), (10, y10), (11, y11)] w) [1, 1, 0, 1, 0, 0, 1, 1, 1] code (top K)
attribute [irreducible] k8
noncomputable def k15 (K : VK) (y6 : Value) (w : World) : Prop := nav ann Try.prog 36 (fun c Q => vcCode ann Try.prog 36 c Q [(6, y6)] w) [1, 1, 1, 1, 1] code (top K)
attribute [irreducible] k15
noncomputable def l11 (K : VK) (y6 y25 y26 y27 : Value) (w : World) : Prop := nav ann Try.prog 36 (isLoop ann Try.prog 36 [(6, y6), (25, y25), (26, y26), (27, y27)] w) [1, 1, 1, 1, 0, 1, 0] code (top K)
attribute [irreducible] l11
noncomputable def k12 (K : VK) (y6 y25 y26 y27 : Value) (w : World) : Prop := nav ann Try.prog 36 (fun c Q => vcCode ann Try.prog 36 c Q [(6, y6), (25, y25), (26, y26), (27, y27)] w) [1, 1, 1, 1, 0, 1, 0, 0, 1, 1] code (top K)
attribute [irreducible] k12
noncomputable def k14 (K : VK) (y6 y25 y26 y27 : Value) (w : World) : Prop := nav ann Try.prog 36 (fun c Q => vcCode ann Try.prog 36 c Q [(6, y6), (25, y25), (26, y26), (27, y27)] w) [1, 1, 1, 1, 0, 1, 0, 0, 1, 1, 1] code (top K)
attribute [irreducible] k14
end F61
theorem F61.k9.to {K : VK} {y0 y3 : Value} {w : World} (h : (C.call Try.prog 105 #[(.slice none 0 0), y3] w fun x24_1 w1 =>
  C.len y0 w1 fun x26_2 w2 =>
  F61.l11 K x24_1 y0 x26_2 (.int .i64 0) w2)) : F61.k9 K y0 y3 w := Eq.mpr (by kernel_rfl) h
theorem F61.l3.to {K : VK} {y0 y3 y9 y10 y11 : Value} {w : World} (h : (C.int .lss y11 y10 w fun x12_1 w1 =>
  C.ite x12_1 (F61.k4 K y0 y3 y9 y10 y11 w1) (F61.k9 K y0 y3 w1))) : F61.l3 K y0 y3 y9 y10 y11 w := by unfold F61.l3; exact nav_round (Eq.mpr (by kernel_rfl) h)
theorem F61.k4.to {K : VK} {y0 y3 y9 y10 y11 : Value} {w : World} (h : (C.idx 1 y9 y11 w fun x13_1 w1 =>
  C.load1 x13_1 w1 fun x14_2 w2 =>
  C.len x14_2 w2 fun x17_3 w3 =>
  C.int .add y3 x17_3 w3 fun x18_4 w4 =>
  C.int .lss x18_4 (.int .i64 0) w4 fun x20_5 w5 =>
  C.ite x20_5 (C.run Try.prog (Instr.makeInterface 9 (.string { data := #[108, 101, 110, 32, 111, 117, 116, 32, 111, 102, 32, 114, 97, 110, 103, 101] })) w5 fun x21_6 w6 =>
  False) (F61.k8 K y0 x18_4 y9 y10 y11 w5))) : F61.k4 K y0 y3 y9 y10 y11 w := Eq.mpr (by kernel_rfl) h
theorem F61.k8.to {K : VK} {y0 y3 y9 y10 y11 : Value} {w : World} (h : (C.int .add y11 (.int .i64 1) w fun x22_1 w1 =>
  F61.l3 K y0 y3 y9 y10 x22_1 w1)) : F61.k8 K y0 y3 y9 y10 y11 w := Eq.mpr (by kernel_rfl) h
theorem F61.k15.to {K : VK} {y6 : Value} {w : World} (h : (K y6 w)) : F61.k15 K y6 w := Eq.mpr (by kernel_rfl) h
theorem F61.l11.to {K : VK} {y6 y25 y26 y27 : Value} {w : World} (h : (C.int .lss y27 y26 w fun x28_1 w1 =>
  C.ite x28_1 (F61.k12 K y6 y25 y26 y27 w1) (F61.k15 K y6 w1))) : F61.l11 K y6 y25 y26 y27 w := by unfold F61.l11; exact nav_round (Eq.mpr (by kernel_rfl) h)
theorem F61.k12.to {K : VK} {y6 y25 y26 y27 : Value} {w : World} (h : (C.idx 1 y25 y27 w fun x29_1 w1 =>
  C.load1 x29_1 w1 fun x30_2 w2 =>
  C.run Try.prog (Builtin.append_ #[59, 59] 59 #[y6, x30_2]) w2 fun x33_3 w3 =>
  F61.k14 K x33_3 y25 y26 y27 w3)) : F61.k12 K y6 y25 y26 y27 w := Eq.mpr (by kernel_rfl) h
theorem F61.k14.to {K : VK} {y6 y25 y26 y27 : Value} {w : World} (h : (C.int .add y27 (.int .i64 1) w fun x34_1 w1 =>
  F61.l11 K y6 y25 y26 x34_1 w1)) : F61.k14 K y6 y25 y26 y27 w := Eq.mpr (by kernel_rfl) h
theorem F61.sh {K : VK} {x0 : Value} {w : World} (h : (C.len x0 w fun x10_1 w1 =>
  F61.l3 K x0 (.int .i64 0) x0 x10_1 (.int .i64 0) w1)) : C.call Try.prog 61 #[x0] w K := calls_of_vc (A := F61.ann) (args := [x0]) (Eq.mpr (by kernel_rfl) h)

/-! ### 62 scutage/view.lists (51) -/
namespace F62
def ann : Ann := ⟨[(4, [3, 10, 11, 12]), (6, [3, 10, 11, 12]), (7, [3])], [(3, [3, 10, 11, 12])], [], [], none⟩
noncomputable def code : Code := match Try.f62.body with | some c => c | none => .skip
noncomputable def top (K : VK) : QE := retQ Try.prog Try.f62.results.toList K
noncomputable def k7 (K : VK) (y3 : Value) (w : World) : Prop := nav ann Try.prog 23 (fun c Q => vcCode ann Try.prog 23 c Q [(3, y3)] w) [1, 1, 1] code (top K)
attribute [irreducible] k7
noncomputable def l3 (K : VK) (y3 y10 y11 y12 : Value) (w : World) : Prop := nav ann Try.prog 23 (isLoop ann Try.prog 23 [(3, y3), (10, y10), (11, y11), (12, y12)] w) [1, 1, 0, 1, 0] code (top K)
attribute [irreducible] l3
noncomputable def k4 (K : VK) (y3 y10 y11 y12 : Value) (w : World) : Prop := nav ann Try.prog 23 (fun c Q => vcCode ann Try.prog 23 c Q [(3, y3), (10, y10), (11, y11), (12, y12)] w) [1, 1, 0, 1, 0, 0, 1, 1] code (top K)
attribute [irreducible] k4
noncomputable def k6 (K : VK) (y3 y10 y11 y12 : Value) (w : World) : Prop := nav ann Try.prog 23 (fun c Q => vcCode ann Try.prog 23 c Q [(3, y3), (10, y10), (11, y11), (12, y12)] w) [1, 1, 0, 1, 0, 0, 1, 1, 1] code (top K)
attribute [irreducible] k6
end F62
theorem F62.k7.to {K : VK} {y3 : Value} {w : World} (h : (K y3 w)) : F62.k7 K y3 w := Eq.mpr (by kernel_rfl) h
theorem F62.l3.to {K : VK} {y3 y10 y11 y12 : Value} {w : World} (h : (C.int .lss y12 y11 w fun x13_1 w1 =>
  C.ite x13_1 (F62.k4 K y3 y10 y11 y12 w1) (F62.k7 K y3 w1))) : F62.l3 K y3 y10 y11 y12 w := by unfold F62.l3; exact nav_round (Eq.mpr (by kernel_rfl) h)
theorem F62.k4.to {K : VK} {y3 y10 y11 y12 : Value} {w : World} (h : (C.idx 2 y10 y12 w fun x14_1 w1 =>
  C.loadA 2 x14_1 w1 fun x15_2 w2 =>
  C.new (.cells #[.int .i64 0, .slice none 0 0] 61) w2 fun x5_3 w3 =>
  C.store 2 x5_3 x15_2 w3 fun w4 =>
  C.field 1 x5_3 w4 fun x17_5 w5 =>
  C.load1 x17_5 w5 fun x18_6 w6 =>
  C.run Try.prog (Instr.buildSlice 48 1 #[(0, x18_6)]) w6 fun x19_7 w7 =>
  C.run Try.prog (Builtin.append_ #[48, 48] 48 #[y3, x19_7]) w7 fun x20_8 w8 =>
  F62.k6 K x20_8 y10 y11 y12 w8)) : F62.k4 K y3 y10 y11 y12 w := Eq.mpr (by kernel_rfl) h
theorem F62.k6.to {K : VK} {y3 y10 y11 y12 : Value} {w : World} (h : (C.int .add y12 (.int .i64 1) w fun x21_1 w1 =>
  F62.l3 K y3 y10 y11 x21_1 w1)) : F62.k6 K y3 y10 y11 y12 w := Eq.mpr (by kernel_rfl) h
theorem F62.sh {K : VK} {x0 : Value} {w : World} (h : (C.new (.cells (Value.cells x0) 51) w fun x1_1 w1 =>
  C.field 0 x1_1 w1 fun x6_2 w2 =>
  C.load1 x6_2 w2 fun x7_3 w3 =>
  C.call Try.prog 106 #[x7_3] w3 fun x8_4 w4 =>
  C.field 1 x1_1 w4 fun x9_5 w5 =>
  C.load1 x9_5 w5 fun x10_6 w6 =>
  C.len x10_6 w6 fun x11_7 w7 =>
  F62.l3 K x8_4 x10_6 x11_7 (.int .i64 0) w7)) : C.call Try.prog 62 #[x0] w K := calls_of_vc (A := F62.ann) (args := [x0]) (Eq.mpr (by kernel_rfl) h)

/-! ### 63 slices.ContainsFunc[[]scutage/api.Value,scutage/api.Value] (59, 116) -/
namespace F63
def ann : Ann := ⟨[], [], [], [], none⟩
noncomputable def code : Code := match Try.f63.body with | some c => c | none => .skip
noncomputable def top (K : VK) : QE := retQ Try.prog Try.f63.results.toList K
end F63
theorem F63.sh {K : VK} {x0 x1 : Value} {w : World} (h : (C.call Try.prog 107 #[x0, x1] w fun x7_1 w1 =>
  C.int .geq x7_1 (.int .i64 0) w1 fun x8_2 w2 =>
  K x8_2 w2)) : C.call Try.prog 63 #[x0, x1] w K := calls_of_vc (A := F63.ann) (args := [x0, x1]) (Eq.mpr (by kernel_rfl) h)

/-! ### 64 scutage/view.odd (71) -/
namespace F64
def ann : Ann := ⟨[], [], [], [], none⟩
noncomputable def code : Code := match Try.f64.body with | some c => c | none => .skip
noncomputable def top (K : VK) : QE := retQ Try.prog Try.f64.results.toList K
end F64
theorem F64.sh {K : VK} {x0 : Value} {w : World} (h : (C.new (.cells (Value.cells x0) 71) w fun x1_1 w1 =>
  C.field 0 x1_1 w1 fun x3_2 w2 =>
  C.load1 x3_2 w2 fun x4_3 w3 =>
  C.int .lss x4_3 (.int .i64 0) w3 fun x5_4 w4 =>
  C.guarded false x5_4 (fun K => C.field 0 x1_1 w4 K) w4 fun x7_5 w5 =>
  C.guarded false x5_4 (fun K => C.load1 x7_5 w5 K) w5 fun x8_6 w6 =>
  C.guarded false x5_4 (fun K => C.int .gtr x8_6 (.int .i64 2) w6 K) w6 fun x9_7 w7 =>
  C.pick (some x5_4) (some (.bool true)) (some x9_7) w7 fun x10_8 w8 =>
  C.guarded false x10_8 (fun K => C.field 0 x1_1 w8 K) w8 fun x12_9 w9 =>
  C.guarded false x10_8 (fun K => C.load1 x12_9 w9 K) w9 fun x13_10 w10 =>
  C.guarded false x10_8 (fun K => C.int .eql x13_10 (.int .i64 0) w10 K) w10 fun x14_11 w11 =>
  C.guarded false x10_8 (fun K => K x14_11 w11) w11 fun x15_12 w12 =>
  C.guarded true x15_12 (fun K => C.field 1 x1_1 w12 K) w12 fun x16_13 w13 =>
  C.guarded true x15_12 (fun K => C.load1 x16_13 w13 K) w13 fun x17_14 w14 =>
  C.guarded true x15_12 (fun K => C.int .neq x17_14 (.int .i64 0) w14 K) w14 fun x18_15 w15 =>
  C.guarded false x10_8 (fun K => C.pick (some x15_12) (some x18_15) (some (.bool false)) w15 K) w15 fun x19_16 w16 =>
  C.pick (some x10_8) (some (.bool true)) (some x19_16) w16 fun x20_17 w17 =>
  K x20_17 w17)) : C.call Try.prog 64 #[x0] w K := calls_of_vc (A := F64.ann) (args := [x0]) (Eq.mpr (by kernel_rfl) h)

/-! ### 65 scutage/view.Check$1 (71) -/
namespace F65
def ann : Ann := ⟨[], [], [], [], none⟩
noncomputable def code : Code := match Try.f65.body with | some c => c | none => .skip
noncomputable def top (K : VK) : QE := retQ Try.prog Try.f65.results.toList K
end F65
theorem F65.sh {K : VK} {x0 x1 : Value} {w : World} (h : (C.new (.cells (Value.cells x0) 71) w fun x2_1 w1 =>
  C.field 0 x2_1 w1 fun x4_2 w2 =>
  C.load1 x4_2 w2 fun x5_3 w3 =>
  C.int .eql x5_3 (.int .i64 2) w3 fun x6_4 w4 =>
  C.guarded true x6_4 (fun K => C.loadA 2 x1 w4 K) w4 fun x8_5 w5 =>
  C.guarded true x6_4 (fun K => C.field 1 x2_1 w5 K) w5 fun x9_6 w6 =>
  C.guarded true x6_4 (fun K => C.load1 x9_6 w6 K) w6 fun x10_7 w7 =>
  C.guarded true x6_4 (fun K => C.call Try.prog 66 #[x8_5, x10_7] w7 K) w7 fun x11_8 w8 =>
  C.guarded true x6_4 (fun K => C.int .lss x11_8 (.int .i64 0) w8 K) w8 fun x12_9 w9 =>
  C.pick (some x6_4) (some x12_9) (some (.bool false)) w9 fun x13_10 w10 =>
  K x13_10 w10)) : C.call Try.prog 65 #[x0, x1] w K := calls_of_vc (A := F65.ann) (args := [x0, x1]) (Eq.mpr (by kernel_rfl) h)

/-! ### 66 scutage/view.place (51, 2) -/
namespace F66
def ann : Ann := ⟨[], [], [], [], none⟩
noncomputable def code : Code := match Try.f66.body with | some c => c | none => .skip
noncomputable def top (K : VK) : QE := retQ Try.prog Try.f66.results.toList K
end F66
theorem F66.sh {K : VK} {x0 x1 : Value} {w : World} (h : (C.new (.cells (Value.cells x0) 51) w fun x2_1 w1 =>
  C.new (.cells (Value.cells x1) 2) w1 fun x3_2 w2 =>
  C.field 1 x2_1 w2 fun x5_3 w3 =>
  C.load1 x5_3 w3 fun x6_4 w4 =>
  C.call Try.prog 108 #[x6_4, (.func (.func 109) #[] #[x3_2])] w4 fun x8_5 w5 =>
  K x8_5 w5)) : C.call Try.prog 66 #[x0, x1] w K := calls_of_vc (A := F66.ann) (args := [x0, x1]) (Eq.mpr (by kernel_rfl) h)

/-! ### 67 slices.Contains[[]bool,bool] (55, 4) -/
namespace F67
def ann : Ann := ⟨[], [], [], [], none⟩
noncomputable def code : Code := match Try.f67.body with | some c => c | none => .skip
noncomputable def top (K : VK) : QE := retQ Try.prog Try.f67.results.toList K
end F67
theorem F67.sh {K : VK} {x0 x1 : Value} {w : World} (h : (C.call Try.prog 110 #[x0, x1] w fun x7_1 w1 =>
  C.int .geq x7_1 (.int .i64 0) w1 fun x8_2 w2 =>
  K x8_2 w2)) : C.call Try.prog 67 #[x0, x1] w K := calls_of_vc (A := F67.ann) (args := [x0, x1]) (Eq.mpr (by kernel_rfl) h)

/-! ### 68 scutage/view.reach (51) -/
namespace F68
def ann : Ann := ⟨[(8, [1, 3, 4, 6, 19, 20, 21]), (10, [1, 3, 4, 6, 19, 20, 21]), (11, [1, 3, 4, 6]), (12, [1, 3, 4, 6]), (15, [3])], [(7, [1, 3, 4, 6, 19, 20, 21]), (11, [1, 3, 4, 6])], [], [], none⟩
noncomputable def code : Code := match Try.f68.body with | some c => c | none => .skip
noncomputable def top (K : VK) : QE := retQ Try.prog Try.f68.results.toList K
noncomputable def k11 (K : VK) (y1 y3 y4 y6 : Value) (w : World) : Prop := nav ann Try.prog 46 (fun c Q => vcCode ann Try.prog 46 c Q [(1, y1), (3, y3), (4, y4), (6, y6)] w) [1, 1, 1, 1, 1, 1, 1] code (top K)
attribute [irreducible] k11
noncomputable def l7 (K : VK) (y1 y3 y4 y6 y19 y20 y21 : Value) (w : World) : Prop := nav ann Try.prog 46 (isLoop ann Try.prog 46 [(1, y1), (3, y3), (4, y4), (6, y6), (19, y19), (20, y20), (21, y21)] w) [1, 1, 1, 1, 1, 1, 0, 1, 0] code (top K)
attribute [irreducible] l7
noncomputable def k8 (K : VK) (y1 y3 y4 y6 y19 y20 y21 : Value) (w : World) : Prop := nav ann Try.prog 46 (fun c Q => vcCode ann Try.prog 46 c Q [(1, y1), (3, y3), (4, y4), (6, y6), (19, y19), (20, y20), (21, y21)] w) [1, 1, 1, 1, 1, 1, 0, 1, 0, 0, 1, 1] code (top K)
attribute [irreducible] k8
noncomputable def k10 (K : VK) (y1 y3 y4 y6 y19 y20 y21 : Value) (w : World) : Prop := nav ann Try.prog 46 (fun c Q => vcCode ann Try.prog 46 c Q [(1, y1), (3, y3), (4, y4), (6, y6), (19, y19), (20, y20), (21, y21)] w) [1, 1, 1, 1, 1, 1, 0, 1, 0, 0, 1, 1, 1] code (top K)
attribute [irreducible] k10
noncomputable def k15 (K : VK) (y3 : Value) (w : World) : Prop := nav ann Try.prog 46 (fun c Q => vcCode ann Try.prog 46 c Q [(3, y3)] w) [1, 1, 1, 1, 1, 1, 1, 1] code (top K)
attribute [irreducible] k15
noncomputable def l11 (K : VK) (y1 y3 y4 y6 : Value) (w : World) : Prop := nav ann Try.prog 46 (isLoop ann Try.prog 46 [(1, y1), (3, y3), (4, y4), (6, y6)] w) [1, 1, 1, 1, 1, 1, 1, 0, 0] code (top K)
attribute [irreducible] l11
noncomputable def k12 (K : VK) (y1 y3 y4 y6 : Value) (w : World) : Prop := nav ann Try.prog 46 (fun c Q => vcCode ann Try.prog 46 c Q [(1, y1), (3, y3), (4, y4), (6, y6)] w) [1, 1, 1, 1, 1, 1, 1, 0, 0, 0, 1] code (top K)
attribute [irreducible] k12
end F68
theorem F68.k11.to {K : VK} {y1 y3 y4 y6 : Value} {w : World} (h : (F68.l11 K y1 y3 y4 y6 w)) : F68.k11 K y1 y3 y4 y6 w := Eq.mpr (by kernel_rfl) h
theorem F68.l7.to {K : VK} {y1 y3 y4 y6 y19 y20 y21 : Value} {w : World} (h : (C.int .lss y21 y20 w fun x22_1 w1 =>
  C.ite x22_1 (F68.k8 K y1 y3 y4 y6 y19 y20 y21 w1) (F68.k11 K y1 y3 y4 y6 w1))) : F68.l7 K y1 y3 y4 y6 y19 y20 y21 w := by unfold F68.l7; exact nav_round (Eq.mpr (by kernel_rfl) h)
theorem F68.k8.to {K : VK} {y1 y3 y4 y6 y19 y20 y21 : Value} {w : World} (h : (C.idx 1 y19 y21 w fun x23_1 w1 =>
  C.load1 x23_1 w1 fun x24_2 w2 =>
  vcCall Try.prog y6 [x24_2] w2 fun x27_3 w3 =>
  F68.k10 K y1 y3 y4 y6 y19 y20 y21 w3)) : F68.k8 K y1 y3 y4 y6 y19 y20 y21 w := Eq.mpr (by kernel_rfl) h
theorem F68.k10.to {K : VK} {y1 y3 y4 y6 y19 y20 y21 : Value} {w : World} (h : (C.int .add y21 (.int .i64 1) w fun x28_1 w1 =>
  F68.l7 K y1 y3 y4 y6 y19 y20 x28_1 w1)) : F68.k10 K y1 y3 y4 y6 y19 y20 y21 w := Eq.mpr (by kernel_rfl) h
theorem F68.k15.to {K : VK} {y3 : Value} {w : World} (h : (C.load1 y3 w fun x45_1 w1 =>
  K x45_1 w1)) : F68.k15 K y3 w := Eq.mpr (by kernel_rfl) h
theorem F68.l11.to {K : VK} {y1 y3 y4 y6 : Value} {w : World} (h : (C.load1 y4 w fun x29_1 w1 =>
  C.len x29_1 w1 fun x30_2 w2 =>
  C.int .gtr x30_2 (.int .i64 0) w2 fun x31_3 w3 =>
  C.ite x31_3 (F68.k12 K y1 y3 y4 y6 w3) (F68.k15 K y3 w3))) : F68.l11 K y1 y3 y4 y6 w := by unfold F68.l11; exact nav_round (Eq.mpr (by kernel_rfl) h)
theorem F68.k12.to {K : VK} {y1 y3 y4 y6 : Value} {w : World} (h : (C.load1 y4 w fun x32_1 w1 =>
  C.idx 1 x32_1 (.int .i64 0) w1 fun x33_2 w2 =>
  C.load1 x33_2 w2 fun x34_3 w3 =>
  C.load1 y4 w3 fun x35_4 w4 =>
  C.run Try.prog (Instr.sliceAt 34 x35_4 (some (.int .i64 1)) none none) w4 fun x36_5 w5 =>
  C.store 1 y4 x36_5 w5 fun w6 =>
  C.field 1 y1 w6 fun x38_7 w7 =>
  C.load1 x38_7 w7 fun x39_8 w8 =>
  C.idx 2 x39_8 x34_3 w8 fun x41_9 w9 =>
  C.field 1 x41_9 w9 fun x42_10 w10 =>
  C.load1 x42_10 w10 fun x43_11 w11 =>
  vcCall Try.prog y6 [x43_11] w11 fun x44_12 w12 =>
  F68.l11 K y1 y3 y4 y6 w12)) : F68.k12 K y1 y3 y4 y6 w := Eq.mpr (by kernel_rfl) h
theorem F68.sh {K : VK} {x0 : Value} {w : World} (h : (C.new (.cells (Value.cells x0) 51) w fun x1_1 w1 =>
  C.field 1 x1_1 w1 fun x10_2 w2 =>
  C.load1 x10_2 w2 fun x11_3 w3 =>
  C.len x11_3 w3 fun x12_4 w4 =>
  C.run Try.prog (Instr.makeSlice 55 x12_4 x12_4) w4 fun x13_5 w5 =>
  C.new (.cells #[.slice none 0 0] 55) w5 fun x3_6 w6 =>
  C.store 1 x3_6 x13_5 w6 fun w7 =>
  C.new (.cells #[.slice none 0 0] 34) w7 fun x4_8 w8 =>
  C.new (.cells #[.nilFunc] 168) w8 fun x5_9 w9 =>
  C.store 1 x5_9 (.func (.func 111) #[] #[x1_1, x3_6, x4_8]) w9 fun w10 =>
  C.load1 x5_9 w10 fun x16_11 w11 =>
  vcCall Try.prog x16_11 [(.int .i64 0)] w11 fun x17_12 w12 =>
  C.field 0 x1_1 w12 fun x18_13 w13 =>
  C.load1 x18_13 w13 fun x19_14 w14 =>
  C.len x19_14 w14 fun x20_15 w15 =>
  F68.l7 K x1_1 x3_6 x4_8 (.func (.func 112) #[] #[x5_9]) x19_14 x20_15 (.int .i64 0) w15)) : C.call Try.prog 68 #[x0] w K := calls_of_vc (A := F68.ann) (args := [x0]) (Eq.mpr (by kernel_rfl) h)

/-! ### 69 scutage/scutagelaw27.all (51) -/
namespace F69
def ann : Ann := ⟨[(4, [1, 3, 4]), (5, [1, 3, 4]), (6, [1, 3]), (8, [1, 3, 5]), (9, [1, 3, 5]), (10, [3])], [(3, [1, 3, 4]), (7, [1, 3, 5])], [], [], none⟩
noncomputable def code : Code := match Try.f69.body with | some c => c | none => .skip
noncomputable def top (K : VK) : QE := retQ Try.prog Try.f69.results.toList K
noncomputable def k6 (K : VK) (y1 y3 : Value) (w : World) : Prop := nav ann Try.prog 36 (fun c Q => vcCode ann Try.prog 36 c Q [(1, y1), (3, y3)] w) [1, 1, 1] code (top K)
attribute [irreducible] k6
noncomputable def l3 (K : VK) (y1 y3 y4 : Value) (w : World) : Prop := nav ann Try.prog 36 (isLoop ann Try.prog 36 [(1, y1), (3, y3), (4, y4)] w) [1, 1, 0, 1, 0] code (top K)
attribute [irreducible] l3
noncomputable def k5 (K : VK) (y1 y3 y4 : Value) (w : World) : Prop := nav ann Try.prog 36 (fun c Q => vcCode ann Try.prog 36 c Q [(1, y1), (3, y3), (4, y4)] w) [1, 1, 0, 1, 0, 0, 1] code (top K)
attribute [irreducible] k5
noncomputable def k4 (K : VK) (y1 y3 y4 : Value) (w : World) : Prop := nav ann Try.prog 36 (fun c Q => vcCode ann Try.prog 36 c Q [(1, y1), (3, y3), (4, y4)] w) [1, 1, 0, 1, 0, 0, 1, 1] code (top K)
attribute [irreducible] k4
noncomputable def k10 (K : VK) (y3 : Value) (w : World) : Prop := nav ann Try.prog 36 (fun c Q => vcCode ann Try.prog 36 c Q [(3, y3)] w) [1, 1, 1, 1] code (top K)
attribute [irreducible] k10
noncomputable def l7 (K : VK) (y1 y3 y5 : Value) (w : World) : Prop := nav ann Try.prog 36 (isLoop ann Try.prog 36 [(1, y1), (3, y3), (5, y5)] w) [1, 1, 1, 0, 1, 0] code (top K)
attribute [irreducible] l7
noncomputable def k9 (K : VK) (y1 y3 y5 : Value) (w : World) : Prop := nav ann Try.prog 36 (fun c Q => vcCode ann Try.prog 36 c Q [(1, y1), (3, y3), (5, y5)] w) [1, 1, 1, 0, 1, 0, 0, 1] code (top K)
attribute [irreducible] k9
noncomputable def k8 (K : VK) (y1 y3 y5 : Value) (w : World) : Prop := nav ann Try.prog 36 (fun c Q => vcCode ann Try.prog 36 c Q [(1, y1), (3, y3), (5, y5)] w) [1, 1, 1, 0, 1, 0, 0, 1, 1] code (top K)
attribute [irreducible] k8
end F69
theorem F69.k6.to {K : VK} {y1 y3 : Value} {w : World} (h : (F69.l7 K y1 y3 (.int .i64 0) w)) : F69.k6 K y1 y3 w := Eq.mpr (by kernel_rfl) h
theorem F69.l3.to {K : VK} {y1 y3 y4 : Value} {w : World} (h : (C.field 0 y1 w fun x7_1 w1 =>
  C.load1 x7_1 w1 fun x8_2 w2 =>
  C.len x8_2 w2 fun x9_3 w3 =>
  C.int .lss y4 x9_3 w3 fun x10_4 w4 =>
  C.ite x10_4 (F69.k5 K y1 y3 y4 w4) (F69.k6 K y1 y3 w4))) : F69.l3 K y1 y3 y4 w := by unfold F69.l3; exact nav_round (Eq.mpr (by kernel_rfl) h)
theorem F69.k5.to {K : VK} {y1 y3 y4 : Value} {w : World} (h : (C.field 0 y1 w fun x14_1 w1 =>
  C.load1 x14_1 w1 fun x15_2 w2 =>
  C.idx 1 x15_2 y4 w2 fun x17_3 w3 =>
  C.load1 x17_3 w3 fun x18_4 w4 =>
  C.run Try.prog (Builtin.append_ #[59, 59] 59 #[y3, x18_4]) w4 fun x19_5 w5 =>
  F69.k4 K y1 x19_5 y4 w5)) : F69.k5 K y1 y3 y4 w := Eq.mpr (by kernel_rfl) h
theorem F69.k4.to {K : VK} {y1 y3 y4 : Value} {w : World} (h : (C.int .add y4 (.int .i64 1) w fun x12_1 w1 =>
  F69.l3 K y1 y3 x12_1 w1)) : F69.k4 K y1 y3 y4 w := Eq.mpr (by kernel_rfl) h
theorem F69.k10.to {K : VK} {y3 : Value} {w : World} (h : (K y3 w)) : F69.k10 K y3 w := Eq.mpr (by kernel_rfl) h
theorem F69.l7.to {K : VK} {y1 y3 y5 : Value} {w : World} (h : (C.field 1 y1 w fun x21_1 w1 =>
  C.load1 x21_1 w1 fun x22_2 w2 =>
  C.len x22_2 w2 fun x23_3 w3 =>
  C.int .lss y5 x23_3 w3 fun x24_4 w4 =>
  C.ite x24_4 (F69.k9 K y1 y3 y5 w4) (F69.k10 K y3 w4))) : F69.l7 K y1 y3 y5 w := by unfold F69.l7; exact nav_round (Eq.mpr (by kernel_rfl) h)
theorem F69.k9.to {K : VK} {y1 y3 y5 : Value} {w : World} (h : (C.field 1 y1 w fun x28_1 w1 =>
  C.load1 x28_1 w1 fun x29_2 w2 =>
  C.idx 2 x29_2 y5 w2 fun x31_3 w3 =>
  C.field 1 x31_3 w3 fun x32_4 w4 =>
  C.load1 x32_4 w4 fun x33_5 w5 =>
  C.run Try.prog (Builtin.append_ #[59, 59] 59 #[y3, x33_5]) w5 fun x34_6 w6 =>
  F69.k8 K y1 x34_6 y5 w6)) : F69.k9 K y1 y3 y5 w := Eq.mpr (by kernel_rfl) h
theorem F69.k8.to {K : VK} {y1 y3 y5 : Value} {w : World} (h : (C.int .add y5 (.int .i64 1) w fun x26_1 w1 =>
  F69.l7 K y1 y3 x26_1 w1)) : F69.k8 K y1 y3 y5 w := Eq.mpr (by kernel_rfl) h
theorem F69.sh {K : VK} {x0 : Value} {w : World} (h : (C.new (.cells (Value.cells x0) 51) w fun x1_1 w1 =>
  F69.l3 K x1_1 (.slice none 0 0) (.int .i64 0) w1)) : C.call Try.prog 69 #[x0] w K := calls_of_vc (A := F69.ann) (args := [x0]) (Eq.mpr (by kernel_rfl) h)

/-! ### 70 scutage/scutagelaw27.refs (59) -/
namespace F70
def ann : Ann := ⟨[(4, [0, 3, 4]), (5, [0, 3, 4]), (7, [3])], [(3, [0, 3, 4])], [], [], none⟩
noncomputable def code : Code := match Try.f70.body with | some c => c | none => .skip
noncomputable def top (K : VK) : QE := retQ Try.prog Try.f70.results.toList K
noncomputable def k7 (K : VK) (y3 : Value) (w : World) : Prop := nav ann Try.prog 26 (fun c Q => vcCode ann Try.prog 26 c Q [(3, y3)] w) [1, 1, 1] code (top K)
attribute [irreducible] k7
noncomputable def l3 (K : VK) (y0 y3 y4 : Value) (w : World) : Prop := nav ann Try.prog 26 (isLoop ann Try.prog 26 [(0, y0), (3, y3), (4, y4)] w) [1, 1, 0, 1, 0] code (top K)
attribute [irreducible] l3
noncomputable def k5 (K : VK) (y0 y3 y4 : Value) (w : World) : Prop := nav ann Try.prog 26 (fun c Q => vcCode ann Try.prog 26 c Q [(0, y0), (3, y3), (4, y4)] w) [1, 1, 0, 1, 0, 0, 1] code (top K)
attribute [irreducible] k5
noncomputable def k4 (K : VK) (y0 y3 y4 : Value) (w : World) : Prop := nav ann Try.prog 26 (fun c Q => vcCode ann Try.prog 26 c Q [(0, y0), (3, y3), (4, y4)] w) [1, 1, 0, 1, 0, 0, 1, 1] code (top K)
attribute [irreducible] k4
end F70
theorem F70.k7.to {K : VK} {y3 : Value} {w : World} (h : (K y3 w)) : F70.k7 K y3 w := Eq.mpr (by kernel_rfl) h
theorem F70.l3.to {K : VK} {y0 y3 y4 : Value} {w : World} (h : (C.len y0 w fun x7_1 w1 =>
  C.int .lss y4 x7_1 w1 fun x8_2 w2 =>
  C.ite x8_2 (F70.k5 K y0 y3 y4 w2) (F70.k7 K y3 w2))) : F70.l3 K y0 y3 y4 w := by unfold F70.l3; exact nav_round (Eq.mpr (by kernel_rfl) h)
theorem F70.k5.to {K : VK} {y0 y3 y4 : Value} {w : World} (h : (C.idx 2 y0 y4 w fun x13_1 w1 =>
  C.field 0 x13_1 w1 fun x14_2 w2 =>
  C.load1 x14_2 w2 fun x15_3 w3 =>
  C.int .eql x15_3 (.int .i64 2) w3 fun x16_4 w4 =>
  C.ite x16_4 (C.idx 2 y0 y4 w4 fun x20_5 w5 =>
  C.field 1 x20_5 w5 fun x21_6 w6 =>
  C.load1 x21_6 w6 fun x22_7 w7 =>
  C.run Try.prog (Instr.buildSlice 57 1 #[(0, x22_7)]) w7 fun x23_8 w8 =>
  C.run Try.prog (Builtin.append_ #[57, 57] 57 #[y3, x23_8]) w8 fun x24_9 w9 =>
  F70.k4 K y0 x24_9 y4 w9) (F70.k4 K y0 y3 y4 w4))) : F70.k5 K y0 y3 y4 w := Eq.mpr (by kernel_rfl) h
theorem F70.k4.to {K : VK} {y0 y3 y4 : Value} {w : World} (h : (C.int .add y4 (.int .i64 1) w fun x10_1 w1 =>
  F70.l3 K y0 y3 x10_1 w1)) : F70.k4 K y0 y3 y4 w := Eq.mpr (by kernel_rfl) h
theorem F70.sh {K : VK} {x0 : Value} {w : World} (h : (F70.l3 K x0 (.slice none 0 0) (.int .i64 0) w)) : C.call Try.prog 70 #[x0] w K := calls_of_vc (A := F70.ann) (args := [x0]) (Eq.mpr (by kernel_rfl) h)

/-! ### 72 slices.Compact[[]int64,int64] (57) -/
namespace F72
def ann : Ann := ⟨[(3, [0]), (5, [0, 3]), (6, [0, 3]), (10, [0, 3, 4, 5]), (11, [0, 3, 4, 5]), (14, [0, 3]), (16, [0])], [(4, [0, 3]), (9, [0, 3, 4, 5])], [], [(6, (.take 0 (.take 1 (.take 2 (.take 4 (.take 5 (.take 6 (.take 7 (.take 3 (.take 8 (.take 9 .fin))))))))))), (11, (.take 0 (.take 1 (.take 2 (.take 4 (.take 5 (.take 6 (.take 7 (.take 3 (.take 8 (.take 9 .fin)))))))))))], none⟩
noncomputable def code : Code := match Try.f72.body with | some c => c | none => .skip
noncomputable def top (K : VK) : QE := retQ Try.prog Try.f72.results.toList K
noncomputable def k3 (K : VK) (y0 : Value) (w : World) : Prop := nav ann Try.prog 61 (fun c Q => vcCode ann Try.prog 61 c Q [(0, y0)] w) [1, 1] code (top K)
attribute [irreducible] k3
noncomputable def k16 (K : VK) (y0 : Value) (w : World) : Prop := nav ann Try.prog 61 (fun c Q => vcCode ann Try.prog 61 c Q [(0, y0)] w) [1, 1, 1] code (top K)
attribute [irreducible] k16
noncomputable def l4 (K : VK) (y0 y3 : Value) (w : World) : Prop := nav ann Try.prog 61 (isLoop ann Try.prog 61 [(0, y0), (3, y3)] w) [1, 1, 0, 1, 0] code (top K)
attribute [irreducible] l4
noncomputable def k6 (K : VK) (y0 y3 : Value) (w : World) : Prop := nav ann Try.prog 61 (fun c Q => vcCode ann Try.prog 61 c Q [(0, y0), (3, y3)] w) [1, 1, 0, 1, 0, 0, 1] code (top K)
attribute [irreducible] k6
noncomputable def k5 (K : VK) (y0 y3 : Value) (w : World) : Prop := nav ann Try.prog 61 (fun c Q => vcCode ann Try.prog 61 c Q [(0, y0), (3, y3)] w) [1, 1, 0, 1, 0, 0, 1, 1] code (top K)
attribute [irreducible] k5
noncomputable def k14 (K : VK) (y0 y3 : Value) (w : World) : Prop := nav ann Try.prog 61 (fun c Q => vcCode ann Try.prog 61 c Q [(0, y0), (3, y3)] w) [1, 1, 0, 1, 0, 0, 1, 0, 0, 1, 0, 1, 1] code (top K)
attribute [irreducible] k14
noncomputable def l9 (K : VK) (y0 y3 y4 y5 : Value) (w : World) : Prop := nav ann Try.prog 61 (isLoop ann Try.prog 61 [(0, y0), (3, y3), (4, y4), (5, y5)] w) [1, 1, 0, 1, 0, 0, 1, 0, 0, 1, 0, 1, 0, 1, 0] code (top K)
attribute [irreducible] l9
noncomputable def k11 (K : VK) (y0 y3 y4 y5 : Value) (w : World) : Prop := nav ann Try.prog 61 (fun c Q => vcCode ann Try.prog 61 c Q [(0, y0), (3, y3), (4, y4), (5, y5)] w) [1, 1, 0, 1, 0, 0, 1, 0, 0, 1, 0, 1, 0, 1, 0, 0, 1] code (top K)
attribute [irreducible] k11
noncomputable def k10 (K : VK) (y0 y3 y4 y5 : Value) (w : World) : Prop := nav ann Try.prog 61 (fun c Q => vcCode ann Try.prog 61 c Q [(0, y0), (3, y3), (4, y4), (5, y5)] w) [1, 1, 0, 1, 0, 0, 1, 0, 0, 1, 0, 1, 0, 1, 0, 0, 1, 1] code (top K)
attribute [irreducible] k10
end F72
theorem F72.k3.to {K : VK} {y0 : Value} {w : World} (h : (F72.l4 K y0 (.int .i64 1) w)) : F72.k3 K y0 w := Eq.mpr (by kernel_rfl) h
theorem F72.k16.to {K : VK} {y0 : Value} {w : World} (h : (K y0 w)) : F72.k16 K y0 w := Eq.mpr (by kernel_rfl) h
theorem F72.l4.to {K : VK} {y0 y3 : Value} {w : World} (h : (C.len y0 w fun x12_1 w1 =>
  C.int .lss y3 x12_1 w1 fun x13_2 w2 =>
  C.ite x13_2 (F72.k6 K y0 y3 w2) (F72.k16 K y0 w2))) : F72.l4 K y0 y3 w := by unfold F72.l4; exact nav_round (Eq.mpr (by kernel_rfl) h)
theorem F72.k6.to {K : VK} {y0 y3 : Value} {w : World} (h : (C.draw w fun S w1 =>
  C.idx 1 y0 y3 w1 fun x18_2 w2 =>
  C.int .sub y3 (.int .i64 1) w2 fun x22_3 w3 =>
  C.idx 1 y0 x22_3 w3 fun x23_4 w4 =>
  C.load1S S x18_2 w4 fun x19_5 w5 =>
  C.load1S S x23_4 w5 fun x24_6 w6 =>
  C.int .eql x19_5 x24_6 w6 fun x25_7 w7 =>
  C.ite x25_7 (C.run Try.prog (Instr.sliceAt 57 y0 (some y3) none none) w7 fun x28_8 w8 =>
  F72.l9 K y0 y3 x28_8 (.int .i64 1) w8) (F72.k5 K y0 y3 w7))) : F72.k6 K y0 y3 w := Eq.mpr (by kernel_rfl) h
theorem F72.k5.to {K : VK} {y0 y3 : Value} {w : World} (h : (C.int .add y3 (.int .i64 1) w fun x15_1 w1 =>
  F72.l4 K y0 x15_1 w1)) : F72.k5 K y0 y3 w := Eq.mpr (by kernel_rfl) h
theorem F72.k14.to {K : VK} {y0 y3 : Value} {w : World} (h : (C.run Try.prog (Instr.sliceAt 57 y0 (some y3) none none) w fun x56_1 w1 =>
  C.run Try.prog (Builtin.clear_ #[57] 0 #[x56_1]) w1 fun _ w2 =>
  C.run Try.prog (Instr.sliceAt 57 y0 none (some y3) none) w2 fun x59_3 w3 =>
  K x59_3 w3)) : F72.k14 K y0 y3 w := Eq.mpr (by kernel_rfl) h
theorem F72.l9.to {K : VK} {y0 y3 y4 y5 : Value} {w : World} (h : (C.len y4 w fun x31_1 w1 =>
  C.int .lss y5 x31_1 w1 fun x32_2 w2 =>
  C.ite x32_2 (F72.k11 K y0 y3 y4 y5 w2) (F72.k14 K y0 y3 w2))) : F72.l9 K y0 y3 y4 y5 w := by unfold F72.l9; exact nav_round (Eq.mpr (by kernel_rfl) h)
theorem F72.k11.to {K : VK} {y0 y3 y4 y5 : Value} {w : World} (h : (C.draw w fun S w1 =>
  C.idx 1 y4 y5 w1 fun x37_2 w2 =>
  C.int .sub y5 (.int .i64 1) w2 fun x41_3 w3 =>
  C.idx 1 y4 x41_3 w3 fun x42_4 w4 =>
  C.load1S S x37_2 w4 fun x38_5 w5 =>
  C.load1S S x42_4 w5 fun x43_6 w6 =>
  C.int .neq x38_5 x43_6 w6 fun x44_7 w7 =>
  C.ite x44_7 (C.idx 1 y4 y5 w7 fun x49_8 w8 =>
  C.load1 x49_8 w8 fun x50_9 w9 =>
  C.idx 1 y0 y3 w9 fun x51_10 w10 =>
  C.store 1 x51_10 x50_9 w10 fun w11 =>
  C.int .add y3 (.int .i64 1) w11 fun x53_12 w12 =>
  F72.k10 K y0 x53_12 y4 y5 w12) (F72.k10 K y0 y3 y4 y5 w7))) : F72.k11 K y0 y3 y4 y5 w := Eq.mpr (by kernel_rfl) h
theorem F72.k10.to {K : VK} {y0 y3 y4 y5 : Value} {w : World} (h : (C.int .add y5 (.int .i64 1) w fun x34_1 w1 =>
  F72.l9 K y0 y3 y4 x34_1 w1)) : F72.k10 K y0 y3 y4 y5 w := Eq.mpr (by kernel_rfl) h
theorem F72.sh {K : VK} {x0 : Value} {w : World} (h : (C.len x0 w fun x7_1 w1 =>
  C.int .lss x7_1 (.int .i64 2) w1 fun x8_2 w2 =>
  C.ite x8_2 (K x0 w2) (F72.k3 K x0 w2))) : C.call Try.prog 72 #[x0] w K := calls_of_vc (A := F72.ann) (args := [x0]) (Eq.mpr (by kernel_rfl) h)

/-! ### 73 scutage/view.own (61) -/
namespace F73
def ann : Ann := ⟨[], [], [], [], none⟩
noncomputable def code : Code := match Try.f73.body with | some c => c | none => .skip
noncomputable def top (K : VK) : QE := retQ Try.prog Try.f73.results.toList K
end F73
theorem F73.sh {K : VK} {x0 : Value} {w : World} (h : (C.new (.cells (Value.cells x0) 61) w fun x1_1 w1 =>
  C.new (.cells #[.int .i64 0, .slice none 0 0] 61) w1 fun x2_2 w2 =>
  C.field 1 x1_1 w2 fun x3_3 w3 =>
  C.load1 x3_3 w3 fun x4_4 w4 =>
  C.call Try.prog 78 #[x4_4] w4 fun x5_5 w5 =>
  C.field 1 x1_1 w5 fun x6_6 w6 =>
  C.store 1 x6_6 x5_5 w6 fun w7 =>
  C.loadA 2 x1_1 w7 fun x7_8 w8 =>
  C.store 2 x2_2 x7_8 w8 fun w9 =>
  C.loadA 2 x2_2 w9 fun r10 _ =>
  K r10 w9)) : C.call Try.prog 73 #[x0] w K := calls_of_vc (A := F73.ann) (args := [x0]) (Eq.mpr (by kernel_rfl) h)

/-! ### 74 slices.EqualFunc[[][]scutage/api.Value,[][]scutage/api.Value,[]scutage/api.Value,[]scutage/api.Value] (48, 48, 67) -/
namespace F74
def ann : Ann := ⟨[(3, [0, 1, 2]), (5, [1, 2, 15, 16, 17]), (9, [1, 2, 15, 16, 17]), (10, [])], [(4, [1, 2, 15, 16, 17])], [], [], none⟩
noncomputable def code : Code := match Try.f74.body with | some c => c | none => .skip
noncomputable def top (K : VK) : QE := retQ Try.prog Try.f74.results.toList K
noncomputable def k3 (K : VK) (y0 y1 y2 : Value) (w : World) : Prop := nav ann Try.prog 32 (fun c Q => vcCode ann Try.prog 32 c Q [(0, y0), (1, y1), (2, y2)] w) [1, 1] code (top K)
attribute [irreducible] k3
noncomputable def k10 (K : VK) (w : World) : Prop := nav ann Try.prog 32 (fun c Q => vcCode ann Try.prog 32 c Q [] w) [1, 1, 1] code (top K)
attribute [irreducible] k10
noncomputable def l4 (K : VK) (y1 y2 y15 y16 y17 : Value) (w : World) : Prop := nav ann Try.prog 32 (isLoop ann Try.prog 32 [(1, y1), (2, y2), (15, y15), (16, y16), (17, y17)] w) [1, 1, 0, 1, 0] code (top K)
attribute [irreducible] l4
noncomputable def k5 (K : VK) (y1 y2 y15 y16 y17 : Value) (w : World) : Prop := nav ann Try.prog 32 (fun c Q => vcCode ann Try.prog 32 c Q [(1, y1), (2, y2), (15, y15), (16, y16), (17, y17)] w) [1, 1, 0, 1, 0, 0, 1, 1] code (top K)
attribute [irreducible] k5
noncomputable def k9 (K : VK) (y1 y2 y15 y16 y17 : Value) (w : World) : Prop := nav ann Try.prog 32 (fun c Q => vcCode ann Try.prog 32 c Q [(1, y1), (2, y2), (15, y15), (16, y16), (17, y17)] w) [1, 1, 0, 1, 0, 0, 1, 1, 1] code (top K)
attribute [irreducible] k9
end F74
theorem F74.k3.to {K : VK} {y0 y1 y2 : Value} {w : World} (h : (C.len y0 w fun x16_1 w1 =>
  F74.l4 K y1 y2 y0 x16_1 (.int .i64 0) w1)) : F74.k3 K y0 y1 y2 w := Eq.mpr (by kernel_rfl) h
theorem F74.k10.to {K : VK} {w : World} (h : (K (.bool true) w)) : F74.k10 K w := Eq.mpr (by kernel_rfl) h
theorem F74.l4.to {K : VK} {y1 y2 y15 y16 y17 : Value} {w : World} (h : (C.int .lss y17 y16 w fun x18_1 w1 =>
  C.ite x18_1 (F74.k5 K y1 y2 y15 y16 y17 w1) (F74.k10 K w1))) : F74.l4 K y1 y2 y15 y16 y17 w := by unfold F74.l4; exact nav_round (Eq.mpr (by kernel_rfl) h)
theorem F74.k5.to {K : VK} {y1 y2 y15 y16 y17 : Value} {w : World} (h : (C.idx 1 y15 y17 w fun x20_1 w1 =>
  C.load1 x20_1 w1 fun x21_2 w2 =>
  C.idx 1 y1 y17 w2 fun x24_3 w3 =>
  C.load1 x24_3 w3 fun x25_4 w4 =>
  vcCall Try.prog y2 [x21_2, x25_4] w4 fun x29_5 w5 =>
  C.not x29_5 w5 fun x30_6 w6 =>
  C.ite x30_6 (K (.bool false) w6) (F74.k9 K y1 y2 y15 y16 y17 w6))) : F74.k5 K y1 y2 y15 y16 y17 w := Eq.mpr (by kernel_rfl) h
theorem F74.k9.to {K : VK} {y1 y2 y15 y16 y17 : Value} {w : World} (h : (C.int .add y17 (.int .i64 1) w fun x31_1 w1 =>
  F74.l4 K y1 y2 y15 y16 x31_1 w1)) : F74.k9 K y1 y2 y15 y16 y17 w := Eq.mpr (by kernel_rfl) h
theorem F74.sh {K : VK} {x0 x1 x2 : Value} {w : World} (h : (C.len x0 w fun x11_1 w1 =>
  C.len x1 w1 fun x13_2 w2 =>
  C.int .neq x11_1 x13_2 w2 fun x14_3 w3 =>
  C.ite x14_3 (K (.bool false) w3) (F74.k3 K x0 x1 x2 w3))) : C.call Try.prog 74 #[x0, x1, x2] w K := calls_of_vc (A := F74.ann) (args := [x0, x1, x2]) (Eq.mpr (by kernel_rfl) h)

/-! ### 75 slices.Equal[[]scutage/api.Value,scutage/api.Value] (59, 59) -/
namespace F75
def ann : Ann := ⟨[(3, [0, 1]), (5, [0, 1, 12, 13]), (8, [0, 1, 12, 13]), (9, [])], [(4, [0, 1, 12, 13])], [], [(6, (.take 0 (.take 1 (.take 2 (.take 4 (.take 5 (.take 6 (.take 3 (.take 7 (.take 8 .fin))))))))))], none⟩
noncomputable def code : Code := match Try.f75.body with | some c => c | none => .skip
noncomputable def top (K : VK) : QE := retQ Try.prog Try.f75.results.toList K
noncomputable def k3 (K : VK) (y0 y1 : Value) (w : World) : Prop := nav ann Try.prog 26 (fun c Q => vcCode ann Try.prog 26 c Q [(0, y0), (1, y1)] w) [1, 1] code (top K)
attribute [irreducible] k3
noncomputable def k9 (K : VK) (w : World) : Prop := nav ann Try.prog 26 (fun c Q => vcCode ann Try.prog 26 c Q [] w) [1, 1, 1] code (top K)
attribute [irreducible] k9
noncomputable def l4 (K : VK) (y0 y1 y12 y13 : Value) (w : World) : Prop := nav ann Try.prog 26 (isLoop ann Try.prog 26 [(0, y0), (1, y1), (12, y12), (13, y13)] w) [1, 1, 0, 1, 0] code (top K)
attribute [irreducible] l4
noncomputable def k5 (K : VK) (y0 y1 y12 y13 : Value) (w : World) : Prop := nav ann Try.prog 26 (fun c Q => vcCode ann Try.prog 26 c Q [(0, y0), (1, y1), (12, y12), (13, y13)] w) [1, 1, 0, 1, 0, 0, 1, 1] code (top K)
attribute [irreducible] k5
noncomputable def k8 (K : VK) (y0 y1 y12 y13 : Value) (w : World) : Prop := nav ann Try.prog 26 (fun c Q => vcCode ann Try.prog 26 c Q [(0, y0), (1, y1), (12, y12), (13, y13)] w) [1, 1, 0, 1, 0, 0, 1, 1, 1] code (top K)
attribute [irreducible] k8
end F75
theorem F75.k3.to {K : VK} {y0 y1 : Value} {w : World} (h : (C.len y0 w fun x12_1 w1 =>
  F75.l4 K y0 y1 x12_1 (.int .i64 0) w1)) : F75.k3 K y0 y1 w := Eq.mpr (by kernel_rfl) h
theorem F75.k9.to {K : VK} {w : World} (h : (K (.bool true) w)) : F75.k9 K w := Eq.mpr (by kernel_rfl) h
theorem F75.l4.to {K : VK} {y0 y1 y12 y13 : Value} {w : World} (h : (C.int .lss y13 y12 w fun x14_1 w1 =>
  C.ite x14_1 (F75.k5 K y0 y1 y12 y13 w1) (F75.k9 K w1))) : F75.l4 K y0 y1 y12 y13 w := by unfold F75.l4; exact nav_round (Eq.mpr (by kernel_rfl) h)
theorem F75.k5.to {K : VK} {y0 y1 y12 y13 : Value} {w : World} (h : (C.draw w fun S w1 =>
  C.idx 2 y0 y13 w1 fun x18_2 w2 =>
  C.idx 2 y1 y13 w2 fun x22_3 w3 =>
  C.loadAS S 2 x18_2 w3 fun x19_4 w4 =>
  C.loadAS S 2 x22_3 w4 fun x23_5 w5 =>
  ∃ x24_6, (∀ w', S w' → ((do eqGuard .neq 71 (.tmp 19) (.tmp 23) x19_4 x23_5; binOp .neq 71 x19_4 x23_5 : Sem Value)).run Try.prog w' = .ok x24_6 w') ∧ (C.ite x24_6 (K (.bool false) w5) (F75.k8 K y0 y1 y12 y13 w5)))) : F75.k5 K y0 y1 y12 y13 w := Eq.mpr (by kernel_rfl) h
theorem F75.k8.to {K : VK} {y0 y1 y12 y13 : Value} {w : World} (h : (C.int .add y13 (.int .i64 1) w fun x25_1 w1 =>
  F75.l4 K y0 y1 y12 x25_1 w1)) : F75.k8 K y0 y1 y12 y13 w := Eq.mpr (by kernel_rfl) h
theorem F75.sh {K : VK} {x0 x1 : Value} {w : World} (h : (C.len x0 w fun x7_1 w1 =>
  C.len x1 w1 fun x9_2 w2 =>
  C.int .neq x7_1 x9_2 w2 fun x10_3 w3 =>
  C.ite x10_3 (K (.bool false) w3) (F75.k3 K x0 x1 w3))) : C.call Try.prog 75 #[x0, x1] w K := calls_of_vc (A := F75.ann) (args := [x0, x1]) (Eq.mpr (by kernel_rfl) h)

/-! ### 76 slices.EqualFunc[[]scutage/api.Node,[]scutage/api.Node,scutage/api.Node,scutage/api.Node] (49, 49, 124) -/
namespace F76
def ann : Ann := ⟨[(3, [0, 1, 2]), (5, [1, 2, 15, 16, 17]), (9, [1, 2, 15, 16, 17]), (10, [])], [(4, [1, 2, 15, 16, 17])], [], [], none⟩
noncomputable def code : Code := match Try.f76.body with | some c => c | none => .skip
noncomputable def top (K : VK) : QE := retQ Try.prog Try.f76.results.toList K
noncomputable def k3 (K : VK) (y0 y1 y2 : Value) (w : World) : Prop := nav ann Try.prog 32 (fun c Q => vcCode ann Try.prog 32 c Q [(0, y0), (1, y1), (2, y2)] w) [1, 1] code (top K)
attribute [irreducible] k3
noncomputable def k10 (K : VK) (w : World) : Prop := nav ann Try.prog 32 (fun c Q => vcCode ann Try.prog 32 c Q [] w) [1, 1, 1] code (top K)
attribute [irreducible] k10
noncomputable def l4 (K : VK) (y1 y2 y15 y16 y17 : Value) (w : World) : Prop := nav ann Try.prog 32 (isLoop ann Try.prog 32 [(1, y1), (2, y2), (15, y15), (16, y16), (17, y17)] w) [1, 1, 0, 1, 0] code (top K)
attribute [irreducible] l4
noncomputable def k5 (K : VK) (y1 y2 y15 y16 y17 : Value) (w : World) : Prop := nav ann Try.prog 32 (fun c Q => vcCode ann Try.prog 32 c Q [(1, y1), (2, y2), (15, y15), (16, y16), (17, y17)] w) [1, 1, 0, 1, 0, 0, 1, 1] code (top K)
attribute [irreducible] k5
noncomputable def k9 (K : VK) (y1 y2 y15 y16 y17 : Value) (w : World) : Prop := nav ann Try.prog 32 (fun c Q => vcCode ann Try.prog 32 c Q [(1, y1), (2, y2), (15, y15), (16, y16), (17, y17)] w) [1, 1, 0, 1, 0, 0, 1, 1, 1] code (top K)
attribute [irreducible] k9
end F76
theorem F76.k3.to {K : VK} {y0 y1 y2 : Value} {w : World} (h : (C.len y0 w fun x16_1 w1 =>
  F76.l4 K y1 y2 y0 x16_1 (.int .i64 0) w1)) : F76.k3 K y0 y1 y2 w := Eq.mpr (by kernel_rfl) h
theorem F76.k10.to {K : VK} {w : World} (h : (K (.bool true) w)) : F76.k10 K w := Eq.mpr (by kernel_rfl) h
theorem F76.l4.to {K : VK} {y1 y2 y15 y16 y17 : Value} {w : World} (h : (C.int .lss y17 y16 w fun x18_1 w1 =>
  C.ite x18_1 (F76.k5 K y1 y2 y15 y16 y17 w1) (F76.k10 K w1))) : F76.l4 K y1 y2 y15 y16 y17 w := by unfold F76.l4; exact nav_round (Eq.mpr (by kernel_rfl) h)
theorem F76.k5.to {K : VK} {y1 y2 y15 y16 y17 : Value} {w : World} (h : (C.idx 2 y15 y17 w fun x20_1 w1 =>
  C.loadA 2 x20_1 w1 fun x21_2 w2 =>
  C.new (.cells #[.int .i64 0, .slice none 0 0] 61) w2 fun x8_3 w3 =>
  C.store 2 x8_3 x21_2 w3 fun w4 =>
  C.idx 2 y1 y17 w4 fun x24_5 w5 =>
  C.loadA 2 x24_5 w5 fun x25_6 w6 =>
  C.new (.cells #[.int .i64 0, .slice none 0 0] 61) w6 fun x9_7 w7 =>
  C.store 2 x9_7 x25_6 w7 fun w8 =>
  C.loadA 2 x8_3 w8 fun x27_9 w9 =>
  C.loadA 2 x9_7 w9 fun x28_10 w10 =>
  vcCall Try.prog y2 [x27_9, x28_10] w10 fun x29_11 w11 =>
  C.not x29_11 w11 fun x30_12 w12 =>
  C.ite x30_12 (K (.bool false) w12) (F76.k9 K y1 y2 y15 y16 y17 w12))) : F76.k5 K y1 y2 y15 y16 y17 w := Eq.mpr (by kernel_rfl) h
theorem F76.k9.to {K : VK} {y1 y2 y15 y16 y17 : Value} {w : World} (h : (C.int .add y17 (.int .i64 1) w fun x31_1 w1 =>
  F76.l4 K y1 y2 y15 y16 x31_1 w1)) : F76.k9 K y1 y2 y15 y16 y17 w := Eq.mpr (by kernel_rfl) h
theorem F76.sh {K : VK} {x0 x1 x2 : Value} {w : World} (h : (C.len x0 w fun x11_1 w1 =>
  C.len x1 w1 fun x13_2 w2 =>
  C.int .neq x11_1 x13_2 w2 fun x14_3 w3 =>
  C.ite x14_3 (K (.bool false) w3) (F76.k3 K x0 x1 x2 w3))) : C.call Try.prog 76 #[x0, x1, x2] w K := calls_of_vc (A := F76.ann) (args := [x0, x1, x2]) (Eq.mpr (by kernel_rfl) h)

/-! ### 77 scutage/view.like (61, 61) -/
namespace F77
def ann : Ann := ⟨[], [], [], [], none⟩
noncomputable def code : Code := match Try.f77.body with | some c => c | none => .skip
noncomputable def top (K : VK) : QE := retQ Try.prog Try.f77.results.toList K
end F77
theorem F77.sh {K : VK} {x0 x1 : Value} {w : World} (h : (C.new (.cells (Value.cells x0) 61) w fun x2_1 w1 =>
  C.new (.cells (Value.cells x1) 61) w1 fun x3_2 w2 =>
  C.field 0 x2_1 w2 fun x5_3 w3 =>
  C.load1 x5_3 w3 fun x6_4 w4 =>
  C.field 0 x3_2 w4 fun x7_5 w5 =>
  C.load1 x7_5 w5 fun x8_6 w6 =>
  C.int .eql x6_4 x8_6 w6 fun x9_7 w7 =>
  C.guarded true x9_7 (fun K => C.field 1 x2_1 w7 K) w7 fun x11_8 w8 =>
  C.guarded true x9_7 (fun K => C.load1 x11_8 w8 K) w8 fun x12_9 w9 =>
  C.guarded true x9_7 (fun K => C.field 1 x3_2 w9 K) w9 fun x13_10 w10 =>
  C.guarded true x9_7 (fun K => C.load1 x13_10 w10 K) w10 fun x14_11 w11 =>
  C.guarded true x9_7 (fun K => C.call Try.prog 75 #[x12_9, x14_11] w11 K) w11 fun x15_12 w12 =>
  C.pick (some x9_7) (some x15_12) (some (.bool false)) w12 fun x16_13 w13 =>
  K x16_13 w13)) : C.call Try.prog 77 #[x0, x1] w K := calls_of_vc (A := F77.ann) (args := [x0, x1]) (Eq.mpr (by kernel_rfl) h)

/-! ### 78 slices.Clone[[]scutage/api.Value,scutage/api.Value] (59) -/
namespace F78
def ann : Ann := ⟨[(3, [0])], [], [], [], none⟩
noncomputable def code : Code := match Try.f78.body with | some c => c | none => .skip
noncomputable def top (K : VK) : QE := retQ Try.prog Try.f78.results.toList K
noncomputable def k3 (K : VK) (y0 : Value) (w : World) : Prop := nav ann Try.prog 8 (fun c Q => vcCode ann Try.prog 8 c Q [(0, y0)] w) [1, 1] code (top K)
attribute [irreducible] k3
end F78
theorem F78.k3.to {K : VK} {y0 : Value} {w : World} (h : (C.run Try.prog (Instr.buildSlice 59 0 #[]) w fun x5_1 w1 =>
  C.run Try.prog (Builtin.append_ #[59, 59] 59 #[x5_1, y0]) w1 fun x7_2 w2 =>
  K x7_2 w2)) : F78.k3 K y0 w := Eq.mpr (by kernel_rfl) h
theorem F78.sh {K : VK} {x0 : Value} {w : World} (h : (C.bin Try.prog .eql 59 (.tmp 3) (.const (.slice none 0 0)) x0 (.slice none 0 0) w fun x4_1 w1 =>
  C.ite x4_1 (K (.slice none 0 0) w1) (F78.k3 K x0 w1))) : C.call Try.prog 78 #[x0] w K := calls_of_vc (A := F78.ann) (args := [x0]) (Eq.mpr (by kernel_rfl) h)

/-! ### 105 slices.Grow[[]scutage/api.Value,scutage/api.Value] (59, 3) -/
namespace F105
def ann : Ann := ⟨[(3, [0, 1]), (6, [0])], [], [], [], none⟩
noncomputable def code : Code := match Try.f105.body with | some c => c | none => .skip
noncomputable def top (K : VK) : QE := retQ Try.prog Try.f105.results.toList K
noncomputable def k3 (K : VK) (y0 y1 : Value) (w : World) : Prop := nav ann Try.prog 27 (fun c Q => vcCode ann Try.prog 27 c Q [(0, y0), (1, y1)] w) [1, 1] code (top K)
attribute [irreducible] k3
noncomputable def k6 (K : VK) (y0 : Value) (w : World) : Prop := nav ann Try.prog 27 (fun c Q => vcCode ann Try.prog 27 c Q [(0, y0)] w) [1, 1, 1] code (top K)
attribute [irreducible] k6
end F105
theorem F105.k3.to {K : VK} {y0 y1 : Value} {w : World} (h : (C.run Try.prog (Builtin.cap_ #[59] 3 #[y0]) w fun x10_1 w1 =>
  C.len y0 w1 fun x12_2 w2 =>
  C.int .sub x10_1 x12_2 w2 fun x13_3 w3 =>
  C.int .sub y1 x13_3 w3 fun x14_4 w4 =>
  C.int .gtr x14_4 (.int .i64 0) w4 fun x16_5 w5 =>
  C.ite x16_5 (C.run Try.prog (Builtin.cap_ #[59] 3 #[y0]) w5 fun x19_6 w6 =>
  C.run Try.prog (Instr.sliceAt 59 y0 none (some x19_6) none) w6 fun x20_7 w7 =>
  C.run Try.prog (Builtin.append_ #[59, 3] 59 #[x20_7, x14_4]) w7 fun x22_8 w8 =>
  C.len y0 w8 fun x24_9 w9 =>
  C.run Try.prog (Instr.sliceAt 59 x22_8 none (some x24_9) none) w9 fun x25_10 w10 =>
  F105.k6 K x25_10 w10) (F105.k6 K y0 w5))) : F105.k3 K y0 y1 w := Eq.mpr (by kernel_rfl) h
theorem F105.k6.to {K : VK} {y0 : Value} {w : World} (h : (K y0 w)) : F105.k6 K y0 w := Eq.mpr (by kernel_rfl) h
theorem F105.sh {K : VK} {x0 x1 : Value} {w : World} (h : (C.int .lss x1 (.int .i64 0) w fun x6_1 w1 =>
  C.ite x6_1 (C.run Try.prog (Instr.makeInterface 9 (.string { data := #[99, 97, 110, 110, 111, 116, 32, 98, 101, 32, 110, 101, 103, 97, 116, 105, 118, 101] })) w1 fun x7_2 w2 =>
  False) (F105.k3 K x0 x1 w1))) : C.call Try.prog 105 #[x0, x1] w K := calls_of_vc (A := F105.ann) (args := [x0, x1]) (Eq.mpr (by kernel_rfl) h)

/-! ### 106 slices.Clone[[][]scutage/api.Value,[]scutage/api.Value] (48) -/
namespace F106
def ann : Ann := ⟨[(3, [0])], [], [], [], none⟩
noncomputable def code : Code := match Try.f106.body with | some c => c | none => .skip
noncomputable def top (K : VK) : QE := retQ Try.prog Try.f106.results.toList K
noncomputable def k3 (K : VK) (y0 : Value) (w : World) : Prop := nav ann Try.prog 8 (fun c Q => vcCode ann Try.prog 8 c Q [(0, y0)] w) [1, 1] code (top K)
attribute [irreducible] k3
end F106
theorem F106.k3.to {K : VK} {y0 : Value} {w : World} (h : (C.run Try.prog (Instr.buildSlice 48 0 #[]) w fun x5_1 w1 =>
  C.run Try.prog (Builtin.append_ #[48, 48] 48 #[x5_1, y0]) w1 fun x7_2 w2 =>
  K x7_2 w2)) : F106.k3 K y0 w := Eq.mpr (by kernel_rfl) h
theorem F106.sh {K : VK} {x0 : Value} {w : World} (h : (C.bin Try.prog .eql 48 (.tmp 3) (.const (.slice none 0 0)) x0 (.slice none 0 0) w fun x4_1 w1 =>
  C.ite x4_1 (K (.slice none 0 0) w1) (F106.k3 K x0 w1))) : C.call Try.prog 106 #[x0] w K := calls_of_vc (A := F106.ann) (args := [x0]) (Eq.mpr (by kernel_rfl) h)

/-! ### 107 slices.IndexFunc[[]scutage/api.Value,scutage/api.Value] (59, 116) -/
namespace F107
def ann : Ann := ⟨[(3, [0, 1, 7, 8]), (6, [0, 1, 7, 8]), (7, [])], [(2, [0, 1, 7, 8])], [], [], none⟩
noncomputable def code : Code := match Try.f107.body with | some c => c | none => .skip
noncomputable def top (K : VK) : QE := retQ Try.prog Try.f107.results.toList K
noncomputable def k7 (K : VK) (w : World) : Prop := nav ann Try.prog 19 (fun c Q => vcCode ann Try.prog 19 c Q [] w) [1, 1] code (top K)
attribute [irreducible] k7
noncomputable def l2 (K : VK) (y0 y1 y7 y8 : Value) (w : World) : Prop := nav ann Try.prog 19 (isLoop ann Try.prog 19 [(0, y0), (1, y1), (7, y7), (8, y8)] w) [1, 0, 1, 0] code (top K)
attribute [irreducible] l2
noncomputable def k3 (K : VK) (y0 y1 y7 y8 : Value) (w : World) : Prop := nav ann Try.prog 19 (fun c Q => vcCode ann Try.prog 19 c Q [(0, y0), (1, y1), (7, y7), (8, y8)] w) [1, 0, 1, 0, 0, 1, 1] code (top K)
attribute [irreducible] k3
noncomputable def k6 (K : VK) (y0 y1 y7 y8 : Value) (w : World) : Prop := nav ann Try.prog 19 (fun c Q => vcCode ann Try.prog 19 c Q [(0, y0), (1, y1), (7, y7), (8, y8)] w) [1, 0, 1, 0, 0, 1, 1, 1] code (top K)
attribute [irreducible] k6
end F107
theorem F107.k7.to {K : VK} {w : World} (h : (K (.int .i64 (-1)) w)) : F107.k7 K w := Eq.mpr (by kernel_rfl) h
theorem F107.l2.to {K : VK} {y0 y1 y7 y8 : Value} {w : World} (h : (C.int .lss y8 y7 w fun x9_1 w1 =>
  C.ite x9_1 (F107.k3 K y0 y1 y7 y8 w1) (F107.k7 K w1))) : F107.l2 K y0 y1 y7 y8 w := by unfold F107.l2; exact nav_round (Eq.mpr (by kernel_rfl) h)
theorem F107.k3.to {K : VK} {y0 y1 y7 y8 : Value} {w : World} (h : (C.idx 2 y0 y8 w fun x14_1 w1 =>
  C.loadA 2 x14_1 w1 fun x15_2 w2 =>
  vcCall Try.prog y1 [x15_2] w2 fun x16_3 w3 =>
  C.ite x16_3 (K y8 w3) (F107.k6 K y0 y1 y7 y8 w3))) : F107.k3 K y0 y1 y7 y8 w := Eq.mpr (by kernel_rfl) h
theorem F107.k6.to {K : VK} {y0 y1 y7 y8 : Value} {w : World} (h : (C.int .add y8 (.int .i64 1) w fun x18_1 w1 =>
  F107.l2 K y0 y1 y7 x18_1 w1)) : F107.k6 K y0 y1 y7 y8 w := Eq.mpr (by kernel_rfl) h
theorem F107.sh {K : VK} {x0 x1 : Value} {w : World} (h : (C.len x0 w fun x7_1 w1 =>
  F107.l2 K x0 x1 x7_1 (.int .i64 0) w1)) : C.call Try.prog 107 #[x0, x1] w K := calls_of_vc (A := F107.ann) (args := [x0, x1]) (Eq.mpr (by kernel_rfl) h)

/-! ### 108 slices.IndexFunc[[]scutage/api.Node,scutage/api.Node] (49, 166) -/
namespace F108
def ann : Ann := ⟨[(3, [0, 1, 7, 8]), (6, [0, 1, 7, 8]), (7, [])], [(2, [0, 1, 7, 8])], [], [], none⟩
noncomputable def code : Code := match Try.f108.body with | some c => c | none => .skip
noncomputable def top (K : VK) : QE := retQ Try.prog Try.f108.results.toList K
noncomputable def k7 (K : VK) (w : World) : Prop := nav ann Try.prog 19 (fun c Q => vcCode ann Try.prog 19 c Q [] w) [1, 1] code (top K)
attribute [irreducible] k7
noncomputable def l2 (K : VK) (y0 y1 y7 y8 : Value) (w : World) : Prop := nav ann Try.prog 19 (isLoop ann Try.prog 19 [(0, y0), (1, y1), (7, y7), (8, y8)] w) [1, 0, 1, 0] code (top K)
attribute [irreducible] l2
noncomputable def k3 (K : VK) (y0 y1 y7 y8 : Value) (w : World) : Prop := nav ann Try.prog 19 (fun c Q => vcCode ann Try.prog 19 c Q [(0, y0), (1, y1), (7, y7), (8, y8)] w) [1, 0, 1, 0, 0, 1, 1] code (top K)
attribute [irreducible] k3
noncomputable def k6 (K : VK) (y0 y1 y7 y8 : Value) (w : World) : Prop := nav ann Try.prog 19 (fun c Q => vcCode ann Try.prog 19 c Q [(0, y0), (1, y1), (7, y7), (8, y8)] w) [1, 0, 1, 0, 0, 1, 1, 1] code (top K)
attribute [irreducible] k6
end F108
theorem F108.k7.to {K : VK} {w : World} (h : (K (.int .i64 (-1)) w)) : F108.k7 K w := Eq.mpr (by kernel_rfl) h
theorem F108.l2.to {K : VK} {y0 y1 y7 y8 : Value} {w : World} (h : (C.int .lss y8 y7 w fun x9_1 w1 =>
  C.ite x9_1 (F108.k3 K y0 y1 y7 y8 w1) (F108.k7 K w1))) : F108.l2 K y0 y1 y7 y8 w := by unfold F108.l2; exact nav_round (Eq.mpr (by kernel_rfl) h)
theorem F108.k3.to {K : VK} {y0 y1 y7 y8 : Value} {w : World} (h : (C.idx 2 y0 y8 w fun x14_1 w1 =>
  C.loadA 2 x14_1 w1 fun x15_2 w2 =>
  vcCall Try.prog y1 [x15_2] w2 fun x16_3 w3 =>
  C.ite x16_3 (K y8 w3) (F108.k6 K y0 y1 y7 y8 w3))) : F108.k3 K y0 y1 y7 y8 w := Eq.mpr (by kernel_rfl) h
theorem F108.k6.to {K : VK} {y0 y1 y7 y8 : Value} {w : World} (h : (C.int .add y8 (.int .i64 1) w fun x18_1 w1 =>
  F108.l2 K y0 y1 y7 x18_1 w1)) : F108.k6 K y0 y1 y7 y8 w := Eq.mpr (by kernel_rfl) h
theorem F108.sh {K : VK} {x0 x1 : Value} {w : World} (h : (C.len x0 w fun x7_1 w1 =>
  F108.l2 K x0 x1 x7_1 (.int .i64 0) w1)) : C.call Try.prog 108 #[x0, x1] w K := calls_of_vc (A := F108.ann) (args := [x0, x1]) (Eq.mpr (by kernel_rfl) h)

/-! ### 109 scutage/view.place$1 (61) -/
namespace F109
def ann : Ann := ⟨[], [], [], [], none⟩
noncomputable def code : Code := match Try.f109.body with | some c => c | none => .skip
noncomputable def top (K : VK) : QE := retQ Try.prog Try.f109.results.toList K
end F109
theorem F109.sh {K : VK} {x0 x1 : Value} {w : World} (h : (C.new (.cells (Value.cells x0) 61) w fun x2_1 w1 =>
  C.field 0 x2_1 w1 fun x4_2 w2 =>
  C.load1 x4_2 w2 fun x5_3 w3 =>
  C.load1 x1 w3 fun x6_4 w4 =>
  C.int .eql x5_3 x6_4 w4 fun x7_5 w5 =>
  K x7_5 w5)) : C.call Try.prog 109 #[x0, x1] w K := calls_of_vc (A := F109.ann) (args := [x0, x1]) (Eq.mpr (by kernel_rfl) h)

/-! ### 110 slices.Index[[]bool,bool] (55, 4) -/
namespace F110
def ann : Ann := ⟨[(3, [0, 1, 7, 8]), (6, [0, 1, 7, 8]), (7, [])], [(2, [0, 1, 7, 8])], [], [], none⟩
noncomputable def code : Code := match Try.f110.body with | some c => c | none => .skip
noncomputable def top (K : VK) : QE := retQ Try.prog Try.f110.results.toList K
noncomputable def k7 (K : VK) (w : World) : Prop := nav ann Try.prog 19 (fun c Q => vcCode ann Try.prog 19 c Q [] w) [1, 1] code (top K)
attribute [irreducible] k7
noncomputable def l2 (K : VK) (y0 y1 y7 y8 : Value) (w : World) : Prop := nav ann Try.prog 19 (isLoop ann Try.prog 19 [(0, y0), (1, y1), (7, y7), (8, y8)] w) [1, 0, 1, 0] code (top K)
attribute [irreducible] l2
noncomputable def k3 (K : VK) (y0 y1 y7 y8 : Value) (w : World) : Prop := nav ann Try.prog 19 (fun c Q => vcCode ann Try.prog 19 c Q [(0, y0), (1, y1), (7, y7), (8, y8)] w) [1, 0, 1, 0, 0, 1, 1] code (top K)
attribute [irreducible] k3
noncomputable def k6 (K : VK) (y0 y1 y7 y8 : Value) (w : World) : Prop := nav ann Try.prog 19 (fun c Q => vcCode ann Try.prog 19 c Q [(0, y0), (1, y1), (7, y7), (8, y8)] w) [1, 0, 1, 0, 0, 1, 1, 1] code (top K)
attribute [irreducible] k6
end F110
theorem F110.k7.to {K : VK} {w : World} (h : (K (.int .i64 (-1)) w)) : F110.k7 K w := Eq.mpr (by kernel_rfl) h
theorem F110.l2.to {K : VK} {y0 y1 y7 y8 : Value} {w : World} (h : (C.int .lss y8 y7 w fun x9_1 w1 =>
  C.ite x9_1 (F110.k3 K y0 y1 y7 y8 w1) (F110.k7 K w1))) : F110.l2 K y0 y1 y7 y8 w := by unfold F110.l2; exact nav_round (Eq.mpr (by kernel_rfl) h)
theorem F110.k3.to {K : VK} {y0 y1 y7 y8 : Value} {w : World} (h : (C.idx 1 y0 y8 w fun x14_1 w1 =>
  C.load1 x14_1 w1 fun x15_2 w2 =>
  C.bin Try.prog .eql 4 (.tmp 11) (.tmp 15) y1 x15_2 w2 fun x16_3 w3 =>
  C.ite x16_3 (K y8 w3) (F110.k6 K y0 y1 y7 y8 w3))) : F110.k3 K y0 y1 y7 y8 w := Eq.mpr (by kernel_rfl) h
theorem F110.k6.to {K : VK} {y0 y1 y7 y8 : Value} {w : World} (h : (C.int .add y8 (.int .i64 1) w fun x18_1 w1 =>
  F110.l2 K y0 y1 y7 x18_1 w1)) : F110.k6 K y0 y1 y7 y8 w := Eq.mpr (by kernel_rfl) h
theorem F110.sh {K : VK} {x0 x1 : Value} {w : World} (h : (C.len x0 w fun x7_1 w1 =>
  F110.l2 K x0 x1 x7_1 (.int .i64 0) w1)) : C.call Try.prog 110 #[x0, x1] w K := calls_of_vc (A := F110.ann) (args := [x0, x1]) (Eq.mpr (by kernel_rfl) h)

/-! ### 111 scutage/view.reach$1 (2) -/
namespace F111
def ann : Ann := ⟨[], [], [], [], none⟩
noncomputable def code : Code := match Try.f111.body with | some c => c | none => .skip
noncomputable def top (K : VK) : QE := retQ Try.prog Try.f111.results.toList K
end F111
theorem F111.sh {K : VK} {x0 x1 x2 x3 : Value} {w : World} (h : (C.loadA 2 x1 w fun x6_1 w1 =>
  C.call Try.prog 66 #[x6_1, x0] w1 fun x8_2 w2 =>
  C.int .geq x8_2 (.int .i64 0) w2 fun x10_3 w3 =>
  C.guarded true x10_3 (fun K => C.load1 x2 w3 K) w3 fun x12_4 w4 =>
  C.guarded true x10_3 (fun K => K x8_2 w4) w4 fun x13_5 w5 =>
  C.guarded true x10_3 (fun K => C.idx 1 x12_4 x13_5 w5 K) w5 fun x14_6 w6 =>
  C.guarded true x10_3 (fun K => C.load1 x14_6 w6 K) w6 fun x15_7 w7 =>
  C.guarded true x10_3 (fun K => C.not x15_7 w7 K) w7 fun x16_8 w8 =>
  C.pick (some x10_3) (some x16_8) (some (.bool false)) w8 fun x17_9 w9 =>
  C.ite x17_9 (C.load1 x2 w9 fun x18_10 w10 =>
  C.idx 1 x18_10 x8_2 w10 fun x20_11 w11 =>
  C.store 1 x20_11 (.bool true) w11 fun w12 =>
  C.load1 x3 w12 fun x21_13 w13 =>
  C.run Try.prog (Instr.buildSlice 34 1 #[(0, x8_2)]) w13 fun x23_14 w14 =>
  C.run Try.prog (Builtin.append_ #[34, 34] 34 #[x21_13, x23_14]) w14 fun x24_15 w15 =>
  C.store 1 x3 x24_15 w15 fun w16 =>
  K (.tuple #[]) w16) (K (.tuple #[]) w9))) : C.call Try.prog 111 #[x0, x1, x2, x3] w K := calls_of_vc (A := F111.ann) (args := [x0, x1, x2, x3]) (Eq.mpr (by kernel_rfl) h)

/-! ### 112 scutage/view.reach$2 (59) -/
namespace F112
def ann : Ann := ⟨[(2, [1, 5, 6, 7]), (5, [1, 5, 6, 7])], [(1, [1, 5, 6, 7])], [], [], none⟩
noncomputable def code : Code := match Try.f112.body with | some c => c | none => .skip
noncomputable def top (K : VK) : QE := retQ Try.prog Try.f112.results.toList K
noncomputable def l1 (K : VK) (y1 y5 y6 y7 : Value) (w : World) : Prop := nav ann Try.prog 19 (isLoop ann Try.prog 19 [(1, y1), (5, y5), (6, y6), (7, y7)] w) [1, 0] code (top K)
attribute [irreducible] l1
noncomputable def k2 (K : VK) (y1 y5 y6 y7 : Value) (w : World) : Prop := nav ann Try.prog 19 (fun c Q => vcCode ann Try.prog 19 c Q [(1, y1), (5, y5), (6, y6), (7, y7)] w) [1, 0, 0, 1, 1] code (top K)
attribute [irreducible] k2
noncomputable def k5 (K : VK) (y1 y5 y6 y7 : Value) (w : World) : Prop := nav ann Try.prog 19 (fun c Q => vcCode ann Try.prog 19 c Q [(1, y1), (5, y5), (6, y6), (7, y7)] w) [1, 0, 0, 1, 1, 1] code (top K)
attribute [irreducible] k5
end F112
theorem F112.l1.to {K : VK} {y1 y5 y6 y7 : Value} {w : World} (h : (C.int .lss y7 y6 w fun x8_1 w1 =>
  C.ite x8_1 (F112.k2 K y1 y5 y6 y7 w1) (K (.tuple #[]) w1))) : F112.l1 K y1 y5 y6 y7 w := by unfold F112.l1; exact nav_round (Eq.mpr (by kernel_rfl) h)
theorem F112.k2.to {K : VK} {y1 y5 y6 y7 : Value} {w : World} (h : (C.idx 2 y5 y7 w fun x9_1 w1 =>
  C.loadA 2 x9_1 w1 fun x10_2 w2 =>
  C.new (.cells #[.int .i64 0, .int .i64 0] 71) w2 fun x4_3 w3 =>
  C.store 2 x4_3 x10_2 w3 fun w4 =>
  C.field 0 x4_3 w4 fun x11_5 w5 =>
  C.load1 x11_5 w5 fun x12_6 w6 =>
  C.int .eql x12_6 (.int .i64 2) w6 fun x13_7 w7 =>
  C.ite x13_7 (C.load1 y1 w7 fun x14_8 w8 =>
  C.field 1 x4_3 w8 fun x15_9 w9 =>
  C.load1 x15_9 w9 fun x16_10 w10 =>
  vcCall Try.prog x14_8 [x16_10] w10 fun x17_11 w11 =>
  F112.k5 K y1 y5 y6 y7 w11) (F112.k5 K y1 y5 y6 y7 w7))) : F112.k2 K y1 y5 y6 y7 w := Eq.mpr (by kernel_rfl) h
theorem F112.k5.to {K : VK} {y1 y5 y6 y7 : Value} {w : World} (h : (C.int .add y7 (.int .i64 1) w fun x18_1 w1 =>
  F112.l1 K y1 y5 y6 x18_1 w1)) : F112.k5 K y1 y5 y6 y7 w := Eq.mpr (by kernel_rfl) h
theorem F112.sh {K : VK} {x0 x1 : Value} {w : World} (h : (C.len x0 w fun x6_1 w1 =>
  F112.l1 K x1 x0 x6_1 (.int .i64 0) w1)) : C.call Try.prog 112 #[x0, x1] w K := calls_of_vc (A := F112.ann) (args := [x0, x1]) (Eq.mpr (by kernel_rfl) h)

end Go.Proofs.YtfdpmgddlaamcaaV
