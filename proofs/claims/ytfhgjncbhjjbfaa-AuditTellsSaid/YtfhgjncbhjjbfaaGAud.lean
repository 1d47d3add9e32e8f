/- What the bodies of these functions ask, as plain statements. Written by gen.py (own work) for the seat Ytfhgjncbhjjbfaa. -/
import Derived.Test.YtfhgjncbhjjbfaaVc6
import Derived.Test.YtfhgjncbhjjbfaaProg
namespace Go.Proofs.YtfhgjncbhjjbfaaV
open Go Go.Proofs
set_option linter.unusedVariables false
set_option maxRecDepth 100000

/-! ### 3 scutage/scutagelaw29.AuditTells (22, 23, 3, 3) -/
namespace F3
def ann : Ann := ⟨[(3, [0, 1, 2, 3]), (7, [0, 1, 2, 3, 9, 10]), (8, [0, 1, 2, 3, 9, 10]), (10, [0, 1, 2, 3, 9])], [(6, [0, 1, 2, 3, 9, 10])], [], [(8, (.take 0 (.take 1 (.take 2 (.take 3 (.take 4 (.take 5 (.take 6 (.take 7 (.take 8 (.take 9 (.take 10 (.take 11 (.take 12 (.take 13 (.take 14 (.take 17 (.take 18 (.take 19 (.take 20 (.take 24 (.take 15 (.take 21 (.go 16 (.go 22 (.take 23 (.take 25 (.take 26 .fin))) .fin) .fin))))))))))))))))))))))))], none⟩
noncomputable def code : Code := match Try.f3.body with | some c => c | none => .skip
noncomputable def top (K : VK) : QE := retQ Try.prog Try.f3.results.toList K
noncomputable def k3 (K : VK) (y0 y1 y2 y3 : Value) (w : World) : Prop := nav ann Try.prog 72 (fun c Q => vcCode ann Try.prog 72 c Q [(0, y0), (1, y1), (2, y2), (3, y3)] w) [1, 1] code (top K)
attribute [irreducible] k3
noncomputable def k10 (K : VK) (y0 y1 y2 y3 y9 : Value) (w : World) : Prop := nav ann Try.prog 72 (fun c Q => vcCode ann Try.prog 72 c Q [(0, y0), (1, y1), (2, y2), (3, y3), (9, y9)] w) [1, 1, 1, 1, 1] code (top K)
attribute [irreducible] k10
noncomputable def l6 (K : VK) (y0 y1 y2 y3 y9 y10 : Value) (w : World) : Prop := nav ann Try.prog 72 (isLoop ann Try.prog 72 [(0, y0), (1, y1), (2, y2), (3, y3), (9, y9), (10, y10)] w) [1, 1, 1, 1, 0, 1, 0] code (top K)
attribute [irreducible] l6
noncomputable def k8 (K : VK) (y0 y1 y2 y3 y9 y10 : Value) (w : World) : Prop := nav ann Try.prog 72 (fun c Q => vcCode ann Try.prog 72 c Q [(0, y0), (1, y1), (2, y2), (3, y3), (9, y9), (10, y10)] w) [1, 1, 1, 1, 0, 1, 0, 0, 1] code (top K)
attribute [irreducible] k8
noncomputable def k7 (K : VK) (y0 y1 y2 y3 y9 y10 : Value) (w : World) : Prop := nav ann Try.prog 72 (fun c Q => vcCode ann Try.prog 72 c Q [(0, y0), (1, y1), (2, y2), (3, y3), (9, y9), (10, y10)] w) [1, 1, 1, 1, 0, 1, 0, 0, 1, 1] code (top K)
attribute [irreducible] k7
end F3
theorem F3.k3.to {K : VK} {y0 y1 y2 y3 : Value} {w : World} (h : (C.call Try.prog 15 #[y0] w fun x14_1 w1 =>
  F3.l6 K x14_1 y1 y2 y3 (.int .i64 (-1)) (.int .i64 0) w1)) : F3.k3 K y0 y1 y2 y3 w := Eq.mpr (by kernel_rfl) h
theorem F3.k10.to {K : VK} {y0 y1 y2 y3 y9 : Value} {w : World} (h : (C.call Try.prog 18 #[y0, y1, y2] w fun x58_1 w1 =>
  C.call Try.prog 19 #[y0, y1, y2] w1 fun x62_2 w2 =>
  C.call Try.prog 17 #[x58_1, x62_2] w2 fun x63_3 w3 =>
  C.guarded true x63_3 (fun K => K y3 w3) w3 fun x65_4 w4 =>
  C.guarded true x63_3 (fun K => K y0 w4) w4 fun x66_5 w5 =>
  C.guarded true x63_3 (fun K => K y1 w5) w5 fun x67_6 w6 =>
  C.guarded true x63_3 (fun K => C.call Try.prog 20 #[x65_4, x66_5, x67_6] w6 K) w6 fun x68_7 w7 =>
  C.guarded true x63_3 (fun K => K y9 w7) w7 fun x69_8 w8 =>
  C.guarded true x63_3 (fun K => C.int .eql x68_7 x69_8 w8 K) w8 fun x70_9 w9 =>
  C.pick (some x63_3) (some x70_9) (some (.bool false)) w9 fun x71_10 w10 =>
  K x71_10 w10)) : F3.k10 K y0 y1 y2 y3 y9 w := Eq.mpr (by kernel_rfl) h
theorem F3.l6.to {K : VK} {y0 y1 y2 y3 y9 y10 : Value} {w : World} (h : (C.len y0 w fun x17_1 w1 =>
  C.int .lss y10 x17_1 w1 fun x18_2 w2 =>
  C.guarded true x18_2 (fun K => K y10 w2) w2 fun x20_3 w3 =>
  C.guarded true x18_2 (fun K => K y1 w3) w3 fun x21_4 w4 =>
  C.guarded true x18_2 (fun K => C.len x21_4 w4 K) w4 fun x22_5 w5 =>
  C.guarded true x18_2 (fun K => C.int .lss x20_3 x22_5 w5 K) w5 fun x23_6 w6 =>
  C.pick (some x18_2) (some x23_6) (some (.bool false)) w6 fun x24_7 w7 =>
  C.ite x24_7 (F3.k8 K y0 y1 y2 y3 y9 y10 w7) (F3.k10 K y0 y1 y2 y3 y9 w7))) : F3.l6 K y0 y1 y2 y3 y9 y10 w := by unfold F3.l6; exact nav_round (Eq.mpr (by kernel_rfl) h)
theorem F3.k8.to {K : VK} {y0 y1 y2 y3 y9 y10 : Value} {w : World} (h : (C.draw w fun S w1 =>
  C.int .lss y9 (.int .i64 0) w1 fun x28_2 w2 =>
  C.guarded true x28_2 (fun K => K y0 w2) w2 fun x30_3 w3 =>
  C.guarded true x28_2 (fun K => K y10 w3) w3 fun x31_4 w4 =>
  C.guarded true x28_2 (fun K => C.idx 7 x30_3 x31_4 w4 K) w4 fun x32_5 w5 =>
  C.guarded true x28_2 (fun K => C.field 0 x32_5 w5 K) w5 fun x33_6 w6 =>
  C.guarded true x28_2 (fun K => C.load1S S x33_6 w6 K) w6 fun x34_7 w7 =>
  C.guarded true x28_2 (fun K => C.int .eql x34_7 (.int .i64 3) w7 K) w7 fun x35_8 w8 =>
  C.pick (some x28_2) (some x35_8) (some (.bool false)) w8 fun x36_9 w9 =>
  C.guarded true x36_9 (fun K => K y1 w9) w9 fun x38_10 w10 =>
  C.guarded true x36_9 (fun K => K y10 w10) w10 fun x39_11 w11 =>
  C.guarded true x36_9 (fun K => C.idx 5 x38_10 x39_11 w11 K) w11 fun x40_12 w12 =>
  C.guarded true x36_9 (fun K => C.field 3 x40_12 w12 K) w12 fun x41_13 w13 =>
  C.guarded true x36_9 (fun K => K y1 w13) w13 fun x44_14 w14 =>
  C.guarded true x36_9 (fun K => K y10 w14) w14 fun x45_15 w15 =>
  C.guarded true x36_9 (fun K => C.idx 5 x44_14 x45_15 w15 K) w15 fun x46_16 w16 =>
  C.guarded true x36_9 (fun K => C.field 4 x46_16 w16 K) w16 fun x47_17 w17 =>
  C.guarded true x36_9 (fun K => K y3 w17) w17 fun x51_18 w18 =>
  C.guarded true x36_9 (fun K => C.load1S S x41_13 w18 K) w18 fun x42_19 w19 =>
  C.guarded true x36_9 (fun K => C.load1S S x47_17 w19 K) w19 fun x48_20 w20 =>
  (C.guarded true x36_9 (fun K => C.call Try.prog 16 #[x42_19, (.int .i64 0), (.int .i64 64)] w20 K) w20 fun x43_21 w21 =>
  (S w21 ∧
  (C.guarded true x36_9 (fun K => C.call Try.prog 16 #[x48_20, (.int .i64 0), (.int .i64 64)] w21 K) w21 fun x49_22 w22 =>
  (S w22 ∧
  C.guarded true x36_9 (fun K => C.int .add x43_21 x49_22 w22 K) w22 fun x50_23 w23 =>
  C.guarded true x36_9 (fun K => C.int .gtr x50_23 x51_18 w23 K) w23 fun x52_24 w24 =>
  C.pick (some x36_9) (some x52_24) (some (.bool false)) w24 fun x53_25 w25 =>
  C.ite x53_25 (F3.k7 K y0 y1 y2 y3 y10 y10 w25) (F3.k7 K y0 y1 y2 y3 y9 y10 w25))) ∧ True)) ∧ True)) : F3.k8 K y0 y1 y2 y3 y9 y10 w := Eq.mpr (by kernel_rfl) h
theorem F3.k7.to {K : VK} {y0 y1 y2 y3 y9 y10 : Value} {w : World} (h : (C.int .add y10 (.int .i64 1) w fun x26_1 w1 =>
  F3.l6 K y0 y1 y2 y3 y9 x26_1 w1)) : F3.k7 K y0 y1 y2 y3 y9 y10 w := Eq.mpr (by kernel_rfl) h
theorem F3.sh {K : VK} {x0 x1 x2 x3 : Value} {w : World} (h : (C.call Try.prog 14 #[] w fun x11_1 w1 =>
  C.not x11_1 w1 fun x12_2 w2 =>
  C.ite x12_2 (K (.bool false) w2) (F3.k3 K x0 x1 x2 x3 w2))) : C.call Try.prog 3 #[x0, x1, x2, x3] w K := calls_of_vc (A := F3.ann) (args := [x0, x1, x2, x3]) (Eq.mpr (by kernel_rfl) h)

/-! ### 4 scutage/scutagelaw29.AuditWorst (33, 3) -/
namespace F4
def ann : Ann := ⟨[(3, [0, 1]), (5, [0, 1]), (8, [0, 1, 5, 6]), (9, [0, 1, 5, 6]), (12, [0, 1, 5, 6, 7, 8]), (13, [0, 1, 5, 6, 7, 8]), (15, [0, 1, 5, 6, 7]), (16, [0, 1, 5])], [(7, [0, 1, 5, 6]), (11, [0, 1, 5, 6, 7, 8])], [], [], none⟩
noncomputable def code : Code := match Try.f4.body with | some c => c | none => .skip
noncomputable def top (K : VK) : QE := retQ Try.prog Try.f4.results.toList K
noncomputable def k3 (K : VK) (y0 y1 : Value) (w : World) : Prop := nav ann Try.prog 54 (fun c Q => vcCode ann Try.prog 54 c Q [(0, y0), (1, y1)] w) [1, 1] code (top K)
attribute [irreducible] k3
noncomputable def k5 (K : VK) (y0 y1 : Value) (w : World) : Prop := nav ann Try.prog 54 (fun c Q => vcCode ann Try.prog 54 c Q [(0, y0), (1, y1)] w) [1, 1, 1] code (top K)
attribute [irreducible] k5
noncomputable def k16 (K : VK) (y0 y1 y5 : Value) (w : World) : Prop := nav ann Try.prog 54 (fun c Q => vcCode ann Try.prog 54 c Q [(0, y0), (1, y1), (5, y5)] w) [1, 1, 1, 1, 1] code (top K)
attribute [irreducible] k16
noncomputable def l7 (K : VK) (y0 y1 y5 y6 : Value) (w : World) : Prop := nav ann Try.prog 54 (isLoop ann Try.prog 54 [(0, y0), (1, y1), (5, y5), (6, y6)] w) [1, 1, 1, 1, 0, 1, 0] code (top K)
attribute [irreducible] l7
noncomputable def k9 (K : VK) (y0 y1 y5 y6 : Value) (w : World) : Prop := nav ann Try.prog 54 (fun c Q => vcCode ann Try.prog 54 c Q [(0, y0), (1, y1), (5, y5), (6, y6)] w) [1, 1, 1, 1, 0, 1, 0, 0, 1] code (top K)
attribute [irreducible] k9
noncomputable def k8 (K : VK) (y0 y1 y5 y6 : Value) (w : World) : Prop := nav ann Try.prog 54 (fun c Q => vcCode ann Try.prog 54 c Q [(0, y0), (1, y1), (5, y5), (6, y6)] w) [1, 1, 1, 1, 0, 1, 0, 0, 1, 1] code (top K)
attribute [irreducible] k8
noncomputable def k15 (K : VK) (y0 y1 y5 y6 y7 : Value) (w : World) : Prop := nav ann Try.prog 54 (fun c Q => vcCode ann Try.prog 54 c Q [(0, y0), (1, y1), (5, y5), (6, y6), (7, y7)] w) [1, 1, 1, 1, 0, 1, 0, 0, 1, 0, 0, 1, 1] code (top K)
attribute [irreducible] k15
noncomputable def l11 (K : VK) (y0 y1 y5 y6 y7 y8 : Value) (w : World) : Prop := nav ann Try.prog 54 (isLoop ann Try.prog 54 [(0, y0), (1, y1), (5, y5), (6, y6), (7, y7), (8, y8)] w) [1, 1, 1, 1, 0, 1, 0, 0, 1, 0, 0, 1, 0, 1, 0] code (top K)
attribute [irreducible] l11
noncomputable def k13 (K : VK) (y0 y1 y5 y6 y7 y8 : Value) (w : World) : Prop := nav ann Try.prog 54 (fun c Q => vcCode ann Try.prog 54 c Q [(0, y0), (1, y1), (5, y5), (6, y6), (7, y7), (8, y8)] w) [1, 1, 1, 1, 0, 1, 0, 0, 1, 0, 0, 1, 0, 1, 0, 0, 1] code (top K)
attribute [irreducible] k13
noncomputable def k12 (K : VK) (y0 y1 y5 y6 y7 y8 : Value) (w : World) : Prop := nav ann Try.prog 54 (fun c Q => vcCode ann Try.prog 54 c Q [(0, y0), (1, y1), (5, y5), (6, y6), (7, y7), (8, y8)] w) [1, 1, 1, 1, 0, 1, 0, 0, 1, 0, 0, 1, 0, 1, 0, 0, 1, 1] code (top K)
attribute [irreducible] k12
end F4
theorem F4.k3.to {K : VK} {y0 y1 : Value} {w : World} (h : (C.len y0 w fun x12_1 w1 =>
  C.int .gtr x12_1 (.int .i64 200) w1 fun x13_2 w2 =>
  C.ite x13_2 (C.run Try.prog (Instr.sliceAt 33 y0 none (some (.int .i64 200)) none) w2 fun x15_3 w3 =>
  F4.k5 K x15_3 y1 w3) (F4.k5 K y0 y1 w2))) : F4.k3 K y0 y1 w := Eq.mpr (by kernel_rfl) h
theorem F4.k5.to {K : VK} {y0 y1 : Value} {w : World} (h : (F4.l7 K y0 y1 (.int .i64 0) (.int .i64 0) w)) : F4.k5 K y0 y1 w := Eq.mpr (by kernel_rfl) h
theorem F4.k16.to {K : VK} {y0 y1 y5 : Value} {w : World} (h : (C.call Try.prog 21 #[y0, y1] w fun x51_1 w1 =>
  C.int .eql x51_1 y5 w1 fun x53_2 w2 =>
  K x53_2 w2)) : F4.k16 K y0 y1 y5 w := Eq.mpr (by kernel_rfl) h
theorem F4.l7.to {K : VK} {y0 y1 y5 y6 : Value} {w : World} (h : (C.len y0 w fun x18_1 w1 =>
  C.int .lss y6 x18_1 w1 fun x19_2 w2 =>
  C.guarded true x19_2 (fun K => K y1 w2) w2 fun x21_3 w3 =>
  C.guarded true x19_2 (fun K => C.int .gtr x21_3 (.int .i64 0) w3 K) w3 fun x22_4 w4 =>
  C.pick (some x19_2) (some x22_4) (some (.bool false)) w4 fun x23_5 w5 =>
  C.ite x23_5 (F4.k9 K y0 y1 y5 y6 w5) (F4.k16 K y0 y1 y5 w5))) : F4.l7 K y0 y1 y5 y6 w := by unfold F4.l7; exact nav_round (Eq.mpr (by kernel_rfl) h)
theorem F4.k9.to {K : VK} {y0 y1 y5 y6 : Value} {w : World} (h : (F4.l11 K y0 y1 y5 y6 (.int .i64 0) y6 w)) : F4.k9 K y0 y1 y5 y6 w := Eq.mpr (by kernel_rfl) h
theorem F4.k8.to {K : VK} {y0 y1 y5 y6 : Value} {w : World} (h : (C.int .add y6 (.int .i64 1) w fun x25_1 w1 =>
  F4.l7 K y0 y1 y5 x25_1 w1)) : F4.k8 K y0 y1 y5 y6 w := Eq.mpr (by kernel_rfl) h
theorem F4.k15.to {K : VK} {y0 y1 y5 y6 y7 : Value} {w : World} (h : (C.run Try.prog (Builtin.max_ #[3, 3] 3 #[y5, y7]) w fun x48_1 w1 =>
  F4.k8 K y0 y1 x48_1 y6 w1)) : F4.k15 K y0 y1 y5 y6 y7 w := Eq.mpr (by kernel_rfl) h
theorem F4.l11.to {K : VK} {y0 y1 y5 y6 y7 y8 : Value} {w : World} (h : (C.len y0 w fun x29_1 w1 =>
  C.int .lss y8 x29_1 w1 fun x30_2 w2 =>
  C.guarded true x30_2 (fun K => K y8 w2) w2 fun x32_3 w3 =>
  C.guarded true x30_2 (fun K => K y6 w3) w3 fun x33_4 w4 =>
  C.guarded true x30_2 (fun K => C.int .sub x32_3 x33_4 w4 K) w4 fun x34_5 w5 =>
  C.guarded true x30_2 (fun K => K y1 w5) w5 fun x35_6 w6 =>
  C.guarded true x30_2 (fun K => C.int .lss x34_5 x35_6 w6 K) w6 fun x36_7 w7 =>
  C.pick (some x30_2) (some x36_7) (some (.bool false)) w7 fun x37_8 w8 =>
  C.ite x37_8 (F4.k13 K y0 y1 y5 y6 y7 y8 w8) (F4.k15 K y0 y1 y5 y6 y7 w8))) : F4.l11 K y0 y1 y5 y6 y7 y8 w := by unfold F4.l11; exact nav_round (Eq.mpr (by kernel_rfl) h)
theorem F4.k13.to {K : VK} {y0 y1 y5 y6 y7 y8 : Value} {w : World} (h : (C.idx 1 y0 y8 w fun x42_1 w1 =>
  C.load1 x42_1 w1 fun x43_2 w2 =>
  C.ite x43_2 (C.int .add y7 (.int .i64 1) w2 fun x45_3 w3 =>
  F4.k12 K y0 y1 y5 y6 x45_3 y8 w3) (F4.k12 K y0 y1 y5 y6 y7 y8 w2))) : F4.k13 K y0 y1 y5 y6 y7 y8 w := Eq.mpr (by kernel_rfl) h
theorem F4.k12.to {K : VK} {y0 y1 y5 y6 y7 y8 : Value} {w : World} (h : (C.int .add y8 (.int .i64 1) w fun x39_1 w1 =>
  F4.l11 K y0 y1 y5 y6 y7 x39_1 w1)) : F4.k12 K y0 y1 y5 y6 y7 y8 w := Eq.mpr (by kernel_rfl) h
theorem F4.sh {K : VK} {x0 x1 : Value} {w : World} (h : (C.call Try.prog 14 #[] w fun x9_1 w1 =>
  C.not x9_1 w1 fun x10_2 w2 =>
  C.ite x10_2 (K (.bool false) w2) (F4.k3 K x0 x1 w2))) : C.call Try.prog 4 #[x0, x1] w K := calls_of_vc (A := F4.ann) (args := [x0, x1]) (Eq.mpr (by kernel_rfl) h)

/-! ### 5 scutage/scutagelaw29.AuditBank (3, 22, 23) -/
namespace F5
def ann : Ann := ⟨[(3, [0, 1, 2]), (7, [0, 1, 2, 7, 8, 9]), (8, [0, 1, 2, 7, 8, 9]), (13, [0, 1, 2, 7, 8, 9, 10]), (18, [0, 1, 2, 8])], [(6, [0, 1, 2, 7, 8, 9])], [], [(8, (.take 0 (.take 1 (.take 2 (.take 3 (.take 6 (.take 7 (.take 8 (.take 9 (.take 4 (.take 10 (.go 5 (.go 11 (.take 12 (.take 13 .fin)) .fin) .fin)))))))))))), (18, (.take 0 (.take 1 (.take 2 (.take 4 (.go 3 (.take 5 (.take 6 .fin)) .fin))))))], none⟩
noncomputable def code : Code := match Try.f5.body with | some c => c | none => .skip
noncomputable def top (K : VK) : QE := retQ Try.prog Try.f5.results.toList K
noncomputable def k3 (K : VK) (y0 y1 y2 : Value) (w : World) : Prop := nav ann Try.prog 116 (fun c Q => vcCode ann Try.prog 116 c Q [(0, y0), (1, y1), (2, y2)] w) [1, 1] code (top K)
attribute [irreducible] k3
noncomputable def k18 (K : VK) (y0 y1 y2 y8 : Value) (w : World) : Prop := nav ann Try.prog 116 (fun c Q => vcCode ann Try.prog 116 c Q [(0, y0), (1, y1), (2, y2), (8, y8)] w) [1, 1, 1, 1, 1] code (top K)
attribute [irreducible] k18
noncomputable def l6 (K : VK) (y0 y1 y2 y7 y8 y9 : Value) (w : World) : Prop := nav ann Try.prog 116 (isLoop ann Try.prog 116 [(0, y0), (1, y1), (2, y2), (7, y7), (8, y8), (9, y9)] w) [1, 1, 1, 1, 0, 1, 0] code (top K)
attribute [irreducible] l6
noncomputable def k8 (K : VK) (y0 y1 y2 y7 y8 y9 : Value) (w : World) : Prop := nav ann Try.prog 116 (fun c Q => vcCode ann Try.prog 116 c Q [(0, y0), (1, y1), (2, y2), (7, y7), (8, y8), (9, y9)] w) [1, 1, 1, 1, 0, 1, 0, 0, 1] code (top K)
attribute [irreducible] k8
noncomputable def k7 (K : VK) (y0 y1 y2 y7 y8 y9 : Value) (w : World) : Prop := nav ann Try.prog 116 (fun c Q => vcCode ann Try.prog 116 c Q [(0, y0), (1, y1), (2, y2), (7, y7), (8, y8), (9, y9)] w) [1, 1, 1, 1, 0, 1, 0, 0, 1, 1] code (top K)
attribute [irreducible] k7
noncomputable def k13 (K : VK) (y0 y1 y2 y7 y8 y9 y10 : Value) (w : World) : Prop := nav ann Try.prog 116 (fun c Q => vcCode ann Try.prog 116 c Q [(0, y0), (1, y1), (2, y2), (7, y7), (8, y8), (9, y9), (10, y10)] w) [1, 1, 1, 1, 0, 1, 0, 0, 1, 0, 0, 1, 1] code (top K)
attribute [irreducible] k13
end F5
theorem F5.k3.to {K : VK} {y0 y1 y2 : Value} {w : World} (h : (C.call Try.prog 15 #[y1] w fun x17_1 w1 =>
  C.call Try.prog 16 #[y0, (.int .i64 0), (.int .i64 65535)] w1 fun x19_2 w2 =>
  C.run Try.prog (Instr.build 40 #[]) w2 fun x20_3 w3 =>
  C.new (.cells #[.int .i64 0, .int .i64 0, .int .i64 0, .int .i64 0] 40) w3 fun x8_4 w4 =>
  C.store 4 x8_4 x20_3 w4 fun w5 =>
  F5.l6 K y0 x17_1 y2 x19_2 x8_4 (.int .i64 0) w5)) : F5.k3 K y0 y1 y2 w := Eq.mpr (by kernel_rfl) h
theorem F5.k18.to {K : VK} {y0 y1 y2 y8 : Value} {w : World} (h : (C.draw w fun S w1 =>
  C.loadAS S 4 y8 w1 fun x114_2 w2 =>
  (C.call Try.prog 22 #[y0, y1, y2] w2 fun x113_3 w3 =>
  (S w3 ∧
  ∃ x115_4, (∀ w', S w' → ((do eqGuard .eql 40 (.tmp 113) (.tmp 114) x113_3 x114_2; binOp .eql 40 x113_3 x114_2 : Sem Value)).run Try.prog w' = .ok x115_4 w') ∧ (K x115_4 w3))) ∧ True)) : F5.k18 K y0 y1 y2 y8 w := Eq.mpr (by kernel_rfl) h
theorem F5.l6.to {K : VK} {y0 y1 y2 y7 y8 y9 : Value} {w : World} (h : (C.len y1 w fun x23_1 w1 =>
  C.int .lss y9 x23_1 w1 fun x24_2 w2 =>
  C.guarded true x24_2 (fun K => K y9 w2) w2 fun x26_3 w3 =>
  C.guarded true x24_2 (fun K => K y2 w3) w3 fun x27_4 w4 =>
  C.guarded true x24_2 (fun K => C.len x27_4 w4 K) w4 fun x28_5 w5 =>
  C.guarded true x24_2 (fun K => C.int .lss x26_3 x28_5 w5 K) w5 fun x29_6 w6 =>
  C.pick (some x24_2) (some x29_6) (some (.bool false)) w6 fun x30_7 w7 =>
  C.ite x30_7 (F5.k8 K y0 y1 y2 y7 y8 y9 w7) (F5.k18 K y0 y1 y2 y8 w7))) : F5.l6 K y0 y1 y2 y7 y8 y9 w := by unfold F5.l6; exact nav_round (Eq.mpr (by kernel_rfl) h)
theorem F5.k8.to {K : VK} {y0 y1 y2 y7 y8 y9 : Value} {w : World} (h : (C.draw w fun S w1 =>
  C.idx 5 y2 y9 w1 fun x35_2 w2 =>
  C.field 3 x35_2 w2 fun x36_3 w3 =>
  C.idx 5 y2 y9 w3 fun x41_4 w4 =>
  C.field 4 x41_4 w4 fun x42_5 w5 =>
  C.load1S S x36_3 w5 fun x37_6 w6 =>
  C.load1S S x42_5 w6 fun x43_7 w7 =>
  (C.call Try.prog 16 #[x37_6, (.int .i64 0), (.int .i64 64)] w7 fun x38_8 w8 =>
  (S w8 ∧
  (C.call Try.prog 16 #[x43_7, (.int .i64 0), (.int .i64 64)] w8 fun x44_9 w9 =>
  (S w9 ∧
  C.idx 7 y1 y9 w9 fun x47_10 w10 =>
  C.field 0 x47_10 w10 fun x48_11 w11 =>
  C.load1 x48_11 w11 fun x49_12 w12 =>
  C.int .eql x49_12 (.int .i64 3) w12 fun x50_13 w13 =>
  C.ite x50_13 (C.field 0 y8 w13 fun x52_14 w14 =>
  C.load1 x52_14 w14 fun x53_15 w15 =>
  C.run Try.prog (Builtin.min_ #[2, 2] 2 #[x44_9, x53_15]) w15 fun x54_16 w16 =>
  C.field 0 y8 w16 fun x55_17 w17 =>
  C.load1 x55_17 w17 fun x56_18 w18 =>
  C.int .sub x56_18 x54_16 w18 fun x58_19 w19 =>
  C.field 0 y8 w19 fun x59_20 w20 =>
  C.store 1 x59_20 x58_19 w20 fun w21 =>
  C.field 2 y8 w21 fun x60_22 w22 =>
  C.load1 x60_22 w22 fun x61_23 w23 =>
  C.int .add x61_23 x54_16 w23 fun x63_24 w24 =>
  C.field 2 y8 w24 fun x64_25 w25 =>
  C.store 1 x64_25 x63_24 w25 fun w26 =>
  F5.k13 K y0 y1 y2 y7 y8 y9 x38_8 w26) (F5.k13 K y0 y1 y2 y7 y8 y9 x38_8 w13))) ∧ True)) ∧ True)) : F5.k8 K y0 y1 y2 y7 y8 y9 w := Eq.mpr (by kernel_rfl) h
theorem F5.k7.to {K : VK} {y0 y1 y2 y7 y8 y9 : Value} {w : World} (h : (C.int .add y9 (.int .i64 1) w fun x32_1 w1 =>
  F5.l6 K y0 y1 y2 y7 y8 x32_1 w1)) : F5.k7 K y0 y1 y2 y7 y8 y9 w := Eq.mpr (by kernel_rfl) h
theorem F5.k13.to {K : VK} {y0 y1 y2 y7 y8 y9 y10 : Value} {w : World} (h : (C.idx 7 y1 y9 w fun x67_1 w1 =>
  C.field 0 x67_1 w1 fun x68_2 w2 =>
  C.load1 x68_2 w2 fun x69_3 w3 =>
  C.int .eql x69_3 (.int .i64 15) w3 fun x70_4 w4 =>
  C.guarded false x70_4 (fun K => K y1 w4) w4 fun x72_5 w5 =>
  C.guarded false x70_4 (fun K => K y9 w5) w5 fun x73_6 w6 =>
  C.guarded false x70_4 (fun K => C.idx 7 x72_5 x73_6 w6 K) w6 fun x74_7 w7 =>
  C.guarded false x70_4 (fun K => C.field 0 x74_7 w7 K) w7 fun x75_8 w8 =>
  C.guarded false x70_4 (fun K => C.load1 x75_8 w8 K) w8 fun x76_9 w9 =>
  C.guarded false x70_4 (fun K => C.int .eql x76_9 (.int .i64 16) w9 K) w9 fun x77_10 w10 =>
  C.pick (some x70_4) (some (.bool true)) (some x77_10) w10 fun x78_11 w11 =>
  C.guarded true x78_11 (fun K => K y2 w11) w11 fun x80_12 w12 =>
  C.guarded true x78_11 (fun K => K y9 w12) w12 fun x81_13 w13 =>
  C.guarded true x78_11 (fun K => C.idx 5 x80_12 x81_13 w13 K) w13 fun x82_14 w14 =>
  C.guarded true x78_11 (fun K => C.field 0 x82_14 w14 K) w14 fun x83_15 w15 =>
  C.guarded true x78_11 (fun K => C.load1 x83_15 w15 K) w15 fun x84_16 w16 =>
  C.guarded true x78_11 (fun K => C.int .eql x84_16 (.int .i64 0) w16 K) w16 fun x85_17 w17 =>
  C.pick (some x78_11) (some x85_17) (some (.bool false)) w17 fun x86_18 w18 =>
  C.ite x86_18 (C.field 0 y8 w18 fun x89_19 w19 =>
  C.load1 x89_19 w19 fun x90_20 w20 =>
  C.int .sub y7 x90_20 w20 fun x91_21 w21 =>
  C.run Try.prog (Builtin.min_ #[2, 2] 2 #[y10, x91_21]) w21 fun x92_22 w22 =>
  C.field 0 y8 w22 fun x93_23 w23 =>
  C.load1 x93_23 w23 fun x94_24 w24 =>
  C.int .add x94_24 x92_22 w24 fun x96_25 w25 =>
  C.field 0 y8 w25 fun x97_26 w26 =>
  C.store 1 x97_26 x96_25 w26 fun w27 =>
  C.field 1 y8 w27 fun x98_28 w28 =>
  C.load1 x98_28 w28 fun x99_29 w29 =>
  C.int .add x99_29 x92_22 w29 fun x101_30 w30 =>
  C.field 1 y8 w30 fun x102_31 w31 =>
  C.store 1 x102_31 x101_30 w31 fun w32 =>
  C.field 3 y8 w32 fun x103_33 w33 =>
  C.load1 x103_33 w33 fun x104_34 w34 =>
  C.int .add x104_34 y10 w34 fun x106_35 w35 =>
  C.int .sub x106_35 x92_22 w35 fun x108_36 w36 =>
  C.field 3 y8 w36 fun x109_37 w37 =>
  C.store 1 x109_37 x108_36 w37 fun w38 =>
  F5.k7 K y0 y1 y2 y7 y8 y9 w38) (F5.k7 K y0 y1 y2 y7 y8 y9 w18))) : F5.k13 K y0 y1 y2 y7 y8 y9 y10 w := Eq.mpr (by kernel_rfl) h
theorem F5.sh {K : VK} {x0 x1 x2 : Value} {w : World} (h : (C.call Try.prog 14 #[] w fun x14_1 w1 =>
  C.not x14_1 w1 fun x15_2 w2 =>
  C.ite x15_2 (K (.bool false) w2) (F5.k3 K x0 x1 x2 w2))) : C.call Try.prog 5 #[x0, x1, x2] w K := calls_of_vc (A := F5.ann) (args := [x0, x1, x2]) (Eq.mpr (by kernel_rfl) h)

/-! ### 14 scutage/scutagelaw29.alive () -/
namespace F14
def ann : Ann := ⟨[], [], [], [], none⟩
noncomputable def code : Code := match Try.f14.body with | some c => c | none => .skip
noncomputable def top (K : VK) : QE := retQ Try.prog Try.f14.results.toList K
end F14
theorem F14.sh {K : VK} {w : World} (h : (C.run Try.prog (Instr.build 27 #[(0, (.int .i64 3)), (5, (.int .i64 2))]) w fun x3_1 w1 =>
  C.run Try.prog (Instr.build 27 #[(0, (.int .i64 16))]) w1 fun x4_2 w2 =>
  C.run Try.prog (Instr.buildSlice 22 2 #[(0, x3_1), (1, x4_2)]) w2 fun x5_3 w3 =>
  C.run Try.prog (Instr.build 31 #[(3, (.int .i64 1)), (4, (.int .i64 3))]) w3 fun x6_4 w4 =>
  C.run Try.prog (Instr.build 31 #[(3, (.int .i64 5))]) w4 fun x7_5 w5 =>
  C.run Try.prog (Instr.buildSlice 23 2 #[(0, x6_4), (1, x7_5)]) w5 fun x8_6 w6 =>
  C.run Try.prog (Instr.buildSlice 33 3 #[(0, (.bool true)), (1, (.bool false)), (2, (.bool true))]) w6 fun x9_7 w7 =>
  C.call Try.prog 21 #[x9_7, (.int .i64 2)] w7 fun x10_8 w8 =>
  C.int .eql x10_8 (.int .i64 1) w8 fun x11_9 w9 =>
  C.guarded true x11_9 (fun K => K x5_3 w9) w9 fun x13_10 w10 =>
  C.guarded true x11_9 (fun K => K x8_6 w10) w10 fun x14_11 w11 =>
  C.guarded true x11_9 (fun K => C.call Try.prog 18 #[x13_10, x14_11, (.int .i64 0)] w11 K) w11 fun x15_12 w12 =>
  C.guarded true x11_9 (fun K => C.run Try.prog (Instr.buildSlice 33 3 #[(0, (.bool true)), (1, (.bool true)), (2, (.bool false))]) w12 K) w12 fun x16_13 w13 =>
  C.guarded true x11_9 (fun K => C.call Try.prog 17 #[x15_12, x16_13] w13 K) w13 fun x17_14 w14 =>
  C.pick (some x11_9) (some x17_14) (some (.bool false)) w14 fun x18_15 w15 =>
  C.guarded true x18_15 (fun K => K x5_3 w15) w15 fun x20_16 w16 =>
  C.guarded true x18_15 (fun K => K x8_6 w16) w16 fun x21_17 w17 =>
  C.guarded true x18_15 (fun K => C.call Try.prog 22 #[(.int .i64 4), x20_16, x21_17] w17 K) w17 fun x22_18 w18 =>
  C.guarded true x18_15 (fun K => C.run Try.prog (Instr.build 40 #[(0, (.int .i64 4)), (1, (.int .i64 4)), (3, (.int .i64 1))]) w18 K) w18 fun x23_19 w19 =>
  C.guarded true x18_15 (fun K => C.bin Try.prog .eql 40 (.tmp 22) (.tmp 23) x22_18 x23_19 w19 K) w19 fun x24_20 w20 =>
  C.pick (some x18_15) (some x24_20) (some (.bool false)) w20 fun x25_21 w21 =>
  C.guarded true x25_21 (fun K => K x5_3 w21) w21 fun x27_22 w22 =>
  C.guarded true x25_21 (fun K => K x8_6 w22) w22 fun x28_23 w23 =>
  C.guarded true x25_21 (fun K => C.call Try.prog 20 #[(.int .i64 3), x27_22, x28_23] w23 K) w23 fun x29_24 w24 =>
  C.guarded true x25_21 (fun K => C.int .eql x29_24 (.int .i64 0) w24 K) w24 fun x30_25 w25 =>
  C.pick (some x25_21) (some x30_25) (some (.bool false)) w25 fun x31_26 w26 =>
  C.guarded true x31_26 (fun K => K x5_3 w26) w26 fun x33_27 w27 =>
  C.guarded true x31_26 (fun K => K x8_6 w27) w27 fun x34_28 w28 =>
  C.guarded true x31_26 (fun K => C.call Try.prog 20 #[(.int .i64 4), x33_27, x34_28] w28 K) w28 fun x35_29 w29 =>
  C.guarded true x31_26 (fun K => C.int .eql x35_29 (.int .i64 (-1)) w29 K) w29 fun x36_30 w30 =>
  C.pick (some x31_26) (some x36_30) (some (.bool false)) w30 fun x37_31 w31 =>
  K x37_31 w31)) : C.call Try.prog 14 #[] w K := calls_of_vc (A := F14.ann) (args := []) (Eq.mpr (by kernel_rfl) h)

/-! ### 15 scutage/scutagelaw29.few (22) -/
namespace F15
def ann : Ann := ⟨[(3, [0])], [], [], [], none⟩
noncomputable def code : Code := match Try.f15.body with | some c => c | none => .skip
noncomputable def top (K : VK) : QE := retQ Try.prog Try.f15.results.toList K
noncomputable def k3 (K : VK) (y0 : Value) (w : World) : Prop := nav ann Try.prog 9 (fun c Q => vcCode ann Try.prog 9 c Q [(0, y0)] w) [1, 1] code (top K)
attribute [irreducible] k3
end F15
theorem F15.k3.to {K : VK} {y0 : Value} {w : World} (h : (K y0 w)) : F15.k3 K y0 w := Eq.mpr (by kernel_rfl) h
theorem F15.sh {K : VK} {x0 : Value} {w : World} (h : (C.len x0 w fun x4_1 w1 =>
  C.int .gtr x4_1 (.int .i64 60) w1 fun x5_2 w2 =>
  C.ite x5_2 (C.run Try.prog (Instr.sliceAt 22 x0 none (some (.int .i64 60)) none) w2 fun x7_3 w3 =>
  K x7_3 w3) (F15.k3 K x0 w2))) : C.call Try.prog 15 #[x0] w K := calls_of_vc (A := F15.ann) (args := [x0]) (Eq.mpr (by kernel_rfl) h)

/-! ### 16 scutage/scutageplain.Near (3, 3, 3) -/
namespace F16
def ann : Ann := ⟨[(3, [0, 2]), (5, [0])], [], [], [], none⟩
noncomputable def code : Code := match Try.f16.body with | some c => c | none => .skip
noncomputable def top (K : VK) : QE := retQ Try.prog Try.f16.results.toList K
noncomputable def k3 (K : VK) (y0 y2 : Value) (w : World) : Prop := nav ann Try.prog 16 (fun c Q => vcCode ann Try.prog 16 c Q [(0, y0), (2, y2)] w) [1, 1] code (top K)
attribute [irreducible] k3
noncomputable def k5 (K : VK) (y0 : Value) (w : World) : Prop := nav ann Try.prog 16 (fun c Q => vcCode ann Try.prog 16 c Q [(0, y0)] w) [1, 1, 1] code (top K)
attribute [irreducible] k5
end F16
theorem F16.k3.to {K : VK} {y0 y2 : Value} {w : World} (h : (C.int .gtr y0 y2 w fun x13_1 w1 =>
  C.ite x13_1 (K y2 w1) (F16.k5 K y0 w1))) : F16.k3 K y0 y2 w := Eq.mpr (by kernel_rfl) h
theorem F16.k5.to {K : VK} {y0 : Value} {w : World} (h : (K y0 w)) : F16.k5 K y0 w := Eq.mpr (by kernel_rfl) h
theorem F16.sh {K : VK} {x0 x1 x2 : Value} {w : World} (h : (C.int .lss x0 x1 w fun x9_1 w1 =>
  C.ite x9_1 (K x1 w1) (F16.k3 K x0 x2 w1))) : C.call Try.prog 16 #[x0, x1, x2] w K := calls_of_vc (A := F16.ann) (args := [x0, x1, x2]) (Eq.mpr (by kernel_rfl) h)

/-! ### 17 scutage/scutageplain.Bools (33, 33) -/
namespace F17
def ann : Ann := ⟨[(3, [0, 1]), (5, [0, 1, 5]), (6, [0, 1, 5]), (8, [])], [(4, [0, 1, 5])], [], [(6, (.take 0 (.take 1 (.take 2 (.take 4 (.take 5 (.take 6 (.take 3 (.take 7 (.take 8 .fin))))))))))], none⟩
noncomputable def code : Code := match Try.f17.body with | some c => c | none => .skip
noncomputable def top (K : VK) : QE := retQ Try.prog Try.f17.results.toList K
noncomputable def k3 (K : VK) (y0 y1 : Value) (w : World) : Prop := nav ann Try.prog 26 (fun c Q => vcCode ann Try.prog 26 c Q [(0, y0), (1, y1)] w) [1, 1] code (top K)
attribute [irreducible] k3
noncomputable def k8 (K : VK) (w : World) : Prop := nav ann Try.prog 26 (fun c Q => vcCode ann Try.prog 26 c Q [] w) [1, 1, 1] code (top K)
attribute [irreducible] k8
noncomputable def l4 (K : VK) (y0 y1 y5 : Value) (w : World) : Prop := nav ann Try.prog 26 (isLoop ann Try.prog 26 [(0, y0), (1, y1), (5, y5)] w) [1, 1, 0, 1, 0] code (top K)
attribute [irreducible] l4
noncomputable def k6 (K : VK) (y0 y1 y5 : Value) (w : World) : Prop := nav ann Try.prog 26 (fun c Q => vcCode ann Try.prog 26 c Q [(0, y0), (1, y1), (5, y5)] w) [1, 1, 0, 1, 0, 0, 1] code (top K)
attribute [irreducible] k6
noncomputable def k5 (K : VK) (y0 y1 y5 : Value) (w : World) : Prop := nav ann Try.prog 26 (fun c Q => vcCode ann Try.prog 26 c Q [(0, y0), (1, y1), (5, y5)] w) [1, 1, 0, 1, 0, 0, 1, 1] code (top K)
attribute [irreducible] k5
end F17
theorem F17.k3.to {K : VK} {y0 y1 : Value} {w : World} (h : (F17.l4 K y0 y1 (.int .i64 0) w)) : F17.k3 K y0 y1 w := Eq.mpr (by kernel_rfl) h
theorem F17.k8.to {K : VK} {w : World} (h : (K (.bool true) w)) : F17.k8 K w := Eq.mpr (by kernel_rfl) h
theorem F17.l4.to {K : VK} {y0 y1 y5 : Value} {w : World} (h : (C.len y0 w fun x13_1 w1 =>
  C.int .lss y5 x13_1 w1 fun x14_2 w2 =>
  C.ite x14_2 (F17.k6 K y0 y1 y5 w2) (F17.k8 K w2))) : F17.l4 K y0 y1 y5 w := by unfold F17.l4; exact nav_round (Eq.mpr (by kernel_rfl) h)
theorem F17.k6.to {K : VK} {y0 y1 y5 : Value} {w : World} (h : (C.draw w fun S w1 =>
  C.idx 1 y0 y5 w1 fun x19_2 w2 =>
  C.idx 1 y1 y5 w2 fun x23_3 w3 =>
  C.load1S S x19_2 w3 fun x20_4 w4 =>
  C.load1S S x23_3 w4 fun x24_5 w5 =>
  ∃ x25_6, (∀ w', S w' → ((do eqGuard .neq 4 (.tmp 20) (.tmp 24) x20_4 x24_5; binOp .neq 4 x20_4 x24_5 : Sem Value)).run Try.prog w' = .ok x25_6 w') ∧ (C.ite x25_6 (K (.bool false) w5) (F17.k5 K y0 y1 y5 w5)))) : F17.k6 K y0 y1 y5 w := Eq.mpr (by kernel_rfl) h
theorem F17.k5.to {K : VK} {y0 y1 y5 : Value} {w : World} (h : (C.int .add y5 (.int .i64 1) w fun x16_1 w1 =>
  F17.l4 K y0 y1 x16_1 w1)) : F17.k5 K y0 y1 y5 w := Eq.mpr (by kernel_rfl) h
theorem F17.sh {K : VK} {x0 x1 : Value} {w : World} (h : (C.len x0 w fun x7_1 w1 =>
  C.len x1 w1 fun x9_2 w2 =>
  C.int .neq x7_1 x9_2 w2 fun x10_3 w3 =>
  C.ite x10_3 (K (.bool false) w3) (F17.k3 K x0 x1 w3))) : C.call Try.prog 17 #[x0, x1] w K := calls_of_vc (A := F17.ann) (args := [x0, x1]) (Eq.mpr (by kernel_rfl) h)

/-! ### 18 scutage/audit.Letters (22, 23, 3) -/
namespace F18
def ann : Ann := ⟨[(14, [7, 4294967291])], [], [], [], none⟩
noncomputable def code : Code := match Try.f18.body with | some c => c | none => .skip
noncomputable def top (K : VK) : QE := retQ Try.prog Try.f18.results.toList K
noncomputable def as4 : Code := asOf (codeAt [1, 1, 1, 0, 1, 0] code)
noncomputable def bd4 : Code := bdOf (codeAt [1, 1, 1, 0, 1, 0] code)
noncomputable def k14 (K : VK) (y7 y4294967291 : Value) (w : World) : Prop := nav ann Try.prog 69 (fun c Q => vcCode ann Try.prog 69 c Q [(7, y7), (4294967291, y4294967291)] w) [1, 1, 1, 1] code (top K)
attribute [irreducible] k14
end F18
theorem F18.k14.to {K : VK} {y7 y4294967291 : Value} {w : World} (h : (C.load1 y7 w fun x68_1 w1 =>
  C.leave y4294967291 w1 fun w2 =>
  K x68_1 w2)) : F18.k14 K y7 y4294967291 w := Eq.mpr (by kernel_rfl) h
theorem F18.sh {K : VK} {x0 x1 x2 : Value} {w : World} (h : (C.new (.cells (Value.cells x2) 3) w fun x5_1 w1 =>
  C.new (.cells #[.slice none 0 0] 33) w1 fun x7_2 w2 =>
  C.new (.cells #[.nilFunc] 67) w2 fun x8_3 w3 =>
  C.store 1 x8_3 (.func (.func 52) #[] #[x7_2]) w3 fun w4 =>
  C.call Try.prog 54 #[x0, x1] w4 fun x15_5 w5 =>
  C.range Try.prog 69 x15_5 #[16, 17] F18.as4 F18.bd4 [(15, x15_5), (14, x1), (13, x0), (8, x8_3), (12, (.func (.func 52) #[] #[x7_2])), (7, x7_2), (6, (.slice none 0 0)), (5, x5_1), (0, x0), (1, x1), (2, x2)] w5 fun D6 j w6 =>
  C.left j (F18.k14 K x7_2 (.int .i64 (D6 : Int)) w6) (C.leave (.int .i64 (D6 : Int)) w6 fun w7 =>
  K (.slice none 0 0) w7) (fun id => cond (Nat.beq id 0) (F18.k14 K x7_2 (.int .i64 (D6 : Int)) w6) (False)))) : C.call Try.prog 18 #[x0, x1, x2] w K := calls_of_vc (A := F18.ann) (args := [x0, x1, x2]) (Eq.mpr (by kernel_rfl) h)
namespace R18_4
def ann (l : Nat) : Ann := ⟨[(7, [8, 9, 10]), (10, [8, 9, 11]), (12, [8, 9, 11])], [], [], [], some l⟩
noncomputable def top (l : Nat) (K : VK) : QE := roundQ l K
noncomputable def k7 (l : Nat) (K : VK) (y8 y9 y10 : Value) (w : World) : Prop := nav (ann l) Try.prog 69 (fun c Q => vcCode (ann l) Try.prog 69 c Q [(8, y8), (9, y9), (10, y10)] w) [0, 1] F18.bd4 (top l K)
attribute [irreducible] k7
noncomputable def k10 (l : Nat) (K : VK) (y8 y9 y11 : Value) (w : World) : Prop := nav (ann l) Try.prog 69 (fun c Q => vcCode (ann l) Try.prog 69 c Q [(8, y8), (9, y9), (11, y11)] w) [0, 1, 1, 1] F18.bd4 (top l K)
attribute [irreducible] k10
noncomputable def k12 (l : Nat) (K : VK) (y8 y9 y11 : Value) (w : World) : Prop := nav (ann l) Try.prog 69 (fun c Q => vcCode (ann l) Try.prog 69 c Q [(8, y8), (9, y9), (11, y11)] w) [0, 1, 1, 1, 1] F18.bd4 (top l K)
attribute [irreducible] k12
end R18_4
theorem R18_4.k7.to {l : Nat} {K : VK} {y8 y9 y10 : Value} {w : World} (h : (C.field 0 y10 w fun x22_1 w1 =>
  C.load1 x22_1 w1 fun x23_2 w2 =>
  C.int .eql x23_2 (.int .i64 0) w2 fun x24_3 w3 =>
  C.field 0 y9 w3 fun x25_4 w4 =>
  C.load1 x25_4 w4 fun x26_5 w5 =>
  C.int .eql x26_5 (.int .i64 3) w5 fun x27_6 w6 =>
  C.guarded false x27_6 (fun K => C.field 0 y9 w6 K) w6 fun x29_7 w7 =>
  C.guarded false x27_6 (fun K => C.load1 x29_7 w7 K) w7 fun x30_8 w8 =>
  C.guarded false x27_6 (fun K => C.int .eql x30_8 (.int .i64 15) w8 K) w8 fun x31_9 w9 =>
  C.guarded false x27_6 (fun K => K x31_9 w9) w9 fun x32_10 w10 =>
  C.guarded true x32_10 (fun K => K x24_3 w10) w10 fun x33_11 w11 =>
  C.guarded false x27_6 (fun K => C.pick (some x32_10) (some x33_11) (some (.bool false)) w11 K) w11 fun x34_12 w12 =>
  C.pick (some x27_6) (some (.bool true)) (some x34_12) w12 fun x35_13 w13 =>
  C.ite x35_13 (C.load1 y8 w13 fun x36_14 w14 =>
  C.field 3 y10 w14 fun x37_15 w15 =>
  C.load1 x37_15 w15 fun x38_16 w16 =>
  C.field 5 y9 w16 fun x39_17 w17 =>
  C.load1 x39_17 w17 fun x40_18 w18 =>
  C.int .mul x38_16 x40_18 w18 fun x41_19 w19 =>
  vcCall Try.prog x36_14 [x41_19, (.bool true)] w19 fun x42_20 w20 =>
  R18_4.k10 l K y8 y9 x24_3 w20) (R18_4.k10 l K y8 y9 x24_3 w13))) : R18_4.k7 l K y8 y9 y10 w := Eq.mpr (by kernel_rfl) h
theorem R18_4.k10.to {l : Nat} {K : VK} {y8 y9 y11 : Value} {w : World} (h : (C.field 0 y9 w fun x43_1 w1 =>
  C.load1 x43_1 w1 fun x44_2 w2 =>
  C.int .geq x44_2 (.int .i64 3) w2 fun x45_3 w3 =>
  C.guarded true x45_3 (fun K => C.field 0 y9 w3 K) w3 fun x47_4 w4 =>
  C.guarded true x45_3 (fun K => C.load1 x47_4 w4 K) w4 fun x48_5 w5 =>
  C.guarded true x45_3 (fun K => C.int .leq x48_5 (.int .i64 12) w5 K) w5 fun x49_6 w6 =>
  C.pick (some x45_3) (some x49_6) (some (.bool false)) w6 fun x50_7 w7 =>
  C.guarded true x50_7 (fun K => K y11 w7) w7 fun x52_8 w8 =>
  C.pick (some x50_7) (some x52_8) (some (.bool false)) w8 fun x53_9 w9 =>
  C.ite x53_9 (C.load1 y8 w9 fun x54_10 w10 =>
  vcCall Try.prog x54_10 [(.int .i64 1), (.bool false)] w10 fun x55_11 w11 =>
  R18_4.k12 l K y8 y9 y11 w11) (R18_4.k12 l K y8 y9 y11 w9))) : R18_4.k10 l K y8 y9 y11 w := Eq.mpr (by kernel_rfl) h
theorem R18_4.k12.to {l : Nat} {K : VK} {y8 y9 y11 : Value} {w : World} (h : (C.field 0 y9 w fun x56_1 w1 =>
  C.load1 x56_1 w1 fun x57_2 w2 =>
  C.int .eql x57_2 (.int .i64 13) w2 fun x58_3 w3 =>
  C.guarded true x58_3 (fun K => K y11 w3) w3 fun x60_4 w4 =>
  C.pick (some x58_3) (some x60_4) (some (.bool false)) w4 fun x61_5 w5 =>
  C.ite x61_5 (C.load1 y8 w5 fun x62_6 w6 =>
  C.field 6 y9 w6 fun x63_7 w7 =>
  C.load1 x63_7 w7 fun x64_8 w8 =>
  C.run Try.prog (Builtin.max_ #[2, 2] 2 #[x64_8, (.int .i64 0)]) w8 fun x65_9 w9 =>
  C.run Try.prog (Builtin.min_ #[2, 2] 2 #[x65_9, (.int .i64 64)]) w9 fun x66_10 w10 =>
  vcCall Try.prog x62_6 [x66_10, (.bool false)] w10 fun x67_11 w11 =>
  C.endr l none true (.ready) w11 K) (C.endr l none true (.ready) w5 K))) : R18_4.k12 l K y8 y9 y11 w := Eq.mpr (by kernel_rfl) h
theorem R18_4.yield {l : Nat} {r : Loop} {K : VK} {y5 y8 a16 a17 : Value} {w : World} (hr : w.heap[l]? = some (.loop r)) (hn : r.tmps.size = 69) (hp : r.params = #[16, 17]) (ha : r.assign = F18.as4) (hb : r.body = F18.bd4)
    (he : ∀ t v, lkT [(5, y5), (8, y8)] t = some v → r.tmps[t]? = some v) (h : (C.new (.cells #[.int .i64 0, .int .i64 0, .int .i64 0, .int .i64 0, .int .i64 0, .int .i64 0, .int .i64 0] 27) w fun x9_1 w1 =>
  C.store 7 x9_1 a16 w1 fun w2 =>
  C.new (.cells #[.int .i64 0, .int .i64 0, .int .i64 0, .int .i64 0, .int .i64 0] 31) w2 fun x10_3 w3 =>
  C.store 5 x10_3 a17 w3 fun w4 =>
  C.begin l w4 fun w5 =>
  C.field 1 x9_1 w5 fun x18_6 w6 =>
  C.load1 x18_6 w6 fun x19_7 w7 =>
  C.load1 y5 w7 fun x20_8 w8 =>
  C.int .neq x19_7 x20_8 w8 fun x21_9 w9 =>
  C.ite x21_9 (C.endr l none true (.ready) w9 K) (R18_4.k7 l K y8 x9_1 x10_3 w9))) : C.yield Try.prog l #[a16, a17] w K :=
  yield_of (A := R18_4.ann l) (env := [(5, y5), (8, y8)]) rfl hr hn (by rw [hp]; rfl) he rfl (by rw [hp]; decide) (by rw [ha, hb, hp]; exact Eq.mpr (by kernel_rfl) h)

/-! ### 19 scutage/scutagelaw29.letters (22, 23, 3) -/
namespace F19
def ann : Ann := ⟨[(4, [0, 1, 2, 7, 8]), (5, [0, 1, 2, 7, 8]), (6, [0, 1, 2, 7, 8]), (10, [0, 1, 2, 7, 8, 9, 10, 11, 12, 13]), (11, [0, 1, 2, 7, 8, 9, 10, 11, 12, 13]), (12, [0, 1, 2, 7, 8, 9, 10, 11]), (14, [0, 1, 2, 7, 8, 9, 10, 11]), (16, [0, 1, 2, 7, 8, 11]), (18, [0, 1, 2, 7, 8, 11, 14]), (19, [0, 1, 2, 7, 8, 11, 14]), (20, [7])], [(3, [0, 1, 2, 7, 8]), (9, [0, 1, 2, 7, 8, 9, 10, 11, 12, 13]), (17, [0, 1, 2, 7, 8, 11, 14])], [], [(6, (.take 0 (.take 1 (.take 2 (.take 3 (.take 5 (.take 6 (.take 7 (.take 8 (.take 4 (.take 11 (.take 9 (.take 10 (.take 12 (.take 13 .fin))))))))))))))), (7, (.take 0 (.take 1 (.take 2 (.take 3 (.take 6 (.take 7 (.take 8 (.take 9 (.take 4 (.take 10 (.go 5 (.go 11 (.take 12 (.take 13 .fin)) .fin) .fin))))))))))))], none⟩
noncomputable def code : Code := match Try.f19.body with | some c => c | none => .skip
noncomputable def top (K : VK) : QE := retQ Try.prog Try.f19.results.toList K
noncomputable def k20 (K : VK) (y7 : Value) (w : World) : Prop := nav ann Try.prog 107 (fun c Q => vcCode ann Try.prog 107 c Q [(7, y7)] w) [1, 1, 1] code (top K)
attribute [irreducible] k20
noncomputable def l3 (K : VK) (y0 y1 y2 y7 y8 : Value) (w : World) : Prop := nav ann Try.prog 107 (isLoop ann Try.prog 107 [(0, y0), (1, y1), (2, y2), (7, y7), (8, y8)] w) [1, 1, 0, 1, 0] code (top K)
attribute [irreducible] l3
noncomputable def k5 (K : VK) (y0 y1 y2 y7 y8 : Value) (w : World) : Prop := nav ann Try.prog 107 (fun c Q => vcCode ann Try.prog 107 c Q [(0, y0), (1, y1), (2, y2), (7, y7), (8, y8)] w) [1, 1, 0, 1, 0, 0, 1] code (top K)
attribute [irreducible] k5
noncomputable def k4 (K : VK) (y0 y1 y2 y7 y8 : Value) (w : World) : Prop := nav ann Try.prog 107 (fun c Q => vcCode ann Try.prog 107 c Q [(0, y0), (1, y1), (2, y2), (7, y7), (8, y8)] w) [1, 1, 0, 1, 0, 0, 1, 1] code (top K)
attribute [irreducible] k4
noncomputable def k6 (K : VK) (y0 y1 y2 y7 y8 : Value) (w : World) : Prop := nav ann Try.prog 107 (fun c Q => vcCode ann Try.prog 107 c Q [(0, y0), (1, y1), (2, y2), (7, y7), (8, y8)] w) [1, 1, 0, 1, 0, 0, 1, 0, 0, 1] code (top K)
attribute [irreducible] k6
noncomputable def k12 (K : VK) (y0 y1 y2 y7 y8 y9 y10 y11 : Value) (w : World) : Prop := nav ann Try.prog 107 (fun c Q => vcCode ann Try.prog 107 c Q [(0, y0), (1, y1), (2, y2), (7, y7), (8, y8), (9, y9), (10, y10), (11, y11)] w) [1, 1, 0, 1, 0, 0, 1, 0, 0, 1, 1, 1, 1] code (top K)
attribute [irreducible] k12
noncomputable def l9 (K : VK) (y0 y1 y2 y7 y8 y9 y10 y11 y12 y13 : Value) (w : World) : Prop := nav ann Try.prog 107 (isLoop ann Try.prog 107 [(0, y0), (1, y1), (2, y2), (7, y7), (8, y8), (9, y9), (10, y10), (11, y11), (12, y12), (13, y13)] w) [1, 1, 0, 1, 0, 0, 1, 0, 0, 1, 1, 1, 0, 1, 0] code (top K)
attribute [irreducible] l9
noncomputable def k11 (K : VK) (y0 y1 y2 y7 y8 y9 y10 y11 y12 y13 : Value) (w : World) : Prop := nav ann Try.prog 107 (fun c Q => vcCode ann Try.prog 107 c Q [(0, y0), (1, y1), (2, y2), (7, y7), (8, y8), (9, y9), (10, y10), (11, y11), (12, y12), (13, y13)] w) [1, 1, 0, 1, 0, 0, 1, 0, 0, 1, 1, 1, 0, 1, 0, 0, 1] code (top K)
attribute [irreducible] k11
noncomputable def k10 (K : VK) (y0 y1 y2 y7 y8 y9 y10 y11 y12 y13 : Value) (w : World) : Prop := nav ann Try.prog 107 (fun c Q => vcCode ann Try.prog 107 c Q [(0, y0), (1, y1), (2, y2), (7, y7), (8, y8), (9, y9), (10, y10), (11, y11), (12, y12), (13, y13)] w) [1, 1, 0, 1, 0, 0, 1, 0, 0, 1, 1, 1, 0, 1, 0, 0, 1, 1] code (top K)
attribute [irreducible] k10
noncomputable def k14 (K : VK) (y0 y1 y2 y7 y8 y9 y10 y11 : Value) (w : World) : Prop := nav ann Try.prog 107 (fun c Q => vcCode ann Try.prog 107 c Q [(0, y0), (1, y1), (2, y2), (7, y7), (8, y8), (9, y9), (10, y10), (11, y11)] w) [1, 1, 0, 1, 0, 0, 1, 0, 0, 1, 1, 1, 1, 1] code (top K)
attribute [irreducible] k14
noncomputable def k16 (K : VK) (y0 y1 y2 y7 y8 y11 : Value) (w : World) : Prop := nav ann Try.prog 107 (fun c Q => vcCode ann Try.prog 107 c Q [(0, y0), (1, y1), (2, y2), (7, y7), (8, y8), (11, y11)] w) [1, 1, 0, 1, 0, 0, 1, 0, 0, 1, 1, 1, 1, 1, 1] code (top K)
attribute [irreducible] k16
noncomputable def l17 (K : VK) (y0 y1 y2 y7 y8 y11 y14 : Value) (w : World) : Prop := nav ann Try.prog 107 (isLoop ann Try.prog 107 [(0, y0), (1, y1), (2, y2), (7, y7), (8, y8), (11, y11), (14, y14)] w) [1, 1, 0, 1, 0, 0, 1, 0, 0, 1, 1, 1, 1, 1, 1, 1, 0] code (top K)
attribute [irreducible] l17
noncomputable def k19 (K : VK) (y0 y1 y2 y7 y8 y11 y14 : Value) (w : World) : Prop := nav ann Try.prog 107 (fun c Q => vcCode ann Try.prog 107 c Q [(0, y0), (1, y1), (2, y2), (7, y7), (8, y8), (11, y11), (14, y14)] w) [1, 1, 0, 1, 0, 0, 1, 0, 0, 1, 1, 1, 1, 1, 1, 1, 0, 0, 1] code (top K)
attribute [irreducible] k19
noncomputable def k18 (K : VK) (y0 y1 y2 y7 y8 y11 y14 : Value) (w : World) : Prop := nav ann Try.prog 107 (fun c Q => vcCode ann Try.prog 107 c Q [(0, y0), (1, y1), (2, y2), (7, y7), (8, y8), (11, y11), (14, y14)] w) [1, 1, 0, 1, 0, 0, 1, 0, 0, 1, 1, 1, 1, 1, 1, 1, 0, 0, 1, 1] code (top K)
attribute [irreducible] k18
end F19
theorem F19.k20.to {K : VK} {y7 : Value} {w : World} (h : (K y7 w)) : F19.k20 K y7 w := Eq.mpr (by kernel_rfl) h
theorem F19.l3.to {K : VK} {y0 y1 y2 y7 y8 : Value} {w : World} (h : (C.len y0 w fun x17_1 w1 =>
  C.int .lss y8 x17_1 w1 fun x18_2 w2 =>
  C.guarded true x18_2 (fun K => K y8 w2) w2 fun x20_3 w3 =>
  C.guarded true x18_2 (fun K => K y1 w3) w3 fun x21_4 w4 =>
  C.guarded true x18_2 (fun K => C.len x21_4 w4 K) w4 fun x22_5 w5 =>
  C.guarded true x18_2 (fun K => C.int .lss x20_3 x22_5 w5 K) w5 fun x23_6 w6 =>
  C.pick (some x18_2) (some x23_6) (some (.bool false)) w6 fun x24_7 w7 =>
  C.ite x24_7 (F19.k5 K y0 y1 y2 y7 y8 w7) (F19.k20 K y7 w7))) : F19.l3 K y0 y1 y2 y7 y8 w := by unfold F19.l3; exact nav_round (Eq.mpr (by kernel_rfl) h)
theorem F19.k5.to {K : VK} {y0 y1 y2 y7 y8 : Value} {w : World} (h : (C.idx 7 y0 y8 w fun x29_1 w1 =>
  C.field 1 x29_1 w1 fun x30_2 w2 =>
  C.load1 x30_2 w2 fun x31_3 w3 =>
  C.int .neq x31_3 y2 w3 fun x33_4 w4 =>
  C.ite x33_4 (F19.k4 K y0 y1 y2 y7 y8 w4) (F19.k6 K y0 y1 y2 y7 y8 w4))) : F19.k5 K y0 y1 y2 y7 y8 w := Eq.mpr (by kernel_rfl) h
theorem F19.k4.to {K : VK} {y0 y1 y2 y7 y8 : Value} {w : World} (h : (C.int .add y8 (.int .i64 1) w fun x26_1 w1 =>
  F19.l3 K y0 y1 y2 y7 x26_1 w1)) : F19.k4 K y0 y1 y2 y7 y8 w := Eq.mpr (by kernel_rfl) h
theorem F19.k6.to {K : VK} {y0 y1 y2 y7 y8 : Value} {w : World} (h : (C.draw w fun S w1 =>
  C.idx 7 y0 y8 w1 fun x36_2 w2 =>
  C.field 0 x36_2 w2 fun x37_3 w3 =>
  C.idx 5 y1 y8 w3 fun x41_4 w4 =>
  C.field 0 x41_4 w4 fun x42_5 w5 =>
  C.load1S S x37_3 w5 fun x38_6 w6 =>
  C.load1S S x42_5 w6 fun x43_7 w7 =>
  C.int .eql x43_7 (.int .i64 0) w7 fun x44_8 w8 =>
  C.draw w8 fun S w9 =>
  C.idx 5 y1 y8 w9 fun x47_10 w10 =>
  C.field 3 x47_10 w10 fun x48_11 w11 =>
  C.idx 7 y0 y8 w11 fun x53_12 w12 =>
  C.field 5 x53_12 w12 fun x54_13 w13 =>
  C.load1S S x48_11 w13 fun x49_14 w14 =>
  C.load1S S x54_13 w14 fun x55_15 w15 =>
  (C.call Try.prog 16 #[x49_14, (.int .i64 0), (.int .i64 64)] w15 fun x50_16 w16 =>
  (S w16 ∧
  (C.call Try.prog 16 #[x55_15, (.int .i64 0), (.int .i64 16)] w16 fun x56_17 w17 =>
  (S w17 ∧
  C.int .mul x50_16 x56_17 w17 fun x57_18 w18 =>
  F19.l9 K y0 y1 y2 y7 y8 x38_6 x44_8 (.int .i64 0) x57_18 (.int .i64 0) w18)) ∧ True)) ∧ True)) : F19.k6 K y0 y1 y2 y7 y8 w := Eq.mpr (by kernel_rfl) h
theorem F19.k12.to {K : VK} {y0 y1 y2 y7 y8 y9 y10 y11 : Value} {w : World} (h : (C.guarded true y10 (fun K => K y9 w) w fun x79_1 w1 =>
  C.guarded true y10 (fun K => C.int .geq x79_1 (.int .i64 3) w1 K) w1 fun x80_2 w2 =>
  C.pick (some y10) (some x80_2) (some (.bool false)) w2 fun x81_3 w3 =>
  C.guarded true x81_3 (fun K => K y9 w3) w3 fun x83_4 w4 =>
  C.guarded true x81_3 (fun K => C.int .leq x83_4 (.int .i64 12) w4 K) w4 fun x84_5 w5 =>
  C.pick (some x81_3) (some x84_5) (some (.bool false)) w5 fun x85_6 w6 =>
  C.ite x85_6 (F19.k14 K y0 y1 y2 y7 y8 y9 y10 (.int .i64 1) w6) (F19.k14 K y0 y1 y2 y7 y8 y9 y10 y11 w6))) : F19.k12 K y0 y1 y2 y7 y8 y9 y10 y11 w := Eq.mpr (by kernel_rfl) h
theorem F19.l9.to {K : VK} {y0 y1 y2 y7 y8 y9 y10 y11 y12 y13 : Value} {w : World} (h : (C.int .lss y13 y12 w fun x60_1 w1 =>
  C.guarded true x60_1 (fun K => K y9 w1) w1 fun x62_2 w2 =>
  C.guarded true x60_1 (fun K => C.int .eql x62_2 (.int .i64 3) w2 K) w2 fun x63_3 w3 =>
  C.guarded true x60_1 (fun K => K x63_3 w3) w3 fun x64_4 w4 =>
  C.guarded false x64_4 (fun K => K y9 w4) w4 fun x65_5 w5 =>
  C.guarded false x64_4 (fun K => C.int .eql x65_5 (.int .i64 15) w5 K) w5 fun x66_6 w6 =>
  C.guarded false x64_4 (fun K => K x66_6 w6) w6 fun x67_7 w7 =>
  C.guarded true x67_7 (fun K => K y10 w7) w7 fun x68_8 w8 =>
  C.guarded false x64_4 (fun K => C.pick (some x67_7) (some x68_8) (some (.bool false)) w8 K) w8 fun x69_9 w9 =>
  C.guarded true x60_1 (fun K => C.pick (some x64_4) (some (.bool true)) (some x69_9) w9 K) w9 fun x70_10 w10 =>
  C.pick (some x60_1) (some x70_10) (some (.bool false)) w10 fun x71_11 w11 =>
  C.ite x71_11 (F19.k11 K y0 y1 y2 y7 y8 y9 y10 y11 y12 y13 w11) (F19.k12 K y0 y1 y2 y7 y8 y9 y10 y11 w11))) : F19.l9 K y0 y1 y2 y7 y8 y9 y10 y11 y12 y13 w := by unfold F19.l9; exact nav_round (Eq.mpr (by kernel_rfl) h)
theorem F19.k11.to {K : VK} {y0 y1 y2 y7 y8 y9 y10 y11 y12 y13 : Value} {w : World} (h : (C.run Try.prog (Instr.buildSlice 33 1 #[(0, (.bool true))]) w fun x75_1 w1 =>
  C.run Try.prog (Builtin.append_ #[33, 33] 33 #[y7, x75_1]) w1 fun x76_2 w2 =>
  F19.k10 K y0 y1 y2 x76_2 y8 y9 y10 y11 y12 y13 w2)) : F19.k11 K y0 y1 y2 y7 y8 y9 y10 y11 y12 y13 w := Eq.mpr (by kernel_rfl) h
theorem F19.k10.to {K : VK} {y0 y1 y2 y7 y8 y9 y10 y11 y12 y13 : Value} {w : World} (h : (C.int .add y13 (.int .i64 1) w fun x73_1 w1 =>
  F19.l9 K y0 y1 y2 y7 y8 y9 y10 y11 y12 x73_1 w1)) : F19.k10 K y0 y1 y2 y7 y8 y9 y10 y11 y12 y13 w := Eq.mpr (by kernel_rfl) h
theorem F19.k14.to {K : VK} {y0 y1 y2 y7 y8 y9 y10 y11 : Value} {w : World} (h : (C.guarded true y10 (fun K => K y9 w) w fun x88_1 w1 =>
  C.guarded true y10 (fun K => C.int .eql x88_1 (.int .i64 13) w1 K) w1 fun x89_2 w2 =>
  C.pick (some y10) (some x89_2) (some (.bool false)) w2 fun x90_3 w3 =>
  C.ite x90_3 (C.idx 7 y0 y8 w3 fun x93_4 w4 =>
  C.field 6 x93_4 w4 fun x94_5 w5 =>
  C.load1 x94_5 w5 fun x95_6 w6 =>
  C.run Try.prog (Builtin.max_ #[2, 2] 2 #[x95_6, (.int .i64 0)]) w6 fun x96_7 w7 =>
  C.run Try.prog (Builtin.min_ #[2, 2] 2 #[x96_7, (.int .i64 64)]) w7 fun x97_8 w8 =>
  F19.k16 K y0 y1 y2 y7 y8 x97_8 w8) (F19.k16 K y0 y1 y2 y7 y8 y11 w3))) : F19.k14 K y0 y1 y2 y7 y8 y9 y10 y11 w := Eq.mpr (by kernel_rfl) h
theorem F19.k16.to {K : VK} {y0 y1 y2 y7 y8 y11 : Value} {w : World} (h : (F19.l17 K y0 y1 y2 y7 y8 y11 (.int .i64 0) w)) : F19.k16 K y0 y1 y2 y7 y8 y11 w := Eq.mpr (by kernel_rfl) h
theorem F19.l17.to {K : VK} {y0 y1 y2 y7 y8 y11 y14 : Value} {w : World} (h : (C.int .lss y14 y11 w fun x100_1 w1 =>
  C.ite x100_1 (F19.k19 K y0 y1 y2 y7 y8 y11 y14 w1) (F19.k4 K y0 y1 y2 y7 y8 w1))) : F19.l17 K y0 y1 y2 y7 y8 y11 y14 w := by unfold F19.l17; exact nav_round (Eq.mpr (by kernel_rfl) h)
theorem F19.k19.to {K : VK} {y0 y1 y2 y7 y8 y11 y14 : Value} {w : World} (h : (C.run Try.prog (Instr.buildSlice 33 1 #[(0, (.bool false))]) w fun x104_1 w1 =>
  C.run Try.prog (Builtin.append_ #[33, 33] 33 #[y7, x104_1]) w1 fun x105_2 w2 =>
  F19.k18 K y0 y1 y2 x105_2 y8 y11 y14 w2)) : F19.k19 K y0 y1 y2 y7 y8 y11 y14 w := Eq.mpr (by kernel_rfl) h
theorem F19.k18.to {K : VK} {y0 y1 y2 y7 y8 y11 y14 : Value} {w : World} (h : (C.int .add y14 (.int .i64 1) w fun x102_1 w1 =>
  F19.l17 K y0 y1 y2 y7 y8 y11 x102_1 w1)) : F19.k18 K y0 y1 y2 y7 y8 y11 y14 w := Eq.mpr (by kernel_rfl) h
theorem F19.sh {K : VK} {x0 x1 x2 : Value} {w : World} (h : (F19.l3 K x0 x1 x2 (.slice none 0 0) (.int .i64 0) w)) : C.call Try.prog 19 #[x0, x1, x2] w K := calls_of_vc (A := F19.ann) (args := [x0, x1, x2]) (Eq.mpr (by kernel_rfl) h)

/-! ### 20 scutage/audit.Dear (3, 22, 23) -/
namespace F20
def ann : Ann := ⟨[(8, [6, 4294967291])], [], [], [], none⟩
noncomputable def code : Code := match Try.f20.body with | some c => c | none => .skip
noncomputable def top (K : VK) : QE := retQ Try.prog Try.f20.results.toList K
noncomputable def as3 : Code := asOf (codeAt [1, 1, 0, 1, 0] code)
noncomputable def bd3 : Code := bdOf (codeAt [1, 1, 0, 1, 0] code)
noncomputable def k8 (K : VK) (y6 y4294967291 : Value) (w : World) : Prop := nav ann Try.prog 30 (fun c Q => vcCode ann Try.prog 30 c Q [(6, y6), (4294967291, y4294967291)] w) [1, 1, 1] code (top K)
attribute [irreducible] k8
end F20
theorem F20.k8.to {K : VK} {y6 y4294967291 : Value} {w : World} (h : (C.store 1 y6 (.int .i64 (-1)) w fun w1 =>
  C.leave y4294967291 w1 fun w2 =>
  C.load1 y6 w2 fun r3 _ =>
  K r3 w2)) : F20.k8 K y6 y4294967291 w := Eq.mpr (by kernel_rfl) h
theorem F20.sh {K : VK} {x0 x1 x2 : Value} {w : World} (h : (C.new (.cells (Value.cells x0) 3) w fun x3_1 w1 =>
  C.new (.cells #[.int .i64 0] 3) w1 fun x6_2 w2 =>
  C.new (.cells #[.int .i64 0] 3) w2 fun x7_3 w3 =>
  C.store 1 x7_3 (.int .i64 0) w3 fun w4 =>
  C.call Try.prog 54 #[x1, x2] w4 fun x12_5 w5 =>
  C.range Try.prog 30 x12_5 #[13, 14] F20.as3 F20.bd3 [(12, x12_5), (11, x2), (10, x1), (7, x7_3), (6, x6_2), (3, x3_1), (0, x0), (1, x1), (2, x2)] w5 fun D6 j w6 =>
  C.left j (F20.k8 K x6_2 (.int .i64 (D6 : Int)) w6) (C.leave (.int .i64 (D6 : Int)) w6 fun w7 =>
  C.load1 x6_2 w7 fun r8 _ =>
  K r8 w7) (fun id => cond (Nat.beq id 0) (F20.k8 K x6_2 (.int .i64 (D6 : Int)) w6) (False)))) : C.call Try.prog 20 #[x0, x1, x2] w K := calls_of_vc (A := F20.ann) (args := [x0, x1, x2]) (Eq.mpr (by kernel_rfl) h)
namespace R20_3
def ann (l : Nat) : Ann := ⟨[(7, [7])], [], [], [], some l⟩
noncomputable def top (l : Nat) (K : VK) : QE := roundQ l K
noncomputable def k7 (l : Nat) (K : VK) (y7 : Value) (w : World) : Prop := nav (ann l) Try.prog 30 (fun c Q => vcCode (ann l) Try.prog 30 c Q [(7, y7)] w) [0, 1] F20.bd3 (top l K)
attribute [irreducible] k7
end R20_3
theorem R20_3.k7.to {l : Nat} {K : VK} {y7 : Value} {w : World} (h : (C.load1 y7 w fun x28_1 w1 =>
  C.int .add x28_1 (.int .i64 1) w1 fun x29_2 w2 =>
  C.store 1 y7 x29_2 w2 fun w3 =>
  C.endr l none true (.ready) w3 K)) : R20_3.k7 l K y7 w := Eq.mpr (by kernel_rfl) h
theorem R20_3.yield {l : Nat} {r : Loop} {K : VK} {y3 y6 y7 a13 a14 : Value} {w : World} (hr : w.heap[l]? = some (.loop r)) (hn : r.tmps.size = 30) (hp : r.params = #[13, 14]) (ha : r.assign = F20.as3) (hb : r.body = F20.bd3)
    (he : ∀ t v, lkT [(3, y3), (6, y6), (7, y7)] t = some v → r.tmps[t]? = some v) (h : (C.new (.cells #[.int .i64 0, .int .i64 0, .int .i64 0, .int .i64 0, .int .i64 0, .int .i64 0, .int .i64 0] 27) w fun x8_1 w1 =>
  C.store 7 x8_1 a13 w1 fun w2 =>
  C.new (.cells #[.int .i64 0, .int .i64 0, .int .i64 0, .int .i64 0, .int .i64 0] 31) w2 fun x9_3 w3 =>
  C.store 5 x9_3 a14 w3 fun w4 =>
  C.begin l w4 fun w5 =>
  C.field 0 x8_1 w5 fun x15_6 w6 =>
  C.load1 x15_6 w6 fun x16_7 w7 =>
  C.int .eql x16_7 (.int .i64 3) w7 fun x17_8 w8 =>
  C.guarded true x17_8 (fun K => C.field 3 x9_3 w8 K) w8 fun x19_9 w9 =>
  C.guarded true x17_8 (fun K => C.load1 x19_9 w9 K) w9 fun x20_10 w10 =>
  C.guarded true x17_8 (fun K => C.field 4 x9_3 w10 K) w10 fun x21_11 w11 =>
  C.guarded true x17_8 (fun K => C.load1 x21_11 w11 K) w11 fun x22_12 w12 =>
  C.guarded true x17_8 (fun K => C.int .add x20_10 x22_12 w12 K) w12 fun x23_13 w13 =>
  C.guarded true x17_8 (fun K => C.load1 y3 w13 K) w13 fun x24_14 w14 =>
  C.guarded true x17_8 (fun K => C.int .gtr x23_13 x24_14 w14 K) w14 fun x25_15 w15 =>
  C.pick (some x17_8) (some x25_15) (some (.bool false)) w15 fun x26_16 w16 =>
  C.ite x26_16 (C.load1 y7 w16 fun x27_17 w17 =>
  C.store 1 y6 x27_17 w17 fun w18 =>
  C.endr l (some .ret) false (.done) w18 K) (R20_3.k7 l K y7 w16))) : C.yield Try.prog l #[a13, a14] w K :=
  yield_of (A := R20_3.ann l) (env := [(3, y3), (6, y6), (7, y7)]) rfl hr hn (by rw [hp]; rfl) he rfl (by rw [hp]; decide) (by rw [ha, hb, hp]; exact Eq.mpr (by kernel_rfl) h)

/-! ### 21 scutage/audit.Worst (33, 3) -/
namespace F21
def ann : Ann := ⟨[(3, [0, 1]), (6, [0, 1, 5, 6, 11, 12, 13]), (9, [0, 1, 5, 6, 7, 11, 12, 13]), (11, [0, 1, 5, 6, 11, 12, 13]), (12, [0, 1, 5, 6, 11, 12, 13]), (13, [6])], [(5, [0, 1, 5, 6, 11, 12, 13])], [], [], none⟩
noncomputable def code : Code := match Try.f21.body with | some c => c | none => .skip
noncomputable def top (K : VK) : QE := retQ Try.prog Try.f21.results.toList K
noncomputable def k3 (K : VK) (y0 y1 : Value) (w : World) : Prop := nav ann Try.prog 39 (fun c Q => vcCode ann Try.prog 39 c Q [(0, y0), (1, y1)] w) [1, 1] code (top K)
attribute [irreducible] k3
noncomputable def k13 (K : VK) (y6 : Value) (w : World) : Prop := nav ann Try.prog 39 (fun c Q => vcCode ann Try.prog 39 c Q [(6, y6)] w) [1, 1, 1, 1] code (top K)
attribute [irreducible] k13
noncomputable def l5 (K : VK) (y0 y1 y5 y6 y11 y12 y13 : Value) (w : World) : Prop := nav ann Try.prog 39 (isLoop ann Try.prog 39 [(0, y0), (1, y1), (5, y5), (6, y6), (11, y11), (12, y12), (13, y13)] w) [1, 1, 1, 0, 1, 0] code (top K)
attribute [irreducible] l5
noncomputable def k6 (K : VK) (y0 y1 y5 y6 y11 y12 y13 : Value) (w : World) : Prop := nav ann Try.prog 39 (fun c Q => vcCode ann Try.prog 39 c Q [(0, y0), (1, y1), (5, y5), (6, y6), (11, y11), (12, y12), (13, y13)] w) [1, 1, 1, 0, 1, 0, 0, 1, 1] code (top K)
attribute [irreducible] k6
noncomputable def k12 (K : VK) (y0 y1 y5 y6 y11 y12 y13 : Value) (w : World) : Prop := nav ann Try.prog 39 (fun c Q => vcCode ann Try.prog 39 c Q [(0, y0), (1, y1), (5, y5), (6, y6), (11, y11), (12, y12), (13, y13)] w) [1, 1, 1, 0, 1, 0, 0, 1, 1, 1] code (top K)
attribute [irreducible] k12
noncomputable def k9 (K : VK) (y0 y1 y5 y6 y7 y11 y12 y13 : Value) (w : World) : Prop := nav ann Try.prog 39 (fun c Q => vcCode ann Try.prog 39 c Q [(0, y0), (1, y1), (5, y5), (6, y6), (7, y7), (11, y11), (12, y12), (13, y13)] w) [1, 1, 1, 0, 1, 0, 0, 1, 1, 0, 0, 1, 1] code (top K)
attribute [irreducible] k9
noncomputable def k11 (K : VK) (y0 y1 y5 y6 y11 y12 y13 : Value) (w : World) : Prop := nav ann Try.prog 39 (fun c Q => vcCode ann Try.prog 39 c Q [(0, y0), (1, y1), (5, y5), (6, y6), (11, y11), (12, y12), (13, y13)] w) [1, 1, 1, 0, 1, 0, 0, 1, 1, 0, 0, 1, 1, 1] code (top K)
attribute [irreducible] k11
end F21
theorem F21.k3.to {K : VK} {y0 y1 : Value} {w : World} (h : (C.len y0 w fun x12_1 w1 =>
  F21.l5 K y0 y1 (.int .i64 0) (.int .i64 0) y0 x12_1 (.int .i64 0) w1)) : F21.k3 K y0 y1 w := Eq.mpr (by kernel_rfl) h
theorem F21.k13.to {K : VK} {y6 : Value} {w : World} (h : (K y6 w)) : F21.k13 K y6 w := Eq.mpr (by kernel_rfl) h
theorem F21.l5.to {K : VK} {y0 y1 y5 y6 y11 y12 y13 : Value} {w : World} (h : (C.int .lss y13 y12 w fun x14_1 w1 =>
  C.ite x14_1 (F21.k6 K y0 y1 y5 y6 y11 y12 y13 w1) (F21.k13 K y6 w1))) : F21.l5 K y0 y1 y5 y6 y11 y12 y13 w := by unfold F21.l5; exact nav_round (Eq.mpr (by kernel_rfl) h)
theorem F21.k6.to {K : VK} {y0 y1 y5 y6 y11 y12 y13 : Value} {w : World} (h : (C.idx 1 y11 y13 w fun x16_1 w1 =>
  C.load1 x16_1 w1 fun x17_2 w2 =>
  C.ite x17_2 (C.int .add y5 (.int .i64 1) w2 fun x20_3 w3 =>
  F21.k9 K y0 y1 x20_3 y6 y13 y11 y12 y13 w3) (F21.k9 K y0 y1 y5 y6 y13 y11 y12 y13 w2))) : F21.k6 K y0 y1 y5 y6 y11 y12 y13 w := Eq.mpr (by kernel_rfl) h
theorem F21.k12.to {K : VK} {y0 y1 y5 y6 y11 y12 y13 : Value} {w : World} (h : (C.int .add y13 (.int .i64 1) w fun x37_1 w1 =>
  F21.l5 K y0 y1 y5 y6 y11 y12 x37_1 w1)) : F21.k12 K y0 y1 y5 y6 y11 y12 y13 w := Eq.mpr (by kernel_rfl) h
theorem F21.k9.to {K : VK} {y0 y1 y5 y6 y7 y11 y12 y13 : Value} {w : World} (h : (C.int .geq y7 y1 w fun x23_1 w1 =>
  C.guarded true x23_1 (fun K => K y0 w1) w1 fun x25_2 w2 =>
  C.guarded true x23_1 (fun K => K y7 w2) w2 fun x26_3 w3 =>
  C.guarded true x23_1 (fun K => K y1 w3) w3 fun x27_4 w4 =>
  C.guarded true x23_1 (fun K => C.int .sub x26_3 x27_4 w4 K) w4 fun x28_5 w5 =>
  C.guarded true x23_1 (fun K => C.idx 1 x25_2 x28_5 w5 K) w5 fun x29_6 w6 =>
  C.guarded true x23_1 (fun K => C.load1 x29_6 w6 K) w6 fun x30_7 w7 =>
  C.pick (some x23_1) (some x30_7) (some (.bool false)) w7 fun x31_8 w8 =>
  C.ite x31_8 (C.int .sub y5 (.int .i64 1) w8 fun x33_9 w9 =>
  F21.k11 K y0 y1 x33_9 y6 y11 y12 y13 w9) (F21.k11 K y0 y1 y5 y6 y11 y12 y13 w8))) : F21.k9 K y0 y1 y5 y6 y7 y11 y12 y13 w := Eq.mpr (by kernel_rfl) h
theorem F21.k11.to {K : VK} {y0 y1 y5 y6 y11 y12 y13 : Value} {w : World} (h : (C.run Try.prog (Builtin.max_ #[3, 3] 3 #[y6, y5]) w fun x36_1 w1 =>
  F21.k12 K y0 y1 y5 x36_1 y11 y12 y13 w1)) : F21.k11 K y0 y1 y5 y6 y11 y12 y13 w := Eq.mpr (by kernel_rfl) h
theorem F21.sh {K : VK} {x0 x1 : Value} {w : World} (h : (C.int .lss x1 (.int .i64 1) w fun x10_1 w1 =>
  C.ite x10_1 (K (.int .i64 0) w1) (F21.k3 K x0 x1 w1))) : C.call Try.prog 21 #[x0, x1] w K := calls_of_vc (A := F21.ann) (args := [x0, x1]) (Eq.mpr (by kernel_rfl) h)

/-! ### 22 scutage/audit.Bank (3, 22, 23) -/
namespace F22
def ann : Ann := ⟨[(9, [6, 7, 4294967291])], [], [], [(9, (.take 0 (.take 2 (.take 4 (.take 6 (.go 1 (.go 3 (.go 5 (.go 7 (.take 8 (.go 9 .fin .fin)) .fin) .fin) .fin) .fin))))))], none⟩
noncomputable def code : Code := match Try.f22.body with | some c => c | none => .skip
noncomputable def top (K : VK) : QE := retQ Try.prog Try.f22.results.toList K
noncomputable def as3 : Code := asOf (codeAt [1, 1, 0, 1, 0] code)
noncomputable def bd3 : Code := bdOf (codeAt [1, 1, 0, 1, 0] code)
noncomputable def k9 (K : VK) (y6 y7 y4294967291 : Value) (w : World) : Prop := nav ann Try.prog 52 (fun c Q => vcCode ann Try.prog 52 c Q [(6, y6), (7, y7), (4294967291, y4294967291)] w) [1, 1, 1] code (top K)
attribute [irreducible] k9
end F22
theorem F22.k9.to {K : VK} {y6 y7 y4294967291 : Value} {w : World} (h : (C.draw w fun S w1 =>
  C.load1S S y7 w1 fun x43_2 w2 =>
  C.load1S S y7 w2 fun x45_3 w3 =>
  C.load1S S y7 w3 fun x47_4 w4 =>
  C.load1S S y7 w4 fun x49_5 w5 =>
  (C.call Try.prog 58 #[x43_2] w5 fun x44_6 w6 =>
  (S w6 ∧
  (C.call Try.prog 59 #[x45_3] w6 fun x46_7 w7 =>
  (S w7 ∧
  (C.call Try.prog 60 #[x47_4] w7 fun x48_8 w8 =>
  (S w8 ∧
  (C.call Try.prog 61 #[x49_5] w8 fun x50_9 w9 =>
  (S w9 ∧
  ∃ x51_10, (∀ w', S w' → (Instr.build 40 #[(0, x44_6), (1, x46_7), (2, x48_8), (3, x50_9)]).run Try.prog w' = .ok x51_10 w') ∧ ((C.store 4 y6 x51_10 w9 fun w11 =>
  (S w11 ∧
  C.leave y4294967291 w11 fun w12 =>
  C.loadA 4 y6 w12 fun r13 _ =>
  K r13 w12)) ∧ True))) ∧ True)) ∧ True)) ∧ True)) ∧ True)) : F22.k9 K y6 y7 y4294967291 w := Eq.mpr (by kernel_rfl) h
theorem F22.sh {K : VK} {x0 x1 x2 : Value} {w : World} (h : (C.new (.cells #[.int .i64 0, .int .i64 0, .int .i64 0, .int .i64 0] 40) w fun x6_1 w1 =>
  C.call Try.prog 55 #[x0] w1 fun x11_2 w2 =>
  C.new (.cells #[.pointer none] 70) w2 fun x7_3 w3 =>
  C.store 1 x7_3 x11_2 w3 fun w4 =>
  C.call Try.prog 54 #[x1, x2] w4 fun x14_5 w5 =>
  C.range Try.prog 52 x14_5 #[15, 16] F22.as3 F22.bd3 [(14, x14_5), (13, x2), (12, x1), (7, x7_3), (11, x11_2), (10, x0), (6, x6_1), (0, x0), (1, x1), (2, x2)] w5 fun D6 j w6 =>
  C.left j (F22.k9 K x6_1 x7_3 (.int .i64 (D6 : Int)) w6) (C.leave (.int .i64 (D6 : Int)) w6 fun w7 =>
  C.loadA 4 x6_1 w7 fun r8 _ =>
  K r8 w7) (fun id => cond (Nat.beq id 0) (F22.k9 K x6_1 x7_3 (.int .i64 (D6 : Int)) w6) (False)))) : C.call Try.prog 22 #[x0, x1, x2] w K := calls_of_vc (A := F22.ann) (args := [x0, x1, x2]) (Eq.mpr (by kernel_rfl) h)
namespace R22_3
def ann (l : Nat) : Ann := ⟨[], [], [], [], some l⟩
noncomputable def top (l : Nat) (K : VK) : QE := roundQ l K
end R22_3
theorem R22_3.yield {l : Nat} {r : Loop} {K : VK} {y7 a15 a16 : Value} {w : World} (hr : w.heap[l]? = some (.loop r)) (hn : r.tmps.size = 52) (hp : r.params = #[15, 16]) (ha : r.assign = F22.as3) (hb : r.body = F22.bd3)
    (he : ∀ t v, lkT [(7, y7)] t = some v → r.tmps[t]? = some v) (h : (C.new (.cells #[.int .i64 0, .int .i64 0, .int .i64 0, .int .i64 0, .int .i64 0, .int .i64 0, .int .i64 0] 27) w fun x8_1 w1 =>
  C.store 7 x8_1 a15 w1 fun w2 =>
  C.new (.cells #[.int .i64 0, .int .i64 0, .int .i64 0, .int .i64 0, .int .i64 0] 31) w2 fun x9_3 w3 =>
  C.store 5 x9_3 a16 w3 fun w4 =>
  C.begin l w4 fun w5 =>
  C.field 0 x8_1 w5 fun x18_6 w6 =>
  C.load1 x18_6 w6 fun x19_7 w7 =>
  C.int .eql x19_7 (.int .i64 3) w7 fun x20_8 w8 =>
  C.ite x20_8 (C.load1 y7 w8 fun x21_9 w9 =>
  C.field 4 x9_3 w9 fun x22_10 w10 =>
  C.load1 x22_10 w10 fun x23_11 w11 =>
  C.call Try.prog 56 #[x21_9, x23_11] w11 fun x24_12 w12 =>
  C.endr l none true (.ready) w12 K) (C.field 0 x8_1 w8 fun x26_13 w13 =>
  C.load1 x26_13 w13 fun x27_14 w14 =>
  C.int .eql x27_14 (.int .i64 15) w14 fun x28_15 w15 =>
  C.guarded false x28_15 (fun K => C.field 0 x8_1 w15 K) w15 fun x30_16 w16 =>
  C.guarded false x28_15 (fun K => C.load1 x30_16 w16 K) w16 fun x31_17 w17 =>
  C.guarded false x28_15 (fun K => C.int .eql x31_17 (.int .i64 16) w17 K) w17 fun x32_18 w18 =>
  C.pick (some x28_15) (some (.bool true)) (some x32_18) w18 fun x33_19 w19 =>
  C.guarded true x33_19 (fun K => C.field 0 x9_3 w19 K) w19 fun x35_20 w20 =>
  C.guarded true x33_19 (fun K => C.load1 x35_20 w20 K) w20 fun x36_21 w21 =>
  C.guarded true x33_19 (fun K => C.int .eql x36_21 (.int .i64 0) w21 K) w21 fun x37_22 w22 =>
  C.pick (some x33_19) (some x37_22) (some (.bool false)) w22 fun x38_23 w23 =>
  C.ite x38_23 (C.load1 y7 w23 fun x39_24 w24 =>
  C.field 3 x9_3 w24 fun x40_25 w25 =>
  C.load1 x40_25 w25 fun x41_26 w26 =>
  C.call Try.prog 57 #[x39_24, x41_26] w26 fun x42_27 w27 =>
  C.endr l none true (.ready) w27 K) (C.endr l none true (.ready) w23 K)))) : C.yield Try.prog l #[a15, a16] w K :=
  yield_of (A := R22_3.ann l) (env := [(7, y7)]) rfl hr hn (by rw [hp]; rfl) he rfl (by rw [hp]; decide) (by rw [ha, hb, hp]; exact Eq.mpr (by kernel_rfl) h)

/-! ### 52 scutage/audit.Letters$1 (3, 4) -/
namespace F52
def ann : Ann := ⟨[], [], [], [(0, (.take 1 (.take 3 (.go 0 (.go 2 (.go 4 (.go 5 (.go 6 .fin .fin) .fin) .fin) .fin) (.go 2 (.go 0 (.go 4 (.go 5 (.go 6 .fin .fin) .fin) .fin) (.go 4 (.go 0 (.go 5 (.go 6 .fin .fin) .fin) .fin) .fin)) .fin)))))], none⟩
noncomputable def code : Code := match Try.f52.body with | some c => c | none => .skip
noncomputable def top (K : VK) : QE := retQ Try.prog Try.f52.results.toList K
end F52
theorem F52.sh {K : VK} {x0 x1 x2 : Value} {w : World} (h : (C.draw w fun S w1 =>
  (C.load1 x2 w1 fun x5_11 w11 =>
  (S w11 ∧
  (C.run Try.prog (Instr.buildSlice 33 1 #[(0, x1)]) w11 fun x7_12 w12 =>
  (S w12 ∧
  (C.call Try.prog 53 #[x7_12, x0] w12 fun x9_13 w13 =>
  (S w13 ∧
  (C.run Try.prog (Builtin.append_ #[33, 33] 33 #[x5_11, x9_13]) w13 fun x10_14 w14 =>
  (S w14 ∧
  (C.store 1 x2 x10_14 w14 fun w15 =>
  (S w15 ∧
  K (.tuple #[]) w15)) ∧ True)) ∧ True)) ∧ True)) ∧ True)) ∧ ((C.run Try.prog (Instr.buildSlice 33 1 #[(0, x1)]) w1 fun x7_2 w2 =>
  (S w2 ∧
  (C.load1 x2 w2 fun x5_7 w7 =>
  (S w7 ∧
  (C.call Try.prog 53 #[x7_2, x0] w7 fun x9_8 w8 =>
  (S w8 ∧
  (C.run Try.prog (Builtin.append_ #[33, 33] 33 #[x5_7, x9_8]) w8 fun x10_9 w9 =>
  (S w9 ∧
  (C.store 1 x2 x10_9 w9 fun w10 =>
  (S w10 ∧
  K (.tuple #[]) w10)) ∧ True)) ∧ True)) ∧ True)) ∧ ((C.call Try.prog 53 #[x7_2, x0] w2 fun x9_3 w3 =>
  (S w3 ∧
  (C.load1 x2 w3 fun x5_4 w4 =>
  (S w4 ∧
  (C.run Try.prog (Builtin.append_ #[33, 33] 33 #[x5_4, x9_3]) w4 fun x10_5 w5 =>
  (S w5 ∧
  (C.store 1 x2 x10_5 w5 fun w6 =>
  (S w6 ∧
  K (.tuple #[]) w6)) ∧ True)) ∧ True)) ∧ True)) ∧ True))) ∧ True))) : C.call Try.prog 52 #[x0, x1, x2] w K := calls_of_vc (A := F52.ann) (args := [x0, x1, x2]) (Eq.mpr (by kernel_rfl) h)

/-! ### 53 slices.Repeat[[]bool,bool] (33, 3) -/
namespace F53
def ann : Ann := ⟨[(3, [0, 1]), (6, [0, 6]), (9, [7, 8]), (10, [7])], [(8, [7, 8])], [], [(9, (.take 0 (.take 1 (.take 2 (.take 4 (.take 5 (.take 3 (.take 6 (.go 7 (.take 8 (.take 9 .fin)) .fin)))))))))], none⟩
noncomputable def code : Code := match Try.f53.body with | some c => c | none => .skip
noncomputable def top (K : VK) : QE := retQ Try.prog Try.f53.results.toList K
noncomputable def k3 (K : VK) (y0 y1 : Value) (w : World) : Prop := nav ann Try.prog 48 (fun c Q => vcCode ann Try.prog 48 c Q [(0, y0), (1, y1)] w) [1, 1] code (top K)
attribute [irreducible] k3
noncomputable def k6 (K : VK) (y0 y6 : Value) (w : World) : Prop := nav ann Try.prog 48 (fun c Q => vcCode ann Try.prog 48 c Q [(0, y0), (6, y6)] w) [1, 1, 1, 1] code (top K)
attribute [irreducible] k6
noncomputable def k10 (K : VK) (y7 : Value) (w : World) : Prop := nav ann Try.prog 48 (fun c Q => vcCode ann Try.prog 48 c Q [(7, y7)] w) [1, 1, 1, 1, 1, 1, 1] code (top K)
attribute [irreducible] k10
noncomputable def l8 (K : VK) (y7 y8 : Value) (w : World) : Prop := nav ann Try.prog 48 (isLoop ann Try.prog 48 [(7, y7), (8, y8)] w) [1, 1, 1, 1, 1, 1, 0, 0] code (top K)
attribute [irreducible] l8
noncomputable def k9 (K : VK) (y7 y8 : Value) (w : World) : Prop := nav ann Try.prog 48 (fun c Q => vcCode ann Try.prog 48 c Q [(7, y7), (8, y8)] w) [1, 1, 1, 1, 1, 1, 0, 0, 0, 1] code (top K)
attribute [irreducible] k9
end F53
theorem F53.k3.to {K : VK} {y0 y1 : Value} {w : World} (h : (C.len y0 w fun x14_1 w1 =>
  C.conv .u64 x14_1 w1 fun x15_2 w2 =>
  C.conv .u64 y1 w2 fun x17_3 w3 =>
  C.call Try.prog 83 #[x15_2, x17_3] w3 fun x18_4 w4 =>
  C.ext 0 x18_4 w4 fun x19_5 w5 =>
  C.ext 1 x18_4 w5 fun x20_6 w6 =>
  C.int .gtr x19_5 (.int .u64 0) w6 fun x22_7 w7 =>
  C.guarded false x22_7 (fun K => K x20_6 w7) w7 fun x24_8 w8 =>
  C.guarded false x22_7 (fun K => C.int .gtr x24_8 (.int .u64 9223372036854775807) w8 K) w8 fun x25_9 w9 =>
  C.pick (some x22_7) (some (.bool true)) (some x25_9) w9 fun x26_10 w10 =>
  C.ite x26_10 (C.run Try.prog (Instr.makeInterface 9 (.string { data := #[116, 104, 101, 32, 114, 101, 115, 117, 108, 116, 32, 111, 102, 32, 40, 108, 101, 110, 40, 120, 41, 32, 42, 32, 99, 111, 117, 110, 116, 41, 32, 111, 118, 101, 114, 102, 108, 111, 119, 115] })) w10 fun x27_11 w11 =>
  False) (F53.k6 K y0 x20_6 w10))) : F53.k3 K y0 y1 w := Eq.mpr (by kernel_rfl) h
theorem F53.k6.to {K : VK} {y0 y6 : Value} {w : World} (h : (C.conv .i64 y6 w fun x29_1 w1 =>
  C.run Try.prog (Instr.makeSlice 33 x29_1 x29_1) w1 fun x30_2 w2 =>
  C.run Try.prog (Builtin.copy_ #[33, 33] 3 #[x30_2, y0]) w2 fun x33_3 w3 =>
  F53.l8 K x30_2 x33_3 w3)) : F53.k6 K y0 y6 w := Eq.mpr (by kernel_rfl) h
theorem F53.k10.to {K : VK} {y7 : Value} {w : World} (h : (K y7 w)) : F53.k10 K y7 w := Eq.mpr (by kernel_rfl) h
theorem F53.l8.to {K : VK} {y7 y8 : Value} {w : World} (h : (C.len y7 w fun x36_1 w1 =>
  C.int .lss y8 x36_1 w1 fun x37_2 w2 =>
  C.ite x37_2 (F53.k9 K y7 y8 w2) (F53.k10 K y7 w2))) : F53.l8 K y7 y8 w := by unfold F53.l8; exact nav_round (Eq.mpr (by kernel_rfl) h)
theorem F53.k9.to {K : VK} {y7 y8 : Value} {w : World} (h : (C.draw w fun S w1 =>
  ∃ x41_2, (∀ w', S w' → (Instr.sliceAt 33 y7 (some y8) none none).run Try.prog w' = .ok x41_2 w') ∧ (∃ x44_3, (∀ w', S w' → (Instr.sliceAt 33 y7 none (some y8) none).run Try.prog w' = .ok x44_3 w') ∧ ((C.run Try.prog (Builtin.copy_ #[33, 33] 3 #[x41_2, x44_3]) w1 fun x45_4 w4 =>
  (S w4 ∧
  C.int .add y8 x45_4 w4 fun x46_5 w5 =>
  F53.l8 K y7 x46_5 w5)) ∧ True)))) : F53.k9 K y7 y8 w := Eq.mpr (by kernel_rfl) h
theorem F53.sh {K : VK} {x0 x1 : Value} {w : World} (h : (C.int .lss x1 (.int .i64 0) w fun x10_1 w1 =>
  C.ite x10_1 (C.run Try.prog (Instr.makeInterface 9 (.string { data := #[99, 97, 110, 110, 111, 116, 32, 98, 101, 32, 110, 101, 103, 97, 116, 105, 118, 101] })) w1 fun x11_2 w2 =>
  False) (F53.k3 K x0 x1 w1))) : C.call Try.prog 53 #[x0, x1] w K := calls_of_vc (A := F53.ann) (args := [x0, x1]) (Eq.mpr (by kernel_rfl) h)

/-! ### 54 scutage/audit.both (22, 23) -/
namespace F54
def ann : Ann := ⟨[], [], [], [], none⟩
noncomputable def code : Code := match Try.f54.body with | some c => c | none => .skip
noncomputable def top (K : VK) : QE := retQ Try.prog Try.f54.results.toList K
end F54
theorem F54.sh {K : VK} {x0 x1 : Value} {w : World} (h : (C.new (.cells (Value.cells x0) 22) w fun x2_1 w1 =>
  C.new (.cells (Value.cells x1) 23) w1 fun x3_2 w2 =>
  K (.func (.func 84) #[] #[x2_1, x3_2]) w2)) : C.call Try.prog 54 #[x0, x1] w K := calls_of_vc (A := F54.ann) (args := [x0, x1]) (Eq.mpr (by kernel_rfl) h)

/-! ### 55 scutage/bank.New (3) -/
namespace F55
def ann : Ann := ⟨[], [], [], [], none⟩
noncomputable def code : Code := match Try.f55.body with | some c => c | none => .skip
noncomputable def top (K : VK) : QE := retQ Try.prog Try.f55.results.toList K
end F55
theorem F55.sh {K : VK} {x0 : Value} {w : World} (h : (C.call Try.prog 85 #[x0, (.int .i64 0), (.int .i64 65535)] w fun x4_1 w1 =>
  C.run Try.prog (Instr.build 95 #[(1, (.bool true)), (2, x4_1)]) w1 fun x5_2 w2 =>
  C.new (.cells (Value.cells x5_2) 95) w2 fun x6_3 w3 =>
  K x6_3 w3)) : C.call Try.prog 55 #[x0] w K := calls_of_vc (A := F55.ann) (args := [x0]) (Eq.mpr (by kernel_rfl) h)

/-! ### 56 (*scutage/bank.Bank).Spend (70, 3) -/
namespace F56
def ann : Ann := ⟨[(3, [0, 1])], [], [], [], none⟩
noncomputable def code : Code := match Try.f56.body with | some c => c | none => .skip
noncomputable def top (K : VK) : QE := retQ Try.prog Try.f56.results.toList K
noncomputable def k3 (K : VK) (y0 y1 : Value) (w : World) : Prop := nav ann Try.prog 23 (fun c Q => vcCode ann Try.prog 23 c Q [(0, y0), (1, y1)] w) [1, 1] code (top K)
attribute [irreducible] k3
end F56
theorem F56.k3.to {K : VK} {y0 y1 : Value} {w : World} (h : (C.call Try.prog 58 #[y0] w fun x10_1 w1 =>
  C.call Try.prog 85 #[y1, (.int .i64 0), x10_1] w1 fun x11_2 w2 =>
  C.nilCheck y0 w2 fun x13_3 w3 =>
  C.field 0 x13_3 w3 fun x14_4 w4 =>
  C.field 1 x14_4 w4 fun x15_5 w5 =>
  C.load1 x15_5 w5 fun x16_6 w6 =>
  C.int .add x16_6 x11_2 w6 fun x18_7 w7 =>
  C.nilCheck y0 w7 fun x19_8 w8 =>
  C.field 0 x19_8 w8 fun x20_9 w9 =>
  C.field 1 x20_9 w9 fun x21_10 w10 =>
  C.store 1 x21_10 x18_7 w10 fun w11 =>
  K x11_2 w11)) : F56.k3 K y0 y1 w := Eq.mpr (by kernel_rfl) h
theorem F56.sh {K : VK} {x0 x1 : Value} {w : World} (h : (C.call Try.prog 86 #[x0] w fun x6_1 w1 =>
  C.not x6_1 w1 fun x7_2 w2 =>
  C.ite x7_2 (K (.int .i64 0) w2) (F56.k3 K x0 x1 w2))) : C.call Try.prog 56 #[x0, x1] w K := calls_of_vc (A := F56.ann) (args := [x0, x1]) (Eq.mpr (by kernel_rfl) h)

/-! ### 57 (*scutage/bank.Bank).Put (70, 3) -/
namespace F57
def ann : Ann := ⟨[(3, [0, 1])], [], [], [(4, (.take 0 (.take 1 (.take 2 (.take 3 (.take 5 (.take 4 (.go 6 (.take 7 (.take 8 (.take 9 .fin))) .fin))))))))], none⟩
noncomputable def code : Code := match Try.f57.body with | some c => c | none => .skip
noncomputable def top (K : VK) : QE := retQ Try.prog Try.f57.results.toList K
noncomputable def k3 (K : VK) (y0 y1 : Value) (w : World) : Prop := nav ann Try.prog 43 (fun c Q => vcCode ann Try.prog 43 c Q [(0, y0), (1, y1)] w) [1, 1] code (top K)
attribute [irreducible] k3
end F57
theorem F57.k3.to {K : VK} {y0 y1 : Value} {w : World} (h : (C.call Try.prog 85 #[y1, (.int .i64 0), (.int .i64 2147483648)] w fun x10_1 w1 =>
  C.draw w1 fun S w2 =>
  C.nilCheck y0 w2 fun x13_3 w3 =>
  C.field 4 x13_3 w3 fun x14_4 w4 =>
  C.load1S S x14_4 w4 fun x15_5 w5 =>
  (C.call Try.prog 58 #[y0] w5 fun x17_6 w6 =>
  (S w6 ∧
  C.int .sub x15_5 x17_6 w6 fun x18_7 w7 =>
  ∃ x19_8, (∀ w', S w' → (builtin .min #[3, 3] 3 #[false, false] #[x10_1, x18_7]).run Try.prog w' = .ok (.value x19_8) w') ∧ (C.nilCheck y0 w7 fun x21_9 w9 =>
  C.field 0 x21_9 w9 fun x22_10 w10 =>
  C.field 0 x22_10 w10 fun x23_11 w11 =>
  C.load1 x23_11 w11 fun x24_12 w12 =>
  C.int .add x24_12 x19_8 w12 fun x26_13 w13 =>
  C.nilCheck y0 w13 fun x27_14 w14 =>
  C.field 0 x27_14 w14 fun x28_15 w15 =>
  C.field 0 x28_15 w15 fun x29_16 w16 =>
  C.store 1 x29_16 x26_13 w16 fun w17 =>
  C.nilCheck y0 w17 fun x31_18 w18 =>
  C.field 0 x31_18 w18 fun x32_19 w19 =>
  C.field 2 x32_19 w19 fun x33_20 w20 =>
  C.load1 x33_20 w20 fun x34_21 w21 =>
  C.int .sub x10_1 x19_8 w21 fun x37_22 w22 =>
  C.int .add x34_21 x37_22 w22 fun x38_23 w23 =>
  C.nilCheck y0 w23 fun x39_24 w24 =>
  C.field 0 x39_24 w24 fun x40_25 w25 =>
  C.field 2 x40_25 w25 fun x41_26 w26 =>
  C.store 1 x41_26 x38_23 w26 fun w27 =>
  K x19_8 w27))) ∧ True)) : F57.k3 K y0 y1 w := Eq.mpr (by kernel_rfl) h
theorem F57.sh {K : VK} {x0 x1 : Value} {w : World} (h : (C.call Try.prog 86 #[x0] w fun x7_1 w1 =>
  C.not x7_1 w1 fun x8_2 w2 =>
  C.ite x8_2 (K (.int .i64 0) w2) (F57.k3 K x0 x1 w2))) : C.call Try.prog 57 #[x0, x1] w K := calls_of_vc (A := F57.ann) (args := [x0, x1]) (Eq.mpr (by kernel_rfl) h)

/-! ### 58 (*scutage/bank.Bank).Balance (70) -/
namespace F58
def ann : Ann := ⟨[], [], [], [], none⟩
noncomputable def code : Code := match Try.f58.body with | some c => c | none => .skip
noncomputable def top (K : VK) : QE := retQ Try.prog Try.f58.results.toList K
end F58
theorem F58.sh {K : VK} {x0 : Value} {w : World} (h : (C.call Try.prog 87 #[x0] w fun x4_1 w1 =>
  C.call Try.prog 88 #[x4_1] w1 fun x5_2 w2 =>
  K x5_2 w2)) : C.call Try.prog 58 #[x0] w K := calls_of_vc (A := F58.ann) (args := [x0]) (Eq.mpr (by kernel_rfl) h)

/-! ### 59 (*scutage/bank.Bank).In (70) -/
namespace F59
def ann : Ann := ⟨[], [], [], [], none⟩
noncomputable def code : Code := match Try.f59.body with | some c => c | none => .skip
noncomputable def top (K : VK) : QE := retQ Try.prog Try.f59.results.toList K
end F59
theorem F59.sh {K : VK} {x0 : Value} {w : World} (h : (C.call Try.prog 87 #[x0] w fun x4_1 w1 =>
  C.call Try.prog 89 #[x4_1] w1 fun x5_2 w2 =>
  K x5_2 w2)) : C.call Try.prog 59 #[x0] w K := calls_of_vc (A := F59.ann) (args := [x0]) (Eq.mpr (by kernel_rfl) h)

/-! ### 60 (*scutage/bank.Bank).Out (70) -/
namespace F60
def ann : Ann := ⟨[], [], [], [], none⟩
noncomputable def code : Code := match Try.f60.body with | some c => c | none => .skip
noncomputable def top (K : VK) : QE := retQ Try.prog Try.f60.results.toList K
end F60
theorem F60.sh {K : VK} {x0 : Value} {w : World} (h : (C.call Try.prog 87 #[x0] w fun x4_1 w1 =>
  C.call Try.prog 90 #[x4_1] w1 fun x5_2 w2 =>
  K x5_2 w2)) : C.call Try.prog 60 #[x0] w K := calls_of_vc (A := F60.ann) (args := [x0]) (Eq.mpr (by kernel_rfl) h)

/-! ### 61 (*scutage/bank.Bank).Lost (70) -/
namespace F61
def ann : Ann := ⟨[], [], [], [], none⟩
noncomputable def code : Code := match Try.f61.body with | some c => c | none => .skip
noncomputable def top (K : VK) : QE := retQ Try.prog Try.f61.results.toList K
end F61
theorem F61.sh {K : VK} {x0 : Value} {w : World} (h : (C.call Try.prog 87 #[x0] w fun x4_1 w1 =>
  C.call Try.prog 91 #[x4_1] w1 fun x5_2 w2 =>
  K x5_2 w2)) : C.call Try.prog 61 #[x0] w K := calls_of_vc (A := F61.ann) (args := [x0]) (Eq.mpr (by kernel_rfl) h)

/-! ### 83 math/bits.Mul (88, 88) -/
namespace F83
def ann : Ann := ⟨[(3, [0, 1])], [], [], [], none⟩
noncomputable def code : Code := match Try.f83.body with | some c => c | none => .skip
noncomputable def top (K : VK) : QE := retQ Try.prog Try.f83.results.toList K
noncomputable def k3 (K : VK) (y0 y1 : Value) (w : World) : Prop := nav ann Try.prog 30 (fun c Q => vcCode ann Try.prog 30 c Q [(0, y0), (1, y1)] w) [1, 1] code (top K)
attribute [irreducible] k3
end F83
theorem F83.k3.to {K : VK} {y0 y1 : Value} {w : World} (h : (C.call Try.prog 108 #[y0, y1] w fun x25_1 w1 =>
  C.ext 0 x25_1 w1 fun x26_2 w2 =>
  C.ext 1 x25_1 w2 fun x27_3 w3 =>
  K (.tuple #[x26_2, x27_3]) w3)) : F83.k3 K y0 y1 w := Eq.mpr (by kernel_rfl) h
theorem F83.sh {K : VK} {x0 x1 : Value} {w : World} (h : (C.ite (.bool false) (C.conv .u32 x0 w fun x12_1 w1 =>
  C.conv .u32 x1 w1 fun x14_2 w2 =>
  C.call Try.prog 107 #[x12_1, x14_2] w2 fun x15_3 w3 =>
  C.ext 0 x15_3 w3 fun x16_4 w4 =>
  C.ext 1 x15_3 w4 fun x17_5 w5 =>
  C.conv .u64 x16_4 w5 fun x19_6 w6 =>
  C.conv .u64 x17_5 w6 fun x21_7 w7 =>
  K (.tuple #[x19_6, x21_7]) w7) (F83.k3 K x0 x1 w))) : C.call Try.prog 83 #[x0, x1] w K := calls_of_vc (A := F83.ann) (args := [x0, x1]) (Eq.mpr (by kernel_rfl) h)

/-! ### 84 scutage/audit.both$1 (91) -/
namespace F84
def ann : Ann := ⟨[(2, [0, 1, 2, 11, 12]), (4, [0, 1, 2, 5, 6, 11, 12]), (6, [0, 1, 2, 5, 6, 11, 12]), (7, [0, 1, 2, 11, 12])], [(1, [0, 1, 2, 11, 12])], [], [(3, (.take 1 (.take 5 (.take 0 (.take 2 (.take 3 (.take 4 (.take 6 (.take 7 (.go 8 (.go 9 (.go 10 (.go 11 .fin .fin) .fin) .fin) (.go 9 (.go 8 (.go 10 (.go 11 .fin .fin) .fin) .fin) .fin))))))))))), (5, (.take 0 (.take 3 (.go 1 (.go 2 (.go 4 (.take 6 (.go 5 (.go 7 (.take 8 (.go 9 .fin .fin)) .fin) .fin)) .fin) (.go 4 (.go 2 (.take 6 (.go 5 (.go 7 (.take 8 (.go 9 .fin .fin)) .fin) .fin)) .fin) .fin)) (.go 4 (.go 1 (.go 2 (.take 6 (.go 5 (.go 7 (.take 8 (.go 9 .fin .fin)) .fin) .fin)) .fin) .fin) .fin)))))], none⟩
noncomputable def code : Code := match Try.f84.body with | some c => c | none => .skip
noncomputable def top (K : VK) : QE := retQ Try.prog Try.f84.results.toList K
noncomputable def l1 (K : VK) (y0 y1 y2 y11 y12 : Value) (w : World) : Prop := nav ann Try.prog 41 (isLoop ann Try.prog 41 [(0, y0), (1, y1), (2, y2), (11, y11), (12, y12)] w) [1, 0] code (top K)
attribute [irreducible] l1
noncomputable def k2 (K : VK) (y0 y1 y2 y11 y12 : Value) (w : World) : Prop := nav ann Try.prog 41 (fun c Q => vcCode ann Try.prog 41 c Q [(0, y0), (1, y1), (2, y2), (11, y11), (12, y12)] w) [1, 0, 0, 1, 1] code (top K)
attribute [irreducible] k2
noncomputable def k7 (K : VK) (y0 y1 y2 y11 y12 : Value) (w : World) : Prop := nav ann Try.prog 41 (fun c Q => vcCode ann Try.prog 41 c Q [(0, y0), (1, y1), (2, y2), (11, y11), (12, y12)] w) [1, 0, 0, 1, 1, 1] code (top K)
attribute [irreducible] k7
noncomputable def k4 (K : VK) (y0 y1 y2 y5 y6 y11 y12 : Value) (w : World) : Prop := nav ann Try.prog 41 (fun c Q => vcCode ann Try.prog 41 c Q [(0, y0), (1, y1), (2, y2), (5, y5), (6, y6), (11, y11), (12, y12)] w) [1, 0, 0, 1, 1, 0, 0, 1, 1] code (top K)
attribute [irreducible] k4
noncomputable def k6 (K : VK) (y0 y1 y2 y5 y6 y11 y12 : Value) (w : World) : Prop := nav ann Try.prog 41 (fun c Q => vcCode ann Try.prog 41 c Q [(0, y0), (1, y1), (2, y2), (5, y5), (6, y6), (11, y11), (12, y12)] w) [1, 0, 0, 1, 1, 0, 0, 1, 1, 1, 1] code (top K)
attribute [irreducible] k6
end F84
theorem F84.l1.to {K : VK} {y0 y1 y2 y11 y12 : Value} {w : World} (h : (C.int .lss y12 y11 w fun x13_1 w1 =>
  C.ite x13_1 (F84.k2 K y0 y1 y2 y11 y12 w1) (K (.tuple #[]) w1))) : F84.l1 K y0 y1 y2 y11 y12 w := by unfold F84.l1; exact nav_round (Eq.mpr (by kernel_rfl) h)
theorem F84.k2.to {K : VK} {y0 y1 y2 y11 y12 : Value} {w : World} (h : (C.draw w fun S w1 =>
  C.load1S S y1 w1 fun x15_2 w2 =>
  C.idx 7 x15_2 y12 w2 fun x17_3 w3 =>
  C.loadAS S 7 x17_3 w3 fun x18_4 w4 =>
  C.load1S S y2 w4 fun x19_5 w5 =>
  C.idx 5 x19_5 y12 w5 fun x21_6 w6 =>
  C.loadAS S 5 x21_6 w6 fun x22_7 w7 =>
  (C.new (.cells #[.int .i64 0, .int .i64 0, .int .i64 0, .int .i64 0, .int .i64 0, .int .i64 0, .int .i64 0] 27) w7 fun x5_12 w12 =>
  (S w12 ∧
  (C.new (.cells #[.int .i64 0, .int .i64 0, .int .i64 0, .int .i64 0, .int .i64 0] 31) w12 fun x6_13 w13 =>
  (S w13 ∧
  (C.store 7 x5_12 x18_4 w13 fun w14 =>
  (S w14 ∧
  (C.store 5 x6_13 x22_7 w14 fun w15 =>
  (S w15 ∧
  F84.k4 K y0 y1 y2 x5_12 x6_13 y11 y12 w15)) ∧ True)) ∧ True)) ∧ True)) ∧ ((C.new (.cells #[.int .i64 0, .int .i64 0, .int .i64 0, .int .i64 0, .int .i64 0] 31) w7 fun x6_8 w8 =>
  (S w8 ∧
  (C.new (.cells #[.int .i64 0, .int .i64 0, .int .i64 0, .int .i64 0, .int .i64 0, .int .i64 0, .int .i64 0] 27) w8 fun x5_9 w9 =>
  (S w9 ∧
  (C.store 7 x5_9 x18_4 w9 fun w10 =>
  (S w10 ∧
  (C.store 5 x6_8 x22_7 w10 fun w11 =>
  (S w11 ∧
  F84.k4 K y0 y1 y2 x5_9 x6_8 y11 y12 w11)) ∧ True)) ∧ True)) ∧ True)) ∧ True))) : F84.k2 K y0 y1 y2 y11 y12 w := Eq.mpr (by kernel_rfl) h
theorem F84.k7.to {K : VK} {y0 y1 y2 y11 y12 : Value} {w : World} (h : (C.int .add y12 (.int .i64 1) w fun x40_1 w1 =>
  F84.l1 K y0 y1 y2 y11 x40_1 w1)) : F84.k7 K y0 y1 y2 y11 y12 w := Eq.mpr (by kernel_rfl) h
theorem F84.k4.to {K : VK} {y0 y1 y2 y5 y6 y11 y12 : Value} {w : World} (h : (C.field 5 y5 w fun x23_1 w1 =>
  C.load1 x23_1 w1 fun x24_2 w2 =>
  C.call Try.prog 85 #[x24_2, (.int .i64 0), (.int .i64 16)] w2 fun x25_3 w3 =>
  C.field 5 y5 w3 fun x26_4 w4 =>
  C.store 1 x26_4 x25_3 w4 fun w5 =>
  C.draw w5 fun S w6 =>
  C.field 3 y6 w6 fun x27_7 w7 =>
  C.field 4 y6 w7 fun x30_8 w8 =>
  (C.load1 x27_7 w8 fun x28_17 w17 =>
  (S w17 ∧
  (C.call Try.prog 85 #[x28_17, (.int .i64 0), (.int .i64 64)] w17 fun x29_25 w25 =>
  (S w25 ∧
  (C.load1 x30_8 w25 fun x31_26 w26 =>
  (S w26 ∧
  C.field 3 y6 w26 fun x33_27 w27 =>
  (C.call Try.prog 85 #[x31_26, (.int .i64 0), (.int .i64 64)] w27 fun x32_28 w28 =>
  (S w28 ∧
  (C.store 1 x33_27 x29_25 w28 fun w29 =>
  (S w29 ∧
  C.field 4 y6 w29 fun x34_30 w30 =>
  (C.store 1 x34_30 x32_28 w30 fun w31 =>
  (S w31 ∧
  F84.k6 K y0 y1 y2 y5 y6 y11 y12 w31)) ∧ True)) ∧ True)) ∧ True)) ∧ True)) ∧ ((C.load1 x30_8 w17 fun x31_18 w18 =>
  (S w18 ∧
  (C.call Try.prog 85 #[x28_17, (.int .i64 0), (.int .i64 64)] w18 fun x29_19 w19 =>
  (S w19 ∧
  C.field 3 y6 w19 fun x33_20 w20 =>
  (C.call Try.prog 85 #[x31_18, (.int .i64 0), (.int .i64 64)] w20 fun x32_21 w21 =>
  (S w21 ∧
  (C.store 1 x33_20 x29_19 w21 fun w22 =>
  (S w22 ∧
  C.field 4 y6 w22 fun x34_23 w23 =>
  (C.store 1 x34_23 x32_21 w23 fun w24 =>
  (S w24 ∧
  F84.k6 K y0 y1 y2 y5 y6 y11 y12 w24)) ∧ True)) ∧ True)) ∧ True)) ∧ True)) ∧ True))) ∧ ((C.load1 x30_8 w8 fun x31_9 w9 =>
  (S w9 ∧
  (C.load1 x27_7 w9 fun x28_10 w10 =>
  (S w10 ∧
  (C.call Try.prog 85 #[x28_10, (.int .i64 0), (.int .i64 64)] w10 fun x29_11 w11 =>
  (S w11 ∧
  C.field 3 y6 w11 fun x33_12 w12 =>
  (C.call Try.prog 85 #[x31_9, (.int .i64 0), (.int .i64 64)] w12 fun x32_13 w13 =>
  (S w13 ∧
  (C.store 1 x33_12 x29_11 w13 fun w14 =>
  (S w14 ∧
  C.field 4 y6 w14 fun x34_15 w15 =>
  (C.store 1 x34_15 x32_13 w15 fun w16 =>
  (S w16 ∧
  F84.k6 K y0 y1 y2 y5 y6 y11 y12 w16)) ∧ True)) ∧ True)) ∧ True)) ∧ True)) ∧ True)) ∧ True))) : F84.k4 K y0 y1 y2 y5 y6 y11 y12 w := Eq.mpr (by kernel_rfl) h
theorem F84.k6.to {K : VK} {y0 y1 y2 y5 y6 y11 y12 : Value} {w : World} (h : (C.loadA 7 y5 w fun x36_1 w1 =>
  C.loadA 5 y6 w1 fun x37_2 w2 =>
  vcCall Try.prog y0 [x36_1, x37_2] w2 fun x38_3 w3 =>
  C.not x38_3 w3 fun x39_4 w4 =>
  C.ite x39_4 (K (.tuple #[]) w4) (F84.k7 K y0 y1 y2 y11 y12 w4))) : F84.k6 K y0 y1 y2 y5 y6 y11 y12 w := Eq.mpr (by kernel_rfl) h
theorem F84.sh {K : VK} {x0 x1 x2 : Value} {w : World} (h : (C.load1 x1 w fun x7_1 w1 =>
  C.len x7_1 w1 fun x8_2 w2 =>
  C.load1 x2 w2 fun x9_3 w3 =>
  C.len x9_3 w3 fun x10_4 w4 =>
  C.run Try.prog (Builtin.min_ #[3, 3] 3 #[x8_2, x10_4]) w4 fun x11_5 w5 =>
  F84.l1 K x0 x1 x2 x11_5 (.int .i64 0) w5)) : C.call Try.prog 84 #[x0, x1, x2] w K := calls_of_vc (A := F84.ann) (args := [x0, x1, x2]) (Eq.mpr (by kernel_rfl) h)

/-! ### 85 scutage/calc.Clamp (3, 3, 3) -/
namespace F85
def ann : Ann := ⟨[(5, [0])], [], [], [], none⟩
noncomputable def code : Code := match Try.f85.body with | some c => c | none => .skip
noncomputable def top (K : VK) : QE := retQ Try.prog Try.f85.results.toList K
noncomputable def k5 (K : VK) (y0 : Value) (w : World) : Prop := nav ann Try.prog 18 (fun c Q => vcCode ann Try.prog 18 c Q [(0, y0)] w) [1, 1] code (top K)
attribute [irreducible] k5
end F85
theorem F85.k5.to {K : VK} {y0 : Value} {w : World} (h : (K y0 w)) : F85.k5 K y0 w := Eq.mpr (by kernel_rfl) h
theorem F85.sh {K : VK} {x0 x1 x2 : Value} {w : World} (h : (C.int .lss x0 x1 w fun x10_1 w1 =>
  C.ite x10_1 (K x1 w1) (C.int .gtr x0 x2 w1 fun x15_2 w2 =>
  C.ite x15_2 (K x2 w2) (F85.k5 K x0 w2)))) : C.call Try.prog 85 #[x0, x1, x2] w K := calls_of_vc (A := F85.ann) (args := [x0, x1, x2]) (Eq.mpr (by kernel_rfl) h)

/-! ### 86 (*scutage/bank.Bank).is (70) -/
namespace F86
def ann : Ann := ⟨[], [], [], [], none⟩
noncomputable def code : Code := match Try.f86.body with | some c => c | none => .skip
noncomputable def top (K : VK) : QE := retQ Try.prog Try.f86.results.toList K
end F86
theorem F86.sh {K : VK} {x0 : Value} {w : World} (h : (C.bin Try.prog .neq 70 (.tmp 3) (.const (.pointer none)) x0 (.pointer none) w fun x4_1 w1 =>
  C.guarded true x4_1 (fun K => K x0 w1) w1 fun x6_2 w2 =>
  C.guarded true x4_1 (fun K => C.nilCheck x6_2 w2 K) w2 fun x7_3 w3 =>
  C.guarded true x4_1 (fun K => C.field 3 x7_3 w3 K) w3 fun x8_4 w4 =>
  C.guarded true x4_1 (fun K => C.load1 x8_4 w4 K) w4 fun x9_5 w5 =>
  C.pick (some x4_1) (some x9_5) (some (.bool false)) w5 fun x10_6 w6 =>
  K x10_6 w6)) : C.call Try.prog 86 #[x0] w K := calls_of_vc (A := F86.ann) (args := [x0]) (Eq.mpr (by kernel_rfl) h)

/-! ### 87 (*scutage/bank.Bank).own (70) -/
namespace F87
def ann : Ann := ⟨[(3, [0])], [], [], [], none⟩
noncomputable def code : Code := match Try.f87.body with | some c => c | none => .skip
noncomputable def top (K : VK) : QE := retQ Try.prog Try.f87.results.toList K
noncomputable def k3 (K : VK) (y0 : Value) (w : World) : Prop := nav ann Try.prog 11 (fun c Q => vcCode ann Try.prog 11 c Q [(0, y0)] w) [1, 1] code (top K)
attribute [irreducible] k3
end F87
theorem F87.k3.to {K : VK} {y0 : Value} {w : World} (h : (C.nilCheck y0 w fun x9_1 w1 =>
  C.field 0 x9_1 w1 fun x10_2 w2 =>
  K x10_2 w2)) : F87.k3 K y0 w := Eq.mpr (by kernel_rfl) h
theorem F87.sh {K : VK} {x0 : Value} {w : World} (h : (C.call Try.prog 86 #[x0] w fun x4_1 w1 =>
  C.not x4_1 w1 fun x5_2 w2 =>
  C.ite x5_2 (C.run Try.prog (Instr.build 93 #[]) w2 fun x6_3 w3 =>
  C.new (.cells (Value.cells x6_3) 93) w3 fun x7_4 w4 =>
  K x7_4 w4) (F87.k3 K x0 w2))) : C.call Try.prog 87 #[x0] w K := calls_of_vc (A := F87.ann) (args := [x0]) (Eq.mpr (by kernel_rfl) h)

/-! ### 88 (*scutage/bank.flows).Balance (96) -/
namespace F88
def ann : Ann := ⟨[], [], [], [(1, (.take 0 (.take 1 (.take 2 (.take 4 (.take 5 (.take 6 (.take 3 (.take 7 (.take 8 (.take 9 .fin)))))))))))], none⟩
noncomputable def code : Code := match Try.f88.body with | some c => c | none => .skip
noncomputable def top (K : VK) : QE := retQ Try.prog Try.f88.results.toList K
end F88
theorem F88.sh {K : VK} {x0 : Value} {w : World} (h : (C.draw w fun S w1 =>
  C.nilCheck x0 w1 fun x4_2 w2 =>
  C.field 0 x4_2 w2 fun x5_3 w3 =>
  C.nilCheck x0 w3 fun x8_4 w4 =>
  C.field 1 x8_4 w4 fun x9_5 w5 =>
  C.load1S S x5_3 w5 fun x6_6 w6 =>
  C.load1S S x9_5 w6 fun x10_7 w7 =>
  C.int .sub x6_6 x10_7 w7 fun x11_8 w8 =>
  K x11_8 w8)) : C.call Try.prog 88 #[x0] w K := calls_of_vc (A := F88.ann) (args := [x0]) (Eq.mpr (by kernel_rfl) h)

/-! ### 89 (*scutage/bank.flows).In (96) -/
namespace F89
def ann : Ann := ⟨[], [], [], [], none⟩
noncomputable def code : Code := match Try.f89.body with | some c => c | none => .skip
noncomputable def top (K : VK) : QE := retQ Try.prog Try.f89.results.toList K
end F89
theorem F89.sh {K : VK} {x0 : Value} {w : World} (h : (C.nilCheck x0 w fun x4_1 w1 =>
  C.field 0 x4_1 w1 fun x5_2 w2 =>
  C.load1 x5_2 w2 fun x6_3 w3 =>
  K x6_3 w3)) : C.call Try.prog 89 #[x0] w K := calls_of_vc (A := F89.ann) (args := [x0]) (Eq.mpr (by kernel_rfl) h)

/-! ### 90 (*scutage/bank.flows).Out (96) -/
namespace F90
def ann : Ann := ⟨[], [], [], [], none⟩
noncomputable def code : Code := match Try.f90.body with | some c => c | none => .skip
noncomputable def top (K : VK) : QE := retQ Try.prog Try.f90.results.toList K
end F90
theorem F90.sh {K : VK} {x0 : Value} {w : World} (h : (C.nilCheck x0 w fun x4_1 w1 =>
  C.field 1 x4_1 w1 fun x5_2 w2 =>
  C.load1 x5_2 w2 fun x6_3 w3 =>
  K x6_3 w3)) : C.call Try.prog 90 #[x0] w K := calls_of_vc (A := F90.ann) (args := [x0]) (Eq.mpr (by kernel_rfl) h)

/-! ### 91 (*scutage/bank.flows).Lost (96) -/
namespace F91
def ann : Ann := ⟨[], [], [], [], none⟩
noncomputable def code : Code := match Try.f91.body with | some c => c | none => .skip
noncomputable def top (K : VK) : QE := retQ Try.prog Try.f91.results.toList K
end F91
theorem F91.sh {K : VK} {x0 : Value} {w : World} (h : (C.nilCheck x0 w fun x4_1 w1 =>
  C.field 2 x4_1 w1 fun x5_2 w2 =>
  C.load1 x5_2 w2 fun x6_3 w3 =>
  K x6_3 w3)) : C.call Try.prog 91 #[x0] w K := calls_of_vc (A := F91.ann) (args := [x0]) (Eq.mpr (by kernel_rfl) h)

/-! ### 107 math/bits.Mul32 (112, 112) -/
namespace F107
def ann : Ann := ⟨[], [], [], [], none⟩
noncomputable def code : Code := match Try.f107.body with | some c => c | none => .skip
noncomputable def top (K : VK) : QE := retQ Try.prog Try.f107.results.toList K
end F107
theorem F107.sh {K : VK} {x0 x1 : Value} {w : World} (h : (C.conv .u64 x0 w fun x8_1 w1 =>
  C.conv .u64 x1 w1 fun x10_2 w2 =>
  C.int .mul x8_1 x10_2 w2 fun x11_3 w3 =>
  C.bin Try.prog .shr 115 (.tmp 12) (.const (.int .u64 32)) x11_3 (.int .u64 32) w3 fun x13_4 w4 =>
  C.conv .u32 x13_4 w4 fun x14_5 w5 =>
  C.conv .u32 x11_3 w5 fun x16_6 w6 =>
  K (.tuple #[x14_5, x16_6]) w6)) : C.call Try.prog 107 #[x0, x1] w K := calls_of_vc (A := F107.ann) (args := [x0, x1]) (Eq.mpr (by kernel_rfl) h)

/-! ### 108 math/bits.Mul64 (115, 115) -/
namespace F108
def ann : Ann := ⟨[], [], [], [], none⟩
noncomputable def code : Code := match Try.f108.body with | some c => c | none => .skip
noncomputable def top (K : VK) : QE := retQ Try.prog Try.f108.results.toList K
end F108
theorem F108.sh {K : VK} {x0 x1 : Value} {w : World} (h : (C.bin Try.prog .and 115 (.tmp 14) (.const (.int .u64 4294967295)) x0 (.int .u64 4294967295) w fun x15_1 w1 =>
  C.bin Try.prog .shr 115 (.tmp 16) (.const (.int .u64 32)) x0 (.int .u64 32) w1 fun x17_2 w2 =>
  C.bin Try.prog .and 115 (.tmp 18) (.const (.int .u64 4294967295)) x1 (.int .u64 4294967295) w2 fun x19_3 w3 =>
  C.bin Try.prog .shr 115 (.tmp 20) (.const (.int .u64 32)) x1 (.int .u64 32) w3 fun x21_4 w4 =>
  C.int .mul x15_1 x19_3 w4 fun x24_5 w5 =>
  C.int .mul x17_2 x19_3 w5 fun x27_6 w6 =>
  C.bin Try.prog .shr 115 (.tmp 28) (.const (.int .u64 32)) x24_5 (.int .u64 32) w6 fun x29_7 w7 =>
  C.int .add x27_6 x29_7 w7 fun x30_8 w8 =>
  C.bin Try.prog .and 115 (.tmp 31) (.const (.int .u64 4294967295)) x30_8 (.int .u64 4294967295) w8 fun x32_9 w9 =>
  C.bin Try.prog .shr 115 (.tmp 33) (.const (.int .u64 32)) x30_8 (.int .u64 32) w9 fun x34_10 w10 =>
  C.int .mul x15_1 x21_4 w10 fun x38_11 w11 =>
  C.int .add x32_9 x38_11 w11 fun x39_12 w12 =>
  C.int .mul x17_2 x21_4 w12 fun x42_13 w13 =>
  C.int .add x42_13 x34_10 w13 fun x44_14 w14 =>
  C.bin Try.prog .shr 115 (.tmp 45) (.const (.int .u64 32)) x39_12 (.int .u64 32) w14 fun x46_15 w15 =>
  C.int .add x44_14 x46_15 w15 fun x47_16 w16 =>
  C.int .mul x0 x1 w16 fun x50_17 w17 =>
  K (.tuple #[x47_16, x50_17]) w17)) : C.call Try.prog 108 #[x0, x1] w K := calls_of_vc (A := F108.ann) (args := [x0, x1]) (Eq.mpr (by kernel_rfl) h)

end Go.Proofs.YtfhgjncbhjjbfaaV
