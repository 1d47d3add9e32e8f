/- What the bodies of these functions ask, as plain statements. Written by gen.py (own work) for the seat Ytckageghbhkklaa. -/
import Derived.Test.YtckageghbhkklaaVc3
import Derived.Test.YtckageghbhkklaaProg
namespace Go.Proofs.YtckageghbhkklaaV
open Go Go.Proofs
set_option linter.unusedVariables false
set_option maxRecDepth 100000

/-! ### 14 scutage/scutagelaw22.alive () -/
namespace F14
def ann : Ann := ⟨[], [], [], []⟩
noncomputable def code : Code := match Try.f14.body with | some c => c | none => .skip
noncomputable def top (K : VK) : QE := retQ Try.prog Try.f14.results.toList K
end F14
theorem F14.sh {K : VK} {w : World} (h : (C.call Try.prog 16 #[(.int .i64 5)] w fun x4_1 w1 =>
  C.call Try.prog 19 #[x4_1, (.int .i64 7)] w1 fun x6_2 w2 =>
  C.call Try.prog 20 #[x4_1, (.int .i64 6)] w2 fun x8_3 w3 =>
  C.int .eql x6_2 (.int .i64 5) w3 fun x10_4 w4 =>
  C.guarded true x10_4 (fun K => K x8_3 w4) w4 fun x12_5 w5 =>
  C.guarded true x10_4 (fun K => C.not x12_5 w5 K) w5 fun x13_6 w6 =>
  C.pick (some x10_4) (some x13_6) (some (.bool false)) w6 fun x14_7 w7 =>
  C.guarded true x14_7 (fun K => K x4_1 w7) w7 fun x16_8 w8 =>
  C.guarded true x14_7 (fun K => C.call Try.prog 25 #[x16_8] w8 K) w8 fun x17_9 w9 =>
  C.guarded true x14_7 (fun K => C.int .eql x17_9 (.int .i64 2) w9 K) w9 fun x18_10 w10 =>
  C.pick (some x14_7) (some x18_10) (some (.bool false)) w10 fun x19_11 w11 =>
  C.guarded true x19_11 (fun K => K x4_1 w11) w11 fun x21_12 w12 =>
  C.guarded true x19_11 (fun K => C.call Try.prog 21 #[x21_12, (.int .i64 6)] w12 K) w12 fun x22_13 w13 =>
  C.guarded true x19_11 (fun K => C.int .eql x22_13 (.int .i64 5) w13 K) w13 fun x23_14 w14 =>
  C.pick (some x19_11) (some x23_14) (some (.bool false)) w14 fun x24_15 w15 =>
  C.guarded true x24_15 (fun K => K x4_1 w15) w15 fun x26_16 w16 =>
  C.guarded true x24_15 (fun K => C.call Try.prog 22 #[x26_16] w16 K) w16 fun x27_17 w17 =>
  C.guarded true x24_15 (fun K => C.int .eql x27_17 (.int .i64 0) w17 K) w17 fun x28_18 w18 =>
  C.pick (some x24_15) (some x28_18) (some (.bool false)) w18 fun x29_19 w19 =>
  C.guarded true x29_19 (fun K => K x4_1 w19) w19 fun x31_20 w20 =>
  C.guarded true x29_19 (fun K => C.call Try.prog 23 #[x31_20] w20 K) w20 fun x32_21 w21 =>
  C.guarded true x29_19 (fun K => C.int .eql x32_21 (.int .i64 5) w21 K) w21 fun x33_22 w22 =>
  C.pick (some x29_19) (some x33_22) (some (.bool false)) w22 fun x34_23 w23 =>
  C.guarded true x34_23 (fun K => K x4_1 w23) w23 fun x36_24 w24 =>
  C.guarded true x34_23 (fun K => C.call Try.prog 24 #[x36_24] w24 K) w24 fun x37_25 w25 =>
  C.guarded true x34_23 (fun K => C.int .eql x37_25 (.int .i64 5) w25 K) w25 fun x38_26 w26 =>
  C.pick (some x34_23) (some x38_26) (some (.bool false)) w26 fun x39_27 w27 =>
  K x39_27 w27)) : C.call Try.prog 14 #[] w K := calls_of_vc (A := F14.ann) (args := []) (Eq.mpr (by kernel_rfl) h)

/-! ### 15 scutage/scutagelaw22.run (28, 25, 22) -/
namespace F15
def ann : Ann := ⟨[(4, [0, 2, 4, 6, 8, 9]), (5, [0, 2, 4, 6, 9]), (7, [4, 6, 8])], [(3, [0, 2, 4, 6, 8, 9])], [], [(5, (.take 0 (.take 2 (.take 3 (.take 4 (.take 5 (.go 1 (.go 6 (.take 7 (.take 8 (.take 9 (.go 10 (.take 11 .fin) .fin)))) .fin) .fin)))))))]⟩
noncomputable def code : Code := match Try.f15.body with | some c => c | none => .skip
noncomputable def top (K : VK) : QE := retQ Try.prog Try.f15.results.toList K
noncomputable def k7 (K : VK) (y4 y6 y8 : Value) (w : World) : Prop := nav ann Try.prog 40 (fun c Q => vcCode ann Try.prog 40 c Q [(4, y4), (6, y6), (8, y8)] w) [1, 1, 1] code (top K)
attribute [irreducible] k7
noncomputable def l3 (K : VK) (y0 y2 y4 y6 y8 y9 : Value) (w : World) : Prop := nav ann Try.prog 40 (isLoop Try.prog 40 [(0, y0), (2, y2), (4, y4), (6, y6), (8, y8), (9, y9)] w) [1, 1, 0, 1, 0] code (top K)
attribute [irreducible] l3
noncomputable def k5 (K : VK) (y0 y2 y4 y6 y9 : Value) (w : World) : Prop := nav ann Try.prog 40 (fun c Q => vcCode ann Try.prog 40 c Q [(0, y0), (2, y2), (4, y4), (6, y6), (9, y9)] w) [1, 1, 0, 1, 0, 0, 1] code (top K)
attribute [irreducible] k5
noncomputable def k4 (K : VK) (y0 y2 y4 y6 y8 y9 : Value) (w : World) : Prop := nav ann Try.prog 40 (fun c Q => vcCode ann Try.prog 40 c Q [(0, y0), (2, y2), (4, y4), (6, y6), (8, y8), (9, y9)] w) [1, 1, 0, 1, 0, 0, 1, 1] code (top K)
attribute [irreducible] k4
end F15
theorem F15.k7.to {K : VK} {y4 y6 y8 : Value} {w : World} (h : (C.loadA 5 y4 w fun x38_1 w1 =>
  C.store 5 y6 x38_1 w1 fun w2 =>
  C.loadA 5 y6 w2 fun r3 _ =>
  K (.tuple #[r3, y8]) w2)) : F15.k7 K y4 y6 y8 w := Eq.mpr (by kernel_rfl) h
theorem F15.l3.to {K : VK} {y0 y2 y4 y6 y8 y9 : Value} {w : World} (h : (C.len y2 w fun x15_1 w1 =>
  C.int .lss y9 x15_1 w1 fun x16_2 w2 =>
  C.guarded true x16_2 (fun K => K y8 w2) w2 fun x18_3 w3 =>
  C.pick (some x16_2) (some x18_3) (some (.bool false)) w3 fun x19_4 w4 =>
  C.ite x19_4 (F15.k5 K y0 y2 y4 y6 y9 w4) (F15.k7 K y4 y6 y8 w4))) : F15.l3 K y0 y2 y4 y6 y8 y9 w := by unfold F15.l3; exact nav_round (Eq.mpr (by kernel_rfl) h)
theorem F15.k5.to {K : VK} {y0 y2 y4 y6 y9 : Value} {w : World} (h : (C.draw w fun S w1 =>
  C.idx 2 y2 y9 w1 fun x27_2 w2 =>
  C.loadAS S 2 x27_2 w2 fun x28_3 w3 =>
  (C.loadA 5 y4 w3 fun x24_4 w4 =>
  (S w4 ∧
  (C.call Try.prog 57 #[y0, x24_4, x28_3] w4 fun x29_5 w5 =>
  (S w5 ∧
  C.ext 0 x29_5 w5 fun x30_6 w6 =>
  C.ext 1 x29_5 w6 fun x31_7 w7 =>
  (C.store 5 y4 x30_6 w7 fun w8 =>
  (S w8 ∧
  C.guarded true x31_7 (fun K => K y0 w8) w8 fun x34_9 w9 =>
  C.guarded true x31_7 (fun K => C.loadA 5 y4 w9 K) w9 fun x35_10 w10 =>
  C.guarded true x31_7 (fun K => C.call Try.prog 35 #[x34_9, x35_10] w10 K) w10 fun x36_11 w11 =>
  C.pick (some x31_7) (some x36_11) (some (.bool false)) w11 fun x37_12 w12 =>
  F15.k4 K y0 y2 y4 y6 x37_12 y9 w12)) ∧ True)) ∧ True)) ∧ True)) : F15.k5 K y0 y2 y4 y6 y9 w := Eq.mpr (by kernel_rfl) h
theorem F15.k4.to {K : VK} {y0 y2 y4 y6 y8 y9 : Value} {w : World} (h : (C.int .add y9 (.int .i64 1) w fun x21_1 w1 =>
  F15.l3 K y0 y2 y4 y6 y8 x21_1 w1)) : F15.k4 K y0 y2 y4 y6 y8 y9 w := Eq.mpr (by kernel_rfl) h
theorem F15.sh {K : VK} {x0 x1 x2 : Value} {w : World} (h : (C.new (.cells (Value.cells x1) 25) w fun x4_1 w1 =>
  C.new (.cells #[.int .i64 0, .int .i64 0, .int .i64 0, .int .i64 0, .int .i64 0] 25) w1 fun x6_2 w2 =>
  C.loadA 5 x4_1 w2 fun x11_3 w3 =>
  C.call Try.prog 35 #[x0, x11_3] w3 fun x12_4 w4 =>
  F15.l3 K x0 x2 x4_1 x6_2 x12_4 (.int .i64 0) w4)) : C.call Try.prog 15 #[x0, x1, x2] w K := calls_of_vc (A := F15.ann) (args := [x0, x1, x2]) (Eq.mpr (by kernel_rfl) h)

/-! ### 16 scutage/bank.New (3) -/
namespace F16
def ann : Ann := ⟨[], [], [], []⟩
noncomputable def code : Code := match Try.f16.body with | some c => c | none => .skip
noncomputable def top (K : VK) : QE := retQ Try.prog Try.f16.results.toList K
end F16
theorem F16.sh {K : VK} {x0 : Value} {w : World} (h : (C.call Try.prog 58 #[x0, (.int .i64 0), (.int .i64 65535)] w fun x4_1 w1 =>
  C.run Try.prog (Instr.build 58 #[(1, (.bool true)), (2, x4_1)]) w1 fun x5_2 w2 =>
  C.new (.cells (Value.cells x5_2) 58) w2 fun x6_3 w3 =>
  K x6_3 w3)) : C.call Try.prog 16 #[x0] w K := calls_of_vc (A := F16.ann) (args := [x0]) (Eq.mpr (by kernel_rfl) h)

/-! ### 17 scutage/scutageplain.Near (3, 3, 3) -/
namespace F17
def ann : Ann := ⟨[(3, [0, 2]), (5, [0])], [], [], []⟩
noncomputable def code : Code := match Try.f17.body with | some c => c | none => .skip
noncomputable def top (K : VK) : QE := retQ Try.prog Try.f17.results.toList K
noncomputable def k3 (K : VK) (y0 y2 : Value) (w : World) : Prop := nav ann Try.prog 16 (fun c Q => vcCode ann Try.prog 16 c Q [(0, y0), (2, y2)] w) [1, 1] code (top K)
attribute [irreducible] k3
noncomputable def k5 (K : VK) (y0 : Value) (w : World) : Prop := nav ann Try.prog 16 (fun c Q => vcCode ann Try.prog 16 c Q [(0, y0)] w) [1, 1, 1] code (top K)
attribute [irreducible] k5
end F17
theorem F17.k3.to {K : VK} {y0 y2 : Value} {w : World} (h : (C.int .gtr y0 y2 w fun x13_1 w1 =>
  C.ite x13_1 (K y2 w1) (F17.k5 K y0 w1))) : F17.k3 K y0 y2 w := Eq.mpr (by kernel_rfl) h
theorem F17.k5.to {K : VK} {y0 : Value} {w : World} (h : (K y0 w)) : F17.k5 K y0 w := Eq.mpr (by kernel_rfl) h
theorem F17.sh {K : VK} {x0 x1 x2 : Value} {w : World} (h : (C.int .lss x0 x1 w fun x9_1 w1 =>
  C.ite x9_1 (K x1 w1) (F17.k3 K x0 x2 w1))) : C.call Try.prog 17 #[x0, x1, x2] w K := calls_of_vc (A := F17.ann) (args := [x0, x1, x2]) (Eq.mpr (by kernel_rfl) h)

/-! ### 18 scutage/scutagelaw22.few (22) -/
namespace F18
def ann : Ann := ⟨[(3, [0])], [], [], []⟩
noncomputable def code : Code := match Try.f18.body with | some c => c | none => .skip
noncomputable def top (K : VK) : QE := retQ Try.prog Try.f18.results.toList K
noncomputable def k3 (K : VK) (y0 : Value) (w : World) : Prop := nav ann Try.prog 9 (fun c Q => vcCode ann Try.prog 9 c Q [(0, y0)] w) [1, 1] code (top K)
attribute [irreducible] k3
end F18
theorem F18.k3.to {K : VK} {y0 : Value} {w : World} (h : (K y0 w)) : F18.k3 K y0 w := Eq.mpr (by kernel_rfl) h
theorem F18.sh {K : VK} {x0 : Value} {w : World} (h : (C.len x0 w fun x4_1 w1 =>
  C.int .gtr x4_1 (.int .i64 60) w1 fun x5_2 w2 =>
  C.ite x5_2 (C.run Try.prog (Instr.sliceAt 22 x0 none (some (.int .i64 60)) none) w2 fun x7_3 w3 =>
  K x7_3 w3) (F18.k3 K x0 w2))) : C.call Try.prog 18 #[x0] w K := calls_of_vc (A := F18.ann) (args := [x0]) (Eq.mpr (by kernel_rfl) h)

/-! ### 19 (*scutage/bank.Bank).Put (28, 3) -/
namespace F19
def ann : Ann := ⟨[(3, [0, 1])], [], [], [(4, (.take 0 (.take 1 (.take 2 (.take 3 (.take 5 (.take 4 (.go 6 (.take 7 (.take 8 (.take 9 .fin))) .fin))))))))]⟩
noncomputable def code : Code := match Try.f19.body with | some c => c | none => .skip
noncomputable def top (K : VK) : QE := retQ Try.prog Try.f19.results.toList K
noncomputable def k3 (K : VK) (y0 y1 : Value) (w : World) : Prop := nav ann Try.prog 43 (fun c Q => vcCode ann Try.prog 43 c Q [(0, y0), (1, y1)] w) [1, 1] code (top K)
attribute [irreducible] k3
end F19
theorem F19.k3.to {K : VK} {y0 y1 : Value} {w : World} (h : (C.call Try.prog 58 #[y1, (.int .i64 0), (.int .i64 2147483648)] w fun x10_1 w1 =>
  C.draw w1 fun S w2 =>
  C.nilCheck y0 w2 fun x13_3 w3 =>
  C.field 4 x13_3 w3 fun x14_4 w4 =>
  C.load1S S x14_4 w4 fun x15_5 w5 =>
  (C.call Try.prog 22 #[y0] w5 fun x17_6 w6 =>
  (S w6 ∧
  C.int .sub x15_5 x17_6 w6 fun x18_7 w7 =>
  ∃ x19_8, (∀ w', S w' → (builtin .min #[3, 3] 3 #[false, false] #[x10_1, x18_7]).run Try.prog w' = .ok (.value x19_8) w') ∧ (C.nilCheck y0 w7 fun x21_9 w9 =>
  C.field 0 x21_9 w9 fun x22_10 w10 =>
  C.field 0 x22_10 w10 fun x23_11 w11 =>
  C.load1 x23_11 w11 fun x24_12 w12 =>
  C.int .add x24_12 x19_8 w12 fun x26_13 w13 =>
  C.nilCheck y0 w13 fun x27_14 w14 =>
  C.field 0 x27_14 w14 fun x28_15 w15 =>
  C.field 0 x28_15 w15 fun x29_16 w16 =>
  C.store 1 x29_16 x26_13 w16 fun w17 =>
  C.nilCheck y0 w17 fun x31_18 w18 =>
  C.field 0 x31_18 w18 fun x32_19 w19 =>
  C.field 2 x32_19 w19 fun x33_20 w20 =>
  C.load1 x33_20 w20 fun x34_21 w21 =>
  C.int .sub x10_1 x19_8 w21 fun x37_22 w22 =>
  C.int .add x34_21 x37_22 w22 fun x38_23 w23 =>
  C.nilCheck y0 w23 fun x39_24 w24 =>
  C.field 0 x39_24 w24 fun x40_25 w25 =>
  C.field 2 x40_25 w25 fun x41_26 w26 =>
  C.store 1 x41_26 x38_23 w26 fun w27 =>
  K x19_8 w27))) ∧ True)) : F19.k3 K y0 y1 w := Eq.mpr (by kernel_rfl) h
theorem F19.sh {K : VK} {x0 x1 : Value} {w : World} (h : (C.call Try.prog 59 #[x0] w fun x7_1 w1 =>
  C.not x7_1 w1 fun x8_2 w2 =>
  C.ite x8_2 (K (.int .i64 0) w2) (F19.k3 K x0 x1 w2))) : C.call Try.prog 19 #[x0, x1] w K := calls_of_vc (A := F19.ann) (args := [x0, x1]) (Eq.mpr (by kernel_rfl) h)

/-! ### 20 (*scutage/bank.Bank).Take (28, 3) -/
namespace F20
def ann : Ann := ⟨[(3, [0, 1])], [], [], []⟩
noncomputable def code : Code := match Try.f20.body with | some c => c | none => .skip
noncomputable def top (K : VK) : QE := retQ Try.prog Try.f20.results.toList K
noncomputable def k3 (K : VK) (y0 y1 : Value) (w : World) : Prop := nav ann Try.prog 21 (fun c Q => vcCode ann Try.prog 21 c Q [(0, y0), (1, y1)] w) [1, 1] code (top K)
attribute [irreducible] k3
end F20
theorem F20.k3.to {K : VK} {y0 y1 : Value} {w : World} (h : (C.call Try.prog 21 #[y0, y1] w fun x20_1 w1 =>
  K (.bool true) w1)) : F20.k3 K y0 y1 w := Eq.mpr (by kernel_rfl) h
theorem F20.sh {K : VK} {x0 x1 : Value} {w : World} (h : (C.call Try.prog 59 #[x0] w fun x6_1 w1 =>
  C.not x6_1 w1 fun x7_2 w2 =>
  C.guarded false x7_2 (fun K => K x1 w2) w2 fun x9_3 w3 =>
  C.guarded false x7_2 (fun K => C.int .lss x9_3 (.int .i64 0) w3 K) w3 fun x10_4 w4 =>
  C.pick (some x7_2) (some (.bool true)) (some x10_4) w4 fun x11_5 w5 =>
  C.guarded false x11_5 (fun K => K x1 w5) w5 fun x13_6 w6 =>
  C.guarded false x11_5 (fun K => K x0 w6) w6 fun x14_7 w7 =>
  C.guarded false x11_5 (fun K => C.call Try.prog 22 #[x14_7] w7 K) w7 fun x15_8 w8 =>
  C.guarded false x11_5 (fun K => C.int .gtr x13_6 x15_8 w8 K) w8 fun x16_9 w9 =>
  C.pick (some x11_5) (some (.bool true)) (some x16_9) w9 fun x17_10 w10 =>
  C.ite x17_10 (K (.bool false) w10) (F20.k3 K x0 x1 w10))) : C.call Try.prog 20 #[x0, x1] w K := calls_of_vc (A := F20.ann) (args := [x0, x1]) (Eq.mpr (by kernel_rfl) h)

/-! ### 21 (*scutage/bank.Bank).Spend (28, 3) -/
namespace F21
def ann : Ann := ⟨[(3, [0, 1])], [], [], []⟩
noncomputable def code : Code := match Try.f21.body with | some c => c | none => .skip
noncomputable def top (K : VK) : QE := retQ Try.prog Try.f21.results.toList K
noncomputable def k3 (K : VK) (y0 y1 : Value) (w : World) : Prop := nav ann Try.prog 23 (fun c Q => vcCode ann Try.prog 23 c Q [(0, y0), (1, y1)] w) [1, 1] code (top K)
attribute [irreducible] k3
end F21
theorem F21.k3.to {K : VK} {y0 y1 : Value} {w : World} (h : (C.call Try.prog 22 #[y0] w fun x10_1 w1 =>
  C.call Try.prog 58 #[y1, (.int .i64 0), x10_1] w1 fun x11_2 w2 =>
  C.nilCheck y0 w2 fun x13_3 w3 =>
  C.field 0 x13_3 w3 fun x14_4 w4 =>
  C.field 1 x14_4 w4 fun x15_5 w5 =>
  C.load1 x15_5 w5 fun x16_6 w6 =>
  C.int .add x16_6 x11_2 w6 fun x18_7 w7 =>
  C.nilCheck y0 w7 fun x19_8 w8 =>
  C.field 0 x19_8 w8 fun x20_9 w9 =>
  C.field 1 x20_9 w9 fun x21_10 w10 =>
  C.store 1 x21_10 x18_7 w10 fun w11 =>
  K x11_2 w11)) : F21.k3 K y0 y1 w := Eq.mpr (by kernel_rfl) h
theorem F21.sh {K : VK} {x0 x1 : Value} {w : World} (h : (C.call Try.prog 59 #[x0] w fun x6_1 w1 =>
  C.not x6_1 w1 fun x7_2 w2 =>
  C.ite x7_2 (K (.int .i64 0) w2) (F21.k3 K x0 x1 w2))) : C.call Try.prog 21 #[x0, x1] w K := calls_of_vc (A := F21.ann) (args := [x0, x1]) (Eq.mpr (by kernel_rfl) h)

/-! ### 22 (*scutage/bank.Bank).Balance (28) -/
namespace F22
def ann : Ann := ⟨[], [], [], []⟩
noncomputable def code : Code := match Try.f22.body with | some c => c | none => .skip
noncomputable def top (K : VK) : QE := retQ Try.prog Try.f22.results.toList K
end F22
theorem F22.sh {K : VK} {x0 : Value} {w : World} (h : (C.call Try.prog 60 #[x0] w fun x4_1 w1 =>
  C.call Try.prog 61 #[x4_1] w1 fun x5_2 w2 =>
  K x5_2 w2)) : C.call Try.prog 22 #[x0] w K := calls_of_vc (A := F22.ann) (args := [x0]) (Eq.mpr (by kernel_rfl) h)

/-! ### 23 (*scutage/bank.Bank).In (28) -/
namespace F23
def ann : Ann := ⟨[], [], [], []⟩
noncomputable def code : Code := match Try.f23.body with | some c => c | none => .skip
noncomputable def top (K : VK) : QE := retQ Try.prog Try.f23.results.toList K
end F23
theorem F23.sh {K : VK} {x0 : Value} {w : World} (h : (C.call Try.prog 60 #[x0] w fun x4_1 w1 =>
  C.call Try.prog 62 #[x4_1] w1 fun x5_2 w2 =>
  K x5_2 w2)) : C.call Try.prog 23 #[x0] w K := calls_of_vc (A := F23.ann) (args := [x0]) (Eq.mpr (by kernel_rfl) h)

/-! ### 24 (*scutage/bank.Bank).Out (28) -/
namespace F24
def ann : Ann := ⟨[], [], [], []⟩
noncomputable def code : Code := match Try.f24.body with | some c => c | none => .skip
noncomputable def top (K : VK) : QE := retQ Try.prog Try.f24.results.toList K
end F24
theorem F24.sh {K : VK} {x0 : Value} {w : World} (h : (C.call Try.prog 60 #[x0] w fun x4_1 w1 =>
  C.call Try.prog 63 #[x4_1] w1 fun x5_2 w2 =>
  K x5_2 w2)) : C.call Try.prog 24 #[x0] w K := calls_of_vc (A := F24.ann) (args := [x0]) (Eq.mpr (by kernel_rfl) h)

/-! ### 25 (*scutage/bank.Bank).Lost (28) -/
namespace F25
def ann : Ann := ⟨[], [], [], []⟩
noncomputable def code : Code := match Try.f25.body with | some c => c | none => .skip
noncomputable def top (K : VK) : QE := retQ Try.prog Try.f25.results.toList K
end F25
theorem F25.sh {K : VK} {x0 : Value} {w : World} (h : (C.call Try.prog 60 #[x0] w fun x4_1 w1 =>
  C.call Try.prog 64 #[x4_1] w1 fun x5_2 w2 =>
  K x5_2 w2)) : C.call Try.prog 25 #[x0] w K := calls_of_vc (A := F25.ann) (args := [x0]) (Eq.mpr (by kernel_rfl) h)

/-! ### 34 (*scutage/bank.Bank).Clone (28) -/
namespace F34
def ann : Ann := ⟨[(3, [0])], [], [], []⟩
noncomputable def code : Code := match Try.f34.body with | some c => c | none => .skip
noncomputable def top (K : VK) : QE := retQ Try.prog Try.f34.results.toList K
noncomputable def k3 (K : VK) (y0 : Value) (w : World) : Prop := nav ann Try.prog 10 (fun c Q => vcCode ann Try.prog 10 c Q [(0, y0)] w) [1, 1] code (top K)
attribute [irreducible] k3
end F34
theorem F34.k3.to {K : VK} {y0 : Value} {w : World} (h : (C.nilCheck y0 w fun x8_1 w1 =>
  C.loadA 5 x8_1 w1 fun x9_2 w2 =>
  C.new (.cells #[.int .i64 0, .int .i64 0, .int .i64 0, .bool false, .int .i64 0] 58) w2 fun x3_3 w3 =>
  C.store 5 x3_3 x9_2 w3 fun w4 =>
  K x3_3 w4)) : F34.k3 K y0 w := Eq.mpr (by kernel_rfl) h
theorem F34.sh {K : VK} {x0 : Value} {w : World} (h : (C.call Try.prog 59 #[x0] w fun x5_1 w1 =>
  C.not x5_1 w1 fun x6_2 w2 =>
  C.ite x6_2 (K (.pointer none) w2) (F34.k3 K x0 w2))) : C.call Try.prog 34 #[x0] w K := calls_of_vc (A := F34.ann) (args := [x0]) (Eq.mpr (by kernel_rfl) h)

/-! ### 35 scutage/scutagelaw22.told (28, 25) -/
namespace F35
def ann : Ann := ⟨[], [], [], [(1, (.take 0 (.take 2 (.take 3 (.go 1 (.take 4 (.take 5 (.take 6 (.take 8 (.take 9 (.go 7 (.take 10 (.take 11 (.take 12 (.take 13 (.take 15 (.take 16 (.go 14 (.take 17 (.take 18 (.take 19 (.take 20 (.take 22 (.take 23 (.go 21 (.take 24 (.take 25 (.take 26 .fin))) .fin))))))) .fin))))))) .fin)))))) .fin)))))]⟩
noncomputable def code : Code := match Try.f35.body with | some c => c | none => .skip
noncomputable def top (K : VK) : QE := retQ Try.prog Try.f35.results.toList K
end F35
theorem F35.sh {K : VK} {x0 x1 : Value} {w : World} (h : (C.new (.cells (Value.cells x1) 25) w fun x3_1 w1 =>
  C.draw w1 fun S w2 =>
  C.field 1 x3_1 w2 fun x7_3 w3 =>
  C.load1S S x7_3 w3 fun x8_4 w4 =>
  (C.call Try.prog 22 #[x0] w4 fun x6_5 w5 =>
  (S w5 ∧
  C.int .eql x6_5 x8_4 w5 fun x9_6 w6 =>
  C.guarded true x9_6 (fun K => K x0 w6) w6 fun x11_7 w7 =>
  C.guarded true x9_6 (fun K => C.field 2 x3_1 w7 K) w7 fun x13_8 w8 =>
  C.guarded true x9_6 (fun K => C.load1S S x13_8 w8 K) w8 fun x14_9 w9 =>
  (C.guarded true x9_6 (fun K => C.call Try.prog 23 #[x11_7] w9 K) w9 fun x12_10 w10 =>
  (S w10 ∧
  C.guarded true x9_6 (fun K => C.int .eql x12_10 x14_9 w10 K) w10 fun x15_11 w11 =>
  C.pick (some x9_6) (some x15_11) (some (.bool false)) w11 fun x16_12 w12 =>
  C.guarded true x16_12 (fun K => K x0 w12) w12 fun x18_13 w13 =>
  C.guarded true x16_12 (fun K => C.field 3 x3_1 w13 K) w13 fun x20_14 w14 =>
  C.guarded true x16_12 (fun K => C.load1S S x20_14 w14 K) w14 fun x21_15 w15 =>
  (C.guarded true x16_12 (fun K => C.call Try.prog 24 #[x18_13] w15 K) w15 fun x19_16 w16 =>
  (S w16 ∧
  C.guarded true x16_12 (fun K => C.int .eql x19_16 x21_15 w16 K) w16 fun x22_17 w17 =>
  C.pick (some x16_12) (some x22_17) (some (.bool false)) w17 fun x23_18 w18 =>
  C.guarded true x23_18 (fun K => K x0 w18) w18 fun x25_19 w19 =>
  C.guarded true x23_18 (fun K => C.field 4 x3_1 w19 K) w19 fun x27_20 w20 =>
  C.guarded true x23_18 (fun K => C.load1S S x27_20 w20 K) w20 fun x28_21 w21 =>
  (C.guarded true x23_18 (fun K => C.call Try.prog 25 #[x25_19] w21 K) w21 fun x26_22 w22 =>
  (S w22 ∧
  C.guarded true x23_18 (fun K => C.int .eql x26_22 x28_21 w22 K) w22 fun x29_23 w23 =>
  C.pick (some x23_18) (some x29_23) (some (.bool false)) w23 fun x30_24 w24 =>
  K x30_24 w24)) ∧ True)) ∧ True)) ∧ True)) ∧ True)) : C.call Try.prog 35 #[x0, x1] w K := calls_of_vc (A := F35.ann) (args := [x0, x1]) (Eq.mpr (by kernel_rfl) h)

/-! ### 57 scutage/scutagelaw22.step (28, 25, 34) -/
namespace F57
def ann : Ann := ⟨[(5, [0, 4, 5, 6]), (8, [0, 4, 5, 6]), (9, [0, 4, 5, 6])], [], [], [(4, (.take 0 (.take 2 (.take 4 (.take 6 (.take 8 (.take 10 (.take 12 (.take 14 (.take 15 (.take 16 (.take 19 (.take 20 (.take 23 (.take 1 (.take 3 (.take 5 (.take 7 (.take 9 (.take 11 (.take 13 (.take 17 (.take 18 (.take 21 (.go 22 (.take 24 (.go 25 (.take 26 .fin) .fin)) .fin))))))))))))))))))))))))), (7, (.take 1 (.take 2 (.take 0 (.take 3 (.go 4 (.take 5 (.go 6 (.take 7 .fin) .fin)) .fin)))))), (8, (.take 0 (.take 2 (.take 4 (.take 7 (.take 9 (.take 11 (.take 14 (.take 17 (.take 18 (.take 1 (.take 3 (.take 5 (.take 6 (.take 8 (.take 10 (.take 12 (.take 13 (.take 15 (.take 16 (.take 19 (.go 20 (.go 21 (.take 22 .fin) .fin) .fin)))))))))))))))))))))), (10, (.take 0 (.take 2 (.take 4 (.take 6 (.take 8 (.take 10 (.take 12 (.take 15 (.take 16 (.take 19 (.take 1 (.take 3 (.take 5 (.take 7 (.take 9 (.take 11 (.take 13 (.take 14 (.take 17 (.go 18 (.take 20 (.go 21 (.take 22 .fin) .fin)) .fin)))))))))))))))))))))]⟩
noncomputable def code : Code := match Try.f57.body with | some c => c | none => .skip
noncomputable def top (K : VK) : QE := retQ Try.prog Try.f57.results.toList K
noncomputable def k5 (K : VK) (y0 y4 y5 y6 : Value) (w : World) : Prop := nav ann Try.prog 115 (fun c Q => vcCode ann Try.prog 115 c Q [(0, y0), (4, y4), (5, y5), (6, y6)] w) [1, 1] code (top K)
attribute [irreducible] k5
noncomputable def k9 (K : VK) (y0 y4 y5 y6 : Value) (w : World) : Prop := nav ann Try.prog 115 (fun c Q => vcCode ann Try.prog 115 c Q [(0, y0), (4, y4), (5, y5), (6, y6)] w) [1, 1, 1] code (top K)
attribute [irreducible] k9
noncomputable def k8 (K : VK) (y0 y4 y5 y6 : Value) (w : World) : Prop := nav ann Try.prog 115 (fun c Q => vcCode ann Try.prog 115 c Q [(0, y0), (4, y4), (5, y5), (6, y6)] w) [1, 1, 0, 1, 0, 1] code (top K)
attribute [irreducible] k8
end F57
theorem F57.k5.to {K : VK} {y0 y4 y5 y6 : Value} {w : World} (h : (C.field 0 y5 w fun x49_1 w1 =>
  C.load1 x49_1 w1 fun x50_2 w2 =>
  C.int .eql x50_2 (.int .i64 2) w2 fun x51_3 w3 =>
  C.ite x51_3 (C.field 1 y5 w3 fun x52_4 w4 =>
  C.load1 x52_4 w4 fun x53_5 w5 =>
  C.int .lss x53_5 (.int .i64 0) w5 fun x54_6 w6 =>
  C.guarded false x54_6 (fun K => C.field 1 y5 w6 K) w6 fun x56_7 w7 =>
  C.guarded false x54_6 (fun K => C.load1 x56_7 w7 K) w7 fun x57_8 w8 =>
  C.guarded false x54_6 (fun K => C.field 1 y4 w8 K) w8 fun x58_9 w9 =>
  C.guarded false x54_6 (fun K => C.load1 x58_9 w9 K) w9 fun x59_10 w10 =>
  C.guarded false x54_6 (fun K => C.int .gtr x57_8 x59_10 w10 K) w10 fun x60_11 w11 =>
  C.pick (some x54_6) (some (.bool true)) (some x60_11) w11 fun x61_12 w12 =>
  C.ite x61_12 (C.draw w12 fun S w13 =>
  C.field 1 y5 w13 fun x64_14 w14 =>
  C.loadAS S 5 y4 w14 fun x62_15 w15 =>
  C.load1S S x64_14 w15 fun x65_16 w16 =>
  (C.call Try.prog 20 #[y0, x65_16] w16 fun x66_17 w17 =>
  (S w17 ∧
  C.not x66_17 w17 fun x67_18 w18 =>
  (C.store 5 y6 x62_15 w18 fun w19 =>
  (S w19 ∧
  C.loadA 5 y6 w19 fun r20 _ =>
  K (.tuple #[r20, x67_18]) w19)) ∧ True)) ∧ True) (F57.k8 K y0 y4 y5 y6 w12)) (F57.k9 K y0 y4 y5 y6 w3))) : F57.k5 K y0 y4 y5 y6 w := Eq.mpr (by kernel_rfl) h
theorem F57.k9.to {K : VK} {y0 y4 y5 y6 : Value} {w : World} (h : (C.field 1 y5 w fun x89_1 w1 =>
  C.load1 x89_1 w1 fun x90_2 w2 =>
  C.field 1 y4 w2 fun x91_3 w3 =>
  C.load1 x91_3 w3 fun x92_4 w4 =>
  C.call Try.prog 17 #[x90_2, (.int .i64 0), x92_4] w4 fun x93_5 w5 =>
  C.draw w5 fun S w6 =>
  C.field 0 y4 w6 fun x94_7 w7 =>
  C.field 1 y4 w7 fun x96_8 w8 =>
  C.field 2 y4 w8 fun x100_9 w9 =>
  C.field 3 y4 w9 fun x102_10 w10 =>
  C.field 4 y4 w10 fun x106_11 w11 =>
  C.field 1 y5 w11 fun x110_12 w12 =>
  C.load1S S x94_7 w12 fun x95_13 w13 =>
  C.load1S S x96_8 w13 fun x97_14 w14 =>
  C.int .sub x97_14 x93_5 w14 fun x99_15 w15 =>
  C.load1S S x100_9 w15 fun x101_16 w16 =>
  C.load1S S x102_10 w16 fun x103_17 w17 =>
  C.int .add x103_17 x93_5 w17 fun x105_18 w18 =>
  C.load1S S x106_11 w18 fun x107_19 w19 =>
  ∃ x108_20, (∀ w', S w' → (Instr.build 25 #[(0, x95_13), (1, x99_15), (2, x101_16), (3, x105_18), (4, x107_19)]).run Try.prog w' = .ok x108_20 w') ∧ (C.load1S S x110_12 w19 fun x111_21 w21 =>
  (C.call Try.prog 21 #[y0, x111_21] w21 fun x112_22 w22 =>
  (S w22 ∧
  C.int .eql x112_22 x93_5 w22 fun x114_23 w23 =>
  (C.store 5 y6 x108_20 w23 fun w24 =>
  (S w24 ∧
  C.loadA 5 y6 w24 fun r25 _ =>
  K (.tuple #[r25, x114_23]) w24)) ∧ True)) ∧ True))) : F57.k9 K y0 y4 y5 y6 w := Eq.mpr (by kernel_rfl) h
theorem F57.k8.to {K : VK} {y0 y4 y5 y6 : Value} {w : World} (h : (C.draw w fun S w1 =>
  C.field 0 y4 w1 fun x68_2 w2 =>
  C.field 1 y4 w2 fun x70_3 w3 =>
  C.field 1 y5 w3 fun x72_4 w4 =>
  C.field 2 y4 w4 fun x75_5 w5 =>
  C.field 3 y4 w5 fun x77_6 w6 =>
  C.field 1 y5 w6 fun x79_7 w7 =>
  C.field 4 y4 w7 fun x82_8 w8 =>
  C.field 1 y5 w8 fun x86_9 w9 =>
  C.load1S S x68_2 w9 fun x69_10 w10 =>
  C.load1S S x70_3 w10 fun x71_11 w11 =>
  C.load1S S x72_4 w11 fun x73_12 w12 =>
  C.int .sub x71_11 x73_12 w12 fun x74_13 w13 =>
  C.load1S S x75_5 w13 fun x76_14 w14 =>
  C.load1S S x77_6 w14 fun x78_15 w15 =>
  C.load1S S x79_7 w15 fun x80_16 w16 =>
  C.int .add x78_15 x80_16 w16 fun x81_17 w17 =>
  C.load1S S x82_8 w17 fun x83_18 w18 =>
  ∃ x84_19, (∀ w', S w' → (Instr.build 25 #[(0, x69_10), (1, x74_13), (2, x76_14), (3, x81_17), (4, x83_18)]).run Try.prog w' = .ok x84_19 w') ∧ (C.load1S S x86_9 w18 fun x87_20 w20 =>
  (C.call Try.prog 20 #[y0, x87_20] w20 fun x88_21 w21 =>
  (S w21 ∧
  (C.store 5 y6 x84_19 w21 fun w22 =>
  (S w22 ∧
  C.loadA 5 y6 w22 fun r23 _ =>
  K (.tuple #[r23, x88_21]) w22)) ∧ True)) ∧ True))) : F57.k8 K y0 y4 y5 y6 w := Eq.mpr (by kernel_rfl) h
theorem F57.sh {K : VK} {x0 x1 x2 : Value} {w : World} (h : (C.new (.cells (Value.cells x1) 25) w fun x4_1 w1 =>
  C.new (.cells (Value.cells x2) 34) w1 fun x5_2 w2 =>
  C.new (.cells #[.int .i64 0, .int .i64 0, .int .i64 0, .int .i64 0, .int .i64 0] 25) w2 fun x6_3 w3 =>
  C.field 0 x5_2 w3 fun x11_4 w4 =>
  C.load1 x11_4 w4 fun x12_5 w5 =>
  C.int .eql x12_5 (.int .i64 1) w5 fun x13_6 w6 =>
  C.ite x13_6 (C.field 1 x5_2 w6 fun x14_7 w7 =>
  C.load1 x14_7 w7 fun x15_8 w8 =>
  C.call Try.prog 17 #[x15_8, (.int .i64 0), (.int .i64 2147483648)] w8 fun x16_9 w9 =>
  C.field 0 x4_1 w9 fun x18_10 w10 =>
  C.load1 x18_10 w10 fun x19_11 w11 =>
  C.field 1 x4_1 w11 fun x20_12 w12 =>
  C.load1 x20_12 w12 fun x21_13 w13 =>
  C.int .sub x19_11 x21_13 w13 fun x22_14 w14 =>
  C.run Try.prog (Builtin.min_ #[3, 3] 3 #[x16_9, x22_14]) w14 fun x23_15 w15 =>
  C.draw w15 fun S w16 =>
  C.field 0 x4_1 w16 fun x24_17 w17 =>
  C.field 1 x4_1 w17 fun x26_18 w18 =>
  C.field 2 x4_1 w18 fun x30_19 w19 =>
  C.field 3 x4_1 w19 fun x34_20 w20 =>
  C.field 4 x4_1 w20 fun x36_21 w21 =>
  C.int .sub x16_9 x23_15 w21 fun x40_22 w22 =>
  C.field 1 x5_2 w22 fun x44_23 w23 =>
  C.load1S S x24_17 w23 fun x25_24 w24 =>
  C.load1S S x26_18 w24 fun x27_25 w25 =>
  C.int .add x27_25 x23_15 w25 fun x29_26 w26 =>
  C.load1S S x30_19 w26 fun x31_27 w27 =>
  C.int .add x31_27 x23_15 w27 fun x33_28 w28 =>
  C.load1S S x34_20 w28 fun x35_29 w29 =>
  C.load1S S x36_21 w29 fun x37_30 w30 =>
  C.int .add x37_30 x40_22 w30 fun x41_31 w31 =>
  ∃ x42_32, (∀ w', S w' → (Instr.build 25 #[(0, x25_24), (1, x29_26), (2, x33_28), (3, x35_29), (4, x41_31)]).run Try.prog w' = .ok x42_32 w') ∧ (C.load1S S x44_23 w31 fun x45_33 w33 =>
  (C.call Try.prog 19 #[x0, x45_33] w33 fun x46_34 w34 =>
  (S w34 ∧
  C.int .eql x46_34 x23_15 w34 fun x48_35 w35 =>
  (C.store 5 x6_3 x42_32 w35 fun w36 =>
  (S w36 ∧
  C.loadA 5 x6_3 w36 fun r37 _ =>
  K (.tuple #[r37, x48_35]) w36)) ∧ True)) ∧ True)) (F57.k5 K x0 x4_1 x5_2 x6_3 w6))) : C.call Try.prog 57 #[x0, x1, x2] w K := calls_of_vc (A := F57.ann) (args := [x0, x1, x2]) (Eq.mpr (by kernel_rfl) h)

/-! ### 58 scutage/calc.Clamp (3, 3, 3) -/
namespace F58
def ann : Ann := ⟨[(5, [0])], [], [], []⟩
noncomputable def code : Code := match Try.f58.body with | some c => c | none => .skip
noncomputable def top (K : VK) : QE := retQ Try.prog Try.f58.results.toList K
noncomputable def k5 (K : VK) (y0 : Value) (w : World) : Prop := nav ann Try.prog 18 (fun c Q => vcCode ann Try.prog 18 c Q [(0, y0)] w) [1, 1] code (top K)
attribute [irreducible] k5
end F58
theorem F58.k5.to {K : VK} {y0 : Value} {w : World} (h : (K y0 w)) : F58.k5 K y0 w := Eq.mpr (by kernel_rfl) h
theorem F58.sh {K : VK} {x0 x1 x2 : Value} {w : World} (h : (C.int .lss x0 x1 w fun x10_1 w1 =>
  C.ite x10_1 (K x1 w1) (C.int .gtr x0 x2 w1 fun x15_2 w2 =>
  C.ite x15_2 (K x2 w2) (F58.k5 K x0 w2)))) : C.call Try.prog 58 #[x0, x1, x2] w K := calls_of_vc (A := F58.ann) (args := [x0, x1, x2]) (Eq.mpr (by kernel_rfl) h)

/-! ### 59 (*scutage/bank.Bank).is (28) -/
namespace F59
def ann : Ann := ⟨[], [], [], []⟩
noncomputable def code : Code := match Try.f59.body with | some c => c | none => .skip
noncomputable def top (K : VK) : QE := retQ Try.prog Try.f59.results.toList K
end F59
theorem F59.sh {K : VK} {x0 : Value} {w : World} (h : (C.bin Try.prog .neq 28 (.tmp 3) (.const (.pointer none)) x0 (.pointer none) w fun x4_1 w1 =>
  C.guarded true x4_1 (fun K => K x0 w1) w1 fun x6_2 w2 =>
  C.guarded true x4_1 (fun K => C.nilCheck x6_2 w2 K) w2 fun x7_3 w3 =>
  C.guarded true x4_1 (fun K => C.field 3 x7_3 w3 K) w3 fun x8_4 w4 =>
  C.guarded true x4_1 (fun K => C.load1 x8_4 w4 K) w4 fun x9_5 w5 =>
  C.pick (some x4_1) (some x9_5) (some (.bool false)) w5 fun x10_6 w6 =>
  K x10_6 w6)) : C.call Try.prog 59 #[x0] w K := calls_of_vc (A := F59.ann) (args := [x0]) (Eq.mpr (by kernel_rfl) h)

/-! ### 60 (*scutage/bank.Bank).own (28) -/
namespace F60
def ann : Ann := ⟨[(3, [0])], [], [], []⟩
noncomputable def code : Code := match Try.f60.body with | some c => c | none => .skip
noncomputable def top (K : VK) : QE := retQ Try.prog Try.f60.results.toList K
noncomputable def k3 (K : VK) (y0 : Value) (w : World) : Prop := nav ann Try.prog 11 (fun c Q => vcCode ann Try.prog 11 c Q [(0, y0)] w) [1, 1] code (top K)
attribute [irreducible] k3
end F60
theorem F60.k3.to {K : VK} {y0 : Value} {w : World} (h : (C.nilCheck y0 w fun x9_1 w1 =>
  C.field 0 x9_1 w1 fun x10_2 w2 =>
  K x10_2 w2)) : F60.k3 K y0 w := Eq.mpr (by kernel_rfl) h
theorem F60.sh {K : VK} {x0 : Value} {w : World} (h : (C.call Try.prog 59 #[x0] w fun x4_1 w1 =>
  C.not x4_1 w1 fun x5_2 w2 =>
  C.ite x5_2 (C.run Try.prog (Instr.build 56 #[]) w2 fun x6_3 w3 =>
  C.new (.cells (Value.cells x6_3) 56) w3 fun x7_4 w4 =>
  K x7_4 w4) (F60.k3 K x0 w2))) : C.call Try.prog 60 #[x0] w K := calls_of_vc (A := F60.ann) (args := [x0]) (Eq.mpr (by kernel_rfl) h)

/-! ### 61 (*scutage/bank.flows).Balance (95) -/
namespace F61
def ann : Ann := ⟨[], [], [], [(1, (.take 0 (.take 1 (.take 2 (.take 4 (.take 5 (.take 6 (.take 3 (.take 7 (.take 8 (.take 9 .fin)))))))))))]⟩
noncomputable def code : Code := match Try.f61.body with | some c => c | none => .skip
noncomputable def top (K : VK) : QE := retQ Try.prog Try.f61.results.toList K
end F61
theorem F61.sh {K : VK} {x0 : Value} {w : World} (h : (C.draw w fun S w1 =>
  C.nilCheck x0 w1 fun x4_2 w2 =>
  C.field 0 x4_2 w2 fun x5_3 w3 =>
  C.nilCheck x0 w3 fun x8_4 w4 =>
  C.field 1 x8_4 w4 fun x9_5 w5 =>
  C.load1S S x5_3 w5 fun x6_6 w6 =>
  C.load1S S x9_5 w6 fun x10_7 w7 =>
  C.int .sub x6_6 x10_7 w7 fun x11_8 w8 =>
  K x11_8 w8)) : C.call Try.prog 61 #[x0] w K := calls_of_vc (A := F61.ann) (args := [x0]) (Eq.mpr (by kernel_rfl) h)

/-! ### 62 (*scutage/bank.flows).In (95) -/
namespace F62
def ann : Ann := ⟨[], [], [], []⟩
noncomputable def code : Code := match Try.f62.body with | some c => c | none => .skip
noncomputable def top (K : VK) : QE := retQ Try.prog Try.f62.results.toList K
end F62
theorem F62.sh {K : VK} {x0 : Value} {w : World} (h : (C.nilCheck x0 w fun x4_1 w1 =>
  C.field 0 x4_1 w1 fun x5_2 w2 =>
  C.load1 x5_2 w2 fun x6_3 w3 =>
  K x6_3 w3)) : C.call Try.prog 62 #[x0] w K := calls_of_vc (A := F62.ann) (args := [x0]) (Eq.mpr (by kernel_rfl) h)

/-! ### 63 (*scutage/bank.flows).Out (95) -/
namespace F63
def ann : Ann := ⟨[], [], [], []⟩
noncomputable def code : Code := match Try.f63.body with | some c => c | none => .skip
noncomputable def top (K : VK) : QE := retQ Try.prog Try.f63.results.toList K
end F63
theorem F63.sh {K : VK} {x0 : Value} {w : World} (h : (C.nilCheck x0 w fun x4_1 w1 =>
  C.field 1 x4_1 w1 fun x5_2 w2 =>
  C.load1 x5_2 w2 fun x6_3 w3 =>
  K x6_3 w3)) : C.call Try.prog 63 #[x0] w K := calls_of_vc (A := F63.ann) (args := [x0]) (Eq.mpr (by kernel_rfl) h)

/-! ### 64 (*scutage/bank.flows).Lost (95) -/
namespace F64
def ann : Ann := ⟨[], [], [], []⟩
noncomputable def code : Code := match Try.f64.body with | some c => c | none => .skip
noncomputable def top (K : VK) : QE := retQ Try.prog Try.f64.results.toList K
end F64
theorem F64.sh {K : VK} {x0 : Value} {w : World} (h : (C.nilCheck x0 w fun x4_1 w1 =>
  C.field 2 x4_1 w1 fun x5_2 w2 =>
  C.load1 x5_2 w2 fun x6_3 w3 =>
  K x6_3 w3)) : C.call Try.prog 64 #[x0] w K := calls_of_vc (A := F64.ann) (args := [x0]) (Eq.mpr (by kernel_rfl) h)

/-! ### 3 scutage/scutagelaw22.BankRuns (3, 22) -/
namespace F3
def ann : Ann := ⟨[(3, [0, 1])], [], [], []⟩
noncomputable def code : Code := match Try.f3.body with | some c => c | none => .skip
noncomputable def top (K : VK) : QE := retQ Try.prog Try.f3.results.toList K
noncomputable def k3 (K : VK) (y0 y1 : Value) (w : World) : Prop := nav ann Try.prog 21 (fun c Q => vcCode ann Try.prog 21 c Q [(0, y0), (1, y1)] w) [1, 1] code (top K)
attribute [irreducible] k3
end F3
theorem F3.k3.to {K : VK} {y0 y1 : Value} {w : World} (h : (C.call Try.prog 16 #[y0] w fun x11_1 w1 =>
  C.call Try.prog 17 #[y0, (.int .i64 0), (.int .i64 65535)] w1 fun x13_2 w2 =>
  C.run Try.prog (Instr.build 25 #[(0, x13_2)]) w2 fun x14_3 w3 =>
  C.call Try.prog 18 #[y1] w3 fun x16_4 w4 =>
  C.call Try.prog 15 #[x11_1, x14_3, x16_4] w4 fun x17_5 w5 =>
  C.ext 0 x17_5 w5 fun x18_6 w6 =>
  C.ext 1 x17_5 w6 fun x19_7 w7 =>
  C.new (.cells #[.int .i64 0, .int .i64 0, .int .i64 0, .int .i64 0, .int .i64 0] 25) w7 fun x5_8 w8 =>
  C.store 5 x5_8 x18_6 w8 fun w9 =>
  K x19_7 w9)) : F3.k3 K y0 y1 w := Eq.mpr (by kernel_rfl) h
theorem F3.sh {K : VK} {x0 x1 : Value} {w : World} (h : (C.call Try.prog 14 #[] w fun x7_1 w1 =>
  C.not x7_1 w1 fun x8_2 w2 =>
  C.ite x8_2 (K (.bool false) w2) (F3.k3 K x0 x1 w2))) : C.call Try.prog 3 #[x0, x1] w K := calls_of_vc (A := F3.ann) (args := [x0, x1]) (Eq.mpr (by kernel_rfl) h)

/-! ### 4 scutage/scutagelaw22.BankBalances (3, 22) -/
namespace F4
def ann : Ann := ⟨[(3, [0, 1]), (7, [0, 1, 5, 6, 7]), (8, [0, 1, 5, 6, 7]), (14, [0, 1, 5, 6, 7]), (17, [])], [(6, [0, 1, 5, 6, 7])], [], []⟩
noncomputable def code : Code := match Try.f4.body with | some c => c | none => .skip
noncomputable def top (K : VK) : QE := retQ Try.prog Try.f4.results.toList K
noncomputable def k3 (K : VK) (y0 y1 : Value) (w : World) : Prop := nav ann Try.prog 90 (fun c Q => vcCode ann Try.prog 90 c Q [(0, y0), (1, y1)] w) [1, 1] code (top K)
attribute [irreducible] k3
noncomputable def k17 (K : VK) (w : World) : Prop := nav ann Try.prog 90 (fun c Q => vcCode ann Try.prog 90 c Q [] w) [1, 1, 1, 1, 1] code (top K)
attribute [irreducible] k17
noncomputable def l6 (K : VK) (y0 y1 y5 y6 y7 : Value) (w : World) : Prop := nav ann Try.prog 90 (isLoop Try.prog 90 [(0, y0), (1, y1), (5, y5), (6, y6), (7, y7)] w) [1, 1, 1, 1, 0, 1, 0] code (top K)
attribute [irreducible] l6
noncomputable def k8 (K : VK) (y0 y1 y5 y6 y7 : Value) (w : World) : Prop := nav ann Try.prog 90 (fun c Q => vcCode ann Try.prog 90 c Q [(0, y0), (1, y1), (5, y5), (6, y6), (7, y7)] w) [1, 1, 1, 1, 0, 1, 0, 0, 1] code (top K)
attribute [irreducible] k8
noncomputable def k7 (K : VK) (y0 y1 y5 y6 y7 : Value) (w : World) : Prop := nav ann Try.prog 90 (fun c Q => vcCode ann Try.prog 90 c Q [(0, y0), (1, y1), (5, y5), (6, y6), (7, y7)] w) [1, 1, 1, 1, 0, 1, 0, 0, 1, 1] code (top K)
attribute [irreducible] k7
noncomputable def k14 (K : VK) (y0 y1 y5 y6 y7 : Value) (w : World) : Prop := nav ann Try.prog 90 (fun c Q => vcCode ann Try.prog 90 c Q [(0, y0), (1, y1), (5, y5), (6, y6), (7, y7)] w) [1, 1, 1, 1, 0, 1, 0, 0, 1, 0, 0, 1] code (top K)
attribute [irreducible] k14
end F4
theorem F4.k3.to {K : VK} {y0 y1 : Value} {w : World} (h : (C.call Try.prog 16 #[y0] w fun x12_1 w1 =>
  C.call Try.prog 18 #[y1] w1 fun x14_2 w2 =>
  F4.l6 K y0 x14_2 x12_1 (.int .i64 0) (.int .i64 0) w2)) : F4.k3 K y0 y1 w := Eq.mpr (by kernel_rfl) h
theorem F4.k17.to {K : VK} {w : World} (h : (K (.bool true) w)) : F4.k17 K w := Eq.mpr (by kernel_rfl) h
theorem F4.l6.to {K : VK} {y0 y1 y5 y6 y7 : Value} {w : World} (h : (C.len y1 w fun x17_1 w1 =>
  C.int .lss y7 x17_1 w1 fun x18_2 w2 =>
  C.ite x18_2 (F4.k8 K y0 y1 y5 y6 y7 w2) (F4.k17 K w2))) : F4.l6 K y0 y1 y5 y6 y7 w := by unfold F4.l6; exact nav_round (Eq.mpr (by kernel_rfl) h)
theorem F4.k8.to {K : VK} {y0 y1 y5 y6 y7 : Value} {w : World} (h : (C.idx 2 y1 y7 w fun x23_1 w1 =>
  C.field 0 x23_1 w1 fun x24_2 w2 =>
  C.load1 x24_2 w2 fun x25_3 w3 =>
  C.int .eql x25_3 (.int .i64 1) w3 fun x26_4 w4 =>
  C.ite x26_4 (C.idx 2 y1 y7 w4 fun x30_5 w5 =>
  C.field 1 x30_5 w5 fun x31_6 w6 =>
  C.load1 x31_6 w6 fun x32_7 w7 =>
  C.call Try.prog 19 #[y5, x32_7] w7 fun x33_8 w8 =>
  C.idx 2 y1 y7 w8 fun x37_9 w9 =>
  C.field 1 x37_9 w9 fun x38_10 w10 =>
  C.load1 x38_10 w10 fun x39_11 w11 =>
  C.call Try.prog 17 #[x39_11, (.int .i64 0), (.int .i64 2147483648)] w11 fun x40_12 w12 =>
  C.int .add y6 x40_12 w12 fun x41_13 w13 =>
  F4.k14 K y0 y1 y5 x41_13 y7 w13) (C.idx 2 y1 y7 w4 fun x44_14 w14 =>
  C.field 0 x44_14 w14 fun x45_15 w15 =>
  C.load1 x45_15 w15 fun x46_16 w16 =>
  C.int .eql x46_16 (.int .i64 2) w16 fun x47_17 w17 =>
  C.ite x47_17 (C.idx 2 y1 y7 w17 fun x51_18 w18 =>
  C.field 1 x51_18 w18 fun x52_19 w19 =>
  C.load1 x52_19 w19 fun x53_20 w20 =>
  C.call Try.prog 20 #[y5, x53_20] w20 fun x54_21 w21 =>
  F4.k14 K y0 y1 y5 y6 y7 w21) (C.idx 2 y1 y7 w17 fun x58_22 w22 =>
  C.field 1 x58_22 w22 fun x59_23 w23 =>
  C.load1 x59_23 w23 fun x60_24 w24 =>
  C.call Try.prog 21 #[y5, x60_24] w24 fun x61_25 w25 =>
  F4.k14 K y0 y1 y5 y6 y7 w25)))) : F4.k8 K y0 y1 y5 y6 y7 w := Eq.mpr (by kernel_rfl) h
theorem F4.k7.to {K : VK} {y0 y1 y5 y6 y7 : Value} {w : World} (h : (C.int .add y7 (.int .i64 1) w fun x20_1 w1 =>
  F4.l6 K y0 y1 y5 y6 x20_1 w1)) : F4.k7 K y0 y1 y5 y6 y7 w := Eq.mpr (by kernel_rfl) h
theorem F4.k14.to {K : VK} {y0 y1 y5 y6 y7 : Value} {w : World} (h : (C.call Try.prog 22 #[y5] w fun x63_1 w1 =>
  C.call Try.prog 23 #[y5] w1 fun x66_2 w2 =>
  C.call Try.prog 24 #[y5] w2 fun x68_3 w3 =>
  C.int .sub x66_2 x68_3 w3 fun x69_4 w4 =>
  C.int .neq x63_1 x69_4 w4 fun x70_5 w5 =>
  C.guarded false x70_5 (fun K => K x63_1 w5) w5 fun x72_6 w6 =>
  C.guarded false x70_5 (fun K => C.int .lss x72_6 (.int .i64 0) w6 K) w6 fun x73_7 w7 =>
  C.pick (some x70_5) (some (.bool true)) (some x73_7) w7 fun x74_8 w8 =>
  C.guarded false x74_8 (fun K => K x63_1 w8) w8 fun x76_9 w9 =>
  C.guarded false x74_8 (fun K => K y0 w9) w9 fun x77_10 w10 =>
  C.guarded false x74_8 (fun K => C.call Try.prog 17 #[x77_10, (.int .i64 0), (.int .i64 65535)] w10 K) w10 fun x78_11 w11 =>
  C.guarded false x74_8 (fun K => C.int .gtr x76_9 x78_11 w11 K) w11 fun x79_12 w12 =>
  C.pick (some x74_8) (some (.bool true)) (some x79_12) w12 fun x80_13 w13 =>
  C.guarded false x80_13 (fun K => K y5 w13) w13 fun x82_14 w14 =>
  C.guarded false x80_13 (fun K => C.call Try.prog 23 #[x82_14] w14 K) w14 fun x83_15 w15 =>
  C.guarded false x80_13 (fun K => K y5 w15) w15 fun x84_16 w16 =>
  C.guarded false x80_13 (fun K => C.call Try.prog 25 #[x84_16] w16 K) w16 fun x85_17 w17 =>
  C.guarded false x80_13 (fun K => C.int .add x83_15 x85_17 w17 K) w17 fun x86_18 w18 =>
  C.guarded false x80_13 (fun K => K y6 w18) w18 fun x87_19 w19 =>
  C.guarded false x80_13 (fun K => C.int .neq x86_18 x87_19 w19 K) w19 fun x88_20 w20 =>
  C.pick (some x80_13) (some (.bool true)) (some x88_20) w20 fun x89_21 w21 =>
  C.ite x89_21 (K (.bool false) w21) (F4.k7 K y0 y1 y5 y6 y7 w21))) : F4.k14 K y0 y1 y5 y6 y7 w := Eq.mpr (by kernel_rfl) h
theorem F4.sh {K : VK} {x0 x1 : Value} {w : World} (h : (C.call Try.prog 14 #[] w fun x9_1 w1 =>
  C.not x9_1 w1 fun x10_2 w2 =>
  C.ite x10_2 (K (.bool false) w2) (F4.k3 K x0 x1 w2))) : C.call Try.prog 4 #[x0, x1] w K := calls_of_vc (A := F4.ann) (args := [x0, x1]) (Eq.mpr (by kernel_rfl) h)

/-! ### 8 scutage/scutagelaw22.BankClones (3, 22, 22, 22) -/
namespace F8
def ann : Ann := ⟨[(3, [0, 1, 2, 3])], [], [], [(6, (.take 0 (.take 2 (.take 1 (.go 3 (.go 4 (.take 5 (.take 6 (.take 7 (.go 8 (.go 9 (.take 10 .fin) .fin) .fin)))) (.go 8 (.go 4 (.take 5 (.take 6 (.take 7 (.go 9 (.take 10 .fin) .fin)))) .fin) .fin)) (.go 8 (.go 3 (.go 4 (.take 5 (.take 6 (.take 7 (.go 9 (.take 10 .fin) .fin)))) .fin) .fin) .fin)))))), (7, (.take 0 (.take 2 (.take 1 (.go 3 (.go 4 (.take 5 (.take 6 (.take 7 (.go 8 (.go 9 (.take 10 .fin) .fin) .fin)))) (.go 8 (.go 4 (.take 5 (.take 6 (.take 7 (.go 9 (.take 10 .fin) .fin)))) .fin) .fin)) (.go 8 (.go 3 (.go 4 (.take 5 (.take 6 (.take 7 (.go 9 (.take 10 .fin) .fin)))) .fin) .fin) .fin))))))]⟩
noncomputable def code : Code := match Try.f8.body with | some c => c | none => .skip
noncomputable def top (K : VK) : QE := retQ Try.prog Try.f8.results.toList K
noncomputable def k3 (K : VK) (y0 y1 y2 y3 : Value) (w : World) : Prop := nav ann Try.prog 140 (fun c Q => vcCode ann Try.prog 140 c Q [(0, y0), (1, y1), (2, y2), (3, y3)] w) [1, 1] code (top K)
attribute [irreducible] k3
end F8
theorem F8.k3.to {K : VK} {y0 y1 y2 y3 : Value} {w : World} (h : (C.call Try.prog 16 #[y0] w fun x22_1 w1 =>
  C.call Try.prog 17 #[y0, (.int .i64 0), (.int .i64 65535)] w1 fun x26_2 w2 =>
  C.run Try.prog (Instr.build 25 #[(0, x26_2)]) w2 fun x27_3 w3 =>
  C.call Try.prog 18 #[y1] w3 fun x29_4 w4 =>
  C.call Try.prog 15 #[x22_1, x27_3, x29_4] w4 fun x30_5 w5 =>
  C.ext 0 x30_5 w5 fun x31_6 w6 =>
  C.ext 1 x30_5 w6 fun x32_7 w7 =>
  C.new (.cells #[.int .i64 0, .int .i64 0, .int .i64 0, .int .i64 0, .int .i64 0] 25) w7 fun x10_8 w8 =>
  C.store 5 x10_8 x31_6 w8 fun w9 =>
  C.call Try.prog 34 #[x22_1] w9 fun x34_10 w10 =>
  C.draw w10 fun S w11 =>
  C.loadAS S 5 x10_8 w11 fun x37_12 w12 =>
  (C.call Try.prog 18 #[y2] w12 fun x39_248 w248 =>
  (S w248 ∧
  (C.call Try.prog 15 #[x22_1, x37_12, x39_248] w248 fun x40_483 w483 =>
  (S w483 ∧
  C.ext 0 x40_483 w483 fun x41_484 w484 =>
  C.ext 1 x40_483 w484 fun x42_485 w485 =>
  (C.new (.cells #[.int .i64 0, .int .i64 0, .int .i64 0, .int .i64 0, .int .i64 0] 25) w485 fun x13_486 w486 =>
  (S w486 ∧
  (C.store 5 x13_486 x41_484 w486 fun w487 =>
  (S w487 ∧
  C.draw w487 fun S w488 =>
  C.loadAS S 5 x10_8 w488 fun x45_489 w489 =>
  (C.call Try.prog 18 #[y3] w489 fun x47_566 w566 =>
  (S w566 ∧
  (C.call Try.prog 15 #[x34_10, x45_489, x47_566] w566 fun x48_642 w642 =>
  (S w642 ∧
  C.ext 0 x48_642 w642 fun x49_643 w643 =>
  C.ext 1 x48_642 w643 fun x50_644 w644 =>
  (C.new (.cells #[.int .i64 0, .int .i64 0, .int .i64 0, .int .i64 0, .int .i64 0] 25) w644 fun x15_645 w645 =>
  (S w645 ∧
  (C.store 5 x15_645 x49_643 w645 fun w646 =>
  (S w646 ∧
  C.run Try.prog (Instr.build 58 #[]) w646 fun x51_647 w647 =>
  C.new (.cells (Value.cells x51_647) 58) w647 fun x52_648 w648 =>
  C.guarded true x32_7 (fun K => K x42_485 w648) w648 fun x55_649 w649 =>
  C.pick (some x32_7) (some x55_649) (some (.bool false)) w649 fun x56_650 w650 =>
  C.guarded true x56_650 (fun K => K x50_644 w650) w650 fun x58_651 w651 =>
  C.pick (some x56_650) (some x58_651) (some (.bool false)) w651 fun x59_652 w652 =>
  C.guarded true x59_652 (fun K => K x22_1 w652) w652 fun x61_653 w653 =>
  C.guarded true x59_652 (fun K => C.loadA 5 x13_486 w653 K) w653 fun x62_654 w654 =>
  C.guarded true x59_652 (fun K => C.call Try.prog 35 #[x61_653, x62_654] w654 K) w654 fun x63_655 w655 =>
  C.pick (some x59_652) (some x63_655) (some (.bool false)) w655 fun x64_656 w656 =>
  C.guarded true x64_656 (fun K => K x34_10 w656) w656 fun x66_657 w657 =>
  C.guarded true x64_656 (fun K => C.loadA 5 x15_645 w657 K) w657 fun x67_658 w658 =>
  C.guarded true x64_656 (fun K => C.call Try.prog 35 #[x66_657, x67_658] w658 K) w658 fun x68_659 w659 =>
  C.pick (some x64_656) (some x68_659) (some (.bool false)) w659 fun x69_660 w660 =>
  C.guarded true x69_660 (fun K => K (.pointer none) w660) w660 fun x71_661 w661 =>
  C.guarded true x69_660 (fun K => C.call Try.prog 19 #[x71_661, (.int .i64 1)] w661 K) w661 fun x72_662 w662 =>
  C.guarded true x69_660 (fun K => C.int .eql x72_662 (.int .i64 0) w662 K) w662 fun x73_663 w663 =>
  C.pick (some x69_660) (some x73_663) (some (.bool false)) w663 fun x74_664 w664 =>
  C.guarded true x74_664 (fun K => K x52_648 w664) w664 fun x76_665 w665 =>
  C.guarded true x74_664 (fun K => C.call Try.prog 19 #[x76_665, (.int .i64 1)] w665 K) w665 fun x77_666 w666 =>
  C.guarded true x74_664 (fun K => C.int .eql x77_666 (.int .i64 0) w666 K) w666 fun x78_667 w667 =>
  C.pick (some x74_664) (some x78_667) (some (.bool false)) w667 fun x79_668 w668 =>
  C.guarded true x79_668 (fun K => K (.pointer none) w668) w668 fun x81_669 w669 =>
  C.guarded true x79_668 (fun K => C.call Try.prog 20 #[x81_669, (.int .i64 0)] w669 K) w669 fun x82_670 w670 =>
  C.guarded true x79_668 (fun K => C.not x82_670 w670 K) w670 fun x83_671 w671 =>
  C.pick (some x79_668) (some x83_671) (some (.bool false)) w671 fun x84_672 w672 =>
  C.guarded true x84_672 (fun K => K x52_648 w672) w672 fun x86_673 w673 =>
  C.guarded true x84_672 (fun K => C.call Try.prog 20 #[x86_673, (.int .i64 0)] w673 K) w673 fun x87_674 w674 =>
  C.guarded true x84_672 (fun K => C.not x87_674 w674 K) w674 fun x88_675 w675 =>
  C.pick (some x84_672) (some x88_675) (some (.bool false)) w675 fun x89_676 w676 =>
  C.guarded true x89_676 (fun K => K (.pointer none) w676) w676 fun x91_677 w677 =>
  C.guarded true x89_676 (fun K => C.call Try.prog 21 #[x91_677, (.int .i64 1)] w677 K) w677 fun x92_678 w678 =>
  C.guarded true x89_676 (fun K => C.int .eql x92_678 (.int .i64 0) w678 K) w678 fun x93_679 w679 =>
  C.pick (some x89_676) (some x93_679) (some (.bool false)) w679 fun x94_680 w680 =>
  C.guarded true x94_680 (fun K => K x52_648 w680) w680 fun x96_681 w681 =>
  C.guarded true x94_680 (fun K => C.call Try.prog 21 #[x96_681, (.int .i64 1)] w681 K) w681 fun x97_682 w682 =>
  C.guarded true x94_680 (fun K => C.int .eql x97_682 (.int .i64 0) w682 K) w682 fun x98_683 w683 =>
  C.pick (some x94_680) (some x98_683) (some (.bool false)) w683 fun x99_684 w684 =>
  C.guarded true x99_684 (fun K => K (.pointer none) w684) w684 fun x101_685 w685 =>
  C.guarded true x99_684 (fun K => C.call Try.prog 22 #[x101_685] w685 K) w685 fun x102_686 w686 =>
  C.guarded true x99_684 (fun K => C.int .eql x102_686 (.int .i64 0) w686 K) w686 fun x103_687 w687 =>
  C.pick (some x99_684) (some x103_687) (some (.bool false)) w687 fun x104_688 w688 =>
  C.guarded true x104_688 (fun K => K x52_648 w688) w688 fun x106_689 w689 =>
  C.guarded true x104_688 (fun K => C.call Try.prog 22 #[x106_689] w689 K) w689 fun x107_690 w690 =>
  C.guarded true x104_688 (fun K => C.int .eql x107_690 (.int .i64 0) w690 K) w690 fun x108_691 w691 =>
  C.pick (some x104_688) (some x108_691) (some (.bool false)) w691 fun x109_692 w692 =>
  C.guarded true x109_692 (fun K => K (.pointer none) w692) w692 fun x111_693 w693 =>
  C.guarded true x109_692 (fun K => C.call Try.prog 23 #[x111_693] w693 K) w693 fun x112_694 w694 =>
  C.guarded true x109_692 (fun K => C.int .eql x112_694 (.int .i64 0) w694 K) w694 fun x113_695 w695 =>
  C.pick (some x109_692) (some x113_695) (some (.bool false)) w695 fun x114_696 w696 =>
  C.guarded true x114_696 (fun K => K (.pointer none) w696) w696 fun x116_697 w697 =>
  C.guarded true x114_696 (fun K => C.call Try.prog 24 #[x116_697] w697 K) w697 fun x117_698 w698 =>
  C.guarded true x114_696 (fun K => C.int .eql x117_698 (.int .i64 0) w698 K) w698 fun x118_699 w699 =>
  C.pick (some x114_696) (some x118_699) (some (.bool false)) w699 fun x119_700 w700 =>
  C.guarded true x119_700 (fun K => K (.pointer none) w700) w700 fun x121_701 w701 =>
  C.guarded true x119_700 (fun K => C.call Try.prog 25 #[x121_701] w701 K) w701 fun x122_702 w702 =>
  C.guarded true x119_700 (fun K => C.int .eql x122_702 (.int .i64 0) w702 K) w702 fun x123_703 w703 =>
  C.pick (some x119_700) (some x123_703) (some (.bool false)) w703 fun x124_704 w704 =>
  C.guarded true x124_704 (fun K => K x52_648 w704) w704 fun x126_705 w705 =>
  C.guarded true x124_704 (fun K => C.call Try.prog 25 #[x126_705] w705 K) w705 fun x127_706 w706 =>
  C.guarded true x124_704 (fun K => C.int .eql x127_706 (.int .i64 0) w706 K) w706 fun x128_707 w707 =>
  C.pick (some x124_704) (some x128_707) (some (.bool false)) w707 fun x129_708 w708 =>
  C.guarded true x129_708 (fun K => K (.pointer none) w708) w708 fun x131_709 w709 =>
  C.guarded true x129_708 (fun K => C.call Try.prog 34 #[x131_709] w709 K) w709 fun x132_710 w710 =>
  C.guarded true x129_708 (fun K => C.bin Try.prog .eql 28 (.tmp 132) (.const (.pointer none)) x132_710 (.pointer none) w710 K) w710 fun x133_711 w711 =>
  C.pick (some x129_708) (some x133_711) (some (.bool false)) w711 fun x134_712 w712 =>
  C.guarded true x134_712 (fun K => K x52_648 w712) w712 fun x136_713 w713 =>
  C.guarded true x134_712 (fun K => C.call Try.prog 34 #[x136_713] w713 K) w713 fun x137_714 w714 =>
  C.guarded true x134_712 (fun K => C.bin Try.prog .eql 28 (.tmp 137) (.const (.pointer none)) x137_714 (.pointer none) w714 K) w714 fun x138_715 w715 =>
  C.pick (some x134_712) (some x138_715) (some (.bool false)) w715 fun x139_716 w716 =>
  K x139_716 w716)) ∧ True)) ∧ True)) ∧ ((C.new (.cells #[.int .i64 0, .int .i64 0, .int .i64 0, .int .i64 0, .int .i64 0] 25) w566 fun x15_567 w567 =>
  (S w567 ∧
  (C.call Try.prog 15 #[x34_10, x45_489, x47_566] w567 fun x48_568 w568 =>
  (S w568 ∧
  C.ext 0 x48_568 w568 fun x49_569 w569 =>
  C.ext 1 x48_568 w569 fun x50_570 w570 =>
  (C.store 5 x15_567 x49_569 w570 fun w571 =>
  (S w571 ∧
  C.run Try.prog (Instr.build 58 #[]) w571 fun x51_572 w572 =>
  C.new (.cells (Value.cells x51_572) 58) w572 fun x52_573 w573 =>
  C.guarded true x32_7 (fun K => K x42_485 w573) w573 fun x55_574 w574 =>
  C.pick (some x32_7) (some x55_574) (some (.bool false)) w574 fun x56_575 w575 =>
  C.guarded true x56_575 (fun K => K x50_570 w575) w575 fun x58_576 w576 =>
  C.pick (some x56_575) (some x58_576) (some (.bool false)) w576 fun x59_577 w577 =>
  C.guarded true x59_577 (fun K => K x22_1 w577) w577 fun x61_578 w578 =>
  C.guarded true x59_577 (fun K => C.loadA 5 x13_486 w578 K) w578 fun x62_579 w579 =>
  C.guarded true x59_577 (fun K => C.call Try.prog 35 #[x61_578, x62_579] w579 K) w579 fun x63_580 w580 =>
  C.pick (some x59_577) (some x63_580) (some (.bool false)) w580 fun x64_581 w581 =>
  C.guarded true x64_581 (fun K => K x34_10 w581) w581 fun x66_582 w582 =>
  C.guarded true x64_581 (fun K => C.loadA 5 x15_567 w582 K) w582 fun x67_583 w583 =>
  C.guarded true x64_581 (fun K => C.call Try.prog 35 #[x66_582, x67_583] w583 K) w583 fun x68_584 w584 =>
  C.pick (some x64_581) (some x68_584) (some (.bool false)) w584 fun x69_585 w585 =>
  C.guarded true x69_585 (fun K => K (.pointer none) w585) w585 fun x71_586 w586 =>
  C.guarded true x69_585 (fun K => C.call Try.prog 19 #[x71_586, (.int .i64 1)] w586 K) w586 fun x72_587 w587 =>
  C.guarded true x69_585 (fun K => C.int .eql x72_587 (.int .i64 0) w587 K) w587 fun x73_588 w588 =>
  C.pick (some x69_585) (some x73_588) (some (.bool false)) w588 fun x74_589 w589 =>
  C.guarded true x74_589 (fun K => K x52_573 w589) w589 fun x76_590 w590 =>
  C.guarded true x74_589 (fun K => C.call Try.prog 19 #[x76_590, (.int .i64 1)] w590 K) w590 fun x77_591 w591 =>
  C.guarded true x74_589 (fun K => C.int .eql x77_591 (.int .i64 0) w591 K) w591 fun x78_592 w592 =>
  C.pick (some x74_589) (some x78_592) (some (.bool false)) w592 fun x79_593 w593 =>
  C.guarded true x79_593 (fun K => K (.pointer none) w593) w593 fun x81_594 w594 =>
  C.guarded true x79_593 (fun K => C.call Try.prog 20 #[x81_594, (.int .i64 0)] w594 K) w594 fun x82_595 w595 =>
  C.guarded true x79_593 (fun K => C.not x82_595 w595 K) w595 fun x83_596 w596 =>
  C.pick (some x79_593) (some x83_596) (some (.bool false)) w596 fun x84_597 w597 =>
  C.guarded true x84_597 (fun K => K x52_573 w597) w597 fun x86_598 w598 =>
  C.guarded true x84_597 (fun K => C.call Try.prog 20 #[x86_598, (.int .i64 0)] w598 K) w598 fun x87_599 w599 =>
  C.guarded true x84_597 (fun K => C.not x87_599 w599 K) w599 fun x88_600 w600 =>
  C.pick (some x84_597) (some x88_600) (some (.bool false)) w600 fun x89_601 w601 =>
  C.guarded true x89_601 (fun K => K (.pointer none) w601) w601 fun x91_602 w602 =>
  C.guarded true x89_601 (fun K => C.call Try.prog 21 #[x91_602, (.int .i64 1)] w602 K) w602 fun x92_603 w603 =>
  C.guarded true x89_601 (fun K => C.int .eql x92_603 (.int .i64 0) w603 K) w603 fun x93_604 w604 =>
  C.pick (some x89_601) (some x93_604) (some (.bool false)) w604 fun x94_605 w605 =>
  C.guarded true x94_605 (fun K => K x52_573 w605) w605 fun x96_606 w606 =>
  C.guarded true x94_605 (fun K => C.call Try.prog 21 #[x96_606, (.int .i64 1)] w606 K) w606 fun x97_607 w607 =>
  C.guarded true x94_605 (fun K => C.int .eql x97_607 (.int .i64 0) w607 K) w607 fun x98_608 w608 =>
  C.pick (some x94_605) (some x98_608) (some (.bool false)) w608 fun x99_609 w609 =>
  C.guarded true x99_609 (fun K => K (.pointer none) w609) w609 fun x101_610 w610 =>
  C.guarded true x99_609 (fun K => C.call Try.prog 22 #[x101_610] w610 K) w610 fun x102_611 w611 =>
  C.guarded true x99_609 (fun K => C.int .eql x102_611 (.int .i64 0) w611 K) w611 fun x103_612 w612 =>
  C.pick (some x99_609) (some x103_612) (some (.bool false)) w612 fun x104_613 w613 =>
  C.guarded true x104_613 (fun K => K x52_573 w613) w613 fun x106_614 w614 =>
  C.guarded true x104_613 (fun K => C.call Try.prog 22 #[x106_614] w614 K) w614 fun x107_615 w615 =>
  C.guarded true x104_613 (fun K => C.int .eql x107_615 (.int .i64 0) w615 K) w615 fun x108_616 w616 =>
  C.pick (some x104_613) (some x108_616) (some (.bool false)) w616 fun x109_617 w617 =>
  C.guarded true x109_617 (fun K => K (.pointer none) w617) w617 fun x111_618 w618 =>
  C.guarded true x109_617 (fun K => C.call Try.prog 23 #[x111_618] w618 K) w618 fun x112_619 w619 =>
  C.guarded true x109_617 (fun K => C.int .eql x112_619 (.int .i64 0) w619 K) w619 fun x113_620 w620 =>
  C.pick (some x109_617) (some x113_620) (some (.bool false)) w620 fun x114_621 w621 =>
  C.guarded true x114_621 (fun K => K (.pointer none) w621) w621 fun x116_622 w622 =>
  C.guarded true x114_621 (fun K => C.call Try.prog 24 #[x116_622] w622 K) w622 fun x117_623 w623 =>
  C.guarded true x114_621 (fun K => C.int .eql x117_623 (.int .i64 0) w623 K) w623 fun x118_624 w624 =>
  C.pick (some x114_621) (some x118_624) (some (.bool false)) w624 fun x119_625 w625 =>
  C.guarded true x119_625 (fun K => K (.pointer none) w625) w625 fun x121_626 w626 =>
  C.guarded true x119_625 (fun K => C.call Try.prog 25 #[x121_626] w626 K) w626 fun x122_627 w627 =>
  C.guarded true x119_625 (fun K => C.int .eql x122_627 (.int .i64 0) w627 K) w627 fun x123_628 w628 =>
  C.pick (some x119_625) (some x123_628) (some (.bool false)) w628 fun x124_629 w629 =>
  C.guarded true x124_629 (fun K => K x52_573 w629) w629 fun x126_630 w630 =>
  C.guarded true x124_629 (fun K => C.call Try.prog 25 #[x126_630] w630 K) w630 fun x127_631 w631 =>
  C.guarded true x124_629 (fun K => C.int .eql x127_631 (.int .i64 0) w631 K) w631 fun x128_632 w632 =>
  C.pick (some x124_629) (some x128_632) (some (.bool false)) w632 fun x129_633 w633 =>
  C.guarded true x129_633 (fun K => K (.pointer none) w633) w633 fun x131_634 w634 =>
  C.guarded true x129_633 (fun K => C.call Try.prog 34 #[x131_634] w634 K) w634 fun x132_635 w635 =>
  C.guarded true x129_633 (fun K => C.bin Try.prog .eql 28 (.tmp 132) (.const (.pointer none)) x132_635 (.pointer none) w635 K) w635 fun x133_636 w636 =>
  C.pick (some x129_633) (some x133_636) (some (.bool false)) w636 fun x134_637 w637 =>
  C.guarded true x134_637 (fun K => K x52_573 w637) w637 fun x136_638 w638 =>
  C.guarded true x134_637 (fun K => C.call Try.prog 34 #[x136_638] w638 K) w638 fun x137_639 w639 =>
  C.guarded true x134_637 (fun K => C.bin Try.prog .eql 28 (.tmp 137) (.const (.pointer none)) x137_639 (.pointer none) w639 K) w639 fun x138_640 w640 =>
  C.pick (some x134_637) (some x138_640) (some (.bool false)) w640 fun x139_641 w641 =>
  K x139_641 w641)) ∧ True)) ∧ True)) ∧ True))) ∧ ((C.new (.cells #[.int .i64 0, .int .i64 0, .int .i64 0, .int .i64 0, .int .i64 0] 25) w489 fun x15_490 w490 =>
  (S w490 ∧
  (C.call Try.prog 18 #[y3] w490 fun x47_491 w491 =>
  (S w491 ∧
  (C.call Try.prog 15 #[x34_10, x45_489, x47_491] w491 fun x48_492 w492 =>
  (S w492 ∧
  C.ext 0 x48_492 w492 fun x49_493 w493 =>
  C.ext 1 x48_492 w493 fun x50_494 w494 =>
  (C.store 5 x15_490 x49_493 w494 fun w495 =>
  (S w495 ∧
  C.run Try.prog (Instr.build 58 #[]) w495 fun x51_496 w496 =>
  C.new (.cells (Value.cells x51_496) 58) w496 fun x52_497 w497 =>
  C.guarded true x32_7 (fun K => K x42_485 w497) w497 fun x55_498 w498 =>
  C.pick (some x32_7) (some x55_498) (some (.bool false)) w498 fun x56_499 w499 =>
  C.guarded true x56_499 (fun K => K x50_494 w499) w499 fun x58_500 w500 =>
  C.pick (some x56_499) (some x58_500) (some (.bool false)) w500 fun x59_501 w501 =>
  C.guarded true x59_501 (fun K => K x22_1 w501) w501 fun x61_502 w502 =>
  C.guarded true x59_501 (fun K => C.loadA 5 x13_486 w502 K) w502 fun x62_503 w503 =>
  C.guarded true x59_501 (fun K => C.call Try.prog 35 #[x61_502, x62_503] w503 K) w503 fun x63_504 w504 =>
  C.pick (some x59_501) (some x63_504) (some (.bool false)) w504 fun x64_505 w505 =>
  C.guarded true x64_505 (fun K => K x34_10 w505) w505 fun x66_506 w506 =>
  C.guarded true x64_505 (fun K => C.loadA 5 x15_490 w506 K) w506 fun x67_507 w507 =>
  C.guarded true x64_505 (fun K => C.call Try.prog 35 #[x66_506, x67_507] w507 K) w507 fun x68_508 w508 =>
  C.pick (some x64_505) (some x68_508) (some (.bool false)) w508 fun x69_509 w509 =>
  C.guarded true x69_509 (fun K => K (.pointer none) w509) w509 fun x71_510 w510 =>
  C.guarded true x69_509 (fun K => C.call Try.prog 19 #[x71_510, (.int .i64 1)] w510 K) w510 fun x72_511 w511 =>
  C.guarded true x69_509 (fun K => C.int .eql x72_511 (.int .i64 0) w511 K) w511 fun x73_512 w512 =>
  C.pick (some x69_509) (some x73_512) (some (.bool false)) w512 fun x74_513 w513 =>
  C.guarded true x74_513 (fun K => K x52_497 w513) w513 fun x76_514 w514 =>
  C.guarded true x74_513 (fun K => C.call Try.prog 19 #[x76_514, (.int .i64 1)] w514 K) w514 fun x77_515 w515 =>
  C.guarded true x74_513 (fun K => C.int .eql x77_515 (.int .i64 0) w515 K) w515 fun x78_516 w516 =>
  C.pick (some x74_513) (some x78_516) (some (.bool false)) w516 fun x79_517 w517 =>
  C.guarded true x79_517 (fun K => K (.pointer none) w517) w517 fun x81_518 w518 =>
  C.guarded true x79_517 (fun K => C.call Try.prog 20 #[x81_518, (.int .i64 0)] w518 K) w518 fun x82_519 w519 =>
  C.guarded true x79_517 (fun K => C.not x82_519 w519 K) w519 fun x83_520 w520 =>
  C.pick (some x79_517) (some x83_520) (some (.bool false)) w520 fun x84_521 w521 =>
  C.guarded true x84_521 (fun K => K x52_497 w521) w521 fun x86_522 w522 =>
  C.guarded true x84_521 (fun K => C.call Try.prog 20 #[x86_522, (.int .i64 0)] w522 K) w522 fun x87_523 w523 =>
  C.guarded true x84_521 (fun K => C.not x87_523 w523 K) w523 fun x88_524 w524 =>
  C.pick (some x84_521) (some x88_524) (some (.bool false)) w524 fun x89_525 w525 =>
  C.guarded true x89_525 (fun K => K (.pointer none) w525) w525 fun x91_526 w526 =>
  C.guarded true x89_525 (fun K => C.call Try.prog 21 #[x91_526, (.int .i64 1)] w526 K) w526 fun x92_527 w527 =>
  C.guarded true x89_525 (fun K => C.int .eql x92_527 (.int .i64 0) w527 K) w527 fun x93_528 w528 =>
  C.pick (some x89_525) (some x93_528) (some (.bool false)) w528 fun x94_529 w529 =>
  C.guarded true x94_529 (fun K => K x52_497 w529) w529 fun x96_530 w530 =>
  C.guarded true x94_529 (fun K => C.call Try.prog 21 #[x96_530, (.int .i64 1)] w530 K) w530 fun x97_531 w531 =>
  C.guarded true x94_529 (fun K => C.int .eql x97_531 (.int .i64 0) w531 K) w531 fun x98_532 w532 =>
  C.pick (some x94_529) (some x98_532) (some (.bool false)) w532 fun x99_533 w533 =>
  C.guarded true x99_533 (fun K => K (.pointer none) w533) w533 fun x101_534 w534 =>
  C.guarded true x99_533 (fun K => C.call Try.prog 22 #[x101_534] w534 K) w534 fun x102_535 w535 =>
  C.guarded true x99_533 (fun K => C.int .eql x102_535 (.int .i64 0) w535 K) w535 fun x103_536 w536 =>
  C.pick (some x99_533) (some x103_536) (some (.bool false)) w536 fun x104_537 w537 =>
  C.guarded true x104_537 (fun K => K x52_497 w537) w537 fun x106_538 w538 =>
  C.guarded true x104_537 (fun K => C.call Try.prog 22 #[x106_538] w538 K) w538 fun x107_539 w539 =>
  C.guarded true x104_537 (fun K => C.int .eql x107_539 (.int .i64 0) w539 K) w539 fun x108_540 w540 =>
  C.pick (some x104_537) (some x108_540) (some (.bool false)) w540 fun x109_541 w541 =>
  C.guarded true x109_541 (fun K => K (.pointer none) w541) w541 fun x111_542 w542 =>
  C.guarded true x109_541 (fun K => C.call Try.prog 23 #[x111_542] w542 K) w542 fun x112_543 w543 =>
  C.guarded true x109_541 (fun K => C.int .eql x112_543 (.int .i64 0) w543 K) w543 fun x113_544 w544 =>
  C.pick (some x109_541) (some x113_544) (some (.bool false)) w544 fun x114_545 w545 =>
  C.guarded true x114_545 (fun K => K (.pointer none) w545) w545 fun x116_546 w546 =>
  C.guarded true x114_545 (fun K => C.call Try.prog 24 #[x116_546] w546 K) w546 fun x117_547 w547 =>
  C.guarded true x114_545 (fun K => C.int .eql x117_547 (.int .i64 0) w547 K) w547 fun x118_548 w548 =>
  C.pick (some x114_545) (some x118_548) (some (.bool false)) w548 fun x119_549 w549 =>
  C.guarded true x119_549 (fun K => K (.pointer none) w549) w549 fun x121_550 w550 =>
  C.guarded true x119_549 (fun K => C.call Try.prog 25 #[x121_550] w550 K) w550 fun x122_551 w551 =>
  C.guarded true x119_549 (fun K => C.int .eql x122_551 (.int .i64 0) w551 K) w551 fun x123_552 w552 =>
  C.pick (some x119_549) (some x123_552) (some (.bool false)) w552 fun x124_553 w553 =>
  C.guarded true x124_553 (fun K => K x52_497 w553) w553 fun x126_554 w554 =>
  C.guarded true x124_553 (fun K => C.call Try.prog 25 #[x126_554] w554 K) w554 fun x127_555 w555 =>
  C.guarded true x124_553 (fun K => C.int .eql x127_555 (.int .i64 0) w555 K) w555 fun x128_556 w556 =>
  C.pick (some x124_553) (some x128_556) (some (.bool false)) w556 fun x129_557 w557 =>
  C.guarded true x129_557 (fun K => K (.pointer none) w557) w557 fun x131_558 w558 =>
  C.guarded true x129_557 (fun K => C.call Try.prog 34 #[x131_558] w558 K) w558 fun x132_559 w559 =>
  C.guarded true x129_557 (fun K => C.bin Try.prog .eql 28 (.tmp 132) (.const (.pointer none)) x132_559 (.pointer none) w559 K) w559 fun x133_560 w560 =>
  C.pick (some x129_557) (some x133_560) (some (.bool false)) w560 fun x134_561 w561 =>
  C.guarded true x134_561 (fun K => K x52_497 w561) w561 fun x136_562 w562 =>
  C.guarded true x134_561 (fun K => C.call Try.prog 34 #[x136_562] w562 K) w562 fun x137_563 w563 =>
  C.guarded true x134_561 (fun K => C.bin Try.prog .eql 28 (.tmp 137) (.const (.pointer none)) x137_563 (.pointer none) w563 K) w563 fun x138_564 w564 =>
  C.pick (some x134_561) (some x138_564) (some (.bool false)) w564 fun x139_565 w565 =>
  K x139_565 w565)) ∧ True)) ∧ True)) ∧ True)) ∧ True))) ∧ True)) ∧ True)) ∧ ((C.new (.cells #[.int .i64 0, .int .i64 0, .int .i64 0, .int .i64 0, .int .i64 0] 25) w248 fun x13_249 w249 =>
  (S w249 ∧
  (C.call Try.prog 15 #[x22_1, x37_12, x39_248] w249 fun x40_250 w250 =>
  (S w250 ∧
  C.ext 0 x40_250 w250 fun x41_251 w251 =>
  C.ext 1 x40_250 w251 fun x42_252 w252 =>
  (C.store 5 x13_249 x41_251 w252 fun w253 =>
  (S w253 ∧
  C.draw w253 fun S w254 =>
  C.loadAS S 5 x10_8 w254 fun x45_255 w255 =>
  (C.call Try.prog 18 #[y3] w255 fun x47_332 w332 =>
  (S w332 ∧
  (C.call Try.prog 15 #[x34_10, x45_255, x47_332] w332 fun x48_408 w408 =>
  (S w408 ∧
  C.ext 0 x48_408 w408 fun x49_409 w409 =>
  C.ext 1 x48_408 w409 fun x50_410 w410 =>
  (C.new (.cells #[.int .i64 0, .int .i64 0, .int .i64 0, .int .i64 0, .int .i64 0] 25) w410 fun x15_411 w411 =>
  (S w411 ∧
  (C.store 5 x15_411 x49_409 w411 fun w412 =>
  (S w412 ∧
  C.run Try.prog (Instr.build 58 #[]) w412 fun x51_413 w413 =>
  C.new (.cells (Value.cells x51_413) 58) w413 fun x52_414 w414 =>
  C.guarded true x32_7 (fun K => K x42_252 w414) w414 fun x55_415 w415 =>
  C.pick (some x32_7) (some x55_415) (some (.bool false)) w415 fun x56_416 w416 =>
  C.guarded true x56_416 (fun K => K x50_410 w416) w416 fun x58_417 w417 =>
  C.pick (some x56_416) (some x58_417) (some (.bool false)) w417 fun x59_418 w418 =>
  C.guarded true x59_418 (fun K => K x22_1 w418) w418 fun x61_419 w419 =>
  C.guarded true x59_418 (fun K => C.loadA 5 x13_249 w419 K) w419 fun x62_420 w420 =>
  C.guarded true x59_418 (fun K => C.call Try.prog 35 #[x61_419, x62_420] w420 K) w420 fun x63_421 w421 =>
  C.pick (some x59_418) (some x63_421) (some (.bool false)) w421 fun x64_422 w422 =>
  C.guarded true x64_422 (fun K => K x34_10 w422) w422 fun x66_423 w423 =>
  C.guarded true x64_422 (fun K => C.loadA 5 x15_411 w423 K) w423 fun x67_424 w424 =>
  C.guarded true x64_422 (fun K => C.call Try.prog 35 #[x66_423, x67_424] w424 K) w424 fun x68_425 w425 =>
  C.pick (some x64_422) (some x68_425) (some (.bool false)) w425 fun x69_426 w426 =>
  C.guarded true x69_426 (fun K => K (.pointer none) w426) w426 fun x71_427 w427 =>
  C.guarded true x69_426 (fun K => C.call Try.prog 19 #[x71_427, (.int .i64 1)] w427 K) w427 fun x72_428 w428 =>
  C.guarded true x69_426 (fun K => C.int .eql x72_428 (.int .i64 0) w428 K) w428 fun x73_429 w429 =>
  C.pick (some x69_426) (some x73_429) (some (.bool false)) w429 fun x74_430 w430 =>
  C.guarded true x74_430 (fun K => K x52_414 w430) w430 fun x76_431 w431 =>
  C.guarded true x74_430 (fun K => C.call Try.prog 19 #[x76_431, (.int .i64 1)] w431 K) w431 fun x77_432 w432 =>
  C.guarded true x74_430 (fun K => C.int .eql x77_432 (.int .i64 0) w432 K) w432 fun x78_433 w433 =>
  C.pick (some x74_430) (some x78_433) (some (.bool false)) w433 fun x79_434 w434 =>
  C.guarded true x79_434 (fun K => K (.pointer none) w434) w434 fun x81_435 w435 =>
  C.guarded true x79_434 (fun K => C.call Try.prog 20 #[x81_435, (.int .i64 0)] w435 K) w435 fun x82_436 w436 =>
  C.guarded true x79_434 (fun K => C.not x82_436 w436 K) w436 fun x83_437 w437 =>
  C.pick (some x79_434) (some x83_437) (some (.bool false)) w437 fun x84_438 w438 =>
  C.guarded true x84_438 (fun K => K x52_414 w438) w438 fun x86_439 w439 =>
  C.guarded true x84_438 (fun K => C.call Try.prog 20 #[x86_439, (.int .i64 0)] w439 K) w439 fun x87_440 w440 =>
  C.guarded true x84_438 (fun K => C.not x87_440 w440 K) w440 fun x88_441 w441 =>
  C.pick (some x84_438) (some x88_441) (some (.bool false)) w441 fun x89_442 w442 =>
  C.guarded true x89_442 (fun K => K (.pointer none) w442) w442 fun x91_443 w443 =>
  C.guarded true x89_442 (fun K => C.call Try.prog 21 #[x91_443, (.int .i64 1)] w443 K) w443 fun x92_444 w444 =>
  C.guarded true x89_442 (fun K => C.int .eql x92_444 (.int .i64 0) w444 K) w444 fun x93_445 w445 =>
  C.pick (some x89_442) (some x93_445) (some (.bool false)) w445 fun x94_446 w446 =>
  C.guarded true x94_446 (fun K => K x52_414 w446) w446 fun x96_447 w447 =>
  C.guarded true x94_446 (fun K => C.call Try.prog 21 #[x96_447, (.int .i64 1)] w447 K) w447 fun x97_448 w448 =>
  C.guarded true x94_446 (fun K => C.int .eql x97_448 (.int .i64 0) w448 K) w448 fun x98_449 w449 =>
  C.pick (some x94_446) (some x98_449) (some (.bool false)) w449 fun x99_450 w450 =>
  C.guarded true x99_450 (fun K => K (.pointer none) w450) w450 fun x101_451 w451 =>
  C.guarded true x99_450 (fun K => C.call Try.prog 22 #[x101_451] w451 K) w451 fun x102_452 w452 =>
  C.guarded true x99_450 (fun K => C.int .eql x102_452 (.int .i64 0) w452 K) w452 fun x103_453 w453 =>
  C.pick (some x99_450) (some x103_453) (some (.bool false)) w453 fun x104_454 w454 =>
  C.guarded true x104_454 (fun K => K x52_414 w454) w454 fun x106_455 w455 =>
  C.guarded true x104_454 (fun K => C.call Try.prog 22 #[x106_455] w455 K) w455 fun x107_456 w456 =>
  C.guarded true x104_454 (fun K => C.int .eql x107_456 (.int .i64 0) w456 K) w456 fun x108_457 w457 =>
  C.pick (some x104_454) (some x108_457) (some (.bool false)) w457 fun x109_458 w458 =>
  C.guarded true x109_458 (fun K => K (.pointer none) w458) w458 fun x111_459 w459 =>
  C.guarded true x109_458 (fun K => C.call Try.prog 23 #[x111_459] w459 K) w459 fun x112_460 w460 =>
  C.guarded true x109_458 (fun K => C.int .eql x112_460 (.int .i64 0) w460 K) w460 fun x113_461 w461 =>
  C.pick (some x109_458) (some x113_461) (some (.bool false)) w461 fun x114_462 w462 =>
  C.guarded true x114_462 (fun K => K (.pointer none) w462) w462 fun x116_463 w463 =>
  C.guarded true x114_462 (fun K => C.call Try.prog 24 #[x116_463] w463 K) w463 fun x117_464 w464 =>
  C.guarded true x114_462 (fun K => C.int .eql x117_464 (.int .i64 0) w464 K) w464 fun x118_465 w465 =>
  C.pick (some x114_462) (some x118_465) (some (.bool false)) w465 fun x119_466 w466 =>
  C.guarded true x119_466 (fun K => K (.pointer none) w466) w466 fun x121_467 w467 =>
  C.guarded true x119_466 (fun K => C.call Try.prog 25 #[x121_467] w467 K) w467 fun x122_468 w468 =>
  C.guarded true x119_466 (fun K => C.int .eql x122_468 (.int .i64 0) w468 K) w468 fun x123_469 w469 =>
  C.pick (some x119_466) (some x123_469) (some (.bool false)) w469 fun x124_470 w470 =>
  C.guarded true x124_470 (fun K => K x52_414 w470) w470 fun x126_471 w471 =>
  C.guarded true x124_470 (fun K => C.call Try.prog 25 #[x126_471] w471 K) w471 fun x127_472 w472 =>
  C.guarded true x124_470 (fun K => C.int .eql x127_472 (.int .i64 0) w472 K) w472 fun x128_473 w473 =>
  C.pick (some x124_470) (some x128_473) (some (.bool false)) w473 fun x129_474 w474 =>
  C.guarded true x129_474 (fun K => K (.pointer none) w474) w474 fun x131_475 w475 =>
  C.guarded true x129_474 (fun K => C.call Try.prog 34 #[x131_475] w475 K) w475 fun x132_476 w476 =>
  C.guarded true x129_474 (fun K => C.bin Try.prog .eql 28 (.tmp 132) (.const (.pointer none)) x132_476 (.pointer none) w476 K) w476 fun x133_477 w477 =>
  C.pick (some x129_474) (some x133_477) (some (.bool false)) w477 fun x134_478 w478 =>
  C.guarded true x134_478 (fun K => K x52_414 w478) w478 fun x136_479 w479 =>
  C.guarded true x134_478 (fun K => C.call Try.prog 34 #[x136_479] w479 K) w479 fun x137_480 w480 =>
  C.guarded true x134_478 (fun K => C.bin Try.prog .eql 28 (.tmp 137) (.const (.pointer none)) x137_480 (.pointer none) w480 K) w480 fun x138_481 w481 =>
  C.pick (some x134_478) (some x138_481) (some (.bool false)) w481 fun x139_482 w482 =>
  K x139_482 w482)) ∧ True)) ∧ True)) ∧ ((C.new (.cells #[.int .i64 0, .int .i64 0, .int .i64 0, .int .i64 0, .int .i64 0] 25) w332 fun x15_333 w333 =>
  (S w333 ∧
  (C.call Try.prog 15 #[x34_10, x45_255, x47_332] w333 fun x48_334 w334 =>
  (S w334 ∧
  C.ext 0 x48_334 w334 fun x49_335 w335 =>
  C.ext 1 x48_334 w335 fun x50_336 w336 =>
  (C.store 5 x15_333 x49_335 w336 fun w337 =>
  (S w337 ∧
  C.run Try.prog (Instr.build 58 #[]) w337 fun x51_338 w338 =>
  C.new (.cells (Value.cells x51_338) 58) w338 fun x52_339 w339 =>
  C.guarded true x32_7 (fun K => K x42_252 w339) w339 fun x55_340 w340 =>
  C.pick (some x32_7) (some x55_340) (some (.bool false)) w340 fun x56_341 w341 =>
  C.guarded true x56_341 (fun K => K x50_336 w341) w341 fun x58_342 w342 =>
  C.pick (some x56_341) (some x58_342) (some (.bool false)) w342 fun x59_343 w343 =>
  C.guarded true x59_343 (fun K => K x22_1 w343) w343 fun x61_344 w344 =>
  C.guarded true x59_343 (fun K => C.loadA 5 x13_249 w344 K) w344 fun x62_345 w345 =>
  C.guarded true x59_343 (fun K => C.call Try.prog 35 #[x61_344, x62_345] w345 K) w345 fun x63_346 w346 =>
  C.pick (some x59_343) (some x63_346) (some (.bool false)) w346 fun x64_347 w347 =>
  C.guarded true x64_347 (fun K => K x34_10 w347) w347 fun x66_348 w348 =>
  C.guarded true x64_347 (fun K => C.loadA 5 x15_333 w348 K) w348 fun x67_349 w349 =>
  C.guarded true x64_347 (fun K => C.call Try.prog 35 #[x66_348, x67_349] w349 K) w349 fun x68_350 w350 =>
  C.pick (some x64_347) (some x68_350) (some (.bool false)) w350 fun x69_351 w351 =>
  C.guarded true x69_351 (fun K => K (.pointer none) w351) w351 fun x71_352 w352 =>
  C.guarded true x69_351 (fun K => C.call Try.prog 19 #[x71_352, (.int .i64 1)] w352 K) w352 fun x72_353 w353 =>
  C.guarded true x69_351 (fun K => C.int .eql x72_353 (.int .i64 0) w353 K) w353 fun x73_354 w354 =>
  C.pick (some x69_351) (some x73_354) (some (.bool false)) w354 fun x74_355 w355 =>
  C.guarded true x74_355 (fun K => K x52_339 w355) w355 fun x76_356 w356 =>
  C.guarded true x74_355 (fun K => C.call Try.prog 19 #[x76_356, (.int .i64 1)] w356 K) w356 fun x77_357 w357 =>
  C.guarded true x74_355 (fun K => C.int .eql x77_357 (.int .i64 0) w357 K) w357 fun x78_358 w358 =>
  C.pick (some x74_355) (some x78_358) (some (.bool false)) w358 fun x79_359 w359 =>
  C.guarded true x79_359 (fun K => K (.pointer none) w359) w359 fun x81_360 w360 =>
  C.guarded true x79_359 (fun K => C.call Try.prog 20 #[x81_360, (.int .i64 0)] w360 K) w360 fun x82_361 w361 =>
  C.guarded true x79_359 (fun K => C.not x82_361 w361 K) w361 fun x83_362 w362 =>
  C.pick (some x79_359) (some x83_362) (some (.bool false)) w362 fun x84_363 w363 =>
  C.guarded true x84_363 (fun K => K x52_339 w363) w363 fun x86_364 w364 =>
  C.guarded true x84_363 (fun K => C.call Try.prog 20 #[x86_364, (.int .i64 0)] w364 K) w364 fun x87_365 w365 =>
  C.guarded true x84_363 (fun K => C.not x87_365 w365 K) w365 fun x88_366 w366 =>
  C.pick (some x84_363) (some x88_366) (some (.bool false)) w366 fun x89_367 w367 =>
  C.guarded true x89_367 (fun K => K (.pointer none) w367) w367 fun x91_368 w368 =>
  C.guarded true x89_367 (fun K => C.call Try.prog 21 #[x91_368, (.int .i64 1)] w368 K) w368 fun x92_369 w369 =>
  C.guarded true x89_367 (fun K => C.int .eql x92_369 (.int .i64 0) w369 K) w369 fun x93_370 w370 =>
  C.pick (some x89_367) (some x93_370) (some (.bool false)) w370 fun x94_371 w371 =>
  C.guarded true x94_371 (fun K => K x52_339 w371) w371 fun x96_372 w372 =>
  C.guarded true x94_371 (fun K => C.call Try.prog 21 #[x96_372, (.int .i64 1)] w372 K) w372 fun x97_373 w373 =>
  C.guarded true x94_371 (fun K => C.int .eql x97_373 (.int .i64 0) w373 K) w373 fun x98_374 w374 =>
  C.pick (some x94_371) (some x98_374) (some (.bool false)) w374 fun x99_375 w375 =>
  C.guarded true x99_375 (fun K => K (.pointer none) w375) w375 fun x101_376 w376 =>
  C.guarded true x99_375 (fun K => C.call Try.prog 22 #[x101_376] w376 K) w376 fun x102_377 w377 =>
  C.guarded true x99_375 (fun K => C.int .eql x102_377 (.int .i64 0) w377 K) w377 fun x103_378 w378 =>
  C.pick (some x99_375) (some x103_378) (some (.bool false)) w378 fun x104_379 w379 =>
  C.guarded true x104_379 (fun K => K x52_339 w379) w379 fun x106_380 w380 =>
  C.guarded true x104_379 (fun K => C.call Try.prog 22 #[x106_380] w380 K) w380 fun x107_381 w381 =>
  C.guarded true x104_379 (fun K => C.int .eql x107_381 (.int .i64 0) w381 K) w381 fun x108_382 w382 =>
  C.pick (some x104_379) (some x108_382) (some (.bool false)) w382 fun x109_383 w383 =>
  C.guarded true x109_383 (fun K => K (.pointer none) w383) w383 fun x111_384 w384 =>
  C.guarded true x109_383 (fun K => C.call Try.prog 23 #[x111_384] w384 K) w384 fun x112_385 w385 =>
  C.guarded true x109_383 (fun K => C.int .eql x112_385 (.int .i64 0) w385 K) w385 fun x113_386 w386 =>
  C.pick (some x109_383) (some x113_386) (some (.bool false)) w386 fun x114_387 w387 =>
  C.guarded true x114_387 (fun K => K (.pointer none) w387) w387 fun x116_388 w388 =>
  C.guarded true x114_387 (fun K => C.call Try.prog 24 #[x116_388] w388 K) w388 fun x117_389 w389 =>
  C.guarded true x114_387 (fun K => C.int .eql x117_389 (.int .i64 0) w389 K) w389 fun x118_390 w390 =>
  C.pick (some x114_387) (some x118_390) (some (.bool false)) w390 fun x119_391 w391 =>
  C.guarded true x119_391 (fun K => K (.pointer none) w391) w391 fun x121_392 w392 =>
  C.guarded true x119_391 (fun K => C.call Try.prog 25 #[x121_392] w392 K) w392 fun x122_393 w393 =>
  C.guarded true x119_391 (fun K => C.int .eql x122_393 (.int .i64 0) w393 K) w393 fun x123_394 w394 =>
  C.pick (some x119_391) (some x123_394) (some (.bool false)) w394 fun x124_395 w395 =>
  C.guarded true x124_395 (fun K => K x52_339 w395) w395 fun x126_396 w396 =>
  C.guarded true x124_395 (fun K => C.call Try.prog 25 #[x126_396] w396 K) w396 fun x127_397 w397 =>
  C.guarded true x124_395 (fun K => C.int .eql x127_397 (.int .i64 0) w397 K) w397 fun x128_398 w398 =>
  C.pick (some x124_395) (some x128_398) (some (.bool false)) w398 fun x129_399 w399 =>
  C.guarded true x129_399 (fun K => K (.pointer none) w399) w399 fun x131_400 w400 =>
  C.guarded true x129_399 (fun K => C.call Try.prog 34 #[x131_400] w400 K) w400 fun x132_401 w401 =>
  C.guarded true x129_399 (fun K => C.bin Try.prog .eql 28 (.tmp 132) (.const (.pointer none)) x132_401 (.pointer none) w401 K) w401 fun x133_402 w402 =>
  C.pick (some x129_399) (some x133_402) (some (.bool false)) w402 fun x134_403 w403 =>
  C.guarded true x134_403 (fun K => K x52_339 w403) w403 fun x136_404 w404 =>
  C.guarded true x134_403 (fun K => C.call Try.prog 34 #[x136_404] w404 K) w404 fun x137_405 w405 =>
  C.guarded true x134_403 (fun K => C.bin Try.prog .eql 28 (.tmp 137) (.const (.pointer none)) x137_405 (.pointer none) w405 K) w405 fun x138_406 w406 =>
  C.pick (some x134_403) (some x138_406) (some (.bool false)) w406 fun x139_407 w407 =>
  K x139_407 w407)) ∧ True)) ∧ True)) ∧ True))) ∧ ((C.new (.cells #[.int .i64 0, .int .i64 0, .int .i64 0, .int .i64 0, .int .i64 0] 25) w255 fun x15_256 w256 =>
  (S w256 ∧
  (C.call Try.prog 18 #[y3] w256 fun x47_257 w257 =>
  (S w257 ∧
  (C.call Try.prog 15 #[x34_10, x45_255, x47_257] w257 fun x48_258 w258 =>
  (S w258 ∧
  C.ext 0 x48_258 w258 fun x49_259 w259 =>
  C.ext 1 x48_258 w259 fun x50_260 w260 =>
  (C.store 5 x15_256 x49_259 w260 fun w261 =>
  (S w261 ∧
  C.run Try.prog (Instr.build 58 #[]) w261 fun x51_262 w262 =>
  C.new (.cells (Value.cells x51_262) 58) w262 fun x52_263 w263 =>
  C.guarded true x32_7 (fun K => K x42_252 w263) w263 fun x55_264 w264 =>
  C.pick (some x32_7) (some x55_264) (some (.bool false)) w264 fun x56_265 w265 =>
  C.guarded true x56_265 (fun K => K x50_260 w265) w265 fun x58_266 w266 =>
  C.pick (some x56_265) (some x58_266) (some (.bool false)) w266 fun x59_267 w267 =>
  C.guarded true x59_267 (fun K => K x22_1 w267) w267 fun x61_268 w268 =>
  C.guarded true x59_267 (fun K => C.loadA 5 x13_249 w268 K) w268 fun x62_269 w269 =>
  C.guarded true x59_267 (fun K => C.call Try.prog 35 #[x61_268, x62_269] w269 K) w269 fun x63_270 w270 =>
  C.pick (some x59_267) (some x63_270) (some (.bool false)) w270 fun x64_271 w271 =>
  C.guarded true x64_271 (fun K => K x34_10 w271) w271 fun x66_272 w272 =>
  C.guarded true x64_271 (fun K => C.loadA 5 x15_256 w272 K) w272 fun x67_273 w273 =>
  C.guarded true x64_271 (fun K => C.call Try.prog 35 #[x66_272, x67_273] w273 K) w273 fun x68_274 w274 =>
  C.pick (some x64_271) (some x68_274) (some (.bool false)) w274 fun x69_275 w275 =>
  C.guarded true x69_275 (fun K => K (.pointer none) w275) w275 fun x71_276 w276 =>
  C.guarded true x69_275 (fun K => C.call Try.prog 19 #[x71_276, (.int .i64 1)] w276 K) w276 fun x72_277 w277 =>
  C.guarded true x69_275 (fun K => C.int .eql x72_277 (.int .i64 0) w277 K) w277 fun x73_278 w278 =>
  C.pick (some x69_275) (some x73_278) (some (.bool false)) w278 fun x74_279 w279 =>
  C.guarded true x74_279 (fun K => K x52_263 w279) w279 fun x76_280 w280 =>
  C.guarded true x74_279 (fun K => C.call Try.prog 19 #[x76_280, (.int .i64 1)] w280 K) w280 fun x77_281 w281 =>
  C.guarded true x74_279 (fun K => C.int .eql x77_281 (.int .i64 0) w281 K) w281 fun x78_282 w282 =>
  C.pick (some x74_279) (some x78_282) (some (.bool false)) w282 fun x79_283 w283 =>
  C.guarded true x79_283 (fun K => K (.pointer none) w283) w283 fun x81_284 w284 =>
  C.guarded true x79_283 (fun K => C.call Try.prog 20 #[x81_284, (.int .i64 0)] w284 K) w284 fun x82_285 w285 =>
  C.guarded true x79_283 (fun K => C.not x82_285 w285 K) w285 fun x83_286 w286 =>
  C.pick (some x79_283) (some x83_286) (some (.bool false)) w286 fun x84_287 w287 =>
  C.guarded true x84_287 (fun K => K x52_263 w287) w287 fun x86_288 w288 =>
  C.guarded true x84_287 (fun K => C.call Try.prog 20 #[x86_288, (.int .i64 0)] w288 K) w288 fun x87_289 w289 =>
  C.guarded true x84_287 (fun K => C.not x87_289 w289 K) w289 fun x88_290 w290 =>
  C.pick (some x84_287) (some x88_290) (some (.bool false)) w290 fun x89_291 w291 =>
  C.guarded true x89_291 (fun K => K (.pointer none) w291) w291 fun x91_292 w292 =>
  C.guarded true x89_291 (fun K => C.call Try.prog 21 #[x91_292, (.int .i64 1)] w292 K) w292 fun x92_293 w293 =>
  C.guarded true x89_291 (fun K => C.int .eql x92_293 (.int .i64 0) w293 K) w293 fun x93_294 w294 =>
  C.pick (some x89_291) (some x93_294) (some (.bool false)) w294 fun x94_295 w295 =>
  C.guarded true x94_295 (fun K => K x52_263 w295) w295 fun x96_296 w296 =>
  C.guarded true x94_295 (fun K => C.call Try.prog 21 #[x96_296, (.int .i64 1)] w296 K) w296 fun x97_297 w297 =>
  C.guarded true x94_295 (fun K => C.int .eql x97_297 (.int .i64 0) w297 K) w297 fun x98_298 w298 =>
  C.pick (some x94_295) (some x98_298) (some (.bool false)) w298 fun x99_299 w299 =>
  C.guarded true x99_299 (fun K => K (.pointer none) w299) w299 fun x101_300 w300 =>
  C.guarded true x99_299 (fun K => C.call Try.prog 22 #[x101_300] w300 K) w300 fun x102_301 w301 =>
  C.guarded true x99_299 (fun K => C.int .eql x102_301 (.int .i64 0) w301 K) w301 fun x103_302 w302 =>
  C.pick (some x99_299) (some x103_302) (some (.bool false)) w302 fun x104_303 w303 =>
  C.guarded true x104_303 (fun K => K x52_263 w303) w303 fun x106_304 w304 =>
  C.guarded true x104_303 (fun K => C.call Try.prog 22 #[x106_304] w304 K) w304 fun x107_305 w305 =>
  C.guarded true x104_303 (fun K => C.int .eql x107_305 (.int .i64 0) w305 K) w305 fun x108_306 w306 =>
  C.pick (some x104_303) (some x108_306) (some (.bool false)) w306 fun x109_307 w307 =>
  C.guarded true x109_307 (fun K => K (.pointer none) w307) w307 fun x111_308 w308 =>
  C.guarded true x109_307 (fun K => C.call Try.prog 23 #[x111_308] w308 K) w308 fun x112_309 w309 =>
  C.guarded true x109_307 (fun K => C.int .eql x112_309 (.int .i64 0) w309 K) w309 fun x113_310 w310 =>
  C.pick (some x109_307) (some x113_310) (some (.bool false)) w310 fun x114_311 w311 =>
  C.guarded true x114_311 (fun K => K (.pointer none) w311) w311 fun x116_312 w312 =>
  C.guarded true x114_311 (fun K => C.call Try.prog 24 #[x116_312] w312 K) w312 fun x117_313 w313 =>
  C.guarded true x114_311 (fun K => C.int .eql x117_313 (.int .i64 0) w313 K) w313 fun x118_314 w314 =>
  C.pick (some x114_311) (some x118_314) (some (.bool false)) w314 fun x119_315 w315 =>
  C.guarded true x119_315 (fun K => K (.pointer none) w315) w315 fun x121_316 w316 =>
  C.guarded true x119_315 (fun K => C.call Try.prog 25 #[x121_316] w316 K) w316 fun x122_317 w317 =>
  C.guarded true x119_315 (fun K => C.int .eql x122_317 (.int .i64 0) w317 K) w317 fun x123_318 w318 =>
  C.pick (some x119_315) (some x123_318) (some (.bool false)) w318 fun x124_319 w319 =>
  C.guarded true x124_319 (fun K => K x52_263 w319) w319 fun x126_320 w320 =>
  C.guarded true x124_319 (fun K => C.call Try.prog 25 #[x126_320] w320 K) w320 fun x127_321 w321 =>
  C.guarded true x124_319 (fun K => C.int .eql x127_321 (.int .i64 0) w321 K) w321 fun x128_322 w322 =>
  C.pick (some x124_319) (some x128_322) (some (.bool false)) w322 fun x129_323 w323 =>
  C.guarded true x129_323 (fun K => K (.pointer none) w323) w323 fun x131_324 w324 =>
  C.guarded true x129_323 (fun K => C.call Try.prog 34 #[x131_324] w324 K) w324 fun x132_325 w325 =>
  C.guarded true x129_323 (fun K => C.bin Try.prog .eql 28 (.tmp 132) (.const (.pointer none)) x132_325 (.pointer none) w325 K) w325 fun x133_326 w326 =>
  C.pick (some x129_323) (some x133_326) (some (.bool false)) w326 fun x134_327 w327 =>
  C.guarded true x134_327 (fun K => K x52_263 w327) w327 fun x136_328 w328 =>
  C.guarded true x134_327 (fun K => C.call Try.prog 34 #[x136_328] w328 K) w328 fun x137_329 w329 =>
  C.guarded true x134_327 (fun K => C.bin Try.prog .eql 28 (.tmp 137) (.const (.pointer none)) x137_329 (.pointer none) w329 K) w329 fun x138_330 w330 =>
  C.pick (some x134_327) (some x138_330) (some (.bool false)) w330 fun x139_331 w331 =>
  K x139_331 w331)) ∧ True)) ∧ True)) ∧ True)) ∧ True))) ∧ True)) ∧ True)) ∧ True))) ∧ ((C.new (.cells #[.int .i64 0, .int .i64 0, .int .i64 0, .int .i64 0, .int .i64 0] 25) w12 fun x13_13 w13 =>
  (S w13 ∧
  (C.call Try.prog 18 #[y2] w13 fun x39_14 w14 =>
  (S w14 ∧
  (C.call Try.prog 15 #[x22_1, x37_12, x39_14] w14 fun x40_15 w15 =>
  (S w15 ∧
  C.ext 0 x40_15 w15 fun x41_16 w16 =>
  C.ext 1 x40_15 w16 fun x42_17 w17 =>
  (C.store 5 x13_13 x41_16 w17 fun w18 =>
  (S w18 ∧
  C.draw w18 fun S w19 =>
  C.loadAS S 5 x10_8 w19 fun x45_20 w20 =>
  (C.call Try.prog 18 #[y3] w20 fun x47_97 w97 =>
  (S w97 ∧
  (C.call Try.prog 15 #[x34_10, x45_20, x47_97] w97 fun x48_173 w173 =>
  (S w173 ∧
  C.ext 0 x48_173 w173 fun x49_174 w174 =>
  C.ext 1 x48_173 w174 fun x50_175 w175 =>
  (C.new (.cells #[.int .i64 0, .int .i64 0, .int .i64 0, .int .i64 0, .int .i64 0] 25) w175 fun x15_176 w176 =>
  (S w176 ∧
  (C.store 5 x15_176 x49_174 w176 fun w177 =>
  (S w177 ∧
  C.run Try.prog (Instr.build 58 #[]) w177 fun x51_178 w178 =>
  C.new (.cells (Value.cells x51_178) 58) w178 fun x52_179 w179 =>
  C.guarded true x32_7 (fun K => K x42_17 w179) w179 fun x55_180 w180 =>
  C.pick (some x32_7) (some x55_180) (some (.bool false)) w180 fun x56_181 w181 =>
  C.guarded true x56_181 (fun K => K x50_175 w181) w181 fun x58_182 w182 =>
  C.pick (some x56_181) (some x58_182) (some (.bool false)) w182 fun x59_183 w183 =>
  C.guarded true x59_183 (fun K => K x22_1 w183) w183 fun x61_184 w184 =>
  C.guarded true x59_183 (fun K => C.loadA 5 x13_13 w184 K) w184 fun x62_185 w185 =>
  C.guarded true x59_183 (fun K => C.call Try.prog 35 #[x61_184, x62_185] w185 K) w185 fun x63_186 w186 =>
  C.pick (some x59_183) (some x63_186) (some (.bool false)) w186 fun x64_187 w187 =>
  C.guarded true x64_187 (fun K => K x34_10 w187) w187 fun x66_188 w188 =>
  C.guarded true x64_187 (fun K => C.loadA 5 x15_176 w188 K) w188 fun x67_189 w189 =>
  C.guarded true x64_187 (fun K => C.call Try.prog 35 #[x66_188, x67_189] w189 K) w189 fun x68_190 w190 =>
  C.pick (some x64_187) (some x68_190) (some (.bool false)) w190 fun x69_191 w191 =>
  C.guarded true x69_191 (fun K => K (.pointer none) w191) w191 fun x71_192 w192 =>
  C.guarded true x69_191 (fun K => C.call Try.prog 19 #[x71_192, (.int .i64 1)] w192 K) w192 fun x72_193 w193 =>
  C.guarded true x69_191 (fun K => C.int .eql x72_193 (.int .i64 0) w193 K) w193 fun x73_194 w194 =>
  C.pick (some x69_191) (some x73_194) (some (.bool false)) w194 fun x74_195 w195 =>
  C.guarded true x74_195 (fun K => K x52_179 w195) w195 fun x76_196 w196 =>
  C.guarded true x74_195 (fun K => C.call Try.prog 19 #[x76_196, (.int .i64 1)] w196 K) w196 fun x77_197 w197 =>
  C.guarded true x74_195 (fun K => C.int .eql x77_197 (.int .i64 0) w197 K) w197 fun x78_198 w198 =>
  C.pick (some x74_195) (some x78_198) (some (.bool false)) w198 fun x79_199 w199 =>
  C.guarded true x79_199 (fun K => K (.pointer none) w199) w199 fun x81_200 w200 =>
  C.guarded true x79_199 (fun K => C.call Try.prog 20 #[x81_200, (.int .i64 0)] w200 K) w200 fun x82_201 w201 =>
  C.guarded true x79_199 (fun K => C.not x82_201 w201 K) w201 fun x83_202 w202 =>
  C.pick (some x79_199) (some x83_202) (some (.bool false)) w202 fun x84_203 w203 =>
  C.guarded true x84_203 (fun K => K x52_179 w203) w203 fun x86_204 w204 =>
  C.guarded true x84_203 (fun K => C.call Try.prog 20 #[x86_204, (.int .i64 0)] w204 K) w204 fun x87_205 w205 =>
  C.guarded true x84_203 (fun K => C.not x87_205 w205 K) w205 fun x88_206 w206 =>
  C.pick (some x84_203) (some x88_206) (some (.bool false)) w206 fun x89_207 w207 =>
  C.guarded true x89_207 (fun K => K (.pointer none) w207) w207 fun x91_208 w208 =>
  C.guarded true x89_207 (fun K => C.call Try.prog 21 #[x91_208, (.int .i64 1)] w208 K) w208 fun x92_209 w209 =>
  C.guarded true x89_207 (fun K => C.int .eql x92_209 (.int .i64 0) w209 K) w209 fun x93_210 w210 =>
  C.pick (some x89_207) (some x93_210) (some (.bool false)) w210 fun x94_211 w211 =>
  C.guarded true x94_211 (fun K => K x52_179 w211) w211 fun x96_212 w212 =>
  C.guarded true x94_211 (fun K => C.call Try.prog 21 #[x96_212, (.int .i64 1)] w212 K) w212 fun x97_213 w213 =>
  C.guarded true x94_211 (fun K => C.int .eql x97_213 (.int .i64 0) w213 K) w213 fun x98_214 w214 =>
  C.pick (some x94_211) (some x98_214) (some (.bool false)) w214 fun x99_215 w215 =>
  C.guarded true x99_215 (fun K => K (.pointer none) w215) w215 fun x101_216 w216 =>
  C.guarded true x99_215 (fun K => C.call Try.prog 22 #[x101_216] w216 K) w216 fun x102_217 w217 =>
  C.guarded true x99_215 (fun K => C.int .eql x102_217 (.int .i64 0) w217 K) w217 fun x103_218 w218 =>
  C.pick (some x99_215) (some x103_218) (some (.bool false)) w218 fun x104_219 w219 =>
  C.guarded true x104_219 (fun K => K x52_179 w219) w219 fun x106_220 w220 =>
  C.guarded true x104_219 (fun K => C.call Try.prog 22 #[x106_220] w220 K) w220 fun x107_221 w221 =>
  C.guarded true x104_219 (fun K => C.int .eql x107_221 (.int .i64 0) w221 K) w221 fun x108_222 w222 =>
  C.pick (some x104_219) (some x108_222) (some (.bool false)) w222 fun x109_223 w223 =>
  C.guarded true x109_223 (fun K => K (.pointer none) w223) w223 fun x111_224 w224 =>
  C.guarded true x109_223 (fun K => C.call Try.prog 23 #[x111_224] w224 K) w224 fun x112_225 w225 =>
  C.guarded true x109_223 (fun K => C.int .eql x112_225 (.int .i64 0) w225 K) w225 fun x113_226 w226 =>
  C.pick (some x109_223) (some x113_226) (some (.bool false)) w226 fun x114_227 w227 =>
  C.guarded true x114_227 (fun K => K (.pointer none) w227) w227 fun x116_228 w228 =>
  C.guarded true x114_227 (fun K => C.call Try.prog 24 #[x116_228] w228 K) w228 fun x117_229 w229 =>
  C.guarded true x114_227 (fun K => C.int .eql x117_229 (.int .i64 0) w229 K) w229 fun x118_230 w230 =>
  C.pick (some x114_227) (some x118_230) (some (.bool false)) w230 fun x119_231 w231 =>
  C.guarded true x119_231 (fun K => K (.pointer none) w231) w231 fun x121_232 w232 =>
  C.guarded true x119_231 (fun K => C.call Try.prog 25 #[x121_232] w232 K) w232 fun x122_233 w233 =>
  C.guarded true x119_231 (fun K => C.int .eql x122_233 (.int .i64 0) w233 K) w233 fun x123_234 w234 =>
  C.pick (some x119_231) (some x123_234) (some (.bool false)) w234 fun x124_235 w235 =>
  C.guarded true x124_235 (fun K => K x52_179 w235) w235 fun x126_236 w236 =>
  C.guarded true x124_235 (fun K => C.call Try.prog 25 #[x126_236] w236 K) w236 fun x127_237 w237 =>
  C.guarded true x124_235 (fun K => C.int .eql x127_237 (.int .i64 0) w237 K) w237 fun x128_238 w238 =>
  C.pick (some x124_235) (some x128_238) (some (.bool false)) w238 fun x129_239 w239 =>
  C.guarded true x129_239 (fun K => K (.pointer none) w239) w239 fun x131_240 w240 =>
  C.guarded true x129_239 (fun K => C.call Try.prog 34 #[x131_240] w240 K) w240 fun x132_241 w241 =>
  C.guarded true x129_239 (fun K => C.bin Try.prog .eql 28 (.tmp 132) (.const (.pointer none)) x132_241 (.pointer none) w241 K) w241 fun x133_242 w242 =>
  C.pick (some x129_239) (some x133_242) (some (.bool false)) w242 fun x134_243 w243 =>
  C.guarded true x134_243 (fun K => K x52_179 w243) w243 fun x136_244 w244 =>
  C.guarded true x134_243 (fun K => C.call Try.prog 34 #[x136_244] w244 K) w244 fun x137_245 w245 =>
  C.guarded true x134_243 (fun K => C.bin Try.prog .eql 28 (.tmp 137) (.const (.pointer none)) x137_245 (.pointer none) w245 K) w245 fun x138_246 w246 =>
  C.pick (some x134_243) (some x138_246) (some (.bool false)) w246 fun x139_247 w247 =>
  K x139_247 w247)) ∧ True)) ∧ True)) ∧ ((C.new (.cells #[.int .i64 0, .int .i64 0, .int .i64 0, .int .i64 0, .int .i64 0] 25) w97 fun x15_98 w98 =>
  (S w98 ∧
  (C.call Try.prog 15 #[x34_10, x45_20, x47_97] w98 fun x48_99 w99 =>
  (S w99 ∧
  C.ext 0 x48_99 w99 fun x49_100 w100 =>
  C.ext 1 x48_99 w100 fun x50_101 w101 =>
  (C.store 5 x15_98 x49_100 w101 fun w102 =>
  (S w102 ∧
  C.run Try.prog (Instr.build 58 #[]) w102 fun x51_103 w103 =>
  C.new (.cells (Value.cells x51_103) 58) w103 fun x52_104 w104 =>
  C.guarded true x32_7 (fun K => K x42_17 w104) w104 fun x55_105 w105 =>
  C.pick (some x32_7) (some x55_105) (some (.bool false)) w105 fun x56_106 w106 =>
  C.guarded true x56_106 (fun K => K x50_101 w106) w106 fun x58_107 w107 =>
  C.pick (some x56_106) (some x58_107) (some (.bool false)) w107 fun x59_108 w108 =>
  C.guarded true x59_108 (fun K => K x22_1 w108) w108 fun x61_109 w109 =>
  C.guarded true x59_108 (fun K => C.loadA 5 x13_13 w109 K) w109 fun x62_110 w110 =>
  C.guarded true x59_108 (fun K => C.call Try.prog 35 #[x61_109, x62_110] w110 K) w110 fun x63_111 w111 =>
  C.pick (some x59_108) (some x63_111) (some (.bool false)) w111 fun x64_112 w112 =>
  C.guarded true x64_112 (fun K => K x34_10 w112) w112 fun x66_113 w113 =>
  C.guarded true x64_112 (fun K => C.loadA 5 x15_98 w113 K) w113 fun x67_114 w114 =>
  C.guarded true x64_112 (fun K => C.call Try.prog 35 #[x66_113, x67_114] w114 K) w114 fun x68_115 w115 =>
  C.pick (some x64_112) (some x68_115) (some (.bool false)) w115 fun x69_116 w116 =>
  C.guarded true x69_116 (fun K => K (.pointer none) w116) w116 fun x71_117 w117 =>
  C.guarded true x69_116 (fun K => C.call Try.prog 19 #[x71_117, (.int .i64 1)] w117 K) w117 fun x72_118 w118 =>
  C.guarded true x69_116 (fun K => C.int .eql x72_118 (.int .i64 0) w118 K) w118 fun x73_119 w119 =>
  C.pick (some x69_116) (some x73_119) (some (.bool false)) w119 fun x74_120 w120 =>
  C.guarded true x74_120 (fun K => K x52_104 w120) w120 fun x76_121 w121 =>
  C.guarded true x74_120 (fun K => C.call Try.prog 19 #[x76_121, (.int .i64 1)] w121 K) w121 fun x77_122 w122 =>
  C.guarded true x74_120 (fun K => C.int .eql x77_122 (.int .i64 0) w122 K) w122 fun x78_123 w123 =>
  C.pick (some x74_120) (some x78_123) (some (.bool false)) w123 fun x79_124 w124 =>
  C.guarded true x79_124 (fun K => K (.pointer none) w124) w124 fun x81_125 w125 =>
  C.guarded true x79_124 (fun K => C.call Try.prog 20 #[x81_125, (.int .i64 0)] w125 K) w125 fun x82_126 w126 =>
  C.guarded true x79_124 (fun K => C.not x82_126 w126 K) w126 fun x83_127 w127 =>
  C.pick (some x79_124) (some x83_127) (some (.bool false)) w127 fun x84_128 w128 =>
  C.guarded true x84_128 (fun K => K x52_104 w128) w128 fun x86_129 w129 =>
  C.guarded true x84_128 (fun K => C.call Try.prog 20 #[x86_129, (.int .i64 0)] w129 K) w129 fun x87_130 w130 =>
  C.guarded true x84_128 (fun K => C.not x87_130 w130 K) w130 fun x88_131 w131 =>
  C.pick (some x84_128) (some x88_131) (some (.bool false)) w131 fun x89_132 w132 =>
  C.guarded true x89_132 (fun K => K (.pointer none) w132) w132 fun x91_133 w133 =>
  C.guarded true x89_132 (fun K => C.call Try.prog 21 #[x91_133, (.int .i64 1)] w133 K) w133 fun x92_134 w134 =>
  C.guarded true x89_132 (fun K => C.int .eql x92_134 (.int .i64 0) w134 K) w134 fun x93_135 w135 =>
  C.pick (some x89_132) (some x93_135) (some (.bool false)) w135 fun x94_136 w136 =>
  C.guarded true x94_136 (fun K => K x52_104 w136) w136 fun x96_137 w137 =>
  C.guarded true x94_136 (fun K => C.call Try.prog 21 #[x96_137, (.int .i64 1)] w137 K) w137 fun x97_138 w138 =>
  C.guarded true x94_136 (fun K => C.int .eql x97_138 (.int .i64 0) w138 K) w138 fun x98_139 w139 =>
  C.pick (some x94_136) (some x98_139) (some (.bool false)) w139 fun x99_140 w140 =>
  C.guarded true x99_140 (fun K => K (.pointer none) w140) w140 fun x101_141 w141 =>
  C.guarded true x99_140 (fun K => C.call Try.prog 22 #[x101_141] w141 K) w141 fun x102_142 w142 =>
  C.guarded true x99_140 (fun K => C.int .eql x102_142 (.int .i64 0) w142 K) w142 fun x103_143 w143 =>
  C.pick (some x99_140) (some x103_143) (some (.bool false)) w143 fun x104_144 w144 =>
  C.guarded true x104_144 (fun K => K x52_104 w144) w144 fun x106_145 w145 =>
  C.guarded true x104_144 (fun K => C.call Try.prog 22 #[x106_145] w145 K) w145 fun x107_146 w146 =>
  C.guarded true x104_144 (fun K => C.int .eql x107_146 (.int .i64 0) w146 K) w146 fun x108_147 w147 =>
  C.pick (some x104_144) (some x108_147) (some (.bool false)) w147 fun x109_148 w148 =>
  C.guarded true x109_148 (fun K => K (.pointer none) w148) w148 fun x111_149 w149 =>
  C.guarded true x109_148 (fun K => C.call Try.prog 23 #[x111_149] w149 K) w149 fun x112_150 w150 =>
  C.guarded true x109_148 (fun K => C.int .eql x112_150 (.int .i64 0) w150 K) w150 fun x113_151 w151 =>
  C.pick (some x109_148) (some x113_151) (some (.bool false)) w151 fun x114_152 w152 =>
  C.guarded true x114_152 (fun K => K (.pointer none) w152) w152 fun x116_153 w153 =>
  C.guarded true x114_152 (fun K => C.call Try.prog 24 #[x116_153] w153 K) w153 fun x117_154 w154 =>
  C.guarded true x114_152 (fun K => C.int .eql x117_154 (.int .i64 0) w154 K) w154 fun x118_155 w155 =>
  C.pick (some x114_152) (some x118_155) (some (.bool false)) w155 fun x119_156 w156 =>
  C.guarded true x119_156 (fun K => K (.pointer none) w156) w156 fun x121_157 w157 =>
  C.guarded true x119_156 (fun K => C.call Try.prog 25 #[x121_157] w157 K) w157 fun x122_158 w158 =>
  C.guarded true x119_156 (fun K => C.int .eql x122_158 (.int .i64 0) w158 K) w158 fun x123_159 w159 =>
  C.pick (some x119_156) (some x123_159) (some (.bool false)) w159 fun x124_160 w160 =>
  C.guarded true x124_160 (fun K => K x52_104 w160) w160 fun x126_161 w161 =>
  C.guarded true x124_160 (fun K => C.call Try.prog 25 #[x126_161] w161 K) w161 fun x127_162 w162 =>
  C.guarded true x124_160 (fun K => C.int .eql x127_162 (.int .i64 0) w162 K) w162 fun x128_163 w163 =>
  C.pick (some x124_160) (some x128_163) (some (.bool false)) w163 fun x129_164 w164 =>
  C.guarded true x129_164 (fun K => K (.pointer none) w164) w164 fun x131_165 w165 =>
  C.guarded true x129_164 (fun K => C.call Try.prog 34 #[x131_165] w165 K) w165 fun x132_166 w166 =>
  C.guarded true x129_164 (fun K => C.bin Try.prog .eql 28 (.tmp 132) (.const (.pointer none)) x132_166 (.pointer none) w166 K) w166 fun x133_167 w167 =>
  C.pick (some x129_164) (some x133_167) (some (.bool false)) w167 fun x134_168 w168 =>
  C.guarded true x134_168 (fun K => K x52_104 w168) w168 fun x136_169 w169 =>
  C.guarded true x134_168 (fun K => C.call Try.prog 34 #[x136_169] w169 K) w169 fun x137_170 w170 =>
  C.guarded true x134_168 (fun K => C.bin Try.prog .eql 28 (.tmp 137) (.const (.pointer none)) x137_170 (.pointer none) w170 K) w170 fun x138_171 w171 =>
  C.pick (some x134_168) (some x138_171) (some (.bool false)) w171 fun x139_172 w172 =>
  K x139_172 w172)) ∧ True)) ∧ True)) ∧ True))) ∧ ((C.new (.cells #[.int .i64 0, .int .i64 0, .int .i64 0, .int .i64 0, .int .i64 0] 25) w20 fun x15_21 w21 =>
  (S w21 ∧
  (C.call Try.prog 18 #[y3] w21 fun x47_22 w22 =>
  (S w22 ∧
  (C.call Try.prog 15 #[x34_10, x45_20, x47_22] w22 fun x48_23 w23 =>
  (S w23 ∧
  C.ext 0 x48_23 w23 fun x49_24 w24 =>
  C.ext 1 x48_23 w24 fun x50_25 w25 =>
  (C.store 5 x15_21 x49_24 w25 fun w26 =>
  (S w26 ∧
  C.run Try.prog (Instr.build 58 #[]) w26 fun x51_27 w27 =>
  C.new (.cells (Value.cells x51_27) 58) w27 fun x52_28 w28 =>
  C.guarded true x32_7 (fun K => K x42_17 w28) w28 fun x55_29 w29 =>
  C.pick (some x32_7) (some x55_29) (some (.bool false)) w29 fun x56_30 w30 =>
  C.guarded true x56_30 (fun K => K x50_25 w30) w30 fun x58_31 w31 =>
  C.pick (some x56_30) (some x58_31) (some (.bool false)) w31 fun x59_32 w32 =>
  C.guarded true x59_32 (fun K => K x22_1 w32) w32 fun x61_33 w33 =>
  C.guarded true x59_32 (fun K => C.loadA 5 x13_13 w33 K) w33 fun x62_34 w34 =>
  C.guarded true x59_32 (fun K => C.call Try.prog 35 #[x61_33, x62_34] w34 K) w34 fun x63_35 w35 =>
  C.pick (some x59_32) (some x63_35) (some (.bool false)) w35 fun x64_36 w36 =>
  C.guarded true x64_36 (fun K => K x34_10 w36) w36 fun x66_37 w37 =>
  C.guarded true x64_36 (fun K => C.loadA 5 x15_21 w37 K) w37 fun x67_38 w38 =>
  C.guarded true x64_36 (fun K => C.call Try.prog 35 #[x66_37, x67_38] w38 K) w38 fun x68_39 w39 =>
  C.pick (some x64_36) (some x68_39) (some (.bool false)) w39 fun x69_40 w40 =>
  C.guarded true x69_40 (fun K => K (.pointer none) w40) w40 fun x71_41 w41 =>
  C.guarded true x69_40 (fun K => C.call Try.prog 19 #[x71_41, (.int .i64 1)] w41 K) w41 fun x72_42 w42 =>
  C.guarded true x69_40 (fun K => C.int .eql x72_42 (.int .i64 0) w42 K) w42 fun x73_43 w43 =>
  C.pick (some x69_40) (some x73_43) (some (.bool false)) w43 fun x74_44 w44 =>
  C.guarded true x74_44 (fun K => K x52_28 w44) w44 fun x76_45 w45 =>
  C.guarded true x74_44 (fun K => C.call Try.prog 19 #[x76_45, (.int .i64 1)] w45 K) w45 fun x77_46 w46 =>
  C.guarded true x74_44 (fun K => C.int .eql x77_46 (.int .i64 0) w46 K) w46 fun x78_47 w47 =>
  C.pick (some x74_44) (some x78_47) (some (.bool false)) w47 fun x79_48 w48 =>
  C.guarded true x79_48 (fun K => K (.pointer none) w48) w48 fun x81_49 w49 =>
  C.guarded true x79_48 (fun K => C.call Try.prog 20 #[x81_49, (.int .i64 0)] w49 K) w49 fun x82_50 w50 =>
  C.guarded true x79_48 (fun K => C.not x82_50 w50 K) w50 fun x83_51 w51 =>
  C.pick (some x79_48) (some x83_51) (some (.bool false)) w51 fun x84_52 w52 =>
  C.guarded true x84_52 (fun K => K x52_28 w52) w52 fun x86_53 w53 =>
  C.guarded true x84_52 (fun K => C.call Try.prog 20 #[x86_53, (.int .i64 0)] w53 K) w53 fun x87_54 w54 =>
  C.guarded true x84_52 (fun K => C.not x87_54 w54 K) w54 fun x88_55 w55 =>
  C.pick (some x84_52) (some x88_55) (some (.bool false)) w55 fun x89_56 w56 =>
  C.guarded true x89_56 (fun K => K (.pointer none) w56) w56 fun x91_57 w57 =>
  C.guarded true x89_56 (fun K => C.call Try.prog 21 #[x91_57, (.int .i64 1)] w57 K) w57 fun x92_58 w58 =>
  C.guarded true x89_56 (fun K => C.int .eql x92_58 (.int .i64 0) w58 K) w58 fun x93_59 w59 =>
  C.pick (some x89_56) (some x93_59) (some (.bool false)) w59 fun x94_60 w60 =>
  C.guarded true x94_60 (fun K => K x52_28 w60) w60 fun x96_61 w61 =>
  C.guarded true x94_60 (fun K => C.call Try.prog 21 #[x96_61, (.int .i64 1)] w61 K) w61 fun x97_62 w62 =>
  C.guarded true x94_60 (fun K => C.int .eql x97_62 (.int .i64 0) w62 K) w62 fun x98_63 w63 =>
  C.pick (some x94_60) (some x98_63) (some (.bool false)) w63 fun x99_64 w64 =>
  C.guarded true x99_64 (fun K => K (.pointer none) w64) w64 fun x101_65 w65 =>
  C.guarded true x99_64 (fun K => C.call Try.prog 22 #[x101_65] w65 K) w65 fun x102_66 w66 =>
  C.guarded true x99_64 (fun K => C.int .eql x102_66 (.int .i64 0) w66 K) w66 fun x103_67 w67 =>
  C.pick (some x99_64) (some x103_67) (some (.bool false)) w67 fun x104_68 w68 =>
  C.guarded true x104_68 (fun K => K x52_28 w68) w68 fun x106_69 w69 =>
  C.guarded true x104_68 (fun K => C.call Try.prog 22 #[x106_69] w69 K) w69 fun x107_70 w70 =>
  C.guarded true x104_68 (fun K => C.int .eql x107_70 (.int .i64 0) w70 K) w70 fun x108_71 w71 =>
  C.pick (some x104_68) (some x108_71) (some (.bool false)) w71 fun x109_72 w72 =>
  C.guarded true x109_72 (fun K => K (.pointer none) w72) w72 fun x111_73 w73 =>
  C.guarded true x109_72 (fun K => C.call Try.prog 23 #[x111_73] w73 K) w73 fun x112_74 w74 =>
  C.guarded true x109_72 (fun K => C.int .eql x112_74 (.int .i64 0) w74 K) w74 fun x113_75 w75 =>
  C.pick (some x109_72) (some x113_75) (some (.bool false)) w75 fun x114_76 w76 =>
  C.guarded true x114_76 (fun K => K (.pointer none) w76) w76 fun x116_77 w77 =>
  C.guarded true x114_76 (fun K => C.call Try.prog 24 #[x116_77] w77 K) w77 fun x117_78 w78 =>
  C.guarded true x114_76 (fun K => C.int .eql x117_78 (.int .i64 0) w78 K) w78 fun x118_79 w79 =>
  C.pick (some x114_76) (some x118_79) (some (.bool false)) w79 fun x119_80 w80 =>
  C.guarded true x119_80 (fun K => K (.pointer none) w80) w80 fun x121_81 w81 =>
  C.guarded true x119_80 (fun K => C.call Try.prog 25 #[x121_81] w81 K) w81 fun x122_82 w82 =>
  C.guarded true x119_80 (fun K => C.int .eql x122_82 (.int .i64 0) w82 K) w82 fun x123_83 w83 =>
  C.pick (some x119_80) (some x123_83) (some (.bool false)) w83 fun x124_84 w84 =>
  C.guarded true x124_84 (fun K => K x52_28 w84) w84 fun x126_85 w85 =>
  C.guarded true x124_84 (fun K => C.call Try.prog 25 #[x126_85] w85 K) w85 fun x127_86 w86 =>
  C.guarded true x124_84 (fun K => C.int .eql x127_86 (.int .i64 0) w86 K) w86 fun x128_87 w87 =>
  C.pick (some x124_84) (some x128_87) (some (.bool false)) w87 fun x129_88 w88 =>
  C.guarded true x129_88 (fun K => K (.pointer none) w88) w88 fun x131_89 w89 =>
  C.guarded true x129_88 (fun K => C.call Try.prog 34 #[x131_89] w89 K) w89 fun x132_90 w90 =>
  C.guarded true x129_88 (fun K => C.bin Try.prog .eql 28 (.tmp 132) (.const (.pointer none)) x132_90 (.pointer none) w90 K) w90 fun x133_91 w91 =>
  C.pick (some x129_88) (some x133_91) (some (.bool false)) w91 fun x134_92 w92 =>
  C.guarded true x134_92 (fun K => K x52_28 w92) w92 fun x136_93 w93 =>
  C.guarded true x134_92 (fun K => C.call Try.prog 34 #[x136_93] w93 K) w93 fun x137_94 w94 =>
  C.guarded true x134_92 (fun K => C.bin Try.prog .eql 28 (.tmp 137) (.const (.pointer none)) x137_94 (.pointer none) w94 K) w94 fun x138_95 w95 =>
  C.pick (some x134_92) (some x138_95) (some (.bool false)) w95 fun x139_96 w96 =>
  K x139_96 w96)) ∧ True)) ∧ True)) ∧ True)) ∧ True))) ∧ True)) ∧ True)) ∧ True)) ∧ True))) : F8.k3 K y0 y1 y2 y3 w := Eq.mpr (by kernel_rfl) h
theorem F8.sh {K : VK} {x0 x1 x2 x3 : Value} {w : World} (h : (C.call Try.prog 14 #[] w fun x19_1 w1 =>
  C.not x19_1 w1 fun x20_2 w2 =>
  C.ite x20_2 (K (.bool false) w2) (F8.k3 K x0 x1 x2 x3 w2))) : C.call Try.prog 8 #[x0, x1, x2, x3] w K := calls_of_vc (A := F8.ann) (args := [x0, x1, x2, x3]) (Eq.mpr (by kernel_rfl) h)

end Go.Proofs.YtckageghbhkklaaV
