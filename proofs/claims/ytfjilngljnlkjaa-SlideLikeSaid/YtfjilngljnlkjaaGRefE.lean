/- What the bodies of these functions ask, as plain statements. Written by gen.py (own work) for the seat Ytfjilngljnlkjaa. -/
import Derived.Test.YtfjilngljnlkjaaVc3
import Derived.Test.YtfjilngljnlkjaaProg
namespace Go.Proofs.YtfjilngljnlkjaaV
open Go Go.Proofs
set_option linter.unusedVariables false
set_option maxRecDepth 100000

/-! ### 13 scutage/scutageref37.Open (22) -/
namespace F13
def ann : Ann := ⟨[(3, [0]), (6, [4]), (8, [4, 6]), (9, [4, 6]), (11, [4])], [(7, [4, 6])], [], [], none⟩
noncomputable def code : Code := match Try.f13.body with | some c => c | none => .skip
noncomputable def top (K : VK) : QE := retQ Try.prog Try.f13.results.toList K
noncomputable def k3 (K : VK) (y0 : Value) (w : World) : Prop := nav ann Try.prog 32 (fun c Q => vcCode ann Try.prog 32 c Q [(0, y0)] w) [1, 1] code (top K)
attribute [irreducible] k3
noncomputable def k6 (K : VK) (y4 : Value) (w : World) : Prop := nav ann Try.prog 32 (fun c Q => vcCode ann Try.prog 32 c Q [(4, y4)] w) [1, 1, 1, 1] code (top K)
attribute [irreducible] k6
noncomputable def k11 (K : VK) (y4 : Value) (w : World) : Prop := nav ann Try.prog 32 (fun c Q => vcCode ann Try.prog 32 c Q [(4, y4)] w) [1, 1, 1, 1, 1] code (top K)
attribute [irreducible] k11
noncomputable def l7 (K : VK) (y4 y6 : Value) (w : World) : Prop := nav ann Try.prog 32 (isLoop ann Try.prog 32 [(4, y4), (6, y6)] w) [1, 1, 1, 1, 0, 1, 0] code (top K)
attribute [irreducible] l7
noncomputable def k9 (K : VK) (y4 y6 : Value) (w : World) : Prop := nav ann Try.prog 32 (fun c Q => vcCode ann Try.prog 32 c Q [(4, y4), (6, y6)] w) [1, 1, 1, 1, 0, 1, 0, 0, 1] code (top K)
attribute [irreducible] k9
noncomputable def k8 (K : VK) (y4 y6 : Value) (w : World) : Prop := nav ann Try.prog 32 (fun c Q => vcCode ann Try.prog 32 c Q [(4, y4), (6, y6)] w) [1, 1, 1, 1, 0, 1, 0, 0, 1, 1] code (top K)
attribute [irreducible] k8
end F13
theorem F13.k3.to {K : VK} {y0 : Value} {w : World} (h : (C.call Try.prog 32 #[y0] w fun x12_1 w1 =>
  C.ext 0 x12_1 w1 fun x13_2 w2 =>
  C.ext 1 x12_1 w2 fun x14_3 w3 =>
  C.not x14_3 w3 fun x16_4 w4 =>
  C.ite x16_4 (K (.tuple #[(.slice none 0 0), (.int .i64 16)]) w4) (F13.k6 K x13_2 w4))) : F13.k3 K y0 w := Eq.mpr (by kernel_rfl) h
theorem F13.k6.to {K : VK} {y4 : Value} {w : World} (h : (F13.l7 K y4 (.int .i64 0) w)) : F13.k6 K y4 w := Eq.mpr (by kernel_rfl) h
theorem F13.k11.to {K : VK} {y4 : Value} {w : World} (h : (K (.tuple #[y4, (.int .i64 0)]) w)) : F13.k11 K y4 w := Eq.mpr (by kernel_rfl) h
theorem F13.l7.to {K : VK} {y4 y6 : Value} {w : World} (h : (C.len y4 w fun x19_1 w1 =>
  C.int .lss y6 x19_1 w1 fun x20_2 w2 =>
  C.ite x20_2 (F13.k9 K y4 y6 w2) (F13.k11 K y4 w2))) : F13.l7 K y4 y6 w := by unfold F13.l7; exact nav_round (Eq.mpr (by kernel_rfl) h)
theorem F13.k9.to {K : VK} {y4 y6 : Value} {w : World} (h : (C.idx 3 y4 y6 w fun x26_1 w1 =>
  C.field 2 x26_1 w1 fun x27_2 w2 =>
  C.load1 x27_2 w2 fun x28_3 w3 =>
  C.call Try.prog 17 #[y4, x28_3] w3 fun x29_4 w4 =>
  C.not x29_4 w4 fun x30_5 w5 =>
  C.ite x30_5 (K (.tuple #[(.slice none 0 0), (.int .i64 16)]) w5) (F13.k8 K y4 y6 w5))) : F13.k9 K y4 y6 w := Eq.mpr (by kernel_rfl) h
theorem F13.k8.to {K : VK} {y4 y6 : Value} {w : World} (h : (C.int .add y6 (.int .i64 1) w fun x22_1 w1 =>
  F13.l7 K y4 x22_1 w1)) : F13.k8 K y4 y6 w := Eq.mpr (by kernel_rfl) h
theorem F13.sh {K : VK} {x0 : Value} {w : World} (h : (C.len x0 w fun x8_1 w1 =>
  C.int .gtr x8_1 (.int .i64 2048) w1 fun x9_2 w2 =>
  C.ite x9_2 (K (.tuple #[(.slice none 0 0), (.int .i64 5)]) w2) (F13.k3 K x0 w2))) : C.call Try.prog 13 #[x0] w K := calls_of_vc (A := F13.ann) (args := [x0]) (Eq.mpr (by kernel_rfl) h)

/-! ### 17 scutage/scutageref37.Fine (28, 22) -/
namespace F17
def ann : Ann := ⟨[(3, [0, 1, 5]), (4, [0, 1, 5]), (7, [])], [(2, [0, 1, 5])], [], [], none⟩
noncomputable def code : Code := match Try.f17.body with | some c => c | none => .skip
noncomputable def top (K : VK) : QE := retQ Try.prog Try.f17.results.toList K
noncomputable def k7 (K : VK) (w : World) : Prop := nav ann Try.prog 36 (fun c Q => vcCode ann Try.prog 36 c Q [] w) [1, 1] code (top K)
attribute [irreducible] k7
noncomputable def l2 (K : VK) (y0 y1 y5 : Value) (w : World) : Prop := nav ann Try.prog 36 (isLoop ann Try.prog 36 [(0, y0), (1, y1), (5, y5)] w) [1, 0, 1, 0] code (top K)
attribute [irreducible] l2
noncomputable def k4 (K : VK) (y0 y1 y5 : Value) (w : World) : Prop := nav ann Try.prog 36 (fun c Q => vcCode ann Try.prog 36 c Q [(0, y0), (1, y1), (5, y5)] w) [1, 0, 1, 0, 0, 1] code (top K)
attribute [irreducible] k4
noncomputable def k3 (K : VK) (y0 y1 y5 : Value) (w : World) : Prop := nav ann Try.prog 36 (fun c Q => vcCode ann Try.prog 36 c Q [(0, y0), (1, y1), (5, y5)] w) [1, 0, 1, 0, 0, 1, 1] code (top K)
attribute [irreducible] k3
end F17
theorem F17.k7.to {K : VK} {w : World} (h : (K (.bool true) w)) : F17.k7 K w := Eq.mpr (by kernel_rfl) h
theorem F17.l2.to {K : VK} {y0 y1 y5 : Value} {w : World} (h : (C.len y1 w fun x10_1 w1 =>
  C.int .lss y5 x10_1 w1 fun x11_2 w2 =>
  C.ite x11_2 (F17.k4 K y0 y1 y5 w2) (F17.k7 K w2))) : F17.l2 K y0 y1 y5 w := by unfold F17.l2; exact nav_round (Eq.mpr (by kernel_rfl) h)
theorem F17.k4.to {K : VK} {y0 y1 y5 : Value} {w : World} (h : (C.idx 1 y1 y5 w fun x17_1 w1 =>
  C.load1 x17_1 w1 fun x18_2 w2 =>
  C.call Try.prog 36 #[x18_2] w2 fun x19_3 w3 =>
  C.ext 0 x19_3 w3 fun x20_4 w4 =>
  C.ext 1 x19_3 w4 fun x21_5 w5 =>
  C.new (.cells #[.int .i64 0, .int .i64 0] 75) w5 fun x6_6 w6 =>
  C.store 2 x6_6 x20_4 w6 fun w7 =>
  C.not x21_5 w7 fun x23_8 w8 =>
  C.guarded false x23_8 (fun K => C.field 0 x6_6 w8 K) w8 fun x25_9 w9 =>
  C.guarded false x23_8 (fun K => C.load1 x25_9 w9 K) w9 fun x26_10 w10 =>
  C.guarded false x23_8 (fun K => C.int .eql x26_10 (.int .i64 2) w10 K) w10 fun x27_11 w11 =>
  C.guarded false x23_8 (fun K => K x27_11 w11) w11 fun x28_12 w12 =>
  C.guarded true x28_12 (fun K => K y0 w12) w12 fun x29_13 w13 =>
  C.guarded true x28_12 (fun K => C.field 1 x6_6 w13 K) w13 fun x30_14 w14 =>
  C.guarded true x28_12 (fun K => C.load1 x30_14 w14 K) w14 fun x31_15 w15 =>
  C.guarded true x28_12 (fun K => C.call Try.prog 37 #[x29_13, x31_15] w15 K) w15 fun x32_16 w16 =>
  C.guarded true x28_12 (fun K => C.int .lss x32_16 (.int .i64 0) w16 K) w16 fun x33_17 w17 =>
  C.guarded false x23_8 (fun K => C.pick (some x28_12) (some x33_17) (some (.bool false)) w17 K) w17 fun x34_18 w18 =>
  C.pick (some x23_8) (some (.bool true)) (some x34_18) w18 fun x35_19 w19 =>
  C.ite x35_19 (K (.bool false) w19) (F17.k3 K y0 y1 y5 w19))) : F17.k4 K y0 y1 y5 w := Eq.mpr (by kernel_rfl) h
theorem F17.k3.to {K : VK} {y0 y1 y5 : Value} {w : World} (h : (C.int .add y5 (.int .i64 1) w fun x13_1 w1 =>
  F17.l2 K y0 y1 x13_1 w1)) : F17.k3 K y0 y1 y5 w := Eq.mpr (by kernel_rfl) h
theorem F17.sh {K : VK} {x0 x1 : Value} {w : World} (h : (F17.l2 K x0 x1 (.int .i64 0) w)) : C.call Try.prog 17 #[x0, x1] w K := calls_of_vc (A := F17.ann) (args := [x0, x1]) (Eq.mpr (by kernel_rfl) h)

/-! ### 19 scutage/scutageref37.Lay (28, 26, 22) -/
namespace F19
def ann : Ann := ⟨[(4, [0, 1, 2, 8, 9]), (5, [0, 1, 2, 8, 9]), (8, [0, 1, 2, 8])], [(3, [0, 1, 2, 8, 9])], [], [], none⟩
noncomputable def code : Code := match Try.f19.body with | some c => c | none => .skip
noncomputable def top (K : VK) : QE := retQ Try.prog Try.f19.results.toList K
noncomputable def k8 (K : VK) (y0 y1 y2 y8 : Value) (w : World) : Prop := nav ann Try.prog 46 (fun c Q => vcCode ann Try.prog 46 c Q [(0, y0), (1, y1), (2, y2), (8, y8)] w) [1, 1, 1] code (top K)
attribute [irreducible] k8
noncomputable def l3 (K : VK) (y0 y1 y2 y8 y9 : Value) (w : World) : Prop := nav ann Try.prog 46 (isLoop ann Try.prog 46 [(0, y0), (1, y1), (2, y2), (8, y8), (9, y9)] w) [1, 1, 0, 1, 0] code (top K)
attribute [irreducible] l3
noncomputable def k5 (K : VK) (y0 y1 y2 y8 y9 : Value) (w : World) : Prop := nav ann Try.prog 46 (fun c Q => vcCode ann Try.prog 46 c Q [(0, y0), (1, y1), (2, y2), (8, y8), (9, y9)] w) [1, 1, 0, 1, 0, 0, 1] code (top K)
attribute [irreducible] k5
noncomputable def k4 (K : VK) (y0 y1 y2 y8 y9 : Value) (w : World) : Prop := nav ann Try.prog 46 (fun c Q => vcCode ann Try.prog 46 c Q [(0, y0), (1, y1), (2, y2), (8, y8), (9, y9)] w) [1, 1, 0, 1, 0, 0, 1, 1] code (top K)
attribute [irreducible] k4
end F19
theorem F19.k8.to {K : VK} {y0 y1 y2 y8 : Value} {w : World} (h : (C.call Try.prog 44 #[y0, y1, y2] w fun x45_1 w1 =>
  K (.tuple #[y8, x45_1]) w1)) : F19.k8 K y0 y1 y2 y8 w := Eq.mpr (by kernel_rfl) h
theorem F19.l3.to {K : VK} {y0 y1 y2 y8 y9 : Value} {w : World} (h : (C.len y1 w fun x13_1 w1 =>
  C.int .lss y9 x13_1 w1 fun x14_2 w2 =>
  C.ite x14_2 (F19.k5 K y0 y1 y2 y8 y9 w2) (F19.k8 K y0 y1 y2 y8 w2))) : F19.l3 K y0 y1 y2 y8 y9 w := by unfold F19.l3; exact nav_round (Eq.mpr (by kernel_rfl) h)
theorem F19.k5.to {K : VK} {y0 y1 y2 y8 y9 : Value} {w : World} (h : (C.idx 1 y1 y9 w fun x20_1 w1 =>
  C.load1 x20_1 w1 fun x21_2 w2 =>
  C.idx 3 y0 x21_2 w2 fun x22_3 w3 =>
  C.loadA 3 x22_3 w3 fun x23_4 w4 =>
  C.new (.cells #[.int .i64 0, .int .i64 0, .slice none 0 0] 32) w4 fun x10_5 w5 =>
  C.store 3 x10_5 x23_4 w5 fun w6 =>
  C.field 1 x10_5 w6 fun x25_7 w7 =>
  C.load1 x25_7 w7 fun x26_8 w8 =>
  C.int .mul x26_8 (.int .i64 128) w8 fun x27_9 w9 =>
  C.field 2 x10_5 w9 fun x28_10 w10 =>
  C.load1 x28_10 w10 fun x29_11 w11 =>
  C.len x29_11 w11 fun x30_12 w12 =>
  C.int .add x27_9 x30_12 w12 fun x31_13 w13 =>
  C.run Try.prog (Instr.buildSlice 22 1 #[(0, x31_13)]) w13 fun x32_14 w14 =>
  C.run Try.prog (Builtin.append_ #[22, 22] 22 #[y8, x32_14]) w14 fun x33_15 w15 =>
  C.field 2 x10_5 w15 fun x37_16 w16 =>
  C.load1 x37_16 w16 fun x38_17 w17 =>
  C.call Try.prog 44 #[y0, y1, x38_17] w17 fun x39_18 w18 =>
  C.run Try.prog (Builtin.append_ #[22, 22] 22 #[x33_15, x39_18]) w18 fun x40_19 w19 =>
  F19.k4 K y0 y1 y2 x40_19 y9 w19)) : F19.k5 K y0 y1 y2 y8 y9 w := Eq.mpr (by kernel_rfl) h
theorem F19.k4.to {K : VK} {y0 y1 y2 y8 y9 : Value} {w : World} (h : (C.int .add y9 (.int .i64 1) w fun x16_1 w1 =>
  F19.l3 K y0 y1 y2 y8 x16_1 w1)) : F19.k4 K y0 y1 y2 y8 y9 w := Eq.mpr (by kernel_rfl) h
theorem F19.sh {K : VK} {x0 x1 x2 : Value} {w : World} (h : (F19.l3 K x0 x1 x2 (.slice none 0 0) (.int .i64 0) w)) : C.call Try.prog 19 #[x0, x1, x2] w K := calls_of_vc (A := F19.ann) (args := [x0, x1, x2]) (Eq.mpr (by kernel_rfl) h)

/-! ### 20 scutage/scutageref37.Order (28, 22) -/
namespace F20
def ann : Ann := ⟨[(4, [0, 5, 6, 7]), (7, [0, 5, 6, 7, 8]), (8, [0, 5, 6, 7, 8]), (10, [0, 5, 6, 7, 8, 9]), (14, [0, 5, 6, 7, 8, 11, 12, 13]), (15, [0, 5, 6, 7, 8, 11, 12, 13]), (16, [0, 5, 6, 7, 8, 11, 12]), (18, [0, 5, 7]), (20, [0, 5, 7])], [(5, [0, 5, 6, 7]), (6, [0, 5, 6, 7, 8]), (13, [0, 5, 6, 7, 8, 11, 12, 13])], [], [], none⟩
noncomputable def code : Code := match Try.f20.body with | some c => c | none => .skip
noncomputable def top (K : VK) : QE := retQ Try.prog Try.f20.results.toList K
noncomputable def l5 (K : VK) (y0 y5 y6 y7 : Value) (w : World) : Prop := nav ann Try.prog 72 (isLoop ann Try.prog 72 [(0, y0), (5, y5), (6, y6), (7, y7)] w) [1, 1, 1, 1, 0] code (top K)
attribute [irreducible] l5
noncomputable def k4 (K : VK) (y0 y5 y6 y7 : Value) (w : World) : Prop := nav ann Try.prog 72 (fun c Q => vcCode ann Try.prog 72 c Q [(0, y0), (5, y5), (6, y6), (7, y7)] w) [1, 1, 1, 1, 0, 0, 1] code (top K)
attribute [irreducible] k4
noncomputable def k18 (K : VK) (y0 y5 y7 : Value) (w : World) : Prop := nav ann Try.prog 72 (fun c Q => vcCode ann Try.prog 72 c Q [(0, y0), (5, y5), (7, y7)] w) [1, 1, 1, 1, 0, 0, 0, 0, 1] code (top K)
attribute [irreducible] k18
noncomputable def l6 (K : VK) (y0 y5 y6 y7 y8 : Value) (w : World) : Prop := nav ann Try.prog 72 (isLoop ann Try.prog 72 [(0, y0), (5, y5), (6, y6), (7, y7), (8, y8)] w) [1, 1, 1, 1, 0, 0, 0, 0, 0, 1, 0] code (top K)
attribute [irreducible] l6
noncomputable def k8 (K : VK) (y0 y5 y6 y7 y8 : Value) (w : World) : Prop := nav ann Try.prog 72 (fun c Q => vcCode ann Try.prog 72 c Q [(0, y0), (5, y5), (6, y6), (7, y7), (8, y8)] w) [1, 1, 1, 1, 0, 0, 0, 0, 0, 1, 0, 0, 1] code (top K)
attribute [irreducible] k8
noncomputable def k7 (K : VK) (y0 y5 y6 y7 y8 : Value) (w : World) : Prop := nav ann Try.prog 72 (fun c Q => vcCode ann Try.prog 72 c Q [(0, y0), (5, y5), (6, y6), (7, y7), (8, y8)] w) [1, 1, 1, 1, 0, 0, 0, 0, 0, 1, 0, 0, 1, 1] code (top K)
attribute [irreducible] k7
noncomputable def k10 (K : VK) (y0 y5 y6 y7 y8 y9 : Value) (w : World) : Prop := nav ann Try.prog 72 (fun c Q => vcCode ann Try.prog 72 c Q [(0, y0), (5, y5), (6, y6), (7, y7), (8, y8), (9, y9)] w) [1, 1, 1, 1, 0, 0, 0, 0, 0, 1, 0, 0, 1, 0, 0, 1, 1] code (top K)
attribute [irreducible] k10
noncomputable def k16 (K : VK) (y0 y5 y6 y7 y8 y11 y12 : Value) (w : World) : Prop := nav ann Try.prog 72 (fun c Q => vcCode ann Try.prog 72 c Q [(0, y0), (5, y5), (6, y6), (7, y7), (8, y8), (11, y11), (12, y12)] w) [1, 1, 1, 1, 0, 0, 0, 0, 0, 1, 0, 0, 1, 0, 0, 1, 1, 1, 1, 1] code (top K)
attribute [irreducible] k16
noncomputable def l13 (K : VK) (y0 y5 y6 y7 y8 y11 y12 y13 : Value) (w : World) : Prop := nav ann Try.prog 72 (isLoop ann Try.prog 72 [(0, y0), (5, y5), (6, y6), (7, y7), (8, y8), (11, y11), (12, y12), (13, y13)] w) [1, 1, 1, 1, 0, 0, 0, 0, 0, 1, 0, 0, 1, 0, 0, 1, 1, 1, 1, 0, 1, 0] code (top K)
attribute [irreducible] l13
noncomputable def k15 (K : VK) (y0 y5 y6 y7 y8 y11 y12 y13 : Value) (w : World) : Prop := nav ann Try.prog 72 (fun c Q => vcCode ann Try.prog 72 c Q [(0, y0), (5, y5), (6, y6), (7, y7), (8, y8), (11, y11), (12, y12), (13, y13)] w) [1, 1, 1, 1, 0, 0, 0, 0, 0, 1, 0, 0, 1, 0, 0, 1, 1, 1, 1, 0, 1, 0, 0, 1] code (top K)
attribute [irreducible] k15
noncomputable def k14 (K : VK) (y0 y5 y6 y7 y8 y11 y12 y13 : Value) (w : World) : Prop := nav ann Try.prog 72 (fun c Q => vcCode ann Try.prog 72 c Q [(0, y0), (5, y5), (6, y6), (7, y7), (8, y8), (11, y11), (12, y12), (13, y13)] w) [1, 1, 1, 1, 0, 0, 0, 0, 0, 1, 0, 0, 1, 0, 0, 1, 1, 1, 1, 0, 1, 0, 0, 1, 1] code (top K)
attribute [irreducible] k14
noncomputable def k20 (K : VK) (y0 y5 y7 : Value) (w : World) : Prop := nav ann Try.prog 72 (fun c Q => vcCode ann Try.prog 72 c Q [(0, y0), (5, y5), (7, y7)] w) [1, 1, 1, 1, 0, 0, 0, 0, 1, 1] code (top K)
attribute [irreducible] k20
end F20
theorem F20.l5.to {K : VK} {y0 y5 y6 y7 : Value} {w : World} (h : (F20.l6 K y0 y5 y6 y7 (.int .i64 0) w)) : F20.l5 K y0 y5 y6 y7 w := by unfold F20.l5; exact nav_round (Eq.mpr (by kernel_rfl) h)
theorem F20.k4.to {K : VK} {y0 y5 y6 y7 : Value} {w : World} (h : (C.int .add y7 (.int .i64 1) w fun x16_1 w1 =>
  F20.l5 K y0 y5 y6 x16_1 w1)) : F20.k4 K y0 y5 y6 y7 w := Eq.mpr (by kernel_rfl) h
theorem F20.k18.to {K : VK} {y0 y5 y7 : Value} {w : World} (h : (C.len y5 w fun x61_1 w1 =>
  C.int .geq y7 x61_1 w1 fun x62_2 w2 =>
  C.ite x62_2 (K y5 w2) (F20.k20 K y0 y5 y7 w2))) : F20.k18 K y0 y5 y7 w := Eq.mpr (by kernel_rfl) h
theorem F20.l6.to {K : VK} {y0 y5 y6 y7 y8 : Value} {w : World} (h : (C.len y6 w fun x19_1 w1 =>
  C.int .lss y8 x19_1 w1 fun x20_2 w2 =>
  C.ite x20_2 (F20.k8 K y0 y5 y6 y7 y8 w2) (F20.k18 K y0 y5 y7 w2))) : F20.l6 K y0 y5 y6 y7 y8 w := by unfold F20.l6; exact nav_round (Eq.mpr (by kernel_rfl) h)
theorem F20.k8.to {K : VK} {y0 y5 y6 y7 y8 : Value} {w : World} (h : (C.idx 1 y6 y8 w fun x26_1 w1 =>
  C.load1 x26_1 w1 fun x27_2 w2 =>
  C.call Try.prog 36 #[x27_2] w2 fun x28_3 w3 =>
  C.ext 0 x28_3 w3 fun x29_4 w4 =>
  C.ext 1 x28_3 w4 fun x30_5 w5 =>
  C.new (.cells #[.int .i64 0, .int .i64 0] 75) w5 fun x9_6 w6 =>
  C.store 2 x9_6 x29_4 w6 fun w7 =>
  C.field 0 x9_6 w7 fun x31_8 w8 =>
  C.load1 x31_8 w8 fun x32_9 w9 =>
  C.int .neq x32_9 (.int .i64 2) w9 fun x33_10 w10 =>
  C.ite x33_10 (F20.k7 K y0 y5 y6 y7 y8 w10) (F20.k10 K y0 y5 y6 y7 y8 x9_6 w10))) : F20.k8 K y0 y5 y6 y7 y8 w := Eq.mpr (by kernel_rfl) h
theorem F20.k7.to {K : VK} {y0 y5 y6 y7 y8 : Value} {w : World} (h : (C.int .add y8 (.int .i64 1) w fun x22_1 w1 =>
  F20.l6 K y0 y5 y6 y7 x22_1 w1)) : F20.k7 K y0 y5 y6 y7 y8 w := Eq.mpr (by kernel_rfl) h
theorem F20.k10.to {K : VK} {y0 y5 y6 y7 y8 y9 : Value} {w : World} (h : (C.field 1 y9 w fun x35_1 w1 =>
  C.load1 x35_1 w1 fun x36_2 w2 =>
  C.call Try.prog 37 #[y0, x36_2] w2 fun x37_3 w3 =>
  F20.l13 K y0 y5 y6 y7 y8 x37_3 (.bool false) (.int .i64 0) w3)) : F20.k10 K y0 y5 y6 y7 y8 y9 w := Eq.mpr (by kernel_rfl) h
theorem F20.k16.to {K : VK} {y0 y5 y6 y7 y8 y11 y12 : Value} {w : World} (h : (C.not y12 w fun x54_1 w1 =>
  C.ite x54_1 (C.run Try.prog (Instr.buildSlice 26 1 #[(0, y11)]) w1 fun x57_2 w2 =>
  C.run Try.prog (Builtin.append_ #[26, 26] 26 #[y5, x57_2]) w2 fun x58_3 w3 =>
  F20.k7 K y0 x58_3 y6 y7 y8 w3) (F20.k7 K y0 y5 y6 y7 y8 w1))) : F20.k16 K y0 y5 y6 y7 y8 y11 y12 w := Eq.mpr (by kernel_rfl) h
theorem F20.l13.to {K : VK} {y0 y5 y6 y7 y8 y11 y12 y13 : Value} {w : World} (h : (C.len y5 w fun x40_1 w1 =>
  C.int .lss y13 x40_1 w1 fun x41_2 w2 =>
  C.ite x41_2 (F20.k15 K y0 y5 y6 y7 y8 y11 y12 y13 w2) (F20.k16 K y0 y5 y6 y7 y8 y11 y12 w2))) : F20.l13 K y0 y5 y6 y7 y8 y11 y12 y13 w := by unfold F20.l13; exact nav_round (Eq.mpr (by kernel_rfl) h)
theorem F20.k15.to {K : VK} {y0 y5 y6 y7 y8 y11 y12 y13 : Value} {w : World} (h : (C.guarded false y12 (fun K => K y5 w) w fun x46_1 w1 =>
  C.guarded false y12 (fun K => K y13 w1) w1 fun x47_2 w2 =>
  C.guarded false y12 (fun K => C.idx 1 x46_1 x47_2 w2 K) w2 fun x48_3 w3 =>
  C.guarded false y12 (fun K => C.load1 x48_3 w3 K) w3 fun x49_4 w4 =>
  C.guarded false y12 (fun K => K y11 w4) w4 fun x50_5 w5 =>
  C.guarded false y12 (fun K => C.int .eql x49_4 x50_5 w5 K) w5 fun x51_6 w6 =>
  C.pick (some y12) (some (.bool true)) (some x51_6) w6 fun x52_7 w7 =>
  F20.k14 K y0 y5 y6 y7 y8 y11 x52_7 y13 w7)) : F20.k15 K y0 y5 y6 y7 y8 y11 y12 y13 w := Eq.mpr (by kernel_rfl) h
theorem F20.k14.to {K : VK} {y0 y5 y6 y7 y8 y11 y12 y13 : Value} {w : World} (h : (C.int .add y13 (.int .i64 1) w fun x43_1 w1 =>
  F20.l13 K y0 y5 y6 y7 y8 y11 y12 x43_1 w1)) : F20.k14 K y0 y5 y6 y7 y8 y11 y12 y13 w := Eq.mpr (by kernel_rfl) h
theorem F20.k20.to {K : VK} {y0 y5 y7 : Value} {w : World} (h : (C.idx 1 y5 y7 w fun x67_1 w1 =>
  C.load1 x67_1 w1 fun x68_2 w2 =>
  C.idx 3 y0 x68_2 w2 fun x69_3 w3 =>
  C.field 2 x69_3 w3 fun x70_4 w4 =>
  C.load1 x70_4 w4 fun x71_5 w5 =>
  F20.k4 K y0 y5 x71_5 y7 w5)) : F20.k20 K y0 y5 y7 w := Eq.mpr (by kernel_rfl) h
theorem F20.sh {K : VK} {x0 x1 : Value} {w : World} (h : (F20.l5 K x0 (.slice none 0 0) x1 (.int .i64 0) w)) : C.call Try.prog 20 #[x0, x1] w K := calls_of_vc (A := F20.ann) (args := [x0, x1]) (Eq.mpr (by kernel_rfl) h)

/-! ### 23 scutage/scutageref37.View (28, 22) -/
namespace F23
def ann : Ann := ⟨[(6, [0, 4, 5, 6, 7, 8]), (7, [0, 4, 5, 6, 7, 8]), (10, [0, 4, 5, 6, 7, 8, 9, 10]), (11, [0, 4, 5, 6, 7, 8, 9, 10]), (14, [0, 4, 5, 6, 7, 8, 9, 10, 11, 12]), (15, [0, 4, 5, 6, 7, 8, 9, 10, 11, 12]), (16, [0, 4, 5, 6, 7, 8, 9, 10, 11]), (18, [0, 4, 5, 6, 7, 8, 9]), (20, [4, 5])], [(5, [0, 4, 5, 6, 7, 8]), (9, [0, 4, 5, 6, 7, 8, 9, 10]), (13, [0, 4, 5, 6, 7, 8, 9, 10, 11, 12])], [], [(16, (.take 0 (.take 1 (.take 2 (.take 3 (.take 4 (.take 5 (.take 6 (.take 7 (.take 8 (.take 9 (.take 10 (.take 11 (.take 12 (.take 13 (.take 14 (.take 15 (.take 17 (.take 18 (.take 19 (.take 20 (.take 16 (.take 21 (.take 22 (.take 23 (.take 24 .fin)))))))))))))))))))))))))), (19, (.take 0 (.take 2 (.take 3 (.take 4 (.take 5 (.take 7 (.take 8 (.take 9 (.take 10 (.take 11 (.take 6 (.take 12 (.go 1 (.go 13 (.take 14 (.go 15 (.go 16 (.take 17 (.go 18 .fin .fin)) .fin) .fin)) .fin) (.go 13 (.take 14 (.go 1 (.go 15 (.go 16 (.take 17 (.go 18 .fin .fin)) .fin) .fin) (.go 15 (.go 1 (.go 16 (.take 17 (.go 18 .fin .fin)) .fin) .fin) .fin))) .fin)))))))))))))))], none⟩
noncomputable def code : Code := match Try.f23.body with | some c => c | none => .skip
noncomputable def top (K : VK) : QE := retQ Try.prog Try.f23.results.toList K
noncomputable def k20 (K : VK) (y4 y5 : Value) (w : World) : Prop := nav ann Try.prog 99 (fun c Q => vcCode ann Try.prog 99 c Q [(4, y4), (5, y5)] w) [1, 1, 1, 1, 1] code (top K)
attribute [irreducible] k20
noncomputable def l5 (K : VK) (y0 y4 y5 y6 y7 y8 : Value) (w : World) : Prop := nav ann Try.prog 99 (isLoop ann Try.prog 99 [(0, y0), (4, y4), (5, y5), (6, y6), (7, y7), (8, y8)] w) [1, 1, 1, 1, 0, 1, 0] code (top K)
attribute [irreducible] l5
noncomputable def k7 (K : VK) (y0 y4 y5 y6 y7 y8 : Value) (w : World) : Prop := nav ann Try.prog 99 (fun c Q => vcCode ann Try.prog 99 c Q [(0, y0), (4, y4), (5, y5), (6, y6), (7, y7), (8, y8)] w) [1, 1, 1, 1, 0, 1, 0, 0, 1] code (top K)
attribute [irreducible] k7
noncomputable def k6 (K : VK) (y0 y4 y5 y6 y7 y8 : Value) (w : World) : Prop := nav ann Try.prog 99 (fun c Q => vcCode ann Try.prog 99 c Q [(0, y0), (4, y4), (5, y5), (6, y6), (7, y7), (8, y8)] w) [1, 1, 1, 1, 0, 1, 0, 0, 1, 1] code (top K)
attribute [irreducible] k6
noncomputable def k18 (K : VK) (y0 y4 y5 y6 y7 y8 y9 : Value) (w : World) : Prop := nav ann Try.prog 99 (fun c Q => vcCode ann Try.prog 99 c Q [(0, y0), (4, y4), (5, y5), (6, y6), (7, y7), (8, y8), (9, y9)] w) [1, 1, 1, 1, 0, 1, 0, 0, 1, 0, 0, 1, 1] code (top K)
attribute [irreducible] k18
noncomputable def l9 (K : VK) (y0 y4 y5 y6 y7 y8 y9 y10 : Value) (w : World) : Prop := nav ann Try.prog 99 (isLoop ann Try.prog 99 [(0, y0), (4, y4), (5, y5), (6, y6), (7, y7), (8, y8), (9, y9), (10, y10)] w) [1, 1, 1, 1, 0, 1, 0, 0, 1, 0, 0, 1, 0, 1, 0] code (top K)
attribute [irreducible] l9
noncomputable def k11 (K : VK) (y0 y4 y5 y6 y7 y8 y9 y10 : Value) (w : World) : Prop := nav ann Try.prog 99 (fun c Q => vcCode ann Try.prog 99 c Q [(0, y0), (4, y4), (5, y5), (6, y6), (7, y7), (8, y8), (9, y9), (10, y10)] w) [1, 1, 1, 1, 0, 1, 0, 0, 1, 0, 0, 1, 0, 1, 0, 0, 1] code (top K)
attribute [irreducible] k11
noncomputable def k10 (K : VK) (y0 y4 y5 y6 y7 y8 y9 y10 : Value) (w : World) : Prop := nav ann Try.prog 99 (fun c Q => vcCode ann Try.prog 99 c Q [(0, y0), (4, y4), (5, y5), (6, y6), (7, y7), (8, y8), (9, y9), (10, y10)] w) [1, 1, 1, 1, 0, 1, 0, 0, 1, 0, 0, 1, 0, 1, 0, 0, 1, 1] code (top K)
attribute [irreducible] k10
noncomputable def k16 (K : VK) (y0 y4 y5 y6 y7 y8 y9 y10 y11 : Value) (w : World) : Prop := nav ann Try.prog 99 (fun c Q => vcCode ann Try.prog 99 c Q [(0, y0), (4, y4), (5, y5), (6, y6), (7, y7), (8, y8), (9, y9), (10, y10), (11, y11)] w) [1, 1, 1, 1, 0, 1, 0, 0, 1, 0, 0, 1, 0, 1, 0, 0, 1, 0, 0, 1, 1] code (top K)
attribute [irreducible] k16
noncomputable def l13 (K : VK) (y0 y4 y5 y6 y7 y8 y9 y10 y11 y12 : Value) (w : World) : Prop := nav ann Try.prog 99 (isLoop ann Try.prog 99 [(0, y0), (4, y4), (5, y5), (6, y6), (7, y7), (8, y8), (9, y9), (10, y10), (11, y11), (12, y12)] w) [1, 1, 1, 1, 0, 1, 0, 0, 1, 0, 0, 1, 0, 1, 0, 0, 1, 0, 0, 1, 0, 1, 0] code (top K)
attribute [irreducible] l13
noncomputable def k15 (K : VK) (y0 y4 y5 y6 y7 y8 y9 y10 y11 y12 : Value) (w : World) : Prop := nav ann Try.prog 99 (fun c Q => vcCode ann Try.prog 99 c Q [(0, y0), (4, y4), (5, y5), (6, y6), (7, y7), (8, y8), (9, y9), (10, y10), (11, y11), (12, y12)] w) [1, 1, 1, 1, 0, 1, 0, 0, 1, 0, 0, 1, 0, 1, 0, 0, 1, 0, 0, 1, 0, 1, 0, 0, 1] code (top K)
attribute [irreducible] k15
noncomputable def k14 (K : VK) (y0 y4 y5 y6 y7 y8 y9 y10 y11 y12 : Value) (w : World) : Prop := nav ann Try.prog 99 (fun c Q => vcCode ann Try.prog 99 c Q [(0, y0), (4, y4), (5, y5), (6, y6), (7, y7), (8, y8), (9, y9), (10, y10), (11, y11), (12, y12)] w) [1, 1, 1, 1, 0, 1, 0, 0, 1, 0, 0, 1, 0, 1, 0, 0, 1, 0, 0, 1, 0, 1, 0, 0, 1, 1] code (top K)
attribute [irreducible] k14
end F23
theorem F23.k20.to {K : VK} {y4 y5 : Value} {w : World} (h : (C.loadA 2 y5 w fun x98_1 w1 =>
  C.store 2 y4 x98_1 w1 fun w2 =>
  C.loadA 2 y4 w2 fun r3 _ =>
  K r3 w2)) : F23.k20 K y4 y5 w := Eq.mpr (by kernel_rfl) h
theorem F23.l5.to {K : VK} {y0 y4 y5 y6 y7 y8 : Value} {w : World} (h : (C.len y6 w fun x26_1 w1 =>
  C.int .lss y8 x26_1 w1 fun x27_2 w2 =>
  C.ite x27_2 (F23.k7 K y0 y4 y5 y6 y7 y8 w2) (F23.k20 K y4 y5 w2))) : F23.l5 K y0 y4 y5 y6 y7 y8 w := by unfold F23.l5; exact nav_round (Eq.mpr (by kernel_rfl) h)
theorem F23.k7.to {K : VK} {y0 y4 y5 y6 y7 y8 : Value} {w : World} (h : (F23.l9 K y0 y4 y5 y6 y7 y8 (.int .i64 (-1)) (.int .i64 0) w)) : F23.k7 K y0 y4 y5 y6 y7 y8 w := Eq.mpr (by kernel_rfl) h
theorem F23.k6.to {K : VK} {y0 y4 y5 y6 y7 y8 : Value} {w : World} (h : (C.int .add y8 (.int .i64 1) w fun x29_1 w1 =>
  F23.l5 K y0 y4 y5 y6 y7 x29_1 w1)) : F23.k6 K y0 y4 y5 y6 y7 y8 w := Eq.mpr (by kernel_rfl) h
theorem F23.k18.to {K : VK} {y0 y4 y5 y6 y7 y8 y9 : Value} {w : World} (h : (C.idx 1 y7 y9 w fun x79_1 w1 =>
  C.store 1 x79_1 (.bool true) w1 fun w2 =>
  C.draw w2 fun S w3 =>
  C.field 1 y5 w3 fun x80_4 w4 =>
  C.idx 3 y0 y9 w4 fun x84_5 w5 =>
  C.field 1 x84_5 w5 fun x85_6 w6 =>
  C.idx 3 y0 y9 w6 fun x90_7 w7 =>
  C.field 2 x90_7 w7 fun x91_8 w8 =>
  C.load1S S x85_6 w8 fun x86_9 w9 =>
  C.load1S S x91_8 w9 fun x92_10 w10 =>
  (C.load1 x80_4 w10 fun x81_23 w23 =>
  (S w23 ∧
  (C.call Try.prog 46 #[y0, x92_10] w23 fun x93_24 w24 =>
  (S w24 ∧
  ∃ x94_25, (∀ w', S w' → (Instr.build 59 #[(0, x86_9), (1, x93_24)]).run Try.prog w' = .ok x94_25 w') ∧ ((C.run Try.prog (Instr.buildSlice 40 1 #[(0, x94_25)]) w24 fun x95_26 w26 =>
  (S w26 ∧
  (C.run Try.prog (Builtin.append_ #[40, 40] 40 #[x81_23, x95_26]) w26 fun x96_27 w27 =>
  (S w27 ∧
  C.field 1 y5 w27 fun x97_28 w28 =>
  (C.store 1 x97_28 x96_27 w28 fun w29 =>
  (S w29 ∧
  F23.k6 K y0 y4 y5 y6 y7 y8 w29)) ∧ True)) ∧ True)) ∧ True))) ∧ True)) ∧ ((C.call Try.prog 46 #[y0, x92_10] w10 fun x93_11 w11 =>
  (S w11 ∧
  ∃ x94_12, (∀ w', S w' → (Instr.build 59 #[(0, x86_9), (1, x93_11)]).run Try.prog w' = .ok x94_12 w') ∧ ((C.load1 x80_4 w11 fun x81_18 w18 =>
  (S w18 ∧
  (C.run Try.prog (Instr.buildSlice 40 1 #[(0, x94_12)]) w18 fun x95_19 w19 =>
  (S w19 ∧
  (C.run Try.prog (Builtin.append_ #[40, 40] 40 #[x81_18, x95_19]) w19 fun x96_20 w20 =>
  (S w20 ∧
  C.field 1 y5 w20 fun x97_21 w21 =>
  (C.store 1 x97_21 x96_20 w21 fun w22 =>
  (S w22 ∧
  F23.k6 K y0 y4 y5 y6 y7 y8 w22)) ∧ True)) ∧ True)) ∧ True)) ∧ ((C.run Try.prog (Instr.buildSlice 40 1 #[(0, x94_12)]) w11 fun x95_13 w13 =>
  (S w13 ∧
  (C.load1 x80_4 w13 fun x81_14 w14 =>
  (S w14 ∧
  (C.run Try.prog (Builtin.append_ #[40, 40] 40 #[x81_14, x95_13]) w14 fun x96_15 w15 =>
  (S w15 ∧
  C.field 1 y5 w15 fun x97_16 w16 =>
  (C.store 1 x97_16 x96_15 w16 fun w17 =>
  (S w17 ∧
  F23.k6 K y0 y4 y5 y6 y7 y8 w17)) ∧ True)) ∧ True)) ∧ True)) ∧ True)))) ∧ True))) : F23.k18 K y0 y4 y5 y6 y7 y8 y9 w := Eq.mpr (by kernel_rfl) h
theorem F23.l9.to {K : VK} {y0 y4 y5 y6 y7 y8 y9 y10 : Value} {w : World} (h : (C.len y0 w fun x32_1 w1 =>
  C.int .lss y10 x32_1 w1 fun x33_2 w2 =>
  C.ite x33_2 (F23.k11 K y0 y4 y5 y6 y7 y8 y9 y10 w2) (F23.k18 K y0 y4 y5 y6 y7 y8 y9 w2))) : F23.l9 K y0 y4 y5 y6 y7 y8 y9 y10 w := by unfold F23.l9; exact nav_round (Eq.mpr (by kernel_rfl) h)
theorem F23.k11.to {K : VK} {y0 y4 y5 y6 y7 y8 y9 y10 : Value} {w : World} (h : (F23.l13 K y0 y4 y5 y6 y7 y8 y9 y10 (.bool false) (.int .i64 0) w)) : F23.k11 K y0 y4 y5 y6 y7 y8 y9 y10 w := Eq.mpr (by kernel_rfl) h
theorem F23.k10.to {K : VK} {y0 y4 y5 y6 y7 y8 y9 y10 : Value} {w : World} (h : (C.int .add y10 (.int .i64 1) w fun x35_1 w1 =>
  F23.l9 K y0 y4 y5 y6 y7 y8 y9 x35_1 w1)) : F23.k10 K y0 y4 y5 y6 y7 y8 y9 y10 w := Eq.mpr (by kernel_rfl) h
theorem F23.k16.to {K : VK} {y0 y4 y5 y6 y7 y8 y9 y10 y11 : Value} {w : World} (h : (C.draw w fun S w1 =>
  C.guarded true y11 (fun K => K y7 w1) w1 fun x53_2 w2 =>
  C.guarded true y11 (fun K => K y10 w2) w2 fun x54_3 w3 =>
  C.guarded true y11 (fun K => C.idx 1 x53_2 x54_3 w3 K) w3 fun x55_4 w4 =>
  C.guarded true y11 (fun K => C.load1S S x55_4 w4 K) w4 fun x56_5 w5 =>
  C.guarded true y11 (fun K => C.not x56_5 w5 K) w5 fun x57_6 w6 =>
  C.pick (some y11) (some x57_6) (some (.bool false)) w6 fun x58_7 w7 =>
  C.guarded true x58_7 (fun K => K y9 w7) w7 fun x60_8 w8 =>
  C.guarded true x58_7 (fun K => C.int .lss x60_8 (.int .i64 0) w8 K) w8 fun x61_9 w9 =>
  C.guarded true x58_7 (fun K => K x61_9 w9) w9 fun x62_10 w10 =>
  C.guarded false x62_10 (fun K => K y0 w10) w10 fun x63_11 w11 =>
  C.guarded false x62_10 (fun K => K y10 w11) w11 fun x64_12 w12 =>
  C.guarded false x62_10 (fun K => C.idx 3 x63_11 x64_12 w12 K) w12 fun x65_13 w13 =>
  C.guarded false x62_10 (fun K => C.field 1 x65_13 w13 K) w13 fun x66_14 w14 =>
  C.guarded false x62_10 (fun K => K y0 w14) w14 fun x68_15 w15 =>
  C.guarded false x62_10 (fun K => K y9 w15) w15 fun x69_16 w16 =>
  C.guarded false x62_10 (fun K => C.idx 3 x68_15 x69_16 w16 K) w16 fun x70_17 w17 =>
  C.guarded false x62_10 (fun K => C.field 1 x70_17 w17 K) w17 fun x71_18 w18 =>
  C.guarded false x62_10 (fun K => C.load1S S x66_14 w18 K) w18 fun x67_19 w19 =>
  C.guarded false x62_10 (fun K => C.load1S S x71_18 w19 K) w19 fun x72_20 w20 =>
  C.guarded false x62_10 (fun K => C.int .lss x67_19 x72_20 w20 K) w20 fun x73_21 w21 =>
  C.guarded true x58_7 (fun K => C.pick (some x62_10) (some (.bool true)) (some x73_21) w21 K) w21 fun x74_22 w22 =>
  C.pick (some x58_7) (some x74_22) (some (.bool false)) w22 fun x75_23 w23 =>
  C.ite x75_23 (F23.k10 K y0 y4 y5 y6 y7 y8 y10 y10 w23) (F23.k10 K y0 y4 y5 y6 y7 y8 y9 y10 w23))) : F23.k16 K y0 y4 y5 y6 y7 y8 y9 y10 y11 w := Eq.mpr (by kernel_rfl) h
theorem F23.l13.to {K : VK} {y0 y4 y5 y6 y7 y8 y9 y10 y11 y12 : Value} {w : World} (h : (C.len y6 w fun x38_1 w1 =>
  C.int .lss y12 x38_1 w1 fun x39_2 w2 =>
  C.ite x39_2 (F23.k15 K y0 y4 y5 y6 y7 y8 y9 y10 y11 y12 w2) (F23.k16 K y0 y4 y5 y6 y7 y8 y9 y10 y11 w2))) : F23.l13 K y0 y4 y5 y6 y7 y8 y9 y10 y11 y12 w := by unfold F23.l13; exact nav_round (Eq.mpr (by kernel_rfl) h)
theorem F23.k15.to {K : VK} {y0 y4 y5 y6 y7 y8 y9 y10 y11 y12 : Value} {w : World} (h : (C.guarded false y11 (fun K => K y6 w) w fun x44_1 w1 =>
  C.guarded false y11 (fun K => K y12 w1) w1 fun x45_2 w2 =>
  C.guarded false y11 (fun K => C.idx 1 x44_1 x45_2 w2 K) w2 fun x46_3 w3 =>
  C.guarded false y11 (fun K => C.load1 x46_3 w3 K) w3 fun x47_4 w4 =>
  C.guarded false y11 (fun K => K y10 w4) w4 fun x48_5 w5 =>
  C.guarded false y11 (fun K => C.int .eql x47_4 x48_5 w5 K) w5 fun x49_6 w6 =>
  C.pick (some y11) (some (.bool true)) (some x49_6) w6 fun x50_7 w7 =>
  F23.k14 K y0 y4 y5 y6 y7 y8 y9 y10 x50_7 y12 w7)) : F23.k15 K y0 y4 y5 y6 y7 y8 y9 y10 y11 y12 w := Eq.mpr (by kernel_rfl) h
theorem F23.k14.to {K : VK} {y0 y4 y5 y6 y7 y8 y9 y10 y11 y12 : Value} {w : World} (h : (C.int .add y12 (.int .i64 1) w fun x41_1 w1 =>
  F23.l13 K y0 y4 y5 y6 y7 y8 y9 y10 y11 x41_1 w1)) : F23.k14 K y0 y4 y5 y6 y7 y8 y9 y10 y11 y12 w := Eq.mpr (by kernel_rfl) h
theorem F23.sh {K : VK} {x0 x1 : Value} {w : World} (h : (C.new (.cells #[.slice none 0 0, .slice none 0 0] 42) w fun x4_1 w1 =>
  C.call Try.prog 46 #[x0, x1] w1 fun x15_2 w2 =>
  C.run Try.prog (Instr.buildSlice 39 1 #[(0, x15_2)]) w2 fun x16_3 w3 =>
  C.run Try.prog (Instr.build 42 #[(0, x16_3)]) w3 fun x17_4 w4 =>
  C.new (.cells #[.slice none 0 0, .slice none 0 0] 42) w4 fun x5_5 w5 =>
  C.store 2 x5_5 x17_4 w5 fun w6 =>
  C.call Try.prog 20 #[x0, x1] w6 fun x20_7 w7 =>
  C.len x0 w7 fun x22_8 w8 =>
  C.run Try.prog (Instr.makeSlice 89 x22_8 x22_8) w8 fun x23_9 w9 =>
  F23.l5 K x0 x4_1 x5_5 x20_7 x23_9 (.int .i64 0) w9)) : C.call Try.prog 23 #[x0, x1] w K := calls_of_vc (A := F23.ann) (args := [x0, x1]) (Eq.mpr (by kernel_rfl) h)

/-! ### 32 scutage/scutageref37.Split (22) -/
namespace F32
def ann : Ann := ⟨[(4, [0, 4, 5]), (7, [0, 4, 5, 6]), (10, [4])], [(3, [0, 4, 5])], [], [], none⟩
noncomputable def code : Code := match Try.f32.body with | some c => c | none => .skip
noncomputable def top (K : VK) : QE := retQ Try.prog Try.f32.results.toList K
noncomputable def k10 (K : VK) (y4 : Value) (w : World) : Prop := nav ann Try.prog 53 (fun c Q => vcCode ann Try.prog 53 c Q [(4, y4)] w) [1, 1, 1, 1] code (top K)
attribute [irreducible] k10
noncomputable def l3 (K : VK) (y0 y4 y5 : Value) (w : World) : Prop := nav ann Try.prog 53 (isLoop ann Try.prog 53 [(0, y0), (4, y4), (5, y5)] w) [1, 1, 1, 0, 0] code (top K)
attribute [irreducible] l3
noncomputable def k4 (K : VK) (y0 y4 y5 : Value) (w : World) : Prop := nav ann Try.prog 53 (fun c Q => vcCode ann Try.prog 53 c Q [(0, y0), (4, y4), (5, y5)] w) [1, 1, 1, 0, 0, 0, 1] code (top K)
attribute [irreducible] k4
noncomputable def k7 (K : VK) (y0 y4 y5 y6 : Value) (w : World) : Prop := nav ann Try.prog 53 (fun c Q => vcCode ann Try.prog 53 c Q [(0, y0), (4, y4), (5, y5), (6, y6)] w) [1, 1, 1, 0, 0, 0, 1, 0, 1, 1] code (top K)
attribute [irreducible] k7
end F32
theorem F32.k10.to {K : VK} {y4 : Value} {w : World} (h : (K (.tuple #[y4, (.bool true)]) w)) : F32.k10 K y4 w := Eq.mpr (by kernel_rfl) h
theorem F32.l3.to {K : VK} {y0 y4 y5 : Value} {w : World} (h : (C.len y0 w fun x10_1 w1 =>
  C.int .lss y5 x10_1 w1 fun x11_2 w2 =>
  C.ite x11_2 (F32.k4 K y0 y4 y5 w2) (F32.k10 K y4 w2))) : F32.l3 K y0 y4 y5 w := by unfold F32.l3; exact nav_round (Eq.mpr (by kernel_rfl) h)
theorem F32.k4.to {K : VK} {y0 y4 y5 : Value} {w : World} (h : (C.idx 1 y0 y5 w fun x14_1 w1 =>
  C.load1 x14_1 w1 fun x15_2 w2 =>
  C.int .lss x15_2 (.int .i64 0) w2 fun x17_3 w3 =>
  C.guarded false x17_3 (fun K => K x15_2 w3) w3 fun x19_4 w4 =>
  C.guarded false x17_3 (fun K => C.int .geq x19_4 (.int .i64 140737488355328) w4 K) w4 fun x20_5 w5 =>
  C.pick (some x17_3) (some (.bool true)) (some x20_5) w5 fun x21_6 w6 =>
  C.guarded false x21_6 (fun K => K x15_2 w6) w6 fun x23_7 w7 =>
  C.guarded false x21_6 (fun K => C.bin Try.prog .rem 2 (.tmp 23) (.const (.int .i64 128)) x23_7 (.int .i64 128) w7 K) w7 fun x24_8 w8 =>
  C.guarded false x21_6 (fun K => K y0 w8) w8 fun x25_9 w9 =>
  C.guarded false x21_6 (fun K => C.len x25_9 w9 K) w9 fun x26_10 w10 =>
  C.guarded false x21_6 (fun K => K y5 w10) w10 fun x27_11 w11 =>
  C.guarded false x21_6 (fun K => C.int .sub x26_10 x27_11 w11 K) w11 fun x28_12 w12 =>
  C.guarded false x21_6 (fun K => C.int .geq x24_8 x28_12 w12 K) w12 fun x29_13 w13 =>
  C.pick (some x21_6) (some (.bool true)) (some x29_13) w13 fun x30_14 w14 =>
  C.ite x30_14 (K (.tuple #[(.slice none 0 0), (.bool false)]) w14) (F32.k7 K y0 y4 y5 x15_2 w14))) : F32.k4 K y0 y4 y5 w := Eq.mpr (by kernel_rfl) h
theorem F32.k7.to {K : VK} {y0 y4 y5 y6 : Value} {w : World} (h : (C.bin Try.prog .rem 2 (.tmp 31) (.const (.int .i64 128)) y6 (.int .i64 128) w fun x32_1 w1 =>
  C.bin Try.prog .quo 2 (.tmp 35) (.const (.int .i64 128)) y6 (.int .i64 128) w1 fun x36_2 w2 =>
  C.int .add y5 (.int .i64 1) w2 fun x39_3 w3 =>
  C.int .add y5 (.int .i64 1) w3 fun x41_4 w4 =>
  C.int .add x41_4 x32_1 w4 fun x43_5 w5 =>
  C.run Try.prog (Instr.sliceAt 22 y0 (some x39_3) (some x43_5) none) w5 fun x44_6 w6 =>
  C.run Try.prog (Instr.build 32 #[(0, y5), (1, x36_2), (2, x44_6)]) w6 fun x45_7 w7 =>
  C.run Try.prog (Instr.buildSlice 28 1 #[(0, x45_7)]) w7 fun x46_8 w8 =>
  C.run Try.prog (Builtin.append_ #[28, 28] 28 #[y4, x46_8]) w8 fun x47_9 w9 =>
  C.int .add y5 (.int .i64 1) w9 fun x49_10 w10 =>
  C.int .add x49_10 x32_1 w10 fun x51_11 w11 =>
  F32.l3 K y0 x47_9 x51_11 w11)) : F32.k7 K y0 y4 y5 y6 w := Eq.mpr (by kernel_rfl) h
theorem F32.sh {K : VK} {x0 : Value} {w : World} (h : (F32.l3 K x0 (.slice none 0 0) (.int .i64 0) w)) : C.call Try.prog 32 #[x0] w K := calls_of_vc (A := F32.ann) (args := [x0]) (Eq.mpr (by kernel_rfl) h)

/-! ### 37 scutage/scutageref37.Find (28, 2) -/
namespace F37
def ann : Ann := ⟨[(3, [0, 1, 5]), (4, [0, 1, 5]), (6, [])], [(2, [0, 1, 5])], [], [], none⟩
noncomputable def code : Code := match Try.f37.body with | some c => c | none => .skip
noncomputable def top (K : VK) : QE := retQ Try.prog Try.f37.results.toList K
noncomputable def k6 (K : VK) (w : World) : Prop := nav ann Try.prog 20 (fun c Q => vcCode ann Try.prog 20 c Q [] w) [1, 1] code (top K)
attribute [irreducible] k6
noncomputable def l2 (K : VK) (y0 y1 y5 : Value) (w : World) : Prop := nav ann Try.prog 20 (isLoop ann Try.prog 20 [(0, y0), (1, y1), (5, y5)] w) [1, 0, 1, 0] code (top K)
attribute [irreducible] l2
noncomputable def k4 (K : VK) (y0 y1 y5 : Value) (w : World) : Prop := nav ann Try.prog 20 (fun c Q => vcCode ann Try.prog 20 c Q [(0, y0), (1, y1), (5, y5)] w) [1, 0, 1, 0, 0, 1] code (top K)
attribute [irreducible] k4
noncomputable def k3 (K : VK) (y0 y1 y5 : Value) (w : World) : Prop := nav ann Try.prog 20 (fun c Q => vcCode ann Try.prog 20 c Q [(0, y0), (1, y1), (5, y5)] w) [1, 0, 1, 0, 0, 1, 1] code (top K)
attribute [irreducible] k3
end F37
theorem F37.k6.to {K : VK} {w : World} (h : (K (.int .i64 (-1)) w)) : F37.k6 K w := Eq.mpr (by kernel_rfl) h
theorem F37.l2.to {K : VK} {y0 y1 y5 : Value} {w : World} (h : (C.len y0 w fun x8_1 w1 =>
  C.int .lss y5 x8_1 w1 fun x9_2 w2 =>
  C.ite x9_2 (F37.k4 K y0 y1 y5 w2) (F37.k6 K w2))) : F37.l2 K y0 y1 y5 w := by unfold F37.l2; exact nav_round (Eq.mpr (by kernel_rfl) h)
theorem F37.k4.to {K : VK} {y0 y1 y5 : Value} {w : World} (h : (C.idx 3 y0 y5 w fun x14_1 w1 =>
  C.field 0 x14_1 w1 fun x15_2 w2 =>
  C.load1 x15_2 w2 fun x16_3 w3 =>
  C.int .eql x16_3 y1 w3 fun x18_4 w4 =>
  C.ite x18_4 (K y5 w4) (F37.k3 K y0 y1 y5 w4))) : F37.k4 K y0 y1 y5 w := Eq.mpr (by kernel_rfl) h
theorem F37.k3.to {K : VK} {y0 y1 y5 : Value} {w : World} (h : (C.int .add y5 (.int .i64 1) w fun x11_1 w1 =>
  F37.l2 K y0 y1 x11_1 w1)) : F37.k3 K y0 y1 y5 w := Eq.mpr (by kernel_rfl) h
theorem F37.sh {K : VK} {x0 x1 : Value} {w : World} (h : (F37.l2 K x0 x1 (.int .i64 0) w)) : C.call Try.prog 37 #[x0, x1] w K := calls_of_vc (A := F37.ann) (args := [x0, x1]) (Eq.mpr (by kernel_rfl) h)

/-! ### 44 scutage/scutageref37.moved (28, 26, 22) -/
namespace F44
def ann : Ann := ⟨[(4, [0, 1, 2, 7, 8]), (5, [0, 1, 2, 7, 8]), (11, [0, 1, 2, 7, 8, 12, 13, 14]), (12, [0, 1, 2, 7, 8, 12, 13, 14]), (13, [0, 1, 2, 7, 8, 13]), (14, [0, 1, 2, 7, 8, 11]), (15, [7])], [(3, [0, 1, 2, 7, 8]), (10, [0, 1, 2, 7, 8, 12, 13, 14])], [], [], none⟩
noncomputable def code : Code := match Try.f44.body with | some c => c | none => .skip
noncomputable def top (K : VK) : QE := retQ Try.prog Try.f44.results.toList K
noncomputable def k15 (K : VK) (y7 : Value) (w : World) : Prop := nav ann Try.prog 68 (fun c Q => vcCode ann Try.prog 68 c Q [(7, y7)] w) [1, 1, 1] code (top K)
attribute [irreducible] k15
noncomputable def l3 (K : VK) (y0 y1 y2 y7 y8 : Value) (w : World) : Prop := nav ann Try.prog 68 (isLoop ann Try.prog 68 [(0, y0), (1, y1), (2, y2), (7, y7), (8, y8)] w) [1, 1, 0, 1, 0] code (top K)
attribute [irreducible] l3
noncomputable def k5 (K : VK) (y0 y1 y2 y7 y8 : Value) (w : World) : Prop := nav ann Try.prog 68 (fun c Q => vcCode ann Try.prog 68 c Q [(0, y0), (1, y1), (2, y2), (7, y7), (8, y8)] w) [1, 1, 0, 1, 0, 0, 1] code (top K)
attribute [irreducible] k5
noncomputable def k4 (K : VK) (y0 y1 y2 y7 y8 : Value) (w : World) : Prop := nav ann Try.prog 68 (fun c Q => vcCode ann Try.prog 68 c Q [(0, y0), (1, y1), (2, y2), (7, y7), (8, y8)] w) [1, 1, 0, 1, 0, 0, 1, 1] code (top K)
attribute [irreducible] k4
noncomputable def k14 (K : VK) (y0 y1 y2 y7 y8 y11 : Value) (w : World) : Prop := nav ann Try.prog 68 (fun c Q => vcCode ann Try.prog 68 c Q [(0, y0), (1, y1), (2, y2), (7, y7), (8, y8), (11, y11)] w) [1, 1, 0, 1, 0, 0, 1, 0, 0, 1, 1, 1] code (top K)
attribute [irreducible] k14
noncomputable def k13 (K : VK) (y0 y1 y2 y7 y8 y13 : Value) (w : World) : Prop := nav ann Try.prog 68 (fun c Q => vcCode ann Try.prog 68 c Q [(0, y0), (1, y1), (2, y2), (7, y7), (8, y8), (13, y13)] w) [1, 1, 0, 1, 0, 0, 1, 0, 0, 1, 1, 0, 1, 0, 1, 1] code (top K)
attribute [irreducible] k13
noncomputable def l10 (K : VK) (y0 y1 y2 y7 y8 y12 y13 y14 : Value) (w : World) : Prop := nav ann Try.prog 68 (isLoop ann Try.prog 68 [(0, y0), (1, y1), (2, y2), (7, y7), (8, y8), (12, y12), (13, y13), (14, y14)] w) [1, 1, 0, 1, 0, 0, 1, 0, 0, 1, 1, 0, 1, 0, 1, 0, 1, 0] code (top K)
attribute [irreducible] l10
noncomputable def k12 (K : VK) (y0 y1 y2 y7 y8 y12 y13 y14 : Value) (w : World) : Prop := nav ann Try.prog 68 (fun c Q => vcCode ann Try.prog 68 c Q [(0, y0), (1, y1), (2, y2), (7, y7), (8, y8), (12, y12), (13, y13), (14, y14)] w) [1, 1, 0, 1, 0, 0, 1, 0, 0, 1, 1, 0, 1, 0, 1, 0, 1, 0, 0, 1] code (top K)
attribute [irreducible] k12
noncomputable def k11 (K : VK) (y0 y1 y2 y7 y8 y12 y13 y14 : Value) (w : World) : Prop := nav ann Try.prog 68 (fun c Q => vcCode ann Try.prog 68 c Q [(0, y0), (1, y1), (2, y2), (7, y7), (8, y8), (12, y12), (13, y13), (14, y14)] w) [1, 1, 0, 1, 0, 0, 1, 0, 0, 1, 1, 0, 1, 0, 1, 0, 1, 0, 0, 1, 1] code (top K)
attribute [irreducible] k11
end F44
theorem F44.k15.to {K : VK} {y7 : Value} {w : World} (h : (K y7 w)) : F44.k15 K y7 w := Eq.mpr (by kernel_rfl) h
theorem F44.l3.to {K : VK} {y0 y1 y2 y7 y8 : Value} {w : World} (h : (C.len y2 w fun x17_1 w1 =>
  C.int .lss y8 x17_1 w1 fun x18_2 w2 =>
  C.ite x18_2 (F44.k5 K y0 y1 y2 y7 y8 w2) (F44.k15 K y7 w2))) : F44.l3 K y0 y1 y2 y7 y8 w := by unfold F44.l3; exact nav_round (Eq.mpr (by kernel_rfl) h)
theorem F44.k5.to {K : VK} {y0 y1 y2 y7 y8 : Value} {w : World} (h : (C.idx 1 y2 y8 w fun x24_1 w1 =>
  C.load1 x24_1 w1 fun x25_2 w2 =>
  C.call Try.prog 36 #[x25_2] w2 fun x26_3 w3 =>
  C.ext 0 x26_3 w3 fun x27_4 w4 =>
  C.ext 1 x26_3 w4 fun x28_5 w5 =>
  C.new (.cells #[.int .i64 0, .int .i64 0] 75) w5 fun x9_6 w6 =>
  C.store 2 x9_6 x27_4 w6 fun w7 =>
  C.idx 1 y2 y8 w7 fun x31_8 w8 =>
  C.load1 x31_8 w8 fun x32_9 w9 =>
  C.field 0 x9_6 w9 fun x33_10 w10 =>
  C.load1 x33_10 w10 fun x34_11 w11 =>
  C.int .eql x34_11 (.int .i64 2) w11 fun x35_12 w12 =>
  C.ite x35_12 (C.field 1 x9_6 w12 fun x37_13 w13 =>
  C.load1 x37_13 w13 fun x38_14 w14 =>
  C.call Try.prog 37 #[y0, x38_14] w14 fun x39_15 w15 =>
  F44.l10 K y0 y1 y2 y7 y8 x39_15 (.int .i64 0) (.int .i64 0) w15) (F44.k14 K y0 y1 y2 y7 y8 x32_9 w12))) : F44.k5 K y0 y1 y2 y7 y8 w := Eq.mpr (by kernel_rfl) h
theorem F44.k4.to {K : VK} {y0 y1 y2 y7 y8 : Value} {w : World} (h : (C.int .add y8 (.int .i64 1) w fun x20_1 w1 =>
  F44.l3 K y0 y1 y2 y7 x20_1 w1)) : F44.k4 K y0 y1 y2 y7 y8 w := Eq.mpr (by kernel_rfl) h
theorem F44.k14.to {K : VK} {y0 y1 y2 y7 y8 y11 : Value} {w : World} (h : (C.run Try.prog (Instr.buildSlice 22 1 #[(0, y11)]) w fun x65_1 w1 =>
  C.run Try.prog (Builtin.append_ #[22, 22] 22 #[y7, x65_1]) w1 fun x66_2 w2 =>
  F44.k4 K y0 y1 y2 x66_2 y8 w2)) : F44.k14 K y0 y1 y2 y7 y8 y11 w := Eq.mpr (by kernel_rfl) h
theorem F44.k13.to {K : VK} {y0 y1 y2 y7 y8 y13 : Value} {w : World} (h : (C.run Try.prog (Instr.build 75 #[(0, (.int .i64 2)), (1, y13)]) w fun x61_1 w1 =>
  C.call Try.prog 61 #[x61_1] w1 fun x62_2 w2 =>
  F44.k14 K y0 y1 y2 y7 y8 x62_2 w2)) : F44.k13 K y0 y1 y2 y7 y8 y13 w := Eq.mpr (by kernel_rfl) h
theorem F44.l10.to {K : VK} {y0 y1 y2 y7 y8 y12 y13 y14 : Value} {w : World} (h : (C.idx 1 y1 y14 w fun x42_1 w1 =>
  C.load1 x42_1 w1 fun x43_2 w2 =>
  C.int .neq x43_2 y12 w2 fun x45_3 w3 =>
  C.ite x45_3 (F44.k12 K y0 y1 y2 y7 y8 y12 y13 y14 w3) (F44.k13 K y0 y1 y2 y7 y8 y13 w3))) : F44.l10 K y0 y1 y2 y7 y8 y12 y13 y14 w := by unfold F44.l10; exact nav_round (Eq.mpr (by kernel_rfl) h)
theorem F44.k12.to {K : VK} {y0 y1 y2 y7 y8 y12 y13 y14 : Value} {w : World} (h : (C.int .add y13 (.int .i64 1) w fun x49_1 w1 =>
  C.idx 1 y1 y14 w1 fun x53_2 w2 =>
  C.load1 x53_2 w2 fun x54_3 w3 =>
  C.idx 3 y0 x54_3 w3 fun x55_4 w4 =>
  C.field 2 x55_4 w4 fun x56_5 w5 =>
  C.load1 x56_5 w5 fun x57_6 w6 =>
  C.len x57_6 w6 fun x58_7 w7 =>
  C.int .add x49_1 x58_7 w7 fun x59_8 w8 =>
  F44.k11 K y0 y1 y2 y7 y8 y12 x59_8 y14 w8)) : F44.k12 K y0 y1 y2 y7 y8 y12 y13 y14 w := Eq.mpr (by kernel_rfl) h
theorem F44.k11.to {K : VK} {y0 y1 y2 y7 y8 y12 y13 y14 : Value} {w : World} (h : (C.int .add y14 (.int .i64 1) w fun x47_1 w1 =>
  F44.l10 K y0 y1 y2 y7 y8 y12 y13 x47_1 w1)) : F44.k11 K y0 y1 y2 y7 y8 y12 y13 y14 w := Eq.mpr (by kernel_rfl) h
theorem F44.sh {K : VK} {x0 x1 x2 : Value} {w : World} (h : (F44.l3 K x0 x1 x2 (.slice none 0 0) (.int .i64 0) w)) : C.call Try.prog 44 #[x0, x1, x2] w K := calls_of_vc (A := F44.ann) (args := [x0, x1, x2]) (Eq.mpr (by kernel_rfl) h)

/-! ### 46 scutage/scutageref37.values (28, 22) -/
namespace F46
def ann : Ann := ⟨[(4, [0, 1, 5, 6]), (5, [0, 1, 5, 6]), (8, [0, 1, 5, 6, 7]), (9, [5])], [(3, [0, 1, 5, 6])], [], [], none⟩
noncomputable def code : Code := match Try.f46.body with | some c => c | none => .skip
noncomputable def top (K : VK) : QE := retQ Try.prog Try.f46.results.toList K
noncomputable def k9 (K : VK) (y5 : Value) (w : World) : Prop := nav ann Try.prog 40 (fun c Q => vcCode ann Try.prog 40 c Q [(5, y5)] w) [1, 1, 1] code (top K)
attribute [irreducible] k9
noncomputable def l3 (K : VK) (y0 y1 y5 y6 : Value) (w : World) : Prop := nav ann Try.prog 40 (isLoop ann Try.prog 40 [(0, y0), (1, y1), (5, y5), (6, y6)] w) [1, 1, 0, 1, 0] code (top K)
attribute [irreducible] l3
noncomputable def k5 (K : VK) (y0 y1 y5 y6 : Value) (w : World) : Prop := nav ann Try.prog 40 (fun c Q => vcCode ann Try.prog 40 c Q [(0, y0), (1, y1), (5, y5), (6, y6)] w) [1, 1, 0, 1, 0, 0, 1] code (top K)
attribute [irreducible] k5
noncomputable def k4 (K : VK) (y0 y1 y5 y6 : Value) (w : World) : Prop := nav ann Try.prog 40 (fun c Q => vcCode ann Try.prog 40 c Q [(0, y0), (1, y1), (5, y5), (6, y6)] w) [1, 1, 0, 1, 0, 0, 1, 1] code (top K)
attribute [irreducible] k4
noncomputable def k8 (K : VK) (y0 y1 y5 y6 y7 : Value) (w : World) : Prop := nav ann Try.prog 40 (fun c Q => vcCode ann Try.prog 40 c Q [(0, y0), (1, y1), (5, y5), (6, y6), (7, y7)] w) [1, 1, 0, 1, 0, 0, 1, 0, 0, 1, 1] code (top K)
attribute [irreducible] k8
end F46
theorem F46.k9.to {K : VK} {y5 : Value} {w : World} (h : (K y5 w)) : F46.k9 K y5 w := Eq.mpr (by kernel_rfl) h
theorem F46.l3.to {K : VK} {y0 y1 y5 y6 : Value} {w : World} (h : (C.len y1 w fun x11_1 w1 =>
  C.int .lss y6 x11_1 w1 fun x12_2 w2 =>
  C.ite x12_2 (F46.k5 K y0 y1 y5 y6 w2) (F46.k9 K y5 w2))) : F46.l3 K y0 y1 y5 y6 w := by unfold F46.l3; exact nav_round (Eq.mpr (by kernel_rfl) h)
theorem F46.k5.to {K : VK} {y0 y1 y5 y6 : Value} {w : World} (h : (C.idx 1 y1 y6 w fun x18_1 w1 =>
  C.load1 x18_1 w1 fun x19_2 w2 =>
  C.call Try.prog 36 #[x19_2] w2 fun x20_3 w3 =>
  C.ext 0 x20_3 w3 fun x21_4 w4 =>
  C.ext 1 x20_3 w4 fun x22_5 w5 =>
  C.new (.cells #[.int .i64 0, .int .i64 0] 75) w5 fun x7_6 w6 =>
  C.store 2 x7_6 x21_4 w6 fun w7 =>
  C.field 0 x7_6 w7 fun x23_8 w8 =>
  C.load1 x23_8 w8 fun x24_9 w9 =>
  C.int .eql x24_9 (.int .i64 2) w9 fun x25_10 w10 =>
  C.ite x25_10 (C.field 1 x7_6 w10 fun x28_11 w11 =>
  C.load1 x28_11 w11 fun x29_12 w12 =>
  C.call Try.prog 37 #[y0, x29_12] w12 fun x30_13 w13 =>
  C.idx 3 y0 x30_13 w13 fun x31_14 w14 =>
  C.field 1 x31_14 w14 fun x32_15 w15 =>
  C.load1 x32_15 w15 fun x33_16 w16 =>
  C.field 1 x7_6 w16 fun x34_17 w17 =>
  C.store 1 x34_17 x33_16 w17 fun w18 =>
  F46.k8 K y0 y1 y5 y6 x7_6 w18) (F46.k8 K y0 y1 y5 y6 x7_6 w10))) : F46.k5 K y0 y1 y5 y6 w := Eq.mpr (by kernel_rfl) h
theorem F46.k4.to {K : VK} {y0 y1 y5 y6 : Value} {w : World} (h : (C.int .add y6 (.int .i64 1) w fun x14_1 w1 =>
  F46.l3 K y0 y1 y5 x14_1 w1)) : F46.k4 K y0 y1 y5 y6 w := Eq.mpr (by kernel_rfl) h
theorem F46.k8.to {K : VK} {y0 y1 y5 y6 y7 : Value} {w : World} (h : (C.loadA 2 y7 w fun x36_1 w1 =>
  C.run Try.prog (Instr.buildSlice 57 1 #[(0, x36_1)]) w1 fun x37_2 w2 =>
  C.run Try.prog (Builtin.append_ #[57, 57] 57 #[y5, x37_2]) w2 fun x38_3 w3 =>
  F46.k4 K y0 y1 x38_3 y6 w3)) : F46.k8 K y0 y1 y5 y6 y7 w := Eq.mpr (by kernel_rfl) h
theorem F46.sh {K : VK} {x0 x1 : Value} {w : World} (h : (F46.l3 K x0 x1 (.slice none 0 0) (.int .i64 0) w)) : C.call Try.prog 46 #[x0, x1] w K := calls_of_vc (A := F46.ann) (args := [x0, x1]) (Eq.mpr (by kernel_rfl) h)

end Go.Proofs.YtfjilngljnlkjaaV
