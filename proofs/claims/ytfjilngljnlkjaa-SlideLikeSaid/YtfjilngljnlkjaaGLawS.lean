/- What the bodies of these functions ask, as plain statements. Written by gen.py (own work) for the seat Ytfjilngljnlkjaa. -/
import Derived.Test.YtfjilngljnlkjaaVc3
import Derived.Test.YtfjilngljnlkjaaProg
namespace Go.Proofs.YtfjilngljnlkjaaV
open Go Go.Proofs
set_option linter.unusedVariables false
set_option maxRecDepth 100000

/-! ### 7 scutage/scutagelaw38.SlideTells (22, 22) -/
namespace F7
def ann : Ann := ⟨[(3, [0, 1]), (9, [1, 5, 6, 7, 8, 9, 10, 11]), (11, [1, 5, 6, 7, 8, 9, 10]), (15, [5, 8, 10, 12]), (18, [5, 8, 10, 12, 15, 16]), (19, [5, 8, 10, 12, 15, 16]), (21, [5, 8, 10, 12, 15, 16]), (22, [5, 15])], [(17, [5, 8, 10, 12, 15, 16])], [], [(19, (.take 0 (.take 1 (.take 2 (.take 4 (.take 5 (.take 6 (.take 7 (.take 12 (.take 3 (.take 8 (.take 9 (.take 10 (.take 11 (.take 13 (.take 14 .fin))))))))))))))))], none⟩
noncomputable def code : Code := match Try.f7.body with | some c => c | none => .skip
noncomputable def top (K : VK) : QE := retQ Try.prog Try.f7.results.toList K
noncomputable def k3 (K : VK) (y0 y1 : Value) (w : World) : Prop := nav ann Try.prog 146 (fun c Q => vcCode ann Try.prog 146 c Q [(0, y0), (1, y1)] w) [1, 1] code (top K)
attribute [irreducible] k3
noncomputable def k9 (K : VK) (y1 y5 y6 y7 y8 y9 y10 y11 : Value) (w : World) : Prop := nav ann Try.prog 146 (fun c Q => vcCode ann Try.prog 146 c Q [(1, y1), (5, y5), (6, y6), (7, y7), (8, y8), (9, y9), (10, y10), (11, y11)] w) [1, 1, 1, 1, 1, 1, 1] code (top K)
attribute [irreducible] k9
noncomputable def k11 (K : VK) (y1 y5 y6 y7 y8 y9 y10 : Value) (w : World) : Prop := nav ann Try.prog 146 (fun c Q => vcCode ann Try.prog 146 c Q [(1, y1), (5, y5), (6, y6), (7, y7), (8, y8), (9, y9), (10, y10)] w) [1, 1, 1, 1, 1, 1, 1, 1] code (top K)
attribute [irreducible] k11
noncomputable def k15 (K : VK) (y5 y8 y10 y12 : Value) (w : World) : Prop := nav ann Try.prog 146 (fun c Q => vcCode ann Try.prog 146 c Q [(5, y5), (8, y8), (10, y10), (12, y12)] w) [1, 1, 1, 1, 1, 1, 1, 1, 1, 1, 1] code (top K)
attribute [irreducible] k15
noncomputable def k22 (K : VK) (y5 y15 : Value) (w : World) : Prop := nav ann Try.prog 146 (fun c Q => vcCode ann Try.prog 146 c Q [(5, y5), (15, y15)] w) [1, 1, 1, 1, 1, 1, 1, 1, 1, 1, 1, 1, 1] code (top K)
attribute [irreducible] k22
noncomputable def l17 (K : VK) (y5 y8 y10 y12 y15 y16 : Value) (w : World) : Prop := nav ann Try.prog 146 (isLoop ann Try.prog 146 [(5, y5), (8, y8), (10, y10), (12, y12), (15, y15), (16, y16)] w) [1, 1, 1, 1, 1, 1, 1, 1, 1, 1, 1, 1, 0, 1, 0] code (top K)
attribute [irreducible] l17
noncomputable def k19 (K : VK) (y5 y8 y10 y12 y15 y16 : Value) (w : World) : Prop := nav ann Try.prog 146 (fun c Q => vcCode ann Try.prog 146 c Q [(5, y5), (8, y8), (10, y10), (12, y12), (15, y15), (16, y16)] w) [1, 1, 1, 1, 1, 1, 1, 1, 1, 1, 1, 1, 0, 1, 0, 0, 1] code (top K)
attribute [irreducible] k19
noncomputable def k18 (K : VK) (y5 y8 y10 y12 y15 y16 : Value) (w : World) : Prop := nav ann Try.prog 146 (fun c Q => vcCode ann Try.prog 146 c Q [(5, y5), (8, y8), (10, y10), (12, y12), (15, y15), (16, y16)] w) [1, 1, 1, 1, 1, 1, 1, 1, 1, 1, 1, 1, 0, 1, 0, 0, 1, 1] code (top K)
attribute [irreducible] k18
noncomputable def k21 (K : VK) (y5 y8 y10 y12 y15 y16 : Value) (w : World) : Prop := nav ann Try.prog 146 (fun c Q => vcCode ann Try.prog 146 c Q [(5, y5), (8, y8), (10, y10), (12, y12), (15, y15), (16, y16)] w) [1, 1, 1, 1, 1, 1, 1, 1, 1, 1, 1, 1, 0, 1, 0, 0, 1, 0, 0, 1] code (top K)
attribute [irreducible] k21
end F7
theorem F7.k3.to {K : VK} {y0 y1 : Value} {w : World} (h : (C.call Try.prog 26 #[y0] w fun x20_1 w1 =>
  C.call Try.prog 26 #[y1] w1 fun x22_2 w2 =>
  C.call Try.prog 27 #[x20_1, x22_2] w2 fun x26_3 w3 =>
  C.ext 0 x26_3 w3 fun x27_4 w4 =>
  C.ext 1 x26_3 w4 fun x28_5 w5 =>
  C.ext 2 x26_3 w5 fun x29_6 w6 =>
  C.call Try.prog 28 #[x20_1, x22_2] w6 fun x33_7 w7 =>
  C.ext 0 x33_7 w7 fun x34_8 w8 =>
  C.ext 1 x33_7 w8 fun x35_9 w9 =>
  C.call Try.prog 13 #[x20_1] w9 fun x38_10 w10 =>
  C.ext 0 x38_10 w10 fun x39_11 w11 =>
  C.ext 1 x38_10 w11 fun x40_12 w12 =>
  C.int .eql x40_12 (.int .i64 0) w12 fun x42_13 w13 =>
  C.guarded true x42_13 (fun K => K x39_11 w13) w13 fun x44_14 w14 =>
  C.guarded true x42_13 (fun K => K x22_2 w14) w14 fun x45_15 w15 =>
  C.guarded true x42_13 (fun K => C.call Try.prog 17 #[x44_14, x45_15] w15 K) w15 fun x46_16 w16 =>
  C.guarded true x42_13 (fun K => C.not x46_16 w16 K) w16 fun x47_17 w17 =>
  C.pick (some x42_13) (some x47_17) (some (.bool false)) w17 fun x48_18 w18 =>
  C.ite x48_18 (F7.k9 K x22_2 x27_4 x28_5 x29_6 x34_8 x35_9 x39_11 (.int .i64 4) w18) (F7.k9 K x22_2 x27_4 x28_5 x29_6 x34_8 x35_9 x39_11 x40_12 w18))) : F7.k3 K y0 y1 w := Eq.mpr (by kernel_rfl) h
theorem F7.k9.to {K : VK} {y1 y5 y6 y7 y8 y9 y10 y11 : Value} {w : World} (h : (C.int .neq y11 (.int .i64 0) w fun x50_1 w1 =>
  C.ite x50_1 (C.int .eql y7 y11 w1 fun x53_2 w2 =>
  C.guarded true x53_2 (fun K => K y9 w2) w2 fun x55_3 w3 =>
  C.guarded true x53_2 (fun K => K y7 w3) w3 fun x56_4 w4 =>
  C.guarded true x53_2 (fun K => C.int .eql x55_3 x56_4 w4 K) w4 fun x57_5 w5 =>
  C.pick (some x53_2) (some x57_5) (some (.bool false)) w5 fun x58_6 w6 =>
  C.guarded true x58_6 (fun K => K y5 w6) w6 fun x60_7 w7 =>
  C.guarded true x58_6 (fun K => C.len x60_7 w7 K) w7 fun x61_8 w8 =>
  C.guarded true x58_6 (fun K => C.int .eql x61_8 (.int .i64 0) w8 K) w8 fun x62_9 w9 =>
  C.pick (some x58_6) (some x62_9) (some (.bool false)) w9 fun x63_10 w10 =>
  C.guarded true x63_10 (fun K => K y6 w10) w10 fun x65_11 w11 =>
  C.guarded true x63_10 (fun K => C.len x65_11 w11 K) w11 fun x66_12 w12 =>
  C.guarded true x63_10 (fun K => C.int .eql x66_12 (.int .i64 0) w12 K) w12 fun x67_13 w13 =>
  C.pick (some x63_10) (some x67_13) (some (.bool false)) w13 fun x68_14 w14 =>
  C.guarded true x68_14 (fun K => K y8 w14) w14 fun x70_15 w15 =>
  C.guarded true x68_14 (fun K => C.len x70_15 w15 K) w15 fun x71_16 w16 =>
  C.guarded true x68_14 (fun K => C.int .eql x71_16 (.int .i64 0) w16 K) w16 fun x72_17 w17 =>
  C.pick (some x68_14) (some x72_17) (some (.bool false)) w17 fun x73_18 w18 =>
  K x73_18 w18) (F7.k11 K y1 y5 y6 y7 y8 y9 y10 w1))) : F7.k9 K y1 y5 y6 y7 y8 y9 y10 y11 w := Eq.mpr (by kernel_rfl) h
theorem F7.k11.to {K : VK} {y1 y5 y6 y7 y8 y9 y10 : Value} {w : World} (h : (C.call Try.prog 29 #[y10, y1] w fun x76_1 w1 =>
  C.call Try.prog 19 #[y10, x76_1, y1] w1 fun x81_2 w2 =>
  C.ext 0 x81_2 w2 fun x82_3 w3 =>
  C.ext 1 x81_2 w3 fun x83_4 w4 =>
  C.int .neq y7 (.int .i64 0) w4 fun x85_5 w5 =>
  C.guarded false x85_5 (fun K => K y9 w5) w5 fun x87_6 w6 =>
  C.guarded false x85_5 (fun K => C.int .neq x87_6 (.int .i64 0) w6 K) w6 fun x88_7 w7 =>
  C.pick (some x85_5) (some (.bool true)) (some x88_7) w7 fun x89_8 w8 =>
  C.guarded false x89_8 (fun K => K y5 w8) w8 fun x91_9 w9 =>
  C.guarded false x89_8 (fun K => K x82_3 w9) w9 fun x92_10 w10 =>
  C.guarded false x89_8 (fun K => C.call Try.prog 21 #[x91_9, x92_10] w10 K) w10 fun x93_11 w11 =>
  C.guarded false x89_8 (fun K => C.not x93_11 w11 K) w11 fun x94_12 w12 =>
  C.pick (some x89_8) (some (.bool true)) (some x94_12) w12 fun x95_13 w13 =>
  C.guarded false x95_13 (fun K => K y6 w13) w13 fun x97_14 w14 =>
  C.guarded false x95_13 (fun K => K x83_4 w14) w14 fun x98_15 w15 =>
  C.guarded false x95_13 (fun K => C.call Try.prog 21 #[x97_14, x98_15] w15 K) w15 fun x99_16 w16 =>
  C.guarded false x95_13 (fun K => C.not x99_16 w16 K) w16 fun x100_17 w17 =>
  C.pick (some x95_13) (some (.bool true)) (some x100_17) w17 fun x101_18 w18 =>
  C.guarded false x101_18 (fun K => K y8 w18) w18 fun x103_19 w19 =>
  C.guarded false x101_18 (fun K => C.len x103_19 w19 K) w19 fun x104_20 w20 =>
  C.guarded false x101_18 (fun K => K x76_1 w20) w20 fun x105_21 w21 =>
  C.guarded false x101_18 (fun K => C.len x105_21 w21 K) w21 fun x106_22 w22 =>
  C.guarded false x101_18 (fun K => C.int .neq x104_20 x106_22 w22 K) w22 fun x107_23 w23 =>
  C.pick (some x101_18) (some (.bool true)) (some x107_23) w23 fun x108_24 w24 =>
  C.ite x108_24 (K (.bool false) w24) (F7.k15 K y5 y8 y10 x76_1 w24))) : F7.k11 K y1 y5 y6 y7 y8 y9 y10 w := Eq.mpr (by kernel_rfl) h
theorem F7.k15.to {K : VK} {y5 y8 y10 y12 : Value} {w : World} (h : (F7.l17 K y5 y8 y10 y12 (.int .i64 0) (.int .i64 0) w)) : F7.k15 K y5 y8 y10 y12 w := Eq.mpr (by kernel_rfl) h
theorem F7.k22.to {K : VK} {y5 y15 : Value} {w : World} (h : (C.len y5 w fun x144_1 w1 =>
  C.int .eql y15 x144_1 w1 fun x145_2 w2 =>
  K x145_2 w2)) : F7.k22 K y5 y15 w := Eq.mpr (by kernel_rfl) h
theorem F7.l17.to {K : VK} {y5 y8 y10 y12 y15 y16 : Value} {w : World} (h : (C.len y12 w fun x111_1 w1 =>
  C.int .lss y16 x111_1 w1 fun x112_2 w2 =>
  C.ite x112_2 (F7.k19 K y5 y8 y10 y12 y15 y16 w2) (F7.k22 K y5 y15 w2))) : F7.l17 K y5 y8 y10 y12 y15 y16 w := by unfold F7.l17; exact nav_round (Eq.mpr (by kernel_rfl) h)
theorem F7.k19.to {K : VK} {y5 y8 y10 y12 y15 y16 : Value} {w : World} (h : (C.draw w fun S w1 =>
  C.idx 2 y8 y16 w1 fun x117_2 w2 =>
  C.idx 1 y12 y16 w2 fun x122_3 w3 =>
  C.loadAS S 2 x117_2 w3 fun x118_4 w4 =>
  C.load1S S x122_3 w4 fun x123_5 w5 =>
  C.idx 3 y10 x123_5 w5 fun x124_6 w6 =>
  C.field 0 x124_6 w6 fun x125_7 w7 =>
  C.load1S S x125_7 w7 fun x126_8 w8 =>
  ∃ x128_9, (∀ w', S w' → (Instr.build 56 #[(0, x126_8), (1, y15)]).run Try.prog w' = .ok x128_9 w') ∧ (∃ x129_10, (∀ w', S w' → ((do eqGuard .neq 56 (.tmp 118) (.tmp 128) x118_4 x128_9; binOp .neq 56 x118_4 x128_9 : Sem Value)).run Try.prog w' = .ok x129_10 w') ∧ (C.ite x129_10 (K (.bool false) w8) (F7.k21 K y5 y8 y10 y12 y15 y16 w8))))) : F7.k19 K y5 y8 y10 y12 y15 y16 w := Eq.mpr (by kernel_rfl) h
theorem F7.k18.to {K : VK} {y5 y8 y10 y12 y15 y16 : Value} {w : World} (h : (C.int .add y16 (.int .i64 1) w fun x114_1 w1 =>
  F7.l17 K y5 y8 y10 y12 y15 x114_1 w1)) : F7.k18 K y5 y8 y10 y12 y15 y16 w := Eq.mpr (by kernel_rfl) h
theorem F7.k21.to {K : VK} {y5 y8 y10 y12 y15 y16 : Value} {w : World} (h : (C.int .add y15 (.int .i64 1) w fun x131_1 w1 =>
  C.idx 1 y12 y16 w1 fun x135_2 w2 =>
  C.load1 x135_2 w2 fun x136_3 w3 =>
  C.idx 3 y10 x136_3 w3 fun x137_4 w4 =>
  C.field 2 x137_4 w4 fun x138_5 w5 =>
  C.load1 x138_5 w5 fun x139_6 w6 =>
  C.len x139_6 w6 fun x140_7 w7 =>
  C.int .add x131_1 x140_7 w7 fun x141_8 w8 =>
  F7.k18 K y5 y8 y10 y12 x141_8 y16 w8)) : F7.k21 K y5 y8 y10 y12 y15 y16 w := Eq.mpr (by kernel_rfl) h
theorem F7.sh {K : VK} {x0 x1 : Value} {w : World} (h : (C.call Try.prog 25 #[] w fun x17_1 w1 =>
  C.not x17_1 w1 fun x18_2 w2 =>
  C.ite x18_2 (K (.bool false) w2) (F7.k3 K x0 x1 w2))) : C.call Try.prog 7 #[x0, x1] w K := calls_of_vc (A := F7.ann) (args := [x0, x1]) (Eq.mpr (by kernel_rfl) h)

/-! ### 8 scutage/scutagelaw38.SlideWhole (22) -/
namespace F8
def ann : Ann := ⟨[(3, [0]), (8, [0, 3, 4, 5]), (9, [0, 3, 4, 5]), (10, [0, 3]), (13, [0, 3, 6, 7, 8])], [(7, [0, 3, 4, 5])], [], [], none⟩
noncomputable def code : Code := match Try.f8.body with | some c => c | none => .skip
noncomputable def top (K : VK) : QE := retQ Try.prog Try.f8.results.toList K
noncomputable def k3 (K : VK) (y0 : Value) (w : World) : Prop := nav ann Try.prog 61 (fun c Q => vcCode ann Try.prog 61 c Q [(0, y0)] w) [1, 1] code (top K)
attribute [irreducible] k3
noncomputable def k10 (K : VK) (y0 y3 : Value) (w : World) : Prop := nav ann Try.prog 61 (fun c Q => vcCode ann Try.prog 61 c Q [(0, y0), (3, y3)] w) [1, 1, 1, 1, 1, 1] code (top K)
attribute [irreducible] k10
noncomputable def l7 (K : VK) (y0 y3 y4 y5 : Value) (w : World) : Prop := nav ann Try.prog 61 (isLoop ann Try.prog 61 [(0, y0), (3, y3), (4, y4), (5, y5)] w) [1, 1, 1, 1, 1, 0, 1, 0] code (top K)
attribute [irreducible] l7
noncomputable def k9 (K : VK) (y0 y3 y4 y5 : Value) (w : World) : Prop := nav ann Try.prog 61 (fun c Q => vcCode ann Try.prog 61 c Q [(0, y0), (3, y3), (4, y4), (5, y5)] w) [1, 1, 1, 1, 1, 0, 1, 0, 0, 1] code (top K)
attribute [irreducible] k9
noncomputable def k8 (K : VK) (y0 y3 y4 y5 : Value) (w : World) : Prop := nav ann Try.prog 61 (fun c Q => vcCode ann Try.prog 61 c Q [(0, y0), (3, y3), (4, y4), (5, y5)] w) [1, 1, 1, 1, 1, 0, 1, 0, 0, 1, 1] code (top K)
attribute [irreducible] k8
noncomputable def k13 (K : VK) (y0 y3 y6 y7 y8 : Value) (w : World) : Prop := nav ann Try.prog 61 (fun c Q => vcCode ann Try.prog 61 c Q [(0, y0), (3, y3), (6, y6), (7, y7), (8, y8)] w) [1, 1, 1, 1, 1, 1, 1, 1] code (top K)
attribute [irreducible] k13
end F8
theorem F8.k3.to {K : VK} {y0 : Value} {w : World} (h : (C.call Try.prog 26 #[y0] w fun x12_1 w1 =>
  C.call Try.prog 12 #[x12_1] w1 fun x14_2 w2 =>
  F8.l7 K x12_1 (.slice none 0 0) x14_2 (.int .i64 0) w2)) : F8.k3 K y0 w := Eq.mpr (by kernel_rfl) h
theorem F8.k10.to {K : VK} {y0 y3 : Value} {w : World} (h : (C.call Try.prog 27 #[y0, y3] w fun x33_1 w1 =>
  C.ext 0 x33_1 w1 fun x34_2 w2 =>
  C.ext 1 x33_1 w2 fun x35_3 w3 =>
  C.ext 2 x33_1 w3 fun x36_4 w4 =>
  C.call Try.prog 11 #[y0] w4 fun x38_5 w5 =>
  C.int .neq x38_5 (.int .i64 0) w5 fun x39_6 w6 =>
  C.ite x39_6 (C.call Try.prog 11 #[y0] w6 fun x42_7 w7 =>
  C.int .eql x36_4 x42_7 w7 fun x43_8 w8 =>
  C.guarded true x43_8 (fun K => K x34_2 w8) w8 fun x45_9 w9 =>
  C.guarded true x43_8 (fun K => C.len x45_9 w9 K) w9 fun x46_10 w10 =>
  C.guarded true x43_8 (fun K => C.int .eql x46_10 (.int .i64 0) w10 K) w10 fun x47_11 w11 =>
  C.pick (some x43_8) (some x47_11) (some (.bool false)) w11 fun x48_12 w12 =>
  K x48_12 w12) (F8.k13 K y0 y3 x34_2 x35_3 x36_4 w6))) : F8.k10 K y0 y3 w := Eq.mpr (by kernel_rfl) h
theorem F8.l7.to {K : VK} {y0 y3 y4 y5 : Value} {w : World} (h : (C.len y4 w fun x17_1 w1 =>
  C.int .lss y5 x17_1 w1 fun x18_2 w2 =>
  C.ite x18_2 (F8.k9 K y0 y3 y4 y5 w2) (F8.k10 K y0 y3 w2))) : F8.l7 K y0 y3 y4 y5 w := by unfold F8.l7; exact nav_round (Eq.mpr (by kernel_rfl) h)
theorem F8.k9.to {K : VK} {y0 y3 y4 y5 : Value} {w : World} (h : (C.idx 1 y4 y5 w fun x24_1 w1 =>
  C.load1 x24_1 w1 fun x25_2 w2 =>
  C.int .mul (.int .i64 2) x25_2 w2 fun x26_3 w3 =>
  C.int .add x26_3 (.int .i64 2) w3 fun x27_4 w4 =>
  C.run Try.prog (Instr.buildSlice 22 1 #[(0, x27_4)]) w4 fun x28_5 w5 =>
  C.run Try.prog (Builtin.append_ #[22, 22] 22 #[y3, x28_5]) w5 fun x29_6 w6 =>
  F8.k8 K y0 x29_6 y4 y5 w6)) : F8.k9 K y0 y3 y4 y5 w := Eq.mpr (by kernel_rfl) h
theorem F8.k8.to {K : VK} {y0 y3 y4 y5 : Value} {w : World} (h : (C.int .add y5 (.int .i64 1) w fun x20_1 w1 =>
  F8.l7 K y0 y3 y4 x20_1 w1)) : F8.k8 K y0 y3 y4 y5 w := Eq.mpr (by kernel_rfl) h
theorem F8.k13.to {K : VK} {y0 y3 y6 y7 y8 : Value} {w : World} (h : (C.int .eql y8 (.int .i64 0) w fun x50_1 w1 =>
  C.guarded true x50_1 (fun K => K y6 w1) w1 fun x52_2 w2 =>
  C.guarded true x50_1 (fun K => K y0 w2) w2 fun x53_3 w3 =>
  C.guarded true x50_1 (fun K => C.call Try.prog 21 #[x52_2, x53_3] w3 K) w3 fun x54_4 w4 =>
  C.pick (some x50_1) (some x54_4) (some (.bool false)) w4 fun x55_5 w5 =>
  C.guarded true x55_5 (fun K => K y7 w5) w5 fun x57_6 w6 =>
  C.guarded true x55_5 (fun K => K y3 w6) w6 fun x58_7 w7 =>
  C.guarded true x55_5 (fun K => C.call Try.prog 21 #[x57_6, x58_7] w7 K) w7 fun x59_8 w8 =>
  C.pick (some x55_5) (some x59_8) (some (.bool false)) w8 fun x60_9 w9 =>
  K x60_9 w9)) : F8.k13 K y0 y3 y6 y7 y8 w := Eq.mpr (by kernel_rfl) h
theorem F8.sh {K : VK} {x0 : Value} {w : World} (h : (C.call Try.prog 25 #[] w fun x9_1 w1 =>
  C.not x9_1 w1 fun x10_2 w2 =>
  C.ite x10_2 (K (.bool false) w2) (F8.k3 K x0 w2))) : C.call Try.prog 8 #[x0] w K := calls_of_vc (A := F8.ann) (args := [x0]) (Eq.mpr (by kernel_rfl) h)

/-! ### 9 scutage/scutagelaw38.SlideLike (22, 22) -/
namespace F9
def ann : Ann := ⟨[(3, [0, 1]), (8, [0, 1, 5, 6, 8, 9]), (14, [0, 5, 6, 8, 11, 12, 13, 14, 15, 16, 17, 18, 20]), (15, [0, 5, 6, 8, 11, 12, 13, 14, 15, 16, 17, 18, 20]), (17, [0, 5, 6, 8, 11, 12, 13, 14, 15, 16, 17])], [(13, [0, 5, 6, 8, 11, 12, 13, 14, 15, 16, 17, 18, 20])], [], [(15, (.take 0 (.take 1 (.take 2 (.take 3 (.take 5 (.take 6 (.take 7 (.take 8 (.take 4 (.take 9 (.take 10 .fin))))))))))))], none⟩
noncomputable def code : Code := match Try.f9.body with | some c => c | none => .skip
noncomputable def top (K : VK) : QE := retQ Try.prog Try.f9.results.toList K
noncomputable def k3 (K : VK) (y0 y1 : Value) (w : World) : Prop := nav ann Try.prog 142 (fun c Q => vcCode ann Try.prog 142 c Q [(0, y0), (1, y1)] w) [1, 1] code (top K)
attribute [irreducible] k3
noncomputable def k8 (K : VK) (y0 y1 y5 y6 y8 y9 : Value) (w : World) : Prop := nav ann Try.prog 142 (fun c Q => vcCode ann Try.prog 142 c Q [(0, y0), (1, y1), (5, y5), (6, y6), (8, y8), (9, y9)] w) [1, 1, 1, 1, 1, 1] code (top K)
attribute [irreducible] k8
noncomputable def k17 (K : VK) (y0 y5 y6 y8 y11 y12 y13 y14 y15 y16 y17 : Value) (w : World) : Prop := nav ann Try.prog 142 (fun c Q => vcCode ann Try.prog 142 c Q [(0, y0), (5, y5), (6, y6), (8, y8), (11, y11), (12, y12), (13, y13), (14, y14), (15, y15), (16, y16), (17, y17)] w) [1, 1, 1, 1, 1, 1, 1, 1, 1, 1, 1] code (top K)
attribute [irreducible] k17
noncomputable def l13 (K : VK) (y0 y5 y6 y8 y11 y12 y13 y14 y15 y16 y17 y18 y20 : Value) (w : World) : Prop := nav ann Try.prog 142 (isLoop ann Try.prog 142 [(0, y0), (5, y5), (6, y6), (8, y8), (11, y11), (12, y12), (13, y13), (14, y14), (15, y15), (16, y16), (17, y17), (18, y18), (20, y20)] w) [1, 1, 1, 1, 1, 1, 1, 1, 1, 1, 0, 1, 0] code (top K)
attribute [irreducible] l13
noncomputable def k15 (K : VK) (y0 y5 y6 y8 y11 y12 y13 y14 y15 y16 y17 y18 y20 : Value) (w : World) : Prop := nav ann Try.prog 142 (fun c Q => vcCode ann Try.prog 142 c Q [(0, y0), (5, y5), (6, y6), (8, y8), (11, y11), (12, y12), (13, y13), (14, y14), (15, y15), (16, y16), (17, y17), (18, y18), (20, y20)] w) [1, 1, 1, 1, 1, 1, 1, 1, 1, 1, 0, 1, 0, 0, 1] code (top K)
attribute [irreducible] k15
noncomputable def k14 (K : VK) (y0 y5 y6 y8 y11 y12 y13 y14 y15 y16 y17 y18 y20 : Value) (w : World) : Prop := nav ann Try.prog 142 (fun c Q => vcCode ann Try.prog 142 c Q [(0, y0), (5, y5), (6, y6), (8, y8), (11, y11), (12, y12), (13, y13), (14, y14), (15, y15), (16, y16), (17, y17), (18, y18), (20, y20)] w) [1, 1, 1, 1, 1, 1, 1, 1, 1, 1, 0, 1, 0, 0, 1, 1] code (top K)
attribute [irreducible] k14
end F9
theorem F9.k3.to {K : VK} {y0 y1 : Value} {w : World} (h : (C.call Try.prog 26 #[y0] w fun x26_1 w1 =>
  C.call Try.prog 26 #[y1] w1 fun x28_2 w2 =>
  C.call Try.prog 27 #[x26_1, x28_2] w2 fun x32_3 w3 =>
  C.ext 0 x32_3 w3 fun x33_4 w4 =>
  C.ext 1 x32_3 w4 fun x34_5 w5 =>
  C.ext 2 x32_3 w5 fun x35_6 w6 =>
  C.call Try.prog 16 #[x26_1, x28_2] w6 fun x39_7 w7 =>
  C.ext 0 x39_7 w7 fun x40_8 w8 =>
  C.ext 1 x39_7 w8 fun x41_9 w9 =>
  C.ext 2 x39_7 w9 fun x42_10 w10 =>
  C.int .neq x35_6 x42_10 w10 fun x45_11 w11 =>
  C.guarded false x45_11 (fun K => K x35_6 w11) w11 fun x47_12 w12 =>
  C.guarded false x45_11 (fun K => C.int .neq x47_12 (.int .i64 0) w12 K) w12 fun x48_13 w13 =>
  C.pick (some x45_11) (some (.bool true)) (some x48_13) w13 fun x49_14 w14 =>
  C.ite x49_14 (C.int .eql x35_6 x42_10 w14 fun x52_15 w15 =>
  C.guarded true x52_15 (fun K => K x33_4 w15) w15 fun x54_16 w16 =>
  C.guarded true x52_15 (fun K => C.len x54_16 w16 K) w16 fun x55_17 w17 =>
  C.guarded true x52_15 (fun K => C.int .eql x55_17 (.int .i64 0) w17 K) w17 fun x56_18 w18 =>
  C.pick (some x52_15) (some x56_18) (some (.bool false)) w18 fun x57_19 w19 =>
  K x57_19 w19) (F9.k8 K x26_1 x28_2 x33_4 x34_5 x40_8 x41_9 w14))) : F9.k3 K y0 y1 w := Eq.mpr (by kernel_rfl) h
theorem F9.k8.to {K : VK} {y0 y1 y5 y6 y8 y9 : Value} {w : World} (h : (C.call Try.prog 18 #[y5, y6] w fun x61_1 w1 =>
  C.ext 0 x61_1 w1 fun x62_2 w2 =>
  C.ext 1 x61_1 w2 fun x63_3 w3 =>
  C.new (.cells #[.slice none 0 0, .slice none 0 0] 42) w3 fun x11_4 w4 =>
  C.store 2 x11_4 x62_2 w4 fun w5 =>
  C.call Try.prog 18 #[y8, y9] w5 fun x67_6 w6 =>
  C.ext 0 x67_6 w6 fun x68_7 w7 =>
  C.ext 1 x67_6 w7 fun x69_8 w8 =>
  C.new (.cells #[.slice none 0 0, .slice none 0 0] 42) w8 fun x13_9 w9 =>
  C.store 2 x13_9 x68_7 w9 fun w10 =>
  C.call Try.prog 27 #[y5, y6] w10 fun x73_11 w11 =>
  C.ext 0 x73_11 w11 fun x74_12 w12 =>
  C.ext 1 x73_11 w12 fun x75_13 w13 =>
  C.ext 2 x73_11 w13 fun x76_14 w14 =>
  C.call Try.prog 28 #[y0, y1] w14 fun x80_15 w15 =>
  C.ext 0 x80_15 w15 fun x81_16 w16 =>
  C.ext 1 x80_15 w16 fun x82_17 w17 =>
  F9.l13 K y0 y5 y6 y8 x11_4 x63_3 x13_9 x69_8 x74_12 x75_13 x76_14 x81_16 (.int .i64 0) w17)) : F9.k8 K y0 y1 y5 y6 y8 y9 w := Eq.mpr (by kernel_rfl) h
theorem F9.k17.to {K : VK} {y0 y5 y6 y8 y11 y12 y13 y14 y15 y16 y17 : Value} {w : World} (h : (C.call Try.prog 13 #[y0] w fun x102_1 w1 =>
  C.ext 0 x102_1 w1 fun x103_2 w2 =>
  C.ext 1 x102_1 w2 fun x104_3 w3 =>
  C.int .eql y12 (.int .i64 0) w3 fun x106_4 w4 =>
  C.guarded true x106_4 (fun K => K y14 w4) w4 fun x108_5 w5 =>
  C.guarded true x106_4 (fun K => C.int .eql x108_5 (.int .i64 0) w5 K) w5 fun x109_6 w6 =>
  C.pick (some x106_4) (some x109_6) (some (.bool false)) w6 fun x110_7 w7 =>
  C.guarded true x110_7 (fun K => K y17 w7) w7 fun x112_8 w8 =>
  C.guarded true x110_7 (fun K => C.int .eql x112_8 (.int .i64 0) w8 K) w8 fun x113_9 w9 =>
  C.pick (some x110_7) (some x113_9) (some (.bool false)) w9 fun x114_10 w10 =>
  C.guarded true x114_10 (fun K => K y5 w10) w10 fun x116_11 w11 =>
  C.guarded true x114_10 (fun K => C.len x116_11 w11 K) w11 fun x117_12 w12 =>
  C.guarded true x114_10 (fun K => K y8 w12) w12 fun x118_13 w13 =>
  C.guarded true x114_10 (fun K => C.len x118_13 w13 K) w13 fun x119_14 w14 =>
  C.guarded true x114_10 (fun K => C.int .eql x117_12 x119_14 w14 K) w14 fun x120_15 w15 =>
  C.pick (some x114_10) (some x120_15) (some (.bool false)) w15 fun x121_16 w16 =>
  C.guarded true x121_16 (fun K => K x103_2 w16) w16 fun x123_17 w17 =>
  C.guarded true x121_16 (fun K => C.call Try.prog 30 #[x123_17] w17 K) w17 fun x124_18 w18 =>
  C.guarded true x121_16 (fun K => C.not x124_18 w18 K) w18 fun x125_19 w19 =>
  C.guarded true x121_16 (fun K => K x125_19 w19) w19 fun x126_20 w20 =>
  C.guarded false x126_20 (fun K => C.loadA 2 y11 w20 K) w20 fun x127_21 w21 =>
  C.guarded false x126_20 (fun K => C.loadA 2 y13 w21 K) w21 fun x128_22 w22 =>
  C.guarded false x126_20 (fun K => C.call Try.prog 22 #[x127_21, x128_22] w22 K) w22 fun x129_23 w23 =>
  C.guarded true x121_16 (fun K => C.pick (some x126_20) (some (.bool true)) (some x129_23) w23 K) w23 fun x130_24 w24 =>
  C.pick (some x121_16) (some x130_24) (some (.bool false)) w24 fun x131_25 w25 =>
  C.guarded true x131_25 (fun K => K y15 w25) w25 fun x133_26 w26 =>
  C.guarded true x131_25 (fun K => K y5 w26) w26 fun x134_27 w27 =>
  C.guarded true x131_25 (fun K => C.call Try.prog 21 #[x133_26, x134_27] w27 K) w27 fun x135_28 w28 =>
  C.pick (some x131_25) (some x135_28) (some (.bool false)) w28 fun x136_29 w29 =>
  C.guarded true x136_29 (fun K => K y16 w29) w29 fun x138_30 w30 =>
  C.guarded true x136_29 (fun K => K y6 w30) w30 fun x139_31 w31 =>
  C.guarded true x136_29 (fun K => C.call Try.prog 21 #[x138_30, x139_31] w31 K) w31 fun x140_32 w32 =>
  C.pick (some x136_29) (some x140_32) (some (.bool false)) w32 fun x141_33 w33 =>
  K x141_33 w33)) : F9.k17 K y0 y5 y6 y8 y11 y12 y13 y14 y15 y16 y17 w := Eq.mpr (by kernel_rfl) h
theorem F9.l13.to {K : VK} {y0 y5 y6 y8 y11 y12 y13 y14 y15 y16 y17 y18 y20 : Value} {w : World} (h : (C.len y18 w fun x85_1 w1 =>
  C.int .lss y20 x85_1 w1 fun x86_2 w2 =>
  C.ite x86_2 (F9.k15 K y0 y5 y6 y8 y11 y12 y13 y14 y15 y16 y17 y18 y20 w2) (F9.k17 K y0 y5 y6 y8 y11 y12 y13 y14 y15 y16 y17 w2))) : F9.l13 K y0 y5 y6 y8 y11 y12 y13 y14 y15 y16 y17 y18 y20 w := by unfold F9.l13; exact nav_round (Eq.mpr (by kernel_rfl) h)
theorem F9.k15.to {K : VK} {y0 y5 y6 y8 y11 y12 y13 y14 y15 y16 y17 y18 y20 : Value} {w : World} (h : (C.draw w fun S w1 =>
  C.idx 2 y18 y20 w1 fun x91_2 w2 =>
  C.field 1 x91_2 w2 fun x92_3 w3 =>
  C.idx 2 y18 y20 w3 fun x96_4 w4 =>
  C.field 0 x96_4 w4 fun x97_5 w5 =>
  C.load1S S x92_3 w5 fun x93_6 w6 =>
  C.load1S S x97_5 w6 fun x98_7 w7 =>
  C.int .gtr x93_6 x98_7 w7 fun x99_8 w8 =>
  C.ite x99_8 (K (.bool false) w8) (F9.k14 K y0 y5 y6 y8 y11 y12 y13 y14 y15 y16 y17 y18 y20 w8))) : F9.k15 K y0 y5 y6 y8 y11 y12 y13 y14 y15 y16 y17 y18 y20 w := Eq.mpr (by kernel_rfl) h
theorem F9.k14.to {K : VK} {y0 y5 y6 y8 y11 y12 y13 y14 y15 y16 y17 y18 y20 : Value} {w : World} (h : (C.int .add y20 (.int .i64 1) w fun x88_1 w1 =>
  F9.l13 K y0 y5 y6 y8 y11 y12 y13 y14 y15 y16 y17 y18 x88_1 w1)) : F9.k14 K y0 y5 y6 y8 y11 y12 y13 y14 y15 y16 y17 y18 y20 w := Eq.mpr (by kernel_rfl) h
theorem F9.sh {K : VK} {x0 x1 : Value} {w : World} (h : (C.call Try.prog 25 #[] w fun x23_1 w1 =>
  C.not x23_1 w1 fun x24_2 w2 =>
  C.ite x24_2 (K (.bool false) w2) (F9.k3 K x0 x1 w2))) : C.call Try.prog 9 #[x0, x1] w K := calls_of_vc (A := F9.ann) (args := [x0, x1]) (Eq.mpr (by kernel_rfl) h)

/-! ### 25 scutage/scutagelaw38.alive () -/
namespace F25
def ann : Ann := ⟨[], [], [], [], none⟩
noncomputable def code : Code := match Try.f25.body with | some c => c | none => .skip
noncomputable def top (K : VK) : QE := retQ Try.prog Try.f25.results.toList K
end F25
theorem F25.sh {K : VK} {w : World} (h : (C.run Try.prog (Instr.buildSlice 22 3 #[(0, (.int .i64 1)), (1, (.int .i64 6)), (2, (.int .i64 128))]) w fun x7_1 w1 =>
  C.run Try.prog (Instr.buildSlice 22 1 #[(0, (.int .i64 6))]) w1 fun x10_2 w2 =>
  C.call Try.prog 27 #[x7_1, x10_2] w2 fun x11_3 w3 =>
  C.ext 0 x11_3 w3 fun x12_4 w4 =>
  C.ext 1 x11_3 w4 fun x13_5 w5 =>
  C.ext 2 x11_3 w5 fun x14_6 w6 =>
  C.run Try.prog (Instr.buildSlice 22 1 #[(0, (.int .i64 6))]) w6 fun x17_7 w7 =>
  C.call Try.prog 28 #[x7_1, x17_7] w7 fun x18_8 w8 =>
  C.ext 0 x18_8 w8 fun x19_9 w9 =>
  C.ext 1 x18_8 w9 fun x20_10 w10 =>
  C.int .eql x14_6 (.int .i64 0) w10 fun x22_11 w11 =>
  C.guarded true x22_11 (fun K => K x12_4 w11) w11 fun x24_12 w12 =>
  C.guarded true x22_11 (fun K => C.run Try.prog (Instr.buildSlice 22 1 #[(0, (.int .i64 128))]) w12 K) w12 fun x25_13 w13 =>
  C.guarded true x22_11 (fun K => C.call Try.prog 21 #[x24_12, x25_13] w13 K) w13 fun x26_14 w14 =>
  C.pick (some x22_11) (some x26_14) (some (.bool false)) w14 fun x27_15 w15 =>
  C.guarded true x27_15 (fun K => K x13_5 w15) w15 fun x29_16 w16 =>
  C.guarded true x27_15 (fun K => C.run Try.prog (Instr.buildSlice 22 1 #[(0, (.int .i64 2))]) w16 K) w16 fun x30_17 w17 =>
  C.guarded true x27_15 (fun K => C.call Try.prog 21 #[x29_16, x30_17] w17 K) w17 fun x31_18 w18 =>
  C.pick (some x27_15) (some x31_18) (some (.bool false)) w18 fun x32_19 w19 =>
  C.guarded true x32_19 (fun K => K x20_10 w19) w19 fun x34_20 w20 =>
  C.guarded true x32_19 (fun K => C.int .eql x34_20 (.int .i64 0) w20 K) w20 fun x35_21 w21 =>
  C.pick (some x32_19) (some x35_21) (some (.bool false)) w21 fun x36_22 w22 =>
  C.guarded true x36_22 (fun K => K x19_9 w22) w22 fun x38_23 w23 =>
  C.guarded true x36_22 (fun K => C.len x38_23 w23 K) w23 fun x39_24 w24 =>
  C.guarded true x36_22 (fun K => C.int .eql x39_24 (.int .i64 1) w24 K) w24 fun x40_25 w25 =>
  C.pick (some x36_22) (some x40_25) (some (.bool false)) w25 fun x41_26 w26 =>
  C.guarded true x41_26 (fun K => K x19_9 w26) w26 fun x43_27 w27 =>
  C.guarded true x41_26 (fun K => C.idx 2 x43_27 (.int .i64 0) w27 K) w27 fun x44_28 w28 =>
  C.guarded true x41_26 (fun K => C.loadA 2 x44_28 w28 K) w28 fun x45_29 w29 =>
  C.guarded true x41_26 (fun K => C.run Try.prog (Instr.build 56 #[(0, (.int .i64 2)), (1, (.int .i64 0))]) w29 K) w29 fun x46_30 w30 =>
  C.guarded true x41_26 (fun K => C.bin Try.prog .eql 56 (.tmp 45) (.tmp 46) x45_29 x46_30 w30 K) w30 fun x47_31 w31 =>
  C.pick (some x41_26) (some x47_31) (some (.bool false)) w31 fun x48_32 w32 =>
  K x48_32 w32)) : C.call Try.prog 25 #[] w K := calls_of_vc (A := F25.ann) (args := []) (Eq.mpr (by kernel_rfl) h)

/-! ### 26 scutage/scutagelaw38.few (22) -/
namespace F26
def ann : Ann := ⟨[(3, [0])], [], [], [], none⟩
noncomputable def code : Code := match Try.f26.body with | some c => c | none => .skip
noncomputable def top (K : VK) : QE := retQ Try.prog Try.f26.results.toList K
noncomputable def k3 (K : VK) (y0 : Value) (w : World) : Prop := nav ann Try.prog 9 (fun c Q => vcCode ann Try.prog 9 c Q [(0, y0)] w) [1, 1] code (top K)
attribute [irreducible] k3
end F26
theorem F26.k3.to {K : VK} {y0 : Value} {w : World} (h : (K y0 w)) : F26.k3 K y0 w := Eq.mpr (by kernel_rfl) h
theorem F26.sh {K : VK} {x0 : Value} {w : World} (h : (C.len x0 w fun x4_1 w1 =>
  C.int .gtr x4_1 (.int .i64 300) w1 fun x5_2 w2 =>
  C.ite x5_2 (C.run Try.prog (Instr.sliceAt 22 x0 none (some (.int .i64 300)) none) w2 fun x7_3 w3 =>
  K x7_3 w3) (F26.k3 K x0 w2))) : C.call Try.prog 26 #[x0] w K := calls_of_vc (A := F26.ann) (args := [x0]) (Eq.mpr (by kernel_rfl) h)

/-! ### 29 scutage/scutagelaw38.places (28, 22) -/
namespace F29
def ann : Ann := ⟨[], [], [], [], none⟩
noncomputable def code : Code := match Try.f29.body with | some c => c | none => .skip
noncomputable def top (K : VK) : QE := retQ Try.prog Try.f29.results.toList K
end F29
theorem F29.sh {K : VK} {x0 x1 : Value} {w : World} (h : (C.call Try.prog 20 #[x0, x1] w fun x7_1 w1 =>
  C.call Try.prog 50 #[x7_1] w1 fun x8_2 w2 =>
  K x8_2 w2)) : C.call Try.prog 29 #[x0, x1] w K := calls_of_vc (A := F29.ann) (args := [x0, x1]) (Eq.mpr (by kernel_rfl) h)

/-! ### 30 scutage/scutagelaw38.unlike (28) -/
namespace F30
def ann : Ann := ⟨[(3, [0, 3]), (4, [0, 3]), (6, [0, 3, 4]), (7, [0, 3, 4]), (9, [])], [(2, [0, 3]), (5, [0, 3, 4])], [], [(7, (.take 0 (.take 1 (.take 2 (.take 3 (.take 5 (.take 6 (.take 7 (.take 8 (.take 4 (.take 9 (.take 10 .fin))))))))))))], none⟩
noncomputable def code : Code := match Try.f30.body with | some c => c | none => .skip
noncomputable def top (K : VK) : QE := retQ Try.prog Try.f30.results.toList K
noncomputable def k9 (K : VK) (w : World) : Prop := nav ann Try.prog 27 (fun c Q => vcCode ann Try.prog 27 c Q [] w) [1, 1] code (top K)
attribute [irreducible] k9
noncomputable def l2 (K : VK) (y0 y3 : Value) (w : World) : Prop := nav ann Try.prog 27 (isLoop ann Try.prog 27 [(0, y0), (3, y3)] w) [1, 0, 1, 0] code (top K)
attribute [irreducible] l2
noncomputable def k4 (K : VK) (y0 y3 : Value) (w : World) : Prop := nav ann Try.prog 27 (fun c Q => vcCode ann Try.prog 27 c Q [(0, y0), (3, y3)] w) [1, 0, 1, 0, 0, 1] code (top K)
attribute [irreducible] k4
noncomputable def k3 (K : VK) (y0 y3 : Value) (w : World) : Prop := nav ann Try.prog 27 (fun c Q => vcCode ann Try.prog 27 c Q [(0, y0), (3, y3)] w) [1, 0, 1, 0, 0, 1, 1] code (top K)
attribute [irreducible] k3
noncomputable def l5 (K : VK) (y0 y3 y4 : Value) (w : World) : Prop := nav ann Try.prog 27 (isLoop ann Try.prog 27 [(0, y0), (3, y3), (4, y4)] w) [1, 0, 1, 0, 0, 1, 0, 0, 1, 0] code (top K)
attribute [irreducible] l5
noncomputable def k7 (K : VK) (y0 y3 y4 : Value) (w : World) : Prop := nav ann Try.prog 27 (fun c Q => vcCode ann Try.prog 27 c Q [(0, y0), (3, y3), (4, y4)] w) [1, 0, 1, 0, 0, 1, 0, 0, 1, 0, 0, 1] code (top K)
attribute [irreducible] k7
noncomputable def k6 (K : VK) (y0 y3 y4 : Value) (w : World) : Prop := nav ann Try.prog 27 (fun c Q => vcCode ann Try.prog 27 c Q [(0, y0), (3, y3), (4, y4)] w) [1, 0, 1, 0, 0, 1, 0, 0, 1, 0, 0, 1, 1] code (top K)
attribute [irreducible] k6
end F30
theorem F30.k9.to {K : VK} {w : World} (h : (K (.bool true) w)) : F30.k9 K w := Eq.mpr (by kernel_rfl) h
theorem F30.l2.to {K : VK} {y0 y3 : Value} {w : World} (h : (C.len y0 w fun x7_1 w1 =>
  C.int .lss y3 x7_1 w1 fun x8_2 w2 =>
  C.ite x8_2 (F30.k4 K y0 y3 w2) (F30.k9 K w2))) : F30.l2 K y0 y3 w := by unfold F30.l2; exact nav_round (Eq.mpr (by kernel_rfl) h)
theorem F30.k4.to {K : VK} {y0 y3 : Value} {w : World} (h : (F30.l5 K y0 y3 (.int .i64 0) w)) : F30.k4 K y0 y3 w := Eq.mpr (by kernel_rfl) h
theorem F30.k3.to {K : VK} {y0 y3 : Value} {w : World} (h : (C.int .add y3 (.int .i64 1) w fun x10_1 w1 =>
  F30.l2 K y0 x10_1 w1)) : F30.k3 K y0 y3 w := Eq.mpr (by kernel_rfl) h
theorem F30.l5.to {K : VK} {y0 y3 y4 : Value} {w : World} (h : (C.int .lss y4 y3 w fun x13_1 w1 =>
  C.ite x13_1 (F30.k7 K y0 y3 y4 w1) (F30.k3 K y0 y3 w1))) : F30.l5 K y0 y3 y4 w := by unfold F30.l5; exact nav_round (Eq.mpr (by kernel_rfl) h)
theorem F30.k7.to {K : VK} {y0 y3 y4 : Value} {w : World} (h : (C.draw w fun S w1 =>
  C.idx 3 y0 y3 w1 fun x18_2 w2 =>
  C.field 1 x18_2 w2 fun x19_3 w3 =>
  C.idx 3 y0 y4 w3 fun x23_4 w4 =>
  C.field 1 x23_4 w4 fun x24_5 w5 =>
  C.load1S S x19_3 w5 fun x20_6 w6 =>
  C.load1S S x24_5 w6 fun x25_7 w7 =>
  C.int .eql x20_6 x25_7 w7 fun x26_8 w8 =>
  C.ite x26_8 (K (.bool false) w8) (F30.k6 K y0 y3 y4 w8))) : F30.k7 K y0 y3 y4 w := Eq.mpr (by kernel_rfl) h
theorem F30.k6.to {K : VK} {y0 y3 y4 : Value} {w : World} (h : (C.int .add y4 (.int .i64 1) w fun x15_1 w1 =>
  F30.l5 K y0 y3 x15_1 w1)) : F30.k6 K y0 y3 y4 w := Eq.mpr (by kernel_rfl) h
theorem F30.sh {K : VK} {x0 : Value} {w : World} (h : (F30.l2 K x0 (.int .i64 0) w)) : C.call Try.prog 30 #[x0] w K := calls_of_vc (A := F30.ann) (args := [x0]) (Eq.mpr (by kernel_rfl) h)

end Go.Proofs.YtfjilngljnlkjaaV
