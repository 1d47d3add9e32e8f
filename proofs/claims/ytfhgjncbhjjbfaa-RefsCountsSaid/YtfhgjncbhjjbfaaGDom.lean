/- What the bodies of these functions ask, as plain statements. Written by gen.py (own work) for the seat Ytfhgjncbhjjbfaa. -/
import Derived.Test.YtfhgjncbhjjbfaaVc3
import Derived.Test.YtfhgjncbhjjbfaaProg
namespace Go.Proofs.YtfhgjncbhjjbfaaV
open Go Go.Proofs
set_option linter.unusedVariables false
set_option maxRecDepth 100000

/-! ### 6 scutage/scutagelaw36.DomTells (46, 3, 3) -/
namespace F6
def ann : Ann := ⟨[(3, [1, 2, 3]), (7, [1, 2, 3, 7, 8]), (8, [1, 2, 3, 7, 8]), (10, [1, 2, 3, 7])], [(6, [1, 2, 3, 7, 8])], [], [(10, (.take 1 (.take 2 (.take 5 (.take 6 (.take 0 (.take 4 (.go 3 (.go 7 (.take 8 (.take 9 (.take 11 (.take 13 (.take 10 (.go 12 (.take 14 (.take 15 (.take 16 .fin))) .fin)))))) .fin) .fin))))))))], none⟩
noncomputable def code : Code := match Try.f6.body with | some c => c | none => .skip
noncomputable def top (K : VK) : QE := retQ Try.prog Try.f6.results.toList K
noncomputable def k3 (K : VK) (y1 y2 y3 : Value) (w : World) : Prop := nav ann Try.prog 42 (fun c Q => vcCode ann Try.prog 42 c Q [(1, y1), (2, y2), (3, y3)] w) [1, 1] code (top K)
attribute [irreducible] k3
noncomputable def k10 (K : VK) (y1 y2 y3 y7 : Value) (w : World) : Prop := nav ann Try.prog 42 (fun c Q => vcCode ann Try.prog 42 c Q [(1, y1), (2, y2), (3, y3), (7, y7)] w) [1, 1, 1, 1, 1] code (top K)
attribute [irreducible] k10
noncomputable def l6 (K : VK) (y1 y2 y3 y7 y8 : Value) (w : World) : Prop := nav ann Try.prog 42 (isLoop ann Try.prog 42 [(1, y1), (2, y2), (3, y3), (7, y7), (8, y8)] w) [1, 1, 1, 1, 0, 1, 0] code (top K)
attribute [irreducible] l6
noncomputable def k8 (K : VK) (y1 y2 y3 y7 y8 : Value) (w : World) : Prop := nav ann Try.prog 42 (fun c Q => vcCode ann Try.prog 42 c Q [(1, y1), (2, y2), (3, y3), (7, y7), (8, y8)] w) [1, 1, 1, 1, 0, 1, 0, 0, 1] code (top K)
attribute [irreducible] k8
noncomputable def k7 (K : VK) (y1 y2 y3 y7 y8 : Value) (w : World) : Prop := nav ann Try.prog 42 (fun c Q => vcCode ann Try.prog 42 c Q [(1, y1), (2, y2), (3, y3), (7, y7), (8, y8)] w) [1, 1, 1, 1, 0, 1, 0, 0, 1, 1] code (top K)
attribute [irreducible] k7
end F6
theorem F6.k3.to {K : VK} {y1 y2 y3 : Value} {w : World} (h : (C.loadA 2 y3 w fun x11_1 w1 =>
  C.call Try.prog 24 #[x11_1] w1 fun x12_2 w2 =>
  C.store 2 y3 x12_2 w2 fun w3 =>
  F6.l6 K y1 y2 y3 (.int .i64 0) (.int .i64 0) w3)) : F6.k3 K y1 y2 y3 w := Eq.mpr (by kernel_rfl) h
theorem F6.k10.to {K : VK} {y1 y2 y3 y7 : Value} {w : World} (h : (C.draw w fun S w1 =>
  C.loadAS S 2 y3 w1 fun x26_2 w2 =>
  C.loadAS S 2 y3 w2 fun x30_3 w3 =>
  (C.call Try.prog 26 #[x26_2, y1, y2] w3 fun x29_4 w4 =>
  (S w4 ∧
  (C.call Try.prog 25 #[x30_3, y1, y2] w4 fun x33_5 w5 =>
  (S w5 ∧
  ∃ x34_6, (∀ w', S w' → ((do eqGuard .eql 4 (.tmp 29) (.tmp 33) x29_4 x33_5; binOp .eql 4 x29_4 x33_5 : Sem Value)).run Try.prog w' = .ok x34_6 w') ∧ (C.guarded true x34_6 (fun K => K y1 w5) w5 fun x37_7 w7 =>
  C.guarded true x34_6 (fun K => K y7 w7) w7 fun x39_8 w8 =>
  C.guarded true x34_6 (fun K => C.loadAS S 2 y3 w8 K) w8 fun x36_9 w9 =>
  (C.guarded true x34_6 (fun K => C.call Try.prog 27 #[x36_9, x37_7] w9 K) w9 fun x38_10 w10 =>
  (S w10 ∧
  C.guarded true x34_6 (fun K => C.int .eql x38_10 x39_8 w10 K) w10 fun x40_11 w11 =>
  C.pick (some x34_6) (some x40_11) (some (.bool false)) w11 fun x41_12 w12 =>
  K x41_12 w12)) ∧ True))) ∧ True)) ∧ True)) : F6.k10 K y1 y2 y3 y7 w := Eq.mpr (by kernel_rfl) h
theorem F6.l6.to {K : VK} {y1 y2 y3 y7 y8 : Value} {w : World} (h : (C.field 0 y3 w fun x14_1 w1 =>
  C.load1 x14_1 w1 fun x15_2 w2 =>
  C.len x15_2 w2 fun x16_3 w3 =>
  C.int .lss y8 x16_3 w3 fun x17_4 w4 =>
  C.ite x17_4 (F6.k8 K y1 y2 y3 y7 y8 w4) (F6.k10 K y1 y2 y3 y7 w4))) : F6.l6 K y1 y2 y3 y7 y8 w := by unfold F6.l6; exact nav_round (Eq.mpr (by kernel_rfl) h)
theorem F6.k8.to {K : VK} {y1 y2 y3 y7 y8 : Value} {w : World} (h : (C.loadA 2 y3 w fun x20_1 w1 =>
  C.call Try.prog 25 #[x20_1, y1, y8] w1 fun x23_2 w2 =>
  C.ite x23_2 (C.int .add y7 (.int .i64 1) w2 fun x25_3 w3 =>
  F6.k7 K y1 y2 y3 x25_3 y8 w3) (F6.k7 K y1 y2 y3 y7 y8 w2))) : F6.k8 K y1 y2 y3 y7 y8 w := Eq.mpr (by kernel_rfl) h
theorem F6.k7.to {K : VK} {y1 y2 y3 y7 y8 : Value} {w : World} (h : (C.int .add y8 (.int .i64 1) w fun x19_1 w1 =>
  F6.l6 K y1 y2 y3 y7 x19_1 w1)) : F6.k7 K y1 y2 y3 y7 y8 w := Eq.mpr (by kernel_rfl) h
theorem F6.sh {K : VK} {x0 x1 x2 : Value} {w : World} (h : (C.new (.cells (Value.cells x0) 46) w fun x3_1 w1 =>
  C.call Try.prog 23 #[] w1 fun x9_2 w2 =>
  C.not x9_2 w2 fun x10_3 w3 =>
  C.ite x10_3 (K (.bool false) w3) (F6.k3 K x1 x2 x3_1 w3))) : C.call Try.prog 6 #[x0, x1, x2] w K := calls_of_vc (A := F6.ann) (args := [x0, x1, x2]) (Eq.mpr (by kernel_rfl) h)

/-! ### 7 scutage/scutagelaw36.DomHolder (46) -/
namespace F7
def ann : Ann := ⟨[(3, [1]), (7, [1, 3, 4]), (9, [1, 3, 4, 5]), (10, [1, 3, 4, 5]), (13, [1, 3, 4, 5]), (16, [1, 3, 4, 5, 6, 7]), (17, [1, 3, 4, 5, 6, 7]), (18, [1, 3, 4, 5, 7]), (21, [1, 3, 4, 5, 6]), (23, [])], [(8, [1, 3, 4, 5]), (15, [1, 3, 4, 5, 6, 7])], [], [(4, (.take 0 (.take 2 (.go 1 (.go 3 (.go 4 (.take 5 (.take 6 .fin)) .fin) .fin) .fin)))), (19, (.take 0 (.take 1 (.take 2 (.take 3 (.take 4 (.take 5 (.take 7 (.take 8 (.take 9 (.take 10 (.take 6 (.take 11 (.go 12 (.take 13 (.take 14 .fin)) .fin)))))))))))))), (21, (.take 0 (.take 1 (.take 2 (.take 3 (.take 4 (.take 5 (.take 6 (.take 7 (.take 8 (.take 9 (.take 10 (.take 11 (.take 12 (.take 13 (.take 14 (.take 16 (.take 15 (.take 17 (.take 18 (.take 19 (.take 20 (.take 21 (.take 23 (.take 24 (.take 22 (.take 25 (.take 26 (.take 27 (.take 29 (.take 30 (.take 31 (.take 33 (.take 28 (.take 32 (.go 34 (.take 35 (.take 36 (.take 37 (.take 38 .fin)))) .fin))))))))))))))))))))))))))))))))))))], none⟩
noncomputable def code : Code := match Try.f7.body with | some c => c | none => .skip
noncomputable def top (K : VK) : QE := retQ Try.prog Try.f7.results.toList K
noncomputable def k3 (K : VK) (y1 : Value) (w : World) : Prop := nav ann Try.prog 108 (fun c Q => vcCode ann Try.prog 108 c Q [(1, y1)] w) [1, 1] code (top K)
attribute [irreducible] k3
noncomputable def k7 (K : VK) (y1 y3 y4 : Value) (w : World) : Prop := nav ann Try.prog 108 (fun c Q => vcCode ann Try.prog 108 c Q [(1, y1), (3, y3), (4, y4)] w) [1, 1, 1, 1, 1] code (top K)
attribute [irreducible] k7
noncomputable def k23 (K : VK) (w : World) : Prop := nav ann Try.prog 108 (fun c Q => vcCode ann Try.prog 108 c Q [] w) [1, 1, 1, 1, 1, 1] code (top K)
attribute [irreducible] k23
noncomputable def l8 (K : VK) (y1 y3 y4 y5 : Value) (w : World) : Prop := nav ann Try.prog 108 (isLoop ann Try.prog 108 [(1, y1), (3, y3), (4, y4), (5, y5)] w) [1, 1, 1, 1, 1, 0, 1, 0] code (top K)
attribute [irreducible] l8
noncomputable def k10 (K : VK) (y1 y3 y4 y5 : Value) (w : World) : Prop := nav ann Try.prog 108 (fun c Q => vcCode ann Try.prog 108 c Q [(1, y1), (3, y3), (4, y4), (5, y5)] w) [1, 1, 1, 1, 1, 0, 1, 0, 0, 1] code (top K)
attribute [irreducible] k10
noncomputable def k9 (K : VK) (y1 y3 y4 y5 : Value) (w : World) : Prop := nav ann Try.prog 108 (fun c Q => vcCode ann Try.prog 108 c Q [(1, y1), (3, y3), (4, y4), (5, y5)] w) [1, 1, 1, 1, 1, 0, 1, 0, 0, 1, 1] code (top K)
attribute [irreducible] k9
noncomputable def k13 (K : VK) (y1 y3 y4 y5 : Value) (w : World) : Prop := nav ann Try.prog 108 (fun c Q => vcCode ann Try.prog 108 c Q [(1, y1), (3, y3), (4, y4), (5, y5)] w) [1, 1, 1, 1, 1, 0, 1, 0, 0, 1, 0, 0, 1] code (top K)
attribute [irreducible] k13
noncomputable def k21 (K : VK) (y1 y3 y4 y5 y6 : Value) (w : World) : Prop := nav ann Try.prog 108 (fun c Q => vcCode ann Try.prog 108 c Q [(1, y1), (3, y3), (4, y4), (5, y5), (6, y6)] w) [1, 1, 1, 1, 1, 0, 1, 0, 0, 1, 0, 0, 1, 1, 1] code (top K)
attribute [irreducible] k21
noncomputable def l15 (K : VK) (y1 y3 y4 y5 y6 y7 : Value) (w : World) : Prop := nav ann Try.prog 108 (isLoop ann Try.prog 108 [(1, y1), (3, y3), (4, y4), (5, y5), (6, y6), (7, y7)] w) [1, 1, 1, 1, 1, 0, 1, 0, 0, 1, 0, 0, 1, 1, 0, 1, 0] code (top K)
attribute [irreducible] l15
noncomputable def k17 (K : VK) (y1 y3 y4 y5 y6 y7 : Value) (w : World) : Prop := nav ann Try.prog 108 (fun c Q => vcCode ann Try.prog 108 c Q [(1, y1), (3, y3), (4, y4), (5, y5), (6, y6), (7, y7)] w) [1, 1, 1, 1, 1, 0, 1, 0, 0, 1, 0, 0, 1, 1, 0, 1, 0, 0, 1] code (top K)
attribute [irreducible] k17
noncomputable def k16 (K : VK) (y1 y3 y4 y5 y6 y7 : Value) (w : World) : Prop := nav ann Try.prog 108 (fun c Q => vcCode ann Try.prog 108 c Q [(1, y1), (3, y3), (4, y4), (5, y5), (6, y6), (7, y7)] w) [1, 1, 1, 1, 1, 0, 1, 0, 0, 1, 0, 0, 1, 1, 0, 1, 0, 0, 1, 1] code (top K)
attribute [irreducible] k16
noncomputable def k18 (K : VK) (y1 y3 y4 y5 y7 : Value) (w : World) : Prop := nav ann Try.prog 108 (fun c Q => vcCode ann Try.prog 108 c Q [(1, y1), (3, y3), (4, y4), (5, y5), (7, y7)] w) [1, 1, 1, 1, 1, 0, 1, 0, 0, 1, 0, 0, 1, 1, 0, 1, 0, 0, 1, 0, 0, 1] code (top K)
attribute [irreducible] k18
end F7
theorem F7.k3.to {K : VK} {y1 : Value} {w : World} (h : (C.loadA 2 y1 w fun x10_1 w1 =>
  C.call Try.prog 24 #[x10_1] w1 fun x11_2 w2 =>
  C.store 2 y1 x11_2 w2 fun w3 =>
  C.draw w3 fun S w4 =>
  C.loadAS S 2 y1 w4 fun x12_5 w5 =>
  C.loadAS S 2 y1 w5 fun x14_6 w6 =>
  (C.call Try.prog 28 #[x12_5] w6 fun x13_7 w7 =>
  (S w7 ∧
  (C.call Try.prog 30 #[x14_6] w7 fun x15_8 w8 =>
  (S w8 ∧
  (C.call Try.prog 29 #[x15_8] w8 fun x16_9 w9 =>
  (S w9 ∧
  C.len x13_7 w9 fun x18_10 w10 =>
  C.len x16_9 w10 fun x20_11 w11 =>
  C.int .neq x18_10 x20_11 w11 fun x21_12 w12 =>
  C.ite x21_12 (K (.bool false) w12) (F7.k7 K y1 x13_7 x16_9 w12))) ∧ True)) ∧ True)) ∧ True)) : F7.k3 K y1 w := Eq.mpr (by kernel_rfl) h
theorem F7.k7.to {K : VK} {y1 y3 y4 : Value} {w : World} (h : (F7.l8 K y1 y3 y4 (.int .i64 0) w)) : F7.k7 K y1 y3 y4 w := Eq.mpr (by kernel_rfl) h
theorem F7.k23.to {K : VK} {w : World} (h : (K (.bool true) w)) : F7.k23 K w := Eq.mpr (by kernel_rfl) h
theorem F7.l8.to {K : VK} {y1 y3 y4 y5 : Value} {w : World} (h : (C.len y4 w fun x24_1 w1 =>
  C.int .lss y5 x24_1 w1 fun x25_2 w2 =>
  C.ite x25_2 (F7.k10 K y1 y3 y4 y5 w2) (F7.k23 K w2))) : F7.l8 K y1 y3 y4 y5 w := by unfold F7.l8; exact nav_round (Eq.mpr (by kernel_rfl) h)
theorem F7.k10.to {K : VK} {y1 y3 y4 y5 : Value} {w : World} (h : (C.idx 1 y4 y5 w fun x30_1 w1 =>
  C.load1 x30_1 w1 fun x31_2 w2 =>
  C.int .lss x31_2 (.int .i64 0) w2 fun x32_3 w3 =>
  C.ite x32_3 (C.idx 1 y3 y5 w3 fun x35_4 w4 =>
  C.load1 x35_4 w4 fun x36_5 w5 =>
  C.int .neq x36_5 (.int .i64 (-2)) w5 fun x37_6 w6 =>
  C.ite x37_6 (K (.bool false) w6) (F7.k9 K y1 y3 y4 y5 w6)) (F7.k13 K y1 y3 y4 y5 w3))) : F7.k10 K y1 y3 y4 y5 w := Eq.mpr (by kernel_rfl) h
theorem F7.k9.to {K : VK} {y1 y3 y4 y5 : Value} {w : World} (h : (C.int .add y5 (.int .i64 1) w fun x27_1 w1 =>
  F7.l8 K y1 y3 y4 x27_1 w1)) : F7.k9 K y1 y3 y4 y5 w := Eq.mpr (by kernel_rfl) h
theorem F7.k13.to {K : VK} {y1 y3 y4 y5 : Value} {w : World} (h : (F7.l15 K y1 y3 y4 y5 (.bool false) (.int .i64 0) w)) : F7.k13 K y1 y3 y4 y5 w := Eq.mpr (by kernel_rfl) h
theorem F7.k21.to {K : VK} {y1 y3 y4 y5 y6 : Value} {w : World} (h : (C.draw w fun S w1 =>
  C.not y6 w1 fun x70_2 w2 =>
  C.guarded true x70_2 (fun K => K y3 w2) w2 fun x72_3 w3 =>
  C.guarded true x70_2 (fun K => K y5 w3) w3 fun x73_4 w4 =>
  C.guarded true x70_2 (fun K => C.idx 1 x72_3 x73_4 w4 K) w4 fun x74_5 w5 =>
  C.guarded true x70_2 (fun K => C.load1S S x74_5 w5 K) w5 fun x75_6 w6 =>
  C.guarded true x70_2 (fun K => C.int .neq x75_6 (.int .i64 (-1)) w6 K) w6 fun x76_7 w7 =>
  C.pick (some x70_2) (some x76_7) (some (.bool false)) w7 fun x77_8 w8 =>
  C.guarded false x77_8 (fun K => K y6 w8) w8 fun x79_9 w9 =>
  C.guarded false x77_8 (fun K => K x79_9 w9) w9 fun x80_10 w10 =>
  C.guarded true x80_10 (fun K => K y3 w10) w10 fun x81_11 w11 =>
  C.guarded true x80_10 (fun K => K y5 w11) w11 fun x82_12 w12 =>
  C.guarded true x80_10 (fun K => C.idx 1 x81_11 x82_12 w12 K) w12 fun x83_13 w13 =>
  C.guarded true x80_10 (fun K => K y5 w13) w13 fun x85_14 w14 =>
  C.guarded true x80_10 (fun K => C.load1S S x83_13 w14 K) w14 fun x84_15 w15 =>
  C.guarded true x80_10 (fun K => C.int .eql x84_15 x85_14 w15 K) w15 fun x86_16 w16 =>
  C.guarded true x80_10 (fun K => K x86_16 w16) w16 fun x87_17 w17 =>
  C.guarded false x87_17 (fun K => K y3 w17) w17 fun x88_18 w18 =>
  C.guarded false x87_17 (fun K => K y5 w18) w18 fun x89_19 w19 =>
  C.guarded false x87_17 (fun K => C.idx 1 x88_18 x89_19 w19 K) w19 fun x90_20 w20 =>
  C.guarded false x87_17 (fun K => K y4 w20) w20 fun x92_21 w21 =>
  C.guarded false x87_17 (fun K => C.len x92_21 w21 K) w21 fun x93_22 w22 =>
  C.guarded false x87_17 (fun K => C.load1S S x90_20 w22 K) w22 fun x91_23 w23 =>
  C.guarded false x87_17 (fun K => C.int .geq x91_23 x93_22 w23 K) w23 fun x94_24 w24 =>
  C.guarded true x80_10 (fun K => C.pick (some x87_17) (some (.bool true)) (some x94_24) w24 K) w24 fun x95_25 w25 =>
  C.guarded true x80_10 (fun K => K x95_25 w25) w25 fun x96_26 w26 =>
  C.guarded false x96_26 (fun K => K y3 w26) w26 fun x98_27 w27 =>
  C.guarded false x96_26 (fun K => K y5 w27) w27 fun x99_28 w28 =>
  C.guarded false x96_26 (fun K => C.idx 1 x98_27 x99_28 w28 K) w28 fun x100_29 w29 =>
  C.guarded false x96_26 (fun K => K y5 w29) w29 fun x102_30 w30 =>
  C.guarded false x96_26 (fun K => C.loadAS S 2 y1 w30 K) w30 fun x97_31 w31 =>
  C.guarded false x96_26 (fun K => C.load1S S x100_29 w31 K) w31 fun x101_32 w32 =>
  (C.guarded false x96_26 (fun K => C.call Try.prog 25 #[x97_31, x101_32, x102_30] w32 K) w32 fun x103_33 w33 =>
  (S w33 ∧
  C.guarded false x96_26 (fun K => C.not x103_33 w33 K) w33 fun x104_34 w34 =>
  C.guarded true x80_10 (fun K => C.pick (some x96_26) (some (.bool true)) (some x104_34) w34 K) w34 fun x105_35 w35 =>
  C.guarded false x77_8 (fun K => C.pick (some x80_10) (some x105_35) (some (.bool false)) w35 K) w35 fun x106_36 w36 =>
  C.pick (some x77_8) (some (.bool true)) (some x106_36) w36 fun x107_37 w37 =>
  C.ite x107_37 (K (.bool false) w37) (F7.k9 K y1 y3 y4 y5 w37))) ∧ True)) : F7.k21 K y1 y3 y4 y5 y6 w := Eq.mpr (by kernel_rfl) h
theorem F7.l15.to {K : VK} {y1 y3 y4 y5 y6 y7 : Value} {w : World} (h : (C.len y4 w fun x40_1 w1 =>
  C.int .lss y7 x40_1 w1 fun x41_2 w2 =>
  C.ite x41_2 (F7.k17 K y1 y3 y4 y5 y6 y7 w2) (F7.k21 K y1 y3 y4 y5 y6 w2))) : F7.l15 K y1 y3 y4 y5 y6 y7 w := by unfold F7.l15; exact nav_round (Eq.mpr (by kernel_rfl) h)
theorem F7.k17.to {K : VK} {y1 y3 y4 y5 y6 y7 : Value} {w : World} (h : (C.int .eql y7 y5 w fun x46_1 w1 =>
  C.guarded false x46_1 (fun K => C.loadA 2 y1 w1 K) w1 fun x48_2 w2 =>
  C.guarded false x46_1 (fun K => K y7 w2) w2 fun x49_3 w3 =>
  C.guarded false x46_1 (fun K => K y5 w3) w3 fun x50_4 w4 =>
  C.guarded false x46_1 (fun K => C.call Try.prog 25 #[x48_2, x49_3, x50_4] w4 K) w4 fun x51_5 w5 =>
  C.guarded false x46_1 (fun K => C.not x51_5 w5 K) w5 fun x52_6 w6 =>
  C.pick (some x46_1) (some (.bool true)) (some x52_6) w6 fun x53_7 w7 =>
  C.ite x53_7 (F7.k16 K y1 y3 y4 y5 y6 y7 w7) (F7.k18 K y1 y3 y4 y5 y7 w7))) : F7.k17 K y1 y3 y4 y5 y6 y7 w := Eq.mpr (by kernel_rfl) h
theorem F7.k16.to {K : VK} {y1 y3 y4 y5 y6 y7 : Value} {w : World} (h : (C.int .add y7 (.int .i64 1) w fun x43_1 w1 =>
  F7.l15 K y1 y3 y4 y5 y6 x43_1 w1)) : F7.k16 K y1 y3 y4 y5 y6 y7 w := Eq.mpr (by kernel_rfl) h
theorem F7.k18.to {K : VK} {y1 y3 y4 y5 y7 : Value} {w : World} (h : (C.draw w fun S w1 =>
  C.idx 1 y3 y5 w1 fun x56_2 w2 =>
  C.load1S S x56_2 w2 fun x57_3 w3 =>
  C.int .lss x57_3 (.int .i64 0) w3 fun x58_4 w4 =>
  C.guarded false x58_4 (fun K => K y7 w4) w4 fun x61_5 w5 =>
  C.guarded false x58_4 (fun K => K y3 w5) w5 fun x62_6 w6 =>
  C.guarded false x58_4 (fun K => K y5 w6) w6 fun x63_7 w7 =>
  C.guarded false x58_4 (fun K => C.idx 1 x62_6 x63_7 w7 K) w7 fun x64_8 w8 =>
  C.guarded false x58_4 (fun K => C.loadAS S 2 y1 w8 K) w8 fun x60_9 w9 =>
  C.guarded false x58_4 (fun K => C.load1S S x64_8 w9 K) w9 fun x65_10 w10 =>
  (C.guarded false x58_4 (fun K => C.call Try.prog 25 #[x60_9, x61_5, x65_10] w10 K) w10 fun x66_11 w11 =>
  (S w11 ∧
  C.guarded false x58_4 (fun K => C.not x66_11 w11 K) w11 fun x67_12 w12 =>
  C.pick (some x58_4) (some (.bool true)) (some x67_12) w12 fun x68_13 w13 =>
  C.ite x68_13 (K (.bool false) w13) (F7.k16 K y1 y3 y4 y5 (.bool true) y7 w13))) ∧ True)) : F7.k18 K y1 y3 y4 y5 y7 w := Eq.mpr (by kernel_rfl) h
theorem F7.sh {K : VK} {x0 : Value} {w : World} (h : (C.new (.cells (Value.cells x0) 46) w fun x1_1 w1 =>
  C.call Try.prog 23 #[] w1 fun x8_2 w2 =>
  C.not x8_2 w2 fun x9_3 w3 =>
  C.ite x9_3 (K (.bool false) w3) (F7.k3 K x1_1 w3))) : C.call Try.prog 7 #[x0] w K := calls_of_vc (A := F7.ann) (args := [x0]) (Eq.mpr (by kernel_rfl) h)

/-! ### 8 scutage/scutagelaw36.DomChains (46, 3, 3, 3) -/
namespace F8
def ann : Ann := ⟨[(3, [1, 2, 3, 4]), (7, [1, 4])], [], [], [(4, (.take 1 (.take 2 (.take 5 (.take 6 (.take 9 (.take 10 (.take 0 (.take 4 (.take 8 (.go 3 (.go 7 (.go 11 (.take 12 (.take 13 (.take 14 .fin))) .fin) .fin) .fin))))))))))), (9, (.take 0 (.take 1 (.take 2 (.take 3 (.take 4 (.take 5 (.take 6 (.take 7 (.take 9 (.take 10 (.take 12 (.take 13 (.take 14 (.take 8 (.take 15 (.take 16 (.go 11 (.take 17 (.take 18 (.take 19 .fin))) .fin))))))))))))))))))], none⟩
noncomputable def code : Code := match Try.f8.body with | some c => c | none => .skip
noncomputable def top (K : VK) : QE := retQ Try.prog Try.f8.results.toList K
noncomputable def k3 (K : VK) (y1 y2 y3 y4 : Value) (w : World) : Prop := nav ann Try.prog 94 (fun c Q => vcCode ann Try.prog 94 c Q [(1, y1), (2, y2), (3, y3), (4, y4)] w) [1, 1] code (top K)
attribute [irreducible] k3
noncomputable def k7 (K : VK) (y1 y4 : Value) (w : World) : Prop := nav ann Try.prog 94 (fun c Q => vcCode ann Try.prog 94 c Q [(1, y1), (4, y4)] w) [1, 1, 1, 1, 1] code (top K)
attribute [irreducible] k7
end F8
theorem F8.k3.to {K : VK} {y1 y2 y3 y4 : Value} {w : World} (h : (C.loadA 2 y4 w fun x16_1 w1 =>
  C.call Try.prog 24 #[x16_1] w1 fun x17_2 w2 =>
  C.store 2 y4 x17_2 w2 fun w3 =>
  C.draw w3 fun S w4 =>
  C.loadAS S 2 y4 w4 fun x18_5 w5 =>
  C.loadAS S 2 y4 w5 fun x22_6 w6 =>
  C.loadAS S 2 y4 w6 fun x26_7 w7 =>
  (C.call Try.prog 26 #[x18_5, y1, y3] w7 fun x21_8 w8 =>
  (S w8 ∧
  (C.call Try.prog 26 #[x22_6, y2, y3] w8 fun x25_9 w9 =>
  (S w9 ∧
  (C.call Try.prog 26 #[x26_7, y1, y2] w9 fun x29_10 w10 =>
  (S w10 ∧
  C.guarded true x21_8 (fun K => K x25_9 w10) w10 fun x32_11 w11 =>
  C.pick (some x21_8) (some x32_11) (some (.bool false)) w11 fun x33_12 w12 =>
  C.guarded true x33_12 (fun K => K x29_10 w12) w12 fun x35_13 w13 =>
  C.guarded true x33_12 (fun K => C.not x35_13 w13 K) w13 fun x36_14 w14 =>
  C.pick (some x33_12) (some x36_14) (some (.bool false)) w14 fun x37_15 w15 =>
  C.guarded true x37_15 (fun K => C.loadA 2 y4 w15 K) w15 fun x39_16 w16 =>
  C.guarded true x37_15 (fun K => K y2 w16) w16 fun x40_17 w17 =>
  C.guarded true x37_15 (fun K => K y1 w17) w17 fun x41_18 w18 =>
  C.guarded true x37_15 (fun K => C.call Try.prog 26 #[x39_16, x40_17, x41_18] w18 K) w18 fun x42_19 w19 =>
  C.guarded true x37_15 (fun K => C.not x42_19 w19 K) w19 fun x43_20 w20 =>
  C.pick (some x37_15) (some x43_20) (some (.bool false)) w20 fun x44_21 w21 =>
  C.guarded false x44_21 (fun K => K x29_10 w21) w21 fun x46_22 w22 =>
  C.guarded false x44_21 (fun K => K x46_22 w22) w22 fun x47_23 w23 =>
  C.guarded true x47_23 (fun K => K x25_9 w23) w23 fun x48_24 w24 =>
  C.guarded false x44_21 (fun K => C.pick (some x47_23) (some x48_24) (some (.bool false)) w24 K) w24 fun x49_25 w25 =>
  C.guarded false x44_21 (fun K => K x49_25 w25) w25 fun x50_26 w26 =>
  C.guarded true x50_26 (fun K => K x21_8 w26) w26 fun x51_27 w27 =>
  C.guarded true x50_26 (fun K => C.not x51_27 w27 K) w27 fun x52_28 w28 =>
  C.guarded false x44_21 (fun K => C.pick (some x50_26) (some x52_28) (some (.bool false)) w28 K) w28 fun x53_29 w29 =>
  C.pick (some x44_21) (some (.bool true)) (some x53_29) w29 fun x54_30 w30 =>
  C.guarded false x54_30 (fun K => K x29_10 w30) w30 fun x56_31 w31 =>
  C.guarded false x54_30 (fun K => K x56_31 w31) w31 fun x57_32 w32 =>
  C.guarded true x57_32 (fun K => C.loadA 2 y4 w32 K) w32 fun x58_33 w33 =>
  C.guarded true x57_32 (fun K => K y2 w33) w33 fun x59_34 w34 =>
  C.guarded true x57_32 (fun K => K y1 w34) w34 fun x60_35 w35 =>
  C.guarded true x57_32 (fun K => C.call Try.prog 26 #[x58_33, x59_34, x60_35] w35 K) w35 fun x61_36 w36 =>
  C.guarded false x54_30 (fun K => C.pick (some x57_32) (some x61_36) (some (.bool false)) w36 K) w36 fun x62_37 w37 =>
  C.guarded false x54_30 (fun K => K x62_37 w37) w37 fun x63_38 w38 =>
  C.guarded true x63_38 (fun K => K y1 w38) w38 fun x64_39 w39 =>
  C.guarded true x63_38 (fun K => K y2 w39) w39 fun x65_40 w40 =>
  C.guarded true x63_38 (fun K => C.int .neq x64_39 x65_40 w40 K) w40 fun x66_41 w41 =>
  C.guarded false x54_30 (fun K => C.pick (some x63_38) (some x66_41) (some (.bool false)) w41 K) w41 fun x67_42 w42 =>
  C.pick (some x54_30) (some (.bool true)) (some x67_42) w42 fun x68_43 w43 =>
  C.ite x68_43 (K (.bool false) w43) (F8.k7 K y1 y4 w43))) ∧ True)) ∧ True)) ∧ True)) : F8.k3 K y1 y2 y3 y4 w := Eq.mpr (by kernel_rfl) h
theorem F8.k7.to {K : VK} {y1 y4 : Value} {w : World} (h : (C.field 0 y4 w fun x69_1 w1 =>
  C.load1 x69_1 w1 fun x70_2 w2 =>
  C.len x70_2 w2 fun x71_3 w3 =>
  C.loadA 2 y4 w3 fun x72_4 w4 =>
  C.call Try.prog 30 #[x72_4] w4 fun x73_5 w5 =>
  C.call Try.prog 29 #[x73_5] w5 fun x74_6 w6 =>
  C.draw w6 fun S w7 =>
  C.int .lss y1 (.int .i64 0) w7 fun x76_8 w8 =>
  C.guarded false x76_8 (fun K => K y1 w8) w8 fun x78_9 w9 =>
  C.guarded false x76_8 (fun K => K x71_3 w9) w9 fun x79_10 w10 =>
  C.guarded false x76_8 (fun K => C.int .geq x78_9 x79_10 w10 K) w10 fun x80_11 w11 =>
  C.pick (some x76_8) (some (.bool true)) (some x80_11) w11 fun x81_12 w12 =>
  C.guarded false x81_12 (fun K => K y1 w12) w12 fun x84_13 w13 =>
  C.guarded false x81_12 (fun K => K y1 w13) w13 fun x85_14 w14 =>
  C.guarded false x81_12 (fun K => K x74_6 w14) w14 fun x87_15 w15 =>
  C.guarded false x81_12 (fun K => K y1 w15) w15 fun x88_16 w16 =>
  C.guarded false x81_12 (fun K => C.idx 1 x87_15 x88_16 w16 K) w16 fun x89_17 w17 =>
  C.guarded false x81_12 (fun K => C.loadAS S 2 y4 w17 K) w17 fun x83_18 w18 =>
  C.guarded false x81_12 (fun K => C.load1S S x89_17 w18 K) w18 fun x90_19 w19 =>
  C.guarded false x81_12 (fun K => C.int .geq x90_19 (.int .i64 0) w19 K) w19 fun x91_20 w20 =>
  (C.guarded false x81_12 (fun K => C.call Try.prog 26 #[x83_18, x84_13, x85_14] w20 K) w20 fun x86_21 w21 =>
  (S w21 ∧
  C.guarded false x81_12 (fun K => ∃ x92_22, (∀ w', S w' → ((do eqGuard .eql 4 (.tmp 86) (.tmp 91) x86_21 x91_20; binOp .eql 4 x86_21 x91_20 : Sem Value)).run Try.prog w' = .ok x92_22 w') ∧ K x92_22 w21) w21 fun x92_22 w22 =>
  C.pick (some x81_12) (some (.bool true)) (some x92_22) w22 fun x93_23 w23 =>
  K x93_23 w23)) ∧ True)) : F8.k7 K y1 y4 w := Eq.mpr (by kernel_rfl) h
theorem F8.sh {K : VK} {x0 x1 x2 x3 : Value} {w : World} (h : (C.new (.cells (Value.cells x0) 46) w fun x4_1 w1 =>
  C.call Try.prog 23 #[] w1 fun x14_2 w2 =>
  C.not x14_2 w2 fun x15_3 w3 =>
  C.ite x15_3 (K (.bool false) w3) (F8.k3 K x1 x2 x3 x4_1 w3))) : C.call Try.prog 8 #[x0, x1, x2, x3] w K := calls_of_vc (A := F8.ann) (args := [x0, x1, x2, x3]) (Eq.mpr (by kernel_rfl) h)

/-! ### 23 scutage/scutagelaw36.alive () -/
namespace F23
def ann : Ann := ⟨[], [], [], [], none⟩
noncomputable def code : Code := match Try.f23.body with | some c => c | none => .skip
noncomputable def top (K : VK) : QE := retQ Try.prog Try.f23.results.toList K
end F23
theorem F23.sh {K : VK} {w : World} (h : (C.run Try.prog (Instr.buildSlice 44 1 #[(0, (.int .i64 1))]) w fun x2_1 w1 =>
  C.run Try.prog (Instr.buildSlice 44 1 #[(0, (.int .i64 2))]) w1 fun x3_2 w2 =>
  C.run Try.prog (Instr.buildSlice 44 1 #[(0, (.int .i64 2))]) w2 fun x4_3 w3 =>
  C.run Try.prog (Instr.buildSlice 43 4 #[(0, x2_1), (1, x3_2), (2, (.slice none 0 0)), (3, x4_3)]) w3 fun x5_4 w4 =>
  C.run Try.prog (Instr.buildSlice 44 1 #[(0, (.int .i64 0))]) w4 fun x6_5 w5 =>
  C.run Try.prog (Instr.build 46 #[(0, x5_4), (1, x6_5)]) w5 fun x7_6 w6 =>
  C.new (.cells #[.slice none 0 0, .slice none 0 0] 46) w6 fun x1_7 w7 =>
  C.store 2 x1_7 x7_6 w7 fun w8 =>
  C.loadA 2 x1_7 w8 fun x8_9 w9 =>
  C.call Try.prog 26 #[x8_9, (.int .i64 1), (.int .i64 2)] w9 fun x9_10 w10 =>
  C.guarded true x9_10 (fun K => C.loadA 2 x1_7 w10 K) w10 fun x11_11 w11 =>
  C.guarded true x9_10 (fun K => C.call Try.prog 26 #[x11_11, (.int .i64 2), (.int .i64 1)] w11 K) w11 fun x12_12 w12 =>
  C.guarded true x9_10 (fun K => C.not x12_12 w12 K) w12 fun x13_13 w13 =>
  C.pick (some x9_10) (some x13_13) (some (.bool false)) w13 fun x14_14 w14 =>
  C.guarded true x14_14 (fun K => C.loadA 2 x1_7 w14 K) w14 fun x16_15 w15 =>
  C.guarded true x14_14 (fun K => C.call Try.prog 26 #[x16_15, (.int .i64 3), (.int .i64 2)] w15 K) w15 fun x17_16 w16 =>
  C.guarded true x14_14 (fun K => C.not x17_16 w16 K) w16 fun x18_17 w17 =>
  C.pick (some x14_14) (some x18_17) (some (.bool false)) w17 fun x19_18 w18 =>
  C.guarded true x19_18 (fun K => C.loadA 2 x1_7 w18 K) w18 fun x21_19 w19 =>
  C.guarded true x19_18 (fun K => C.call Try.prog 28 #[x21_19] w19 K) w19 fun x22_20 w20 =>
  C.guarded true x19_18 (fun K => C.run Try.prog (Instr.buildSlice 44 4 #[(0, (.int .i64 (-1))), (1, (.int .i64 0)), (2, (.int .i64 1)), (3, (.int .i64 (-2)))]) w20 K) w20 fun x23_21 w21 =>
  C.guarded true x19_18 (fun K => C.call Try.prog 34 #[x22_20, x23_21] w21 K) w21 fun x24_22 w22 =>
  C.pick (some x19_18) (some x24_22) (some (.bool false)) w22 fun x25_23 w23 =>
  C.guarded true x25_23 (fun K => C.loadA 2 x1_7 w23 K) w23 fun x27_24 w24 =>
  C.guarded true x25_23 (fun K => C.call Try.prog 27 #[x27_24, (.int .i64 0)] w24 K) w24 fun x28_25 w25 =>
  C.guarded true x25_23 (fun K => C.int .eql x28_25 (.int .i64 3) w25 K) w25 fun x29_26 w26 =>
  C.pick (some x25_23) (some x29_26) (some (.bool false)) w26 fun x30_27 w27 =>
  K x30_27 w27)) : C.call Try.prog 23 #[] w K := calls_of_vc (A := F23.ann) (args := []) (Eq.mpr (by kernel_rfl) h)

/-! ### 24 scutage/scutagelaw36.few (46) -/
namespace F24
def ann : Ann := ⟨[(3, [1, 2])], [], [], [], none⟩
noncomputable def code : Code := match Try.f24.body with | some c => c | none => .skip
noncomputable def top (K : VK) : QE := retQ Try.prog Try.f24.results.toList K
noncomputable def k3 (K : VK) (y1 y2 : Value) (w : World) : Prop := nav ann Try.prog 12 (fun c Q => vcCode ann Try.prog 12 c Q [(1, y1), (2, y2)] w) [1, 1] code (top K)
attribute [irreducible] k3
end F24
theorem F24.k3.to {K : VK} {y1 y2 : Value} {w : World} (h : (C.loadA 2 y1 w fun x11_1 w1 =>
  C.store 2 y2 x11_1 w1 fun w2 =>
  C.loadA 2 y2 w2 fun r3 _ =>
  K r3 w2)) : F24.k3 K y1 y2 w := Eq.mpr (by kernel_rfl) h
theorem F24.sh {K : VK} {x0 : Value} {w : World} (h : (C.new (.cells (Value.cells x0) 46) w fun x1_1 w1 =>
  C.new (.cells #[.slice none 0 0, .slice none 0 0] 46) w1 fun x2_2 w2 =>
  C.field 0 x1_1 w2 fun x3_3 w3 =>
  C.load1 x3_3 w3 fun x4_4 w4 =>
  C.len x4_4 w4 fun x5_5 w5 =>
  C.int .gtr x5_5 (.int .i64 14) w5 fun x6_6 w6 =>
  C.ite x6_6 (C.field 0 x1_1 w6 fun x7_7 w7 =>
  C.load1 x7_7 w7 fun x8_8 w8 =>
  C.run Try.prog (Instr.sliceAt 43 x8_8 none (some (.int .i64 14)) none) w8 fun x9_9 w9 =>
  C.field 0 x1_1 w9 fun x10_10 w10 =>
  C.store 1 x10_10 x9_9 w10 fun w11 =>
  F24.k3 K x1_1 x2_2 w11) (F24.k3 K x1_1 x2_2 w6))) : C.call Try.prog 24 #[x0] w K := calls_of_vc (A := F24.ann) (args := [x0]) (Eq.mpr (by kernel_rfl) h)

/-! ### 25 scutage/scutagelaw36.holds (46, 3, 3) -/
namespace F25
def ann : Ann := ⟨[(4, [1, 2, 3])], [], [], [], none⟩
noncomputable def code : Code := match Try.f25.body with | some c => c | none => .skip
noncomputable def top (K : VK) : QE := retQ Try.prog Try.f25.results.toList K
noncomputable def k4 (K : VK) (y1 y2 y3 : Value) (w : World) : Prop := nav ann Try.prog 54 (fun c Q => vcCode ann Try.prog 54 c Q [(1, y1), (2, y2), (3, y3)] w) [1, 1, 1] code (top K)
attribute [irreducible] k4
end F25
theorem F25.k4.to {K : VK} {y1 y2 y3 : Value} {w : World} (h : (C.loadA 2 y3 w fun x36_1 w1 =>
  C.call Try.prog 30 #[x36_1] w1 fun x37_2 w2 =>
  C.call Try.prog 62 #[x37_2, y1] w2 fun x39_3 w3 =>
  C.call Try.prog 29 #[x39_3] w3 fun x40_4 w4 =>
  C.idx 1 x40_4 y2 w4 fun x42_5 w5 =>
  C.load1 x42_5 w5 fun x43_6 w6 =>
  C.int .lss x43_6 (.int .i64 0) w6 fun x44_7 w7 =>
  C.guarded true x44_7 (fun K => C.loadA 2 y3 w7 K) w7 fun x46_8 w8 =>
  C.guarded true x44_7 (fun K => C.call Try.prog 30 #[x46_8] w8 K) w8 fun x47_9 w9 =>
  C.guarded true x44_7 (fun K => C.call Try.prog 29 #[x47_9] w9 K) w9 fun x48_10 w10 =>
  C.guarded true x44_7 (fun K => K y1 w10) w10 fun x49_11 w11 =>
  C.guarded true x44_7 (fun K => C.idx 1 x48_10 x49_11 w11 K) w11 fun x50_12 w12 =>
  C.guarded true x44_7 (fun K => C.load1 x50_12 w12 K) w12 fun x51_13 w13 =>
  C.guarded true x44_7 (fun K => C.int .geq x51_13 (.int .i64 0) w13 K) w13 fun x52_14 w14 =>
  C.pick (some x44_7) (some x52_14) (some (.bool false)) w14 fun x53_15 w15 =>
  K x53_15 w15)) : F25.k4 K y1 y2 y3 w := Eq.mpr (by kernel_rfl) h
theorem F25.sh {K : VK} {x0 x1 x2 : Value} {w : World} (h : (C.new (.cells (Value.cells x0) 46) w fun x3_1 w1 =>
  C.field 0 x3_1 w1 fun x8_2 w2 =>
  C.load1 x8_2 w2 fun x9_3 w3 =>
  C.len x9_3 w3 fun x10_4 w4 =>
  C.int .lss x1 (.int .i64 0) w4 fun x12_5 w5 =>
  C.guarded false x12_5 (fun K => K x2 w5) w5 fun x14_6 w6 =>
  C.guarded false x12_5 (fun K => C.int .lss x14_6 (.int .i64 0) w6 K) w6 fun x15_7 w7 =>
  C.pick (some x12_5) (some (.bool true)) (some x15_7) w7 fun x16_8 w8 =>
  C.guarded false x16_8 (fun K => K x1 w8) w8 fun x18_9 w9 =>
  C.guarded false x16_8 (fun K => K x10_4 w9) w9 fun x19_10 w10 =>
  C.guarded false x16_8 (fun K => C.int .geq x18_9 x19_10 w10 K) w10 fun x20_11 w11 =>
  C.pick (some x16_8) (some (.bool true)) (some x20_11) w11 fun x21_12 w12 =>
  C.guarded false x21_12 (fun K => K x2 w12) w12 fun x23_13 w13 =>
  C.guarded false x21_12 (fun K => K x10_4 w13) w13 fun x24_14 w14 =>
  C.guarded false x21_12 (fun K => C.int .geq x23_13 x24_14 w14 K) w14 fun x25_15 w15 =>
  C.pick (some x21_12) (some (.bool true)) (some x25_15) w15 fun x26_16 w16 =>
  C.guarded false x26_16 (fun K => C.loadA 2 x3_1 w16 K) w16 fun x28_17 w17 =>
  C.guarded false x26_16 (fun K => C.call Try.prog 30 #[x28_17] w17 K) w17 fun x29_18 w18 =>
  C.guarded false x26_16 (fun K => C.call Try.prog 29 #[x29_18] w18 K) w18 fun x30_19 w19 =>
  C.guarded false x26_16 (fun K => K x2 w19) w19 fun x31_20 w20 =>
  C.guarded false x26_16 (fun K => C.idx 1 x30_19 x31_20 w20 K) w20 fun x32_21 w21 =>
  C.guarded false x26_16 (fun K => C.load1 x32_21 w21 K) w21 fun x33_22 w22 =>
  C.guarded false x26_16 (fun K => C.int .lss x33_22 (.int .i64 0) w22 K) w22 fun x34_23 w23 =>
  C.pick (some x26_16) (some (.bool true)) (some x34_23) w23 fun x35_24 w24 =>
  C.ite x35_24 (K (.bool false) w24) (F25.k4 K x1 x2 x3_1 w24))) : C.call Try.prog 25 #[x0, x1, x2] w K := calls_of_vc (A := F25.ann) (args := [x0, x1, x2]) (Eq.mpr (by kernel_rfl) h)

/-! ### 26 scutage/dom.Holds (46, 3, 3) -/
namespace F26
def ann : Ann := ⟨[], [], [], [], none⟩
noncomputable def code : Code := match Try.f26.body with | some c => c | none => .skip
noncomputable def top (K : VK) : QE := retQ Try.prog Try.f26.results.toList K
end F26
theorem F26.sh {K : VK} {x0 x1 x2 : Value} {w : World} (h : (C.new (.cells (Value.cells x0) 46) w fun x3_1 w1 =>
  C.loadA 2 x3_1 w1 fun x7_2 w2 =>
  C.call Try.prog 64 #[x7_2, x1] w2 fun x9_3 w3 =>
  C.call Try.prog 63 #[x9_3, x2] w3 fun x11_4 w4 =>
  K x11_4 w4)) : C.call Try.prog 26 #[x0, x1, x2] w K := calls_of_vc (A := F26.ann) (args := [x0, x1, x2]) (Eq.mpr (by kernel_rfl) h)

/-! ### 27 scutage/dom.Kept (46, 3) -/
namespace F27
def ann : Ann := ⟨[], [], [], [], none⟩
noncomputable def code : Code := match Try.f27.body with | some c => c | none => .skip
noncomputable def top (K : VK) : QE := retQ Try.prog Try.f27.results.toList K
end F27
theorem F27.sh {K : VK} {x0 x1 : Value} {w : World} (h : (C.new (.cells (Value.cells x0) 46) w fun x2_1 w1 =>
  C.loadA 2 x2_1 w1 fun x5_2 w2 =>
  C.call Try.prog 64 #[x5_2, x1] w2 fun x7_3 w3 =>
  C.len x7_3 w3 fun x8_4 w4 =>
  K x8_4 w4)) : C.call Try.prog 27 #[x0, x1] w K := calls_of_vc (A := F27.ann) (args := [x0, x1]) (Eq.mpr (by kernel_rfl) h)

/-! ### 28 scutage/dom.Holder (46) -/
namespace F28
def ann : Ann := ⟨[(5, [1, 3, 4, 21, 22]), (7, [1, 3, 4, 21, 22]), (8, [1, 3, 4]), (10, [3, 4, 33, 34, 35]), (14, [3, 4, 7, 33, 34, 35, 43, 44]), (18, [3, 4, 7, 33, 34, 35, 43, 44]), (19, [3, 4, 33, 34, 35]), (20, [4])], [(4, [1, 3, 4, 21, 22]), (9, [3, 4, 33, 34, 35]), (13, [3, 4, 7, 33, 34, 35, 43, 44])], [], [(15, (.take 0 (.take 1 (.take 2 (.take 3 (.take 4 (.take 5 (.take 6 (.take 7 (.take 8 (.take 11 (.take 12 (.take 13 (.take 14 (.take 9 (.take 10 (.take 15 (.take 16 (.take 17 (.take 18 (.take 19 (.take 20 (.take 21 (.take 22 .fin))))))))))))))))))))))))], none⟩
noncomputable def code : Code := match Try.f28.body with | some c => c | none => .skip
noncomputable def top (K : VK) : QE := retQ Try.prog Try.f28.results.toList K
noncomputable def k8 (K : VK) (y1 y3 y4 : Value) (w : World) : Prop := nav ann Try.prog 90 (fun c Q => vcCode ann Try.prog 90 c Q [(1, y1), (3, y3), (4, y4)] w) [1, 1, 1, 1] code (top K)
attribute [irreducible] k8
noncomputable def l4 (K : VK) (y1 y3 y4 y21 y22 : Value) (w : World) : Prop := nav ann Try.prog 90 (isLoop ann Try.prog 90 [(1, y1), (3, y3), (4, y4), (21, y21), (22, y22)] w) [1, 1, 1, 0, 1, 0] code (top K)
attribute [irreducible] l4
noncomputable def k5 (K : VK) (y1 y3 y4 y21 y22 : Value) (w : World) : Prop := nav ann Try.prog 90 (fun c Q => vcCode ann Try.prog 90 c Q [(1, y1), (3, y3), (4, y4), (21, y21), (22, y22)] w) [1, 1, 1, 0, 1, 0, 0, 1, 1] code (top K)
attribute [irreducible] k5
noncomputable def k7 (K : VK) (y1 y3 y4 y21 y22 : Value) (w : World) : Prop := nav ann Try.prog 90 (fun c Q => vcCode ann Try.prog 90 c Q [(1, y1), (3, y3), (4, y4), (21, y21), (22, y22)] w) [1, 1, 1, 0, 1, 0, 0, 1, 1, 1] code (top K)
attribute [irreducible] k7
noncomputable def k20 (K : VK) (y4 : Value) (w : World) : Prop := nav ann Try.prog 90 (fun c Q => vcCode ann Try.prog 90 c Q [(4, y4)] w) [1, 1, 1, 1, 1] code (top K)
attribute [irreducible] k20
noncomputable def l9 (K : VK) (y3 y4 y33 y34 y35 : Value) (w : World) : Prop := nav ann Try.prog 90 (isLoop ann Try.prog 90 [(3, y3), (4, y4), (33, y33), (34, y34), (35, y35)] w) [1, 1, 1, 1, 0, 1, 0] code (top K)
attribute [irreducible] l9
noncomputable def k10 (K : VK) (y3 y4 y33 y34 y35 : Value) (w : World) : Prop := nav ann Try.prog 90 (fun c Q => vcCode ann Try.prog 90 c Q [(3, y3), (4, y4), (33, y33), (34, y34), (35, y35)] w) [1, 1, 1, 1, 0, 1, 0, 0, 1, 1] code (top K)
attribute [irreducible] k10
noncomputable def k19 (K : VK) (y3 y4 y33 y34 y35 : Value) (w : World) : Prop := nav ann Try.prog 90 (fun c Q => vcCode ann Try.prog 90 c Q [(3, y3), (4, y4), (33, y33), (34, y34), (35, y35)] w) [1, 1, 1, 1, 0, 1, 0, 0, 1, 1, 1] code (top K)
attribute [irreducible] k19
noncomputable def l13 (K : VK) (y3 y4 y7 y33 y34 y35 y43 y44 : Value) (w : World) : Prop := nav ann Try.prog 90 (isLoop ann Try.prog 90 [(3, y3), (4, y4), (7, y7), (33, y33), (34, y34), (35, y35), (43, y43), (44, y44)] w) [1, 1, 1, 1, 0, 1, 0, 0, 1, 1, 0, 0, 1, 1, 1, 0] code (top K)
attribute [irreducible] l13
noncomputable def k14 (K : VK) (y3 y4 y7 y33 y34 y35 y43 y44 : Value) (w : World) : Prop := nav ann Try.prog 90 (fun c Q => vcCode ann Try.prog 90 c Q [(3, y3), (4, y4), (7, y7), (33, y33), (34, y34), (35, y35), (43, y43), (44, y44)] w) [1, 1, 1, 1, 0, 1, 0, 0, 1, 1, 0, 0, 1, 1, 1, 0, 0, 1, 1] code (top K)
attribute [irreducible] k14
noncomputable def k18 (K : VK) (y3 y4 y7 y33 y34 y35 y43 y44 : Value) (w : World) : Prop := nav ann Try.prog 90 (fun c Q => vcCode ann Try.prog 90 c Q [(3, y3), (4, y4), (7, y7), (33, y33), (34, y34), (35, y35), (43, y43), (44, y44)] w) [1, 1, 1, 1, 0, 1, 0, 0, 1, 1, 0, 0, 1, 1, 1, 0, 0, 1, 1, 1] code (top K)
attribute [irreducible] k18
end F28
theorem F28.k8.to {K : VK} {y1 y3 y4 : Value} {w : World} (h : (C.loadA 2 y1 w fun x32_1 w1 =>
  C.call Try.prog 36 #[x32_1] w1 fun x33_2 w2 =>
  C.len x33_2 w2 fun x34_3 w3 =>
  F28.l9 K y3 y4 x33_2 x34_3 (.int .i64 0) w3)) : F28.k8 K y1 y3 y4 w := Eq.mpr (by kernel_rfl) h
theorem F28.l4.to {K : VK} {y1 y3 y4 y21 y22 : Value} {w : World} (h : (C.int .lss y22 y21 w fun x23_1 w1 =>
  C.ite x23_1 (F28.k5 K y1 y3 y4 y21 y22 w1) (F28.k8 K y1 y3 y4 w1))) : F28.l4 K y1 y3 y4 y21 y22 w := by unfold F28.l4; exact nav_round (Eq.mpr (by kernel_rfl) h)
theorem F28.k5.to {K : VK} {y1 y3 y4 y21 y22 : Value} {w : World} (h : (C.loadA 2 y1 w fun x27_1 w1 =>
  C.call Try.prog 64 #[x27_1, y22] w1 fun x29_2 w2 =>
  C.idx 1 y3 y22 w2 fun x30_3 w3 =>
  C.store 1 x30_3 x29_2 w3 fun w4 =>
  F28.k7 K y1 y3 y4 y21 y22 w4)) : F28.k5 K y1 y3 y4 y21 y22 w := Eq.mpr (by kernel_rfl) h
theorem F28.k7.to {K : VK} {y1 y3 y4 y21 y22 : Value} {w : World} (h : (C.int .add y22 (.int .i64 1) w fun x31_1 w1 =>
  F28.l4 K y1 y3 y4 y21 x31_1 w1)) : F28.k7 K y1 y3 y4 y21 y22 w := Eq.mpr (by kernel_rfl) h
theorem F28.k20.to {K : VK} {y4 : Value} {w : World} (h : (K y4 w)) : F28.k20 K y4 w := Eq.mpr (by kernel_rfl) h
theorem F28.l9.to {K : VK} {y3 y4 y33 y34 y35 : Value} {w : World} (h : (C.int .lss y35 y34 w fun x36_1 w1 =>
  C.ite x36_1 (F28.k10 K y3 y4 y33 y34 y35 w1) (F28.k20 K y4 w1))) : F28.l9 K y3 y4 y33 y34 y35 w := by unfold F28.l9; exact nav_round (Eq.mpr (by kernel_rfl) h)
theorem F28.k10.to {K : VK} {y3 y4 y33 y34 y35 : Value} {w : World} (h : (C.idx 1 y33 y35 w fun x37_1 w1 =>
  C.load1 x37_1 w1 fun x38_2 w2 =>
  C.idx 1 y4 x38_2 w2 fun x41_3 w3 =>
  C.store 1 x41_3 (.int .i64 (-1)) w3 fun w4 =>
  C.len y3 w4 fun x43_5 w5 =>
  F28.l13 K y3 y4 x38_2 y33 y34 y35 x43_5 (.int .i64 0) w5)) : F28.k10 K y3 y4 y33 y34 y35 w := Eq.mpr (by kernel_rfl) h
theorem F28.k19.to {K : VK} {y3 y4 y33 y34 y35 : Value} {w : World} (h : (C.int .add y35 (.int .i64 1) w fun x88_1 w1 =>
  F28.l9 K y3 y4 y33 y34 x88_1 w1)) : F28.k19 K y3 y4 y33 y34 y35 w := Eq.mpr (by kernel_rfl) h
theorem F28.l13.to {K : VK} {y3 y4 y7 y33 y34 y35 y43 y44 : Value} {w : World} (h : (C.int .lss y44 y43 w fun x45_1 w1 =>
  C.ite x45_1 (F28.k14 K y3 y4 y7 y33 y34 y35 y43 y44 w1) (F28.k19 K y3 y4 y33 y34 y35 w1))) : F28.l13 K y3 y4 y7 y33 y34 y35 y43 y44 w := by unfold F28.l13; exact nav_round (Eq.mpr (by kernel_rfl) h)
theorem F28.k14.to {K : VK} {y3 y4 y7 y33 y34 y35 y43 y44 : Value} {w : World} (h : (C.draw w fun S w1 =>
  C.idx 1 y4 y7 w1 fun x49_2 w2 =>
  C.load1S S x49_2 w2 fun x50_3 w3 =>
  C.int .eql x50_3 (.int .i64 (-1)) w3 fun x51_4 w4 =>
  C.guarded false x51_4 (fun K => K y3 w4) w4 fun x53_5 w5 =>
  C.guarded false x51_4 (fun K => K y44 w5) w5 fun x54_6 w6 =>
  C.guarded false x51_4 (fun K => C.idx 1 x53_5 x54_6 w6 K) w6 fun x55_7 w7 =>
  C.guarded false x51_4 (fun K => K y3 w7) w7 fun x58_8 w8 =>
  C.guarded false x51_4 (fun K => K y4 w8) w8 fun x59_9 w9 =>
  C.guarded false x51_4 (fun K => K y7 w9) w9 fun x60_10 w10 =>
  C.guarded false x51_4 (fun K => C.idx 1 x59_9 x60_10 w10 K) w10 fun x61_11 w11 =>
  C.guarded false x51_4 (fun K => C.load1S S x55_7 w11 K) w11 fun x56_12 w12 =>
  C.guarded false x51_4 (fun K => C.len x56_12 w12 K) w12 fun x57_13 w13 =>
  C.guarded false x51_4 (fun K => C.load1S S x61_11 w13 K) w13 fun x62_14 w14 =>
  C.guarded false x51_4 (fun K => ∃ x63_15, (∀ w', S w' → (builtin .max #[3, 3] 3 #[false, true] #[x62_14, (.int .i64 0)]).run Try.prog w' = .ok (.value x63_15) w') ∧ K x63_15 w14) w14 fun x63_15 w15 =>
  C.guarded false x51_4 (fun K => C.idx 1 x58_8 x63_15 w15 K) w15 fun x64_16 w16 =>
  C.guarded false x51_4 (fun K => C.load1S S x64_16 w16 K) w16 fun x65_17 w17 =>
  C.guarded false x51_4 (fun K => C.len x65_17 w17 K) w17 fun x66_18 w18 =>
  C.guarded false x51_4 (fun K => C.int .lss x57_13 x66_18 w18 K) w18 fun x67_19 w19 =>
  C.pick (some x51_4) (some (.bool true)) (some x67_19) w19 fun x68_20 w20 =>
  C.int .neq y44 y7 w20 fun x71_21 w21 =>
  C.guarded true x71_21 (fun K => K y3 w21) w21 fun x73_22 w22 =>
  C.guarded true x71_21 (fun K => K y44 w22) w22 fun x74_23 w23 =>
  C.guarded true x71_21 (fun K => C.idx 1 x73_22 x74_23 w23 K) w23 fun x75_24 w24 =>
  C.guarded true x71_21 (fun K => C.load1 x75_24 w24 K) w24 fun x76_25 w25 =>
  C.guarded true x71_21 (fun K => K y7 w25) w25 fun x77_26 w26 =>
  C.guarded true x71_21 (fun K => C.call Try.prog 63 #[x76_25, x77_26] w26 K) w26 fun x78_27 w27 =>
  C.pick (some x71_21) (some x78_27) (some (.bool false)) w27 fun x79_28 w28 =>
  C.guarded true x79_28 (fun K => K x68_20 w28) w28 fun x81_29 w29 =>
  C.pick (some x79_28) (some x81_29) (some (.bool false)) w29 fun x82_30 w30 =>
  C.ite x82_30 (C.idx 1 y4 y7 w30 fun x86_31 w31 =>
  C.store 1 x86_31 y44 w31 fun w32 =>
  F28.k18 K y3 y4 y7 y33 y34 y35 y43 y44 w32) (F28.k18 K y3 y4 y7 y33 y34 y35 y43 y44 w30))) : F28.k14 K y3 y4 y7 y33 y34 y35 y43 y44 w := Eq.mpr (by kernel_rfl) h
theorem F28.k18.to {K : VK} {y3 y4 y7 y33 y34 y35 y43 y44 : Value} {w : World} (h : (C.int .add y44 (.int .i64 1) w fun x87_1 w1 =>
  F28.l13 K y3 y4 y7 y33 y34 y35 y43 x87_1 w1)) : F28.k18 K y3 y4 y7 y33 y34 y35 y43 y44 w := Eq.mpr (by kernel_rfl) h
theorem F28.sh {K : VK} {x0 : Value} {w : World} (h : (C.new (.cells (Value.cells x0) 46) w fun x1_1 w1 =>
  C.field 0 x1_1 w1 fun x10_2 w2 =>
  C.load1 x10_2 w2 fun x11_3 w3 =>
  C.len x11_3 w3 fun x12_4 w4 =>
  C.run Try.prog (Instr.makeSlice 43 x12_4 x12_4) w4 fun x13_5 w5 =>
  C.run Try.prog (Instr.buildSlice 44 1 #[(0, (.int .i64 (-2)))]) w5 fun x14_6 w6 =>
  C.field 0 x1_1 w6 fun x15_7 w7 =>
  C.load1 x15_7 w7 fun x16_8 w8 =>
  C.len x16_8 w8 fun x17_9 w9 =>
  C.call Try.prog 65 #[x14_6, x17_9] w9 fun x18_10 w10 =>
  C.field 0 x1_1 w10 fun x19_11 w11 =>
  C.load1 x19_11 w11 fun x20_12 w12 =>
  C.len x20_12 w12 fun x21_13 w13 =>
  F28.l4 K x1_1 x13_5 x18_10 x21_13 (.int .i64 0) w13)) : C.call Try.prog 28 #[x0] w K := calls_of_vc (A := F28.ann) (args := [x0]) (Eq.mpr (by kernel_rfl) h)

/-! ### 29 scutage/scutageref33.Dist (52) -/
namespace F29
def ann : Ann := ⟨[(5, [1, 3, 4, 5]), (6, [1, 3, 4, 5]), (7, [1, 3, 4]), (9, [1, 3, 4, 6]), (10, [1, 3, 4, 6]), (12, [1, 3, 4]), (14, [1, 3, 4, 7]), (15, [1, 3, 4, 7]), (17, [1, 3, 4, 7, 8]), (18, [1, 3, 4, 7, 8]), (19, [1, 3, 4, 7, 8]), (21, [1, 3, 4, 7, 8, 9]), (22, [1, 3, 4, 7, 8, 9]), (25, [4])], [(4, [1, 3, 4, 5]), (8, [1, 3, 4, 6]), (13, [1, 3, 4, 7]), (16, [1, 3, 4, 7, 8]), (20, [1, 3, 4, 7, 8, 9])], [], [(10, (.take 1 (.take 3 (.take 0 (.take 2 (.take 4 (.take 5 (.go 6 .fin .fin))))))))], none⟩
noncomputable def code : Code := match Try.f29.body with | some c => c | none => .skip
noncomputable def top (K : VK) : QE := retQ Try.prog Try.f29.results.toList K
noncomputable def k7 (K : VK) (y1 y3 y4 : Value) (w : World) : Prop := nav ann Try.prog 93 (fun c Q => vcCode ann Try.prog 93 c Q [(1, y1), (3, y3), (4, y4)] w) [1, 1, 1, 1] code (top K)
attribute [irreducible] k7
noncomputable def l4 (K : VK) (y1 y3 y4 y5 : Value) (w : World) : Prop := nav ann Try.prog 93 (isLoop ann Try.prog 93 [(1, y1), (3, y3), (4, y4), (5, y5)] w) [1, 1, 1, 0, 1, 0] code (top K)
attribute [irreducible] l4
noncomputable def k6 (K : VK) (y1 y3 y4 y5 : Value) (w : World) : Prop := nav ann Try.prog 93 (fun c Q => vcCode ann Try.prog 93 c Q [(1, y1), (3, y3), (4, y4), (5, y5)] w) [1, 1, 1, 0, 1, 0, 0, 1] code (top K)
attribute [irreducible] k6
noncomputable def k5 (K : VK) (y1 y3 y4 y5 : Value) (w : World) : Prop := nav ann Try.prog 93 (fun c Q => vcCode ann Try.prog 93 c Q [(1, y1), (3, y3), (4, y4), (5, y5)] w) [1, 1, 1, 0, 1, 0, 0, 1, 1] code (top K)
attribute [irreducible] k5
noncomputable def k12 (K : VK) (y1 y3 y4 : Value) (w : World) : Prop := nav ann Try.prog 93 (fun c Q => vcCode ann Try.prog 93 c Q [(1, y1), (3, y3), (4, y4)] w) [1, 1, 1, 1, 1] code (top K)
attribute [irreducible] k12
noncomputable def l8 (K : VK) (y1 y3 y4 y6 : Value) (w : World) : Prop := nav ann Try.prog 93 (isLoop ann Try.prog 93 [(1, y1), (3, y3), (4, y4), (6, y6)] w) [1, 1, 1, 1, 0, 1, 0] code (top K)
attribute [irreducible] l8
noncomputable def k10 (K : VK) (y1 y3 y4 y6 : Value) (w : World) : Prop := nav ann Try.prog 93 (fun c Q => vcCode ann Try.prog 93 c Q [(1, y1), (3, y3), (4, y4), (6, y6)] w) [1, 1, 1, 1, 0, 1, 0, 0, 1] code (top K)
attribute [irreducible] k10
noncomputable def k9 (K : VK) (y1 y3 y4 y6 : Value) (w : World) : Prop := nav ann Try.prog 93 (fun c Q => vcCode ann Try.prog 93 c Q [(1, y1), (3, y3), (4, y4), (6, y6)] w) [1, 1, 1, 1, 0, 1, 0, 0, 1, 1] code (top K)
attribute [irreducible] k9
noncomputable def k25 (K : VK) (y4 : Value) (w : World) : Prop := nav ann Try.prog 93 (fun c Q => vcCode ann Try.prog 93 c Q [(4, y4)] w) [1, 1, 1, 1, 1, 1] code (top K)
attribute [irreducible] k25
noncomputable def l13 (K : VK) (y1 y3 y4 y7 : Value) (w : World) : Prop := nav ann Try.prog 93 (isLoop ann Try.prog 93 [(1, y1), (3, y3), (4, y4), (7, y7)] w) [1, 1, 1, 1, 1, 0, 1, 0] code (top K)
attribute [irreducible] l13
noncomputable def k15 (K : VK) (y1 y3 y4 y7 : Value) (w : World) : Prop := nav ann Try.prog 93 (fun c Q => vcCode ann Try.prog 93 c Q [(1, y1), (3, y3), (4, y4), (7, y7)] w) [1, 1, 1, 1, 1, 0, 1, 0, 0, 1] code (top K)
attribute [irreducible] k15
noncomputable def k14 (K : VK) (y1 y3 y4 y7 : Value) (w : World) : Prop := nav ann Try.prog 93 (fun c Q => vcCode ann Try.prog 93 c Q [(1, y1), (3, y3), (4, y4), (7, y7)] w) [1, 1, 1, 1, 1, 0, 1, 0, 0, 1, 1] code (top K)
attribute [irreducible] k14
noncomputable def l16 (K : VK) (y1 y3 y4 y7 y8 : Value) (w : World) : Prop := nav ann Try.prog 93 (isLoop ann Try.prog 93 [(1, y1), (3, y3), (4, y4), (7, y7), (8, y8)] w) [1, 1, 1, 1, 1, 0, 1, 0, 0, 1, 0, 0, 1, 0] code (top K)
attribute [irreducible] l16
noncomputable def k18 (K : VK) (y1 y3 y4 y7 y8 : Value) (w : World) : Prop := nav ann Try.prog 93 (fun c Q => vcCode ann Try.prog 93 c Q [(1, y1), (3, y3), (4, y4), (7, y7), (8, y8)] w) [1, 1, 1, 1, 1, 0, 1, 0, 0, 1, 0, 0, 1, 0, 0, 1] code (top K)
attribute [irreducible] k18
noncomputable def k17 (K : VK) (y1 y3 y4 y7 y8 : Value) (w : World) : Prop := nav ann Try.prog 93 (fun c Q => vcCode ann Try.prog 93 c Q [(1, y1), (3, y3), (4, y4), (7, y7), (8, y8)] w) [1, 1, 1, 1, 1, 0, 1, 0, 0, 1, 0, 0, 1, 0, 0, 1, 1] code (top K)
attribute [irreducible] k17
noncomputable def k19 (K : VK) (y1 y3 y4 y7 y8 : Value) (w : World) : Prop := nav ann Try.prog 93 (fun c Q => vcCode ann Try.prog 93 c Q [(1, y1), (3, y3), (4, y4), (7, y7), (8, y8)] w) [1, 1, 1, 1, 1, 0, 1, 0, 0, 1, 0, 0, 1, 0, 0, 1, 0, 0, 1] code (top K)
attribute [irreducible] k19
noncomputable def l20 (K : VK) (y1 y3 y4 y7 y8 y9 : Value) (w : World) : Prop := nav ann Try.prog 93 (isLoop ann Try.prog 93 [(1, y1), (3, y3), (4, y4), (7, y7), (8, y8), (9, y9)] w) [1, 1, 1, 1, 1, 0, 1, 0, 0, 1, 0, 0, 1, 0, 0, 1, 0, 0, 1, 1, 0] code (top K)
attribute [irreducible] l20
noncomputable def k22 (K : VK) (y1 y3 y4 y7 y8 y9 : Value) (w : World) : Prop := nav ann Try.prog 93 (fun c Q => vcCode ann Try.prog 93 c Q [(1, y1), (3, y3), (4, y4), (7, y7), (8, y8), (9, y9)] w) [1, 1, 1, 1, 1, 0, 1, 0, 0, 1, 0, 0, 1, 0, 0, 1, 0, 0, 1, 1, 0, 0, 1] code (top K)
attribute [irreducible] k22
noncomputable def k21 (K : VK) (y1 y3 y4 y7 y8 y9 : Value) (w : World) : Prop := nav ann Try.prog 93 (fun c Q => vcCode ann Try.prog 93 c Q [(1, y1), (3, y3), (4, y4), (7, y7), (8, y8), (9, y9)] w) [1, 1, 1, 1, 1, 0, 1, 0, 0, 1, 0, 0, 1, 0, 0, 1, 0, 0, 1, 1, 0, 0, 1, 1] code (top K)
attribute [irreducible] k21
end F29
theorem F29.k7.to {K : VK} {y1 y3 y4 : Value} {w : World} (h : (F29.l8 K y1 y3 y4 (.int .i64 0) w)) : F29.k7 K y1 y3 y4 w := Eq.mpr (by kernel_rfl) h
theorem F29.l4.to {K : VK} {y1 y3 y4 y5 : Value} {w : World} (h : (C.int .lss y5 y3 w fun x16_1 w1 =>
  C.ite x16_1 (F29.k6 K y1 y3 y4 y5 w1) (F29.k7 K y1 y3 y4 w1))) : F29.l4 K y1 y3 y4 y5 w := by unfold F29.l4; exact nav_round (Eq.mpr (by kernel_rfl) h)
theorem F29.k6.to {K : VK} {y1 y3 y4 y5 : Value} {w : World} (h : (C.run Try.prog (Instr.buildSlice 44 1 #[(0, (.int .i64 (-1)))]) w fun x20_1 w1 =>
  C.run Try.prog (Builtin.append_ #[44, 44] 44 #[y4, x20_1]) w1 fun x21_2 w2 =>
  F29.k5 K y1 y3 x21_2 y5 w2)) : F29.k6 K y1 y3 y4 y5 w := Eq.mpr (by kernel_rfl) h
theorem F29.k5.to {K : VK} {y1 y3 y4 y5 : Value} {w : World} (h : (C.int .add y5 (.int .i64 1) w fun x18_1 w1 =>
  F29.l4 K y1 y3 y4 x18_1 w1)) : F29.k5 K y1 y3 y4 y5 w := Eq.mpr (by kernel_rfl) h
theorem F29.k12.to {K : VK} {y1 y3 y4 : Value} {w : World} (h : (F29.l13 K y1 y3 y4 (.int .i64 0) w)) : F29.k12 K y1 y3 y4 w := Eq.mpr (by kernel_rfl) h
theorem F29.l8.to {K : VK} {y1 y3 y4 y6 : Value} {w : World} (h : (C.field 1 y1 w fun x23_1 w1 =>
  C.load1 x23_1 w1 fun x24_2 w2 =>
  C.len x24_2 w2 fun x25_3 w3 =>
  C.int .lss y6 x25_3 w3 fun x26_4 w4 =>
  C.ite x26_4 (F29.k10 K y1 y3 y4 y6 w4) (F29.k12 K y1 y3 y4 w4))) : F29.l8 K y1 y3 y4 y6 w := by unfold F29.l8; exact nav_round (Eq.mpr (by kernel_rfl) h)
theorem F29.k10.to {K : VK} {y1 y3 y4 y6 : Value} {w : World} (h : (C.draw w fun S w1 =>
  C.field 1 y1 w1 fun x30_2 w2 =>
  C.loadAS S 2 y1 w2 fun x29_3 w3 =>
  C.load1S S x30_2 w3 fun x31_4 w4 =>
  C.idx 1 x31_4 y6 w4 fun x33_5 w5 =>
  C.load1S S x33_5 w5 fun x34_6 w6 =>
  (C.call Try.prog 66 #[x29_3, x34_6] w6 fun x35_7 w7 =>
  (S w7 ∧
  C.ite x35_7 (C.field 1 y1 w7 fun x37_8 w8 =>
  C.load1 x37_8 w8 fun x38_9 w9 =>
  C.idx 1 x38_9 y6 w9 fun x40_10 w10 =>
  C.load1 x40_10 w10 fun x41_11 w11 =>
  C.idx 1 y4 x41_11 w11 fun x42_12 w12 =>
  C.store 1 x42_12 (.int .i64 0) w12 fun w13 =>
  F29.k9 K y1 y3 y4 y6 w13) (F29.k9 K y1 y3 y4 y6 w7))) ∧ True)) : F29.k10 K y1 y3 y4 y6 w := Eq.mpr (by kernel_rfl) h
theorem F29.k9.to {K : VK} {y1 y3 y4 y6 : Value} {w : World} (h : (C.int .add y6 (.int .i64 1) w fun x28_1 w1 =>
  F29.l8 K y1 y3 y4 x28_1 w1)) : F29.k9 K y1 y3 y4 y6 w := Eq.mpr (by kernel_rfl) h
theorem F29.k25.to {K : VK} {y4 : Value} {w : World} (h : (K y4 w)) : F29.k25 K y4 w := Eq.mpr (by kernel_rfl) h
theorem F29.l13.to {K : VK} {y1 y3 y4 y7 : Value} {w : World} (h : (C.int .lss y7 y3 w fun x45_1 w1 =>
  C.ite x45_1 (F29.k15 K y1 y3 y4 y7 w1) (F29.k25 K y4 w1))) : F29.l13 K y1 y3 y4 y7 w := by unfold F29.l13; exact nav_round (Eq.mpr (by kernel_rfl) h)
theorem F29.k15.to {K : VK} {y1 y3 y4 y7 : Value} {w : World} (h : (F29.l16 K y1 y3 y4 y7 (.int .i64 0) w)) : F29.k15 K y1 y3 y4 y7 w := Eq.mpr (by kernel_rfl) h
theorem F29.k14.to {K : VK} {y1 y3 y4 y7 : Value} {w : World} (h : (C.int .add y7 (.int .i64 1) w fun x47_1 w1 =>
  F29.l13 K y1 y3 y4 x47_1 w1)) : F29.k14 K y1 y3 y4 y7 w := Eq.mpr (by kernel_rfl) h
theorem F29.l16.to {K : VK} {y1 y3 y4 y7 y8 : Value} {w : World} (h : (C.int .lss y8 y3 w fun x50_1 w1 =>
  C.ite x50_1 (F29.k18 K y1 y3 y4 y7 y8 w1) (F29.k14 K y1 y3 y4 y7 w1))) : F29.l16 K y1 y3 y4 y7 y8 w := by unfold F29.l16; exact nav_round (Eq.mpr (by kernel_rfl) h)
theorem F29.k18.to {K : VK} {y1 y3 y4 y7 y8 : Value} {w : World} (h : (C.idx 1 y4 y8 w fun x55_1 w1 =>
  C.load1 x55_1 w1 fun x56_2 w2 =>
  C.int .neq x56_2 y7 w2 fun x58_3 w3 =>
  C.ite x58_3 (F29.k17 K y1 y3 y4 y7 y8 w3) (F29.k19 K y1 y3 y4 y7 y8 w3))) : F29.k18 K y1 y3 y4 y7 y8 w := Eq.mpr (by kernel_rfl) h
theorem F29.k17.to {K : VK} {y1 y3 y4 y7 y8 : Value} {w : World} (h : (C.int .add y8 (.int .i64 1) w fun x52_1 w1 =>
  F29.l16 K y1 y3 y4 y7 x52_1 w1)) : F29.k17 K y1 y3 y4 y7 y8 w := Eq.mpr (by kernel_rfl) h
theorem F29.k19.to {K : VK} {y1 y3 y4 y7 y8 : Value} {w : World} (h : (F29.l20 K y1 y3 y4 y7 y8 (.int .i64 0) w)) : F29.k19 K y1 y3 y4 y7 y8 w := Eq.mpr (by kernel_rfl) h
theorem F29.l20.to {K : VK} {y1 y3 y4 y7 y8 y9 : Value} {w : World} (h : (C.field 0 y1 w fun x60_1 w1 =>
  C.load1 x60_1 w1 fun x61_2 w2 =>
  C.idx 1 x61_2 y8 w2 fun x63_3 w3 =>
  C.load1 x63_3 w3 fun x64_4 w4 =>
  C.len x64_4 w4 fun x65_5 w5 =>
  C.int .lss y9 x65_5 w5 fun x66_6 w6 =>
  C.ite x66_6 (F29.k22 K y1 y3 y4 y7 y8 y9 w6) (F29.k17 K y1 y3 y4 y7 y8 w6))) : F29.l20 K y1 y3 y4 y7 y8 y9 w := by unfold F29.l20; exact nav_round (Eq.mpr (by kernel_rfl) h)
theorem F29.k22.to {K : VK} {y1 y3 y4 y7 y8 y9 : Value} {w : World} (h : (C.field 0 y1 w fun x69_1 w1 =>
  C.load1 x69_1 w1 fun x70_2 w2 =>
  C.idx 1 x70_2 y8 w2 fun x72_3 w3 =>
  C.load1 x72_3 w3 fun x73_4 w4 =>
  C.idx 1 x73_4 y9 w4 fun x75_5 w5 =>
  C.load1 x75_5 w5 fun x76_6 w6 =>
  C.loadA 2 y1 w6 fun x77_7 w7 =>
  C.call Try.prog 66 #[x77_7, x76_6] w7 fun x79_8 w8 =>
  C.guarded true x79_8 (fun K => K y4 w8) w8 fun x81_9 w9 =>
  C.guarded true x79_8 (fun K => K x76_6 w9) w9 fun x82_10 w10 =>
  C.guarded true x79_8 (fun K => C.idx 1 x81_9 x82_10 w10 K) w10 fun x83_11 w11 =>
  C.guarded true x79_8 (fun K => C.load1 x83_11 w11 K) w11 fun x84_12 w12 =>
  C.guarded true x79_8 (fun K => C.int .lss x84_12 (.int .i64 0) w12 K) w12 fun x85_13 w13 =>
  C.pick (some x79_8) (some x85_13) (some (.bool false)) w13 fun x86_14 w14 =>
  C.ite x86_14 (C.int .add y7 (.int .i64 1) w14 fun x90_15 w15 =>
  C.idx 1 y4 x76_6 w15 fun x91_16 w16 =>
  C.store 1 x91_16 x90_15 w16 fun w17 =>
  F29.k21 K y1 y3 y4 y7 y8 y9 w17) (F29.k21 K y1 y3 y4 y7 y8 y9 w14))) : F29.k22 K y1 y3 y4 y7 y8 y9 w := Eq.mpr (by kernel_rfl) h
theorem F29.k21.to {K : VK} {y1 y3 y4 y7 y8 y9 : Value} {w : World} (h : (C.int .add y9 (.int .i64 1) w fun x68_1 w1 =>
  F29.l20 K y1 y3 y4 y7 y8 x68_1 w1)) : F29.k21 K y1 y3 y4 y7 y8 y9 w := Eq.mpr (by kernel_rfl) h
theorem F29.sh {K : VK} {x0 : Value} {w : World} (h : (C.new (.cells (Value.cells x0) 52) w fun x1_1 w1 =>
  C.field 0 x1_1 w1 fun x11_2 w2 =>
  C.load1 x11_2 w2 fun x12_3 w3 =>
  C.len x12_3 w3 fun x13_4 w4 =>
  F29.l4 K x1_1 x13_4 (.slice none 0 0) (.int .i64 0) w4)) : C.call Try.prog 29 #[x0] w K := calls_of_vc (A := F29.ann) (args := [x0]) (Eq.mpr (by kernel_rfl) h)

/-! ### 30 scutage/scutagelaw36.plain (46) -/
namespace F30
def ann : Ann := ⟨[], [], [], [], none⟩
noncomputable def code : Code := match Try.f30.body with | some c => c | none => .skip
noncomputable def top (K : VK) : QE := retQ Try.prog Try.f30.results.toList K
end F30
theorem F30.sh {K : VK} {x0 : Value} {w : World} (h : (C.new (.cells (Value.cells x0) 46) w fun x1_1 w1 =>
  C.new (.cells #[.slice none 0 0, .slice none 0 0] 52) w1 fun x2_2 w2 =>
  C.field 0 x1_1 w2 fun x3_3 w3 =>
  C.load1 x3_3 w3 fun x4_4 w4 =>
  C.field 1 x1_1 w4 fun x5_5 w5 =>
  C.load1 x5_5 w5 fun x6_6 w6 =>
  C.run Try.prog (Instr.build 52 #[(0, x4_4), (1, x6_6)]) w6 fun x7_7 w7 =>
  C.store 2 x2_2 x7_7 w7 fun w8 =>
  C.loadA 2 x2_2 w8 fun r9 _ =>
  K r9 w8)) : C.call Try.prog 30 #[x0] w K := calls_of_vc (A := F30.ann) (args := [x0]) (Eq.mpr (by kernel_rfl) h)

/-! ### 62 scutage/scutageref33.Without (52, 3) -/
namespace F62
def ann : Ann := ⟨[(4, [1, 2, 4, 5, 6]), (5, [1, 2, 4, 5, 6]), (7, [1, 2, 4, 5]), (9, [1, 2, 4, 5, 7]), (10, [1, 2, 4, 5, 7]), (13, [1, 2, 4, 5, 7, 8, 9]), (14, [1, 2, 4, 5, 7, 8, 9]), (16, [1, 2, 4, 5, 7, 8]), (17, [4, 5])], [(3, [1, 2, 4, 5, 6]), (8, [1, 2, 4, 5, 7]), (12, [1, 2, 4, 5, 7, 8, 9])], [], [(6, (.take 0 (.take 2 (.take 4 (.take 3 (.take 5 (.take 6 (.go 1 (.go 7 (.go 8 (.take 9 (.go 10 .fin .fin)) .fin) .fin) (.go 7 (.go 1 (.go 8 (.take 9 (.go 10 .fin .fin)) .fin) .fin) .fin)))))))))], none⟩
noncomputable def code : Code := match Try.f62.body with | some c => c | none => .skip
noncomputable def top (K : VK) : QE := retQ Try.prog Try.f62.results.toList K
noncomputable def k7 (K : VK) (y1 y2 y4 y5 : Value) (w : World) : Prop := nav ann Try.prog 96 (fun c Q => vcCode ann Try.prog 96 c Q [(1, y1), (2, y2), (4, y4), (5, y5)] w) [1, 1, 1] code (top K)
attribute [irreducible] k7
noncomputable def l3 (K : VK) (y1 y2 y4 y5 y6 : Value) (w : World) : Prop := nav ann Try.prog 96 (isLoop ann Try.prog 96 [(1, y1), (2, y2), (4, y4), (5, y5), (6, y6)] w) [1, 1, 0, 1, 0] code (top K)
attribute [irreducible] l3
noncomputable def k5 (K : VK) (y1 y2 y4 y5 y6 : Value) (w : World) : Prop := nav ann Try.prog 96 (fun c Q => vcCode ann Try.prog 96 c Q [(1, y1), (2, y2), (4, y4), (5, y5), (6, y6)] w) [1, 1, 0, 1, 0, 0, 1] code (top K)
attribute [irreducible] k5
noncomputable def k4 (K : VK) (y1 y2 y4 y5 y6 : Value) (w : World) : Prop := nav ann Try.prog 96 (fun c Q => vcCode ann Try.prog 96 c Q [(1, y1), (2, y2), (4, y4), (5, y5), (6, y6)] w) [1, 1, 0, 1, 0, 0, 1, 1] code (top K)
attribute [irreducible] k4
noncomputable def k17 (K : VK) (y4 y5 : Value) (w : World) : Prop := nav ann Try.prog 96 (fun c Q => vcCode ann Try.prog 96 c Q [(4, y4), (5, y5)] w) [1, 1, 1, 1] code (top K)
attribute [irreducible] k17
noncomputable def l8 (K : VK) (y1 y2 y4 y5 y7 : Value) (w : World) : Prop := nav ann Try.prog 96 (isLoop ann Try.prog 96 [(1, y1), (2, y2), (4, y4), (5, y5), (7, y7)] w) [1, 1, 1, 0, 1, 0] code (top K)
attribute [irreducible] l8
noncomputable def k10 (K : VK) (y1 y2 y4 y5 y7 : Value) (w : World) : Prop := nav ann Try.prog 96 (fun c Q => vcCode ann Try.prog 96 c Q [(1, y1), (2, y2), (4, y4), (5, y5), (7, y7)] w) [1, 1, 1, 0, 1, 0, 0, 1] code (top K)
attribute [irreducible] k10
noncomputable def k9 (K : VK) (y1 y2 y4 y5 y7 : Value) (w : World) : Prop := nav ann Try.prog 96 (fun c Q => vcCode ann Try.prog 96 c Q [(1, y1), (2, y2), (4, y4), (5, y5), (7, y7)] w) [1, 1, 1, 0, 1, 0, 0, 1, 1] code (top K)
attribute [irreducible] k9
noncomputable def k16 (K : VK) (y1 y2 y4 y5 y7 y8 : Value) (w : World) : Prop := nav ann Try.prog 96 (fun c Q => vcCode ann Try.prog 96 c Q [(1, y1), (2, y2), (4, y4), (5, y5), (7, y7), (8, y8)] w) [1, 1, 1, 0, 1, 0, 0, 1, 0, 0, 1, 1] code (top K)
attribute [irreducible] k16
noncomputable def l12 (K : VK) (y1 y2 y4 y5 y7 y8 y9 : Value) (w : World) : Prop := nav ann Try.prog 96 (isLoop ann Try.prog 96 [(1, y1), (2, y2), (4, y4), (5, y5), (7, y7), (8, y8), (9, y9)] w) [1, 1, 1, 0, 1, 0, 0, 1, 0, 0, 1, 0, 1, 0] code (top K)
attribute [irreducible] l12
noncomputable def k14 (K : VK) (y1 y2 y4 y5 y7 y8 y9 : Value) (w : World) : Prop := nav ann Try.prog 96 (fun c Q => vcCode ann Try.prog 96 c Q [(1, y1), (2, y2), (4, y4), (5, y5), (7, y7), (8, y8), (9, y9)] w) [1, 1, 1, 0, 1, 0, 0, 1, 0, 0, 1, 0, 1, 0, 0, 1] code (top K)
attribute [irreducible] k14
noncomputable def k13 (K : VK) (y1 y2 y4 y5 y7 y8 y9 : Value) (w : World) : Prop := nav ann Try.prog 96 (fun c Q => vcCode ann Try.prog 96 c Q [(1, y1), (2, y2), (4, y4), (5, y5), (7, y7), (8, y8), (9, y9)] w) [1, 1, 1, 0, 1, 0, 0, 1, 0, 0, 1, 0, 1, 0, 0, 1, 1] code (top K)
attribute [irreducible] k13
end F62
theorem F62.k7.to {K : VK} {y1 y2 y4 y5 : Value} {w : World} (h : (F62.l8 K y1 y2 y4 y5 (.int .i64 0) w)) : F62.k7 K y1 y2 y4 y5 w := Eq.mpr (by kernel_rfl) h
theorem F62.l3.to {K : VK} {y1 y2 y4 y5 y6 : Value} {w : World} (h : (C.field 1 y2 w fun x11_1 w1 =>
  C.load1 x11_1 w1 fun x12_2 w2 =>
  C.len x12_2 w2 fun x13_3 w3 =>
  C.int .lss y6 x13_3 w3 fun x14_4 w4 =>
  C.ite x14_4 (F62.k5 K y1 y2 y4 y5 y6 w4) (F62.k7 K y1 y2 y4 y5 w4))) : F62.l3 K y1 y2 y4 y5 y6 w := by unfold F62.l3; exact nav_round (Eq.mpr (by kernel_rfl) h)
theorem F62.k5.to {K : VK} {y1 y2 y4 y5 y6 : Value} {w : World} (h : (C.field 1 y2 w fun x17_1 w1 =>
  C.load1 x17_1 w1 fun x18_2 w2 =>
  C.idx 1 x18_2 y6 w2 fun x20_3 w3 =>
  C.load1 x20_3 w3 fun x21_4 w4 =>
  C.int .neq x21_4 y1 w4 fun x23_5 w5 =>
  C.guarded false x23_5 (fun K => C.loadA 2 y2 w5 K) w5 fun x25_6 w6 =>
  C.guarded false x23_5 (fun K => K y1 w6) w6 fun x26_7 w7 =>
  C.guarded false x23_5 (fun K => C.call Try.prog 66 #[x25_6, x26_7] w7 K) w7 fun x27_8 w8 =>
  C.guarded false x23_5 (fun K => C.not x27_8 w8 K) w8 fun x28_9 w9 =>
  C.pick (some x23_5) (some (.bool true)) (some x28_9) w9 fun x29_10 w10 =>
  C.ite x29_10 (C.draw w10 fun S w11 =>
  C.field 1 y5 w11 fun x30_12 w12 =>
  C.field 1 y2 w12 fun x32_13 w13 =>
  C.load1S S x32_13 w13 fun x33_14 w14 =>
  C.idx 1 x33_14 y6 w14 fun x35_15 w15 =>
  C.load1S S x35_15 w15 fun x36_16 w16 =>
  (C.load1 x30_12 w16 fun x31_22 w22 =>
  (S w22 ∧
  (C.run Try.prog (Instr.buildSlice 44 1 #[(0, x36_16)]) w22 fun x37_23 w23 =>
  (S w23 ∧
  (C.run Try.prog (Builtin.append_ #[44, 44] 44 #[x31_22, x37_23]) w23 fun x38_24 w24 =>
  (S w24 ∧
  C.field 1 y5 w24 fun x39_25 w25 =>
  (C.store 1 x39_25 x38_24 w25 fun w26 =>
  (S w26 ∧
  F62.k4 K y1 y2 y4 y5 y6 w26)) ∧ True)) ∧ True)) ∧ True)) ∧ ((C.run Try.prog (Instr.buildSlice 44 1 #[(0, x36_16)]) w16 fun x37_17 w17 =>
  (S w17 ∧
  (C.load1 x30_12 w17 fun x31_18 w18 =>
  (S w18 ∧
  (C.run Try.prog (Builtin.append_ #[44, 44] 44 #[x31_18, x37_17]) w18 fun x38_19 w19 =>
  (S w19 ∧
  C.field 1 y5 w19 fun x39_20 w20 =>
  (C.store 1 x39_20 x38_19 w20 fun w21 =>
  (S w21 ∧
  F62.k4 K y1 y2 y4 y5 y6 w21)) ∧ True)) ∧ True)) ∧ True)) ∧ True)) (F62.k4 K y1 y2 y4 y5 y6 w10))) : F62.k5 K y1 y2 y4 y5 y6 w := Eq.mpr (by kernel_rfl) h
theorem F62.k4.to {K : VK} {y1 y2 y4 y5 y6 : Value} {w : World} (h : (C.int .add y6 (.int .i64 1) w fun x16_1 w1 =>
  F62.l3 K y1 y2 y4 y5 x16_1 w1)) : F62.k4 K y1 y2 y4 y5 y6 w := Eq.mpr (by kernel_rfl) h
theorem F62.k17.to {K : VK} {y4 y5 : Value} {w : World} (h : (C.loadA 2 y5 w fun x95_1 w1 =>
  C.store 2 y4 x95_1 w1 fun w2 =>
  C.loadA 2 y4 w2 fun r3 _ =>
  K r3 w2)) : F62.k17 K y4 y5 w := Eq.mpr (by kernel_rfl) h
theorem F62.l8.to {K : VK} {y1 y2 y4 y5 y7 : Value} {w : World} (h : (C.field 0 y2 w fun x41_1 w1 =>
  C.load1 x41_1 w1 fun x42_2 w2 =>
  C.len x42_2 w2 fun x43_3 w3 =>
  C.int .lss y7 x43_3 w3 fun x44_4 w4 =>
  C.ite x44_4 (F62.k10 K y1 y2 y4 y5 y7 w4) (F62.k17 K y4 y5 w4))) : F62.l8 K y1 y2 y4 y5 y7 w := by unfold F62.l8; exact nav_round (Eq.mpr (by kernel_rfl) h)
theorem F62.k10.to {K : VK} {y1 y2 y4 y5 y7 : Value} {w : World} (h : (F62.l12 K y1 y2 y4 y5 y7 (.slice none 0 0) (.int .i64 0) w)) : F62.k10 K y1 y2 y4 y5 y7 w := Eq.mpr (by kernel_rfl) h
theorem F62.k9.to {K : VK} {y1 y2 y4 y5 y7 : Value} {w : World} (h : (C.int .add y7 (.int .i64 1) w fun x46_1 w1 =>
  F62.l8 K y1 y2 y4 y5 x46_1 w1)) : F62.k9 K y1 y2 y4 y5 y7 w := Eq.mpr (by kernel_rfl) h
theorem F62.k16.to {K : VK} {y1 y2 y4 y5 y7 y8 : Value} {w : World} (h : (C.field 0 y5 w fun x89_1 w1 =>
  C.load1 x89_1 w1 fun x90_2 w2 =>
  C.run Try.prog (Instr.buildSlice 43 1 #[(0, y8)]) w2 fun x92_3 w3 =>
  C.run Try.prog (Builtin.append_ #[43, 43] 43 #[x90_2, x92_3]) w3 fun x93_4 w4 =>
  C.field 0 y5 w4 fun x94_5 w5 =>
  C.store 1 x94_5 x93_4 w5 fun w6 =>
  F62.k9 K y1 y2 y4 y5 y7 w6)) : F62.k16 K y1 y2 y4 y5 y7 y8 w := Eq.mpr (by kernel_rfl) h
theorem F62.l12.to {K : VK} {y1 y2 y4 y5 y7 y8 y9 : Value} {w : World} (h : (C.field 0 y2 w fun x48_1 w1 =>
  C.load1 x48_1 w1 fun x49_2 w2 =>
  C.idx 1 x49_2 y7 w2 fun x51_3 w3 =>
  C.load1 x51_3 w3 fun x52_4 w4 =>
  C.len x52_4 w4 fun x53_5 w5 =>
  C.int .lss y9 x53_5 w5 fun x54_6 w6 =>
  C.guarded true x54_6 (fun K => K y7 w6) w6 fun x56_7 w7 =>
  C.guarded true x54_6 (fun K => K y1 w7) w7 fun x57_8 w8 =>
  C.guarded true x54_6 (fun K => C.int .neq x56_7 x57_8 w8 K) w8 fun x58_9 w9 =>
  C.pick (some x54_6) (some x58_9) (some (.bool false)) w9 fun x59_10 w10 =>
  C.ite x59_10 (F62.k14 K y1 y2 y4 y5 y7 y8 y9 w10) (F62.k16 K y1 y2 y4 y5 y7 y8 w10))) : F62.l12 K y1 y2 y4 y5 y7 y8 y9 w := by unfold F62.l12; exact nav_round (Eq.mpr (by kernel_rfl) h)
theorem F62.k14.to {K : VK} {y1 y2 y4 y5 y7 y8 y9 : Value} {w : World} (h : (C.field 0 y2 w fun x62_1 w1 =>
  C.load1 x62_1 w1 fun x63_2 w2 =>
  C.idx 1 x63_2 y7 w2 fun x65_3 w3 =>
  C.load1 x65_3 w3 fun x66_4 w4 =>
  C.idx 1 x66_4 y9 w4 fun x68_5 w5 =>
  C.load1 x68_5 w5 fun x69_6 w6 =>
  C.int .neq x69_6 y1 w6 fun x71_7 w7 =>
  C.guarded false x71_7 (fun K => C.loadA 2 y2 w7 K) w7 fun x73_8 w8 =>
  C.guarded false x71_7 (fun K => K y1 w8) w8 fun x74_9 w9 =>
  C.guarded false x71_7 (fun K => C.call Try.prog 66 #[x73_8, x74_9] w9 K) w9 fun x75_10 w10 =>
  C.guarded false x71_7 (fun K => C.not x75_10 w10 K) w10 fun x76_11 w11 =>
  C.pick (some x71_7) (some (.bool true)) (some x76_11) w11 fun x77_12 w12 =>
  C.ite x77_12 (C.field 0 y2 w12 fun x79_13 w13 =>
  C.load1 x79_13 w13 fun x80_14 w14 =>
  C.idx 1 x80_14 y7 w14 fun x82_15 w15 =>
  C.load1 x82_15 w15 fun x83_16 w16 =>
  C.idx 1 x83_16 y9 w16 fun x85_17 w17 =>
  C.load1 x85_17 w17 fun x86_18 w18 =>
  C.run Try.prog (Instr.buildSlice 44 1 #[(0, x86_18)]) w18 fun x87_19 w19 =>
  C.run Try.prog (Builtin.append_ #[44, 44] 44 #[y8, x87_19]) w19 fun x88_20 w20 =>
  F62.k13 K y1 y2 y4 y5 y7 x88_20 y9 w20) (F62.k13 K y1 y2 y4 y5 y7 y8 y9 w12))) : F62.k14 K y1 y2 y4 y5 y7 y8 y9 w := Eq.mpr (by kernel_rfl) h
theorem F62.k13.to {K : VK} {y1 y2 y4 y5 y7 y8 y9 : Value} {w : World} (h : (C.int .add y9 (.int .i64 1) w fun x61_1 w1 =>
  F62.l12 K y1 y2 y4 y5 y7 y8 x61_1 w1)) : F62.k13 K y1 y2 y4 y5 y7 y8 y9 w := Eq.mpr (by kernel_rfl) h
theorem F62.sh {K : VK} {x0 x1 : Value} {w : World} (h : (C.new (.cells (Value.cells x0) 52) w fun x2_1 w1 =>
  C.new (.cells #[.slice none 0 0, .slice none 0 0] 52) w1 fun x4_2 w2 =>
  C.new (.cells #[.slice none 0 0, .slice none 0 0] 52) w2 fun x5_3 w3 =>
  F62.l3 K x1 x2_1 x4_2 x5_3 (.int .i64 0) w3)) : C.call Try.prog 62 #[x0, x1] w K := calls_of_vc (A := F62.ann) (args := [x0, x1]) (Eq.mpr (by kernel_rfl) h)

/-! ### 64 scutage/dom.held (46, 3) -/
namespace F64
def ann : Ann := ⟨[(3, [1, 2]), (4, [5, 6])], [], [], [(3, (.take 3 (.take 0 (.take 2 (.go 1 (.go 4 (.go 5 (.go 6 (.take 7 (.go 8 .fin .fin)) .fin) (.go 6 (.go 5 (.take 7 (.go 8 .fin .fin)) .fin) .fin)) (.go 6 (.go 4 (.go 5 (.take 7 (.go 8 .fin .fin)) .fin) .fin) .fin)) (.go 6 (.go 1 (.go 4 (.go 5 (.take 7 (.go 8 .fin .fin)) .fin) .fin) .fin) .fin))))))], none⟩
noncomputable def code : Code := match Try.f64.body with | some c => c | none => .skip
noncomputable def top (K : VK) : QE := retQ Try.prog Try.f64.results.toList K
noncomputable def k3 (K : VK) (y1 y2 : Value) (w : World) : Prop := nav ann Try.prog 25 (fun c Q => vcCode ann Try.prog 25 c Q [(1, y1), (2, y2)] w) [1, 1] code (top K)
attribute [irreducible] k3
noncomputable def k4 (K : VK) (y5 y6 : Value) (w : World) : Prop := nav ann Try.prog 25 (fun c Q => vcCode ann Try.prog 25 c Q [(5, y5), (6, y6)] w) [1, 1, 1] code (top K)
attribute [irreducible] k4
end F64
theorem F64.k3.to {K : VK} {y1 y2 : Value} {w : World} (h : (C.draw w fun S w1 =>
  C.loadAS S 2 y2 w1 fun x16_2 w2 =>
  C.loadAS S 2 y2 w2 fun x18_3 w3 =>
  (C.call Try.prog 36 #[x16_2] w3 fun x17_9 w9 =>
  (S w9 ∧
  (C.call Try.prog 67 #[x18_3, y1] w9 fun x20_14 w14 =>
  (S w14 ∧
  (C.call Try.prog 36 #[x20_14] w14 fun x21_18 w18 =>
  (S w18 ∧
  (C.new (.cells #[.slice none 0 0] 44) w18 fun x6_19 w19 =>
  (S w19 ∧
  (C.store 1 x6_19 x21_18 w19 fun w20 =>
  (S w20 ∧
  F64.k4 K x17_9 x6_19 w20)) ∧ True)) ∧ True)) ∧ ((C.new (.cells #[.slice none 0 0] 44) w14 fun x6_15 w15 =>
  (S w15 ∧
  (C.call Try.prog 36 #[x20_14] w15 fun x21_16 w16 =>
  (S w16 ∧
  (C.store 1 x6_15 x21_16 w16 fun w17 =>
  (S w17 ∧
  F64.k4 K x17_9 x6_15 w17)) ∧ True)) ∧ True)) ∧ True))) ∧ ((C.new (.cells #[.slice none 0 0] 44) w9 fun x6_10 w10 =>
  (S w10 ∧
  (C.call Try.prog 67 #[x18_3, y1] w10 fun x20_11 w11 =>
  (S w11 ∧
  (C.call Try.prog 36 #[x20_11] w11 fun x21_12 w12 =>
  (S w12 ∧
  (C.store 1 x6_10 x21_12 w12 fun w13 =>
  (S w13 ∧
  F64.k4 K x17_9 x6_10 w13)) ∧ True)) ∧ True)) ∧ True)) ∧ True))) ∧ ((C.new (.cells #[.slice none 0 0] 44) w3 fun x6_4 w4 =>
  (S w4 ∧
  (C.call Try.prog 36 #[x16_2] w4 fun x17_5 w5 =>
  (S w5 ∧
  (C.call Try.prog 67 #[x18_3, y1] w5 fun x20_6 w6 =>
  (S w6 ∧
  (C.call Try.prog 36 #[x20_6] w6 fun x21_7 w7 =>
  (S w7 ∧
  (C.store 1 x6_4 x21_7 w7 fun w8 =>
  (S w8 ∧
  F64.k4 K x17_5 x6_4 w8)) ∧ True)) ∧ True)) ∧ True)) ∧ True)) ∧ True))) : F64.k3 K y1 y2 w := Eq.mpr (by kernel_rfl) h
theorem F64.k4.to {K : VK} {y5 y6 : Value} {w : World} (h : (C.call Try.prog 79 #[y5, (.func (.func 93) #[] #[y6])] w fun x24_1 w1 =>
  K x24_1 w1)) : F64.k4 K y5 y6 w := Eq.mpr (by kernel_rfl) h
theorem F64.sh {K : VK} {x0 x1 : Value} {w : World} (h : (C.new (.cells (Value.cells x0) 46) w fun x2_1 w1 =>
  C.int .lss x1 (.int .i64 0) w1 fun x8_2 w2 =>
  C.guarded false x8_2 (fun K => K x1 w2) w2 fun x10_3 w3 =>
  C.guarded false x8_2 (fun K => C.field 0 x2_1 w3 K) w3 fun x11_4 w4 =>
  C.guarded false x8_2 (fun K => C.load1 x11_4 w4 K) w4 fun x12_5 w5 =>
  C.guarded false x8_2 (fun K => C.len x12_5 w5 K) w5 fun x13_6 w6 =>
  C.guarded false x8_2 (fun K => C.int .geq x10_3 x13_6 w6 K) w6 fun x14_7 w7 =>
  C.pick (some x8_2) (some (.bool true)) (some x14_7) w7 fun x15_8 w8 =>
  C.ite x15_8 (K (.slice none 0 0) w8) (F64.k3 K x1 x2_1 w8))) : C.call Try.prog 64 #[x0, x1] w K := calls_of_vc (A := F64.ann) (args := [x0, x1]) (Eq.mpr (by kernel_rfl) h)

/-! ### 93 scutage/dom.held$1 (3) -/
namespace F93
def ann : Ann := ⟨[], [], [], [], none⟩
noncomputable def code : Code := match Try.f93.body with | some c => c | none => .skip
noncomputable def top (K : VK) : QE := retQ Try.prog Try.f93.results.toList K
end F93
theorem F93.sh {K : VK} {x0 x1 : Value} {w : World} (h : (C.load1 x1 w fun x4_1 w1 =>
  C.call Try.prog 63 #[x4_1, x0] w1 fun x6_2 w2 =>
  K x6_2 w2)) : C.call Try.prog 93 #[x0, x1] w K := calls_of_vc (A := F93.ann) (args := [x0, x1]) (Eq.mpr (by kernel_rfl) h)

/-! ### 94 scutage/reach.Without$1 (44) -/
namespace F94
def ann : Ann := ⟨[], [], [], [], none⟩
noncomputable def code : Code := match Try.f94.body with | some c => c | none => .skip
noncomputable def top (K : VK) : QE := retQ Try.prog Try.f94.results.toList K
end F94
theorem F94.sh {K : VK} {x0 x1 x2 : Value} {w : World} (h : (C.call Try.prog 95 #[x0] w fun x6_1 w1 =>
  C.call Try.prog 79 #[x6_1, (.func (.func 96) #[] #[x1, x2])] w1 fun x8_2 w2 =>
  K x8_2 w2)) : C.call Try.prog 94 #[x0, x1, x2] w K := calls_of_vc (A := F94.ann) (args := [x0, x1, x2]) (Eq.mpr (by kernel_rfl) h)

/-! ### 96 scutage/reach.Without$1$1 (3) -/
namespace F96
def ann : Ann := ⟨[], [], [], [], none⟩
noncomputable def code : Code := match Try.f96.body with | some c => c | none => .skip
noncomputable def top (K : VK) : QE := retQ Try.prog Try.f96.results.toList K
end F96
theorem F96.sh {K : VK} {x0 x1 x2 : Value} {w : World} (h : (C.load1 x1 w fun x6_1 w1 =>
  C.int .eql x0 x6_1 w1 fun x7_2 w2 =>
  C.guarded true x7_2 (fun K => C.loadA 2 x2 w2 K) w2 fun x9_3 w3 =>
  C.guarded true x7_2 (fun K => C.load1 x1 w3 K) w3 fun x10_4 w4 =>
  C.guarded true x7_2 (fun K => C.call Try.prog 70 #[x9_3, x10_4] w4 K) w4 fun x11_5 w5 =>
  C.pick (some x7_2) (some x11_5) (some (.bool false)) w5 fun x12_6 w6 =>
  K x12_6 w6)) : C.call Try.prog 96 #[x0, x1, x2] w K := calls_of_vc (A := F96.ann) (args := [x0, x1, x2]) (Eq.mpr (by kernel_rfl) h)

/-! ### 38 scutage/reach.Path (46, 3) -/
namespace F38
def ann : Ann := ⟨[(4, [1, 2, 5]), (7, [1, 5, 6, 7]), (9, [1, 5, 6, 7, 35, 36, 37]), (12, [1, 5, 6, 7, 35, 36, 37]), (13, [1, 5, 6, 7]), (14, [7])], [(6, [1, 5, 6, 7]), (8, [1, 5, 6, 7, 35, 36, 37])], [], [(10, (.take 0 (.take 1 (.take 2 (.take 4 (.take 5 (.take 6 (.take 3 (.take 7 (.take 8 (.take 9 .fin)))))))))))], none⟩
noncomputable def code : Code := match Try.f38.body with | some c => c | none => .skip
noncomputable def top (K : VK) : QE := retQ Try.prog Try.f38.results.toList K
noncomputable def k4 (K : VK) (y1 y2 y5 : Value) (w : World) : Prop := nav ann Try.prog 60 (fun c Q => vcCode ann Try.prog 60 c Q [(1, y1), (2, y2), (5, y5)] w) [1, 1, 1] code (top K)
attribute [irreducible] k4
noncomputable def k14 (K : VK) (y7 : Value) (w : World) : Prop := nav ann Try.prog 60 (fun c Q => vcCode ann Try.prog 60 c Q [(7, y7)] w) [1, 1, 1, 1, 1, 1] code (top K)
attribute [irreducible] k14
noncomputable def l6 (K : VK) (y1 y5 y6 y7 : Value) (w : World) : Prop := nav ann Try.prog 60 (isLoop ann Try.prog 60 [(1, y1), (5, y5), (6, y6), (7, y7)] w) [1, 1, 1, 1, 1, 0, 0] code (top K)
attribute [irreducible] l6
noncomputable def k7 (K : VK) (y1 y5 y6 y7 : Value) (w : World) : Prop := nav ann Try.prog 60 (fun c Q => vcCode ann Try.prog 60 c Q [(1, y1), (5, y5), (6, y6), (7, y7)] w) [1, 1, 1, 1, 1, 0, 0, 0, 1] code (top K)
attribute [irreducible] k7
noncomputable def k13 (K : VK) (y1 y5 y6 y7 : Value) (w : World) : Prop := nav ann Try.prog 60 (fun c Q => vcCode ann Try.prog 60 c Q [(1, y1), (5, y5), (6, y6), (7, y7)] w) [1, 1, 1, 1, 1, 0, 0, 0, 1, 0, 1] code (top K)
attribute [irreducible] k13
noncomputable def l8 (K : VK) (y1 y5 y6 y7 y35 y36 y37 : Value) (w : World) : Prop := nav ann Try.prog 60 (isLoop ann Try.prog 60 [(1, y1), (5, y5), (6, y6), (7, y7), (35, y35), (36, y36), (37, y37)] w) [1, 1, 1, 1, 1, 0, 0, 0, 1, 0, 0, 1, 0] code (top K)
attribute [irreducible] l8
noncomputable def k9 (K : VK) (y1 y5 y6 y7 y35 y36 y37 : Value) (w : World) : Prop := nav ann Try.prog 60 (fun c Q => vcCode ann Try.prog 60 c Q [(1, y1), (5, y5), (6, y6), (7, y7), (35, y35), (36, y36), (37, y37)] w) [1, 1, 1, 1, 1, 0, 0, 0, 1, 0, 0, 1, 0, 0, 1, 1] code (top K)
attribute [irreducible] k9
noncomputable def k12 (K : VK) (y1 y5 y6 y7 y35 y36 y37 : Value) (w : World) : Prop := nav ann Try.prog 60 (fun c Q => vcCode ann Try.prog 60 c Q [(1, y1), (5, y5), (6, y6), (7, y7), (35, y35), (36, y36), (37, y37)] w) [1, 1, 1, 1, 1, 0, 0, 0, 1, 0, 0, 1, 0, 0, 1, 1, 1] code (top K)
attribute [irreducible] k12
end F38
theorem F38.k4.to {K : VK} {y1 y2 y5 : Value} {w : World} (h : (C.loadA 2 y2 w fun x23_1 w1 =>
  C.call Try.prog 68 #[x23_1] w1 fun x24_2 w2 =>
  C.run Try.prog (Instr.buildSlice 44 1 #[(0, y1)]) w2 fun x26_3 w3 =>
  F38.l6 K y1 y5 x24_2 x26_3 w3)) : F38.k4 K y1 y2 y5 w := Eq.mpr (by kernel_rfl) h
theorem F38.k14.to {K : VK} {y7 : Value} {w : World} (h : (C.call Try.prog 74 #[y7] w fun x58_1 w1 =>
  K y7 w1)) : F38.k14 K y7 w := Eq.mpr (by kernel_rfl) h
theorem F38.l6.to {K : VK} {y1 y5 y6 y7 : Value} {w : World} (h : (C.idx 1 y5 y1 w fun x29_1 w1 =>
  C.load1 x29_1 w1 fun x30_2 w2 =>
  C.int .gtr x30_2 (.int .i64 0) w2 fun x31_3 w3 =>
  C.ite x31_3 (F38.k7 K y1 y5 y6 y7 w3) (F38.k14 K y7 w3))) : F38.l6 K y1 y5 y6 y7 w := by unfold F38.l6; exact nav_round (Eq.mpr (by kernel_rfl) h)
theorem F38.k7.to {K : VK} {y1 y5 y6 y7 : Value} {w : World} (h : (C.idx 1 y6 y1 w fun x34_1 w1 =>
  C.load1 x34_1 w1 fun x35_2 w2 =>
  C.len x35_2 w2 fun x36_3 w3 =>
  F38.l8 K y1 y5 y6 y7 x35_2 x36_3 (.int .i64 0) w3)) : F38.k7 K y1 y5 y6 y7 w := Eq.mpr (by kernel_rfl) h
theorem F38.k13.to {K : VK} {y1 y5 y6 y7 : Value} {w : World} (h : (C.run Try.prog (Instr.buildSlice 44 1 #[(0, y1)]) w fun x55_1 w1 =>
  C.run Try.prog (Builtin.append_ #[44, 44] 44 #[y7, x55_1]) w1 fun x56_2 w2 =>
  F38.l6 K y1 y5 y6 x56_2 w2)) : F38.k13 K y1 y5 y6 y7 w := Eq.mpr (by kernel_rfl) h
theorem F38.l8.to {K : VK} {y1 y5 y6 y7 y35 y36 y37 : Value} {w : World} (h : (C.int .lss y37 y36 w fun x38_1 w1 =>
  C.ite x38_1 (F38.k9 K y1 y5 y6 y7 y35 y36 y37 w1) (F38.k13 K y1 y5 y6 y7 w1))) : F38.l8 K y1 y5 y6 y7 y35 y36 y37 w := by unfold F38.l8; exact nav_round (Eq.mpr (by kernel_rfl) h)
theorem F38.k9.to {K : VK} {y1 y5 y6 y7 y35 y36 y37 : Value} {w : World} (h : (C.idx 1 y35 y37 w fun x39_1 w1 =>
  C.load1 x39_1 w1 fun x40_2 w2 =>
  C.draw w2 fun S w3 =>
  C.idx 1 y5 x40_2 w3 fun x43_4 w4 =>
  C.idx 1 y5 y1 w4 fun x47_5 w5 =>
  C.load1S S x43_4 w5 fun x44_6 w6 =>
  C.load1S S x47_5 w6 fun x48_7 w7 =>
  C.int .sub x48_7 (.int .i64 1) w7 fun x49_8 w8 =>
  C.int .eql x44_6 x49_8 w8 fun x50_9 w9 =>
  C.ite x50_9 (F38.k13 K x40_2 y5 y6 y7 w9) (F38.k12 K y1 y5 y6 y7 y35 y36 y37 w9))) : F38.k9 K y1 y5 y6 y7 y35 y36 y37 w := Eq.mpr (by kernel_rfl) h
theorem F38.k12.to {K : VK} {y1 y5 y6 y7 y35 y36 y37 : Value} {w : World} (h : (C.int .add y37 (.int .i64 1) w fun x52_1 w1 =>
  F38.l8 K y1 y5 y6 y7 y35 y36 x52_1 w1)) : F38.k12 K y1 y5 y6 y7 y35 y36 y37 w := Eq.mpr (by kernel_rfl) h
theorem F38.sh {K : VK} {x0 x1 : Value} {w : World} (h : (C.new (.cells (Value.cells x0) 46) w fun x2_1 w1 =>
  C.loadA 2 x2_1 w1 fun x10_2 w2 =>
  C.call Try.prog 35 #[x10_2] w2 fun x11_3 w3 =>
  C.loadA 2 x2_1 w3 fun x12_4 w4 =>
  C.call Try.prog 70 #[x12_4, x1] w4 fun x14_5 w5 =>
  C.not x14_5 w5 fun x15_6 w6 =>
  C.guarded false x15_6 (fun K => K x11_3 w6) w6 fun x17_7 w7 =>
  C.guarded false x15_6 (fun K => K x1 w7) w7 fun x18_8 w8 =>
  C.guarded false x15_6 (fun K => C.idx 1 x17_7 x18_8 w8 K) w8 fun x19_9 w9 =>
  C.guarded false x15_6 (fun K => C.load1 x19_9 w9 K) w9 fun x20_10 w10 =>
  C.guarded false x15_6 (fun K => C.int .eql x20_10 (.int .i64 (-1)) w10 K) w10 fun x21_11 w11 =>
  C.pick (some x15_6) (some (.bool true)) (some x21_11) w11 fun x22_12 w12 =>
  C.ite x22_12 (K (.slice none 0 0) w12) (F38.k4 K x1 x2_1 x11_3 w12))) : C.call Try.prog 38 #[x0, x1] w K := calls_of_vc (A := F38.ann) (args := [x0, x1]) (Eq.mpr (by kernel_rfl) h)

/-! ### 39 scutage/scutageref33.Leads (52, 3, 3) -/
namespace F39
def ann : Ann := ⟨[(3, [1, 2, 3, 7]), (4, [1, 2, 3, 7]), (6, [])], [(2, [1, 2, 3, 7])], [], [], none⟩
noncomputable def code : Code := match Try.f39.body with | some c => c | none => .skip
noncomputable def top (K : VK) : QE := retQ Try.prog Try.f39.results.toList K
noncomputable def k6 (K : VK) (w : World) : Prop := nav ann Try.prog 28 (fun c Q => vcCode ann Try.prog 28 c Q [] w) [1, 1] code (top K)
attribute [irreducible] k6
noncomputable def l2 (K : VK) (y1 y2 y3 y7 : Value) (w : World) : Prop := nav ann Try.prog 28 (isLoop ann Try.prog 28 [(1, y1), (2, y2), (3, y3), (7, y7)] w) [1, 0, 1, 0] code (top K)
attribute [irreducible] l2
noncomputable def k4 (K : VK) (y1 y2 y3 y7 : Value) (w : World) : Prop := nav ann Try.prog 28 (fun c Q => vcCode ann Try.prog 28 c Q [(1, y1), (2, y2), (3, y3), (7, y7)] w) [1, 0, 1, 0, 0, 1] code (top K)
attribute [irreducible] k4
noncomputable def k3 (K : VK) (y1 y2 y3 y7 : Value) (w : World) : Prop := nav ann Try.prog 28 (fun c Q => vcCode ann Try.prog 28 c Q [(1, y1), (2, y2), (3, y3), (7, y7)] w) [1, 0, 1, 0, 0, 1, 1] code (top K)
attribute [irreducible] k3
end F39
theorem F39.k6.to {K : VK} {w : World} (h : (K (.bool false) w)) : F39.k6 K w := Eq.mpr (by kernel_rfl) h
theorem F39.l2.to {K : VK} {y1 y2 y3 y7 : Value} {w : World} (h : (C.field 0 y3 w fun x9_1 w1 =>
  C.load1 x9_1 w1 fun x10_2 w2 =>
  C.idx 1 x10_2 y1 w2 fun x12_3 w3 =>
  C.load1 x12_3 w3 fun x13_4 w4 =>
  C.len x13_4 w4 fun x14_5 w5 =>
  C.int .lss y7 x14_5 w5 fun x15_6 w6 =>
  C.ite x15_6 (F39.k4 K y1 y2 y3 y7 w6) (F39.k6 K w6))) : F39.l2 K y1 y2 y3 y7 w := by unfold F39.l2; exact nav_round (Eq.mpr (by kernel_rfl) h)
theorem F39.k4.to {K : VK} {y1 y2 y3 y7 : Value} {w : World} (h : (C.field 0 y3 w fun x18_1 w1 =>
  C.load1 x18_1 w1 fun x19_2 w2 =>
  C.idx 1 x19_2 y1 w2 fun x21_3 w3 =>
  C.load1 x21_3 w3 fun x22_4 w4 =>
  C.idx 1 x22_4 y7 w4 fun x24_5 w5 =>
  C.load1 x24_5 w5 fun x25_6 w6 =>
  C.int .eql x25_6 y2 w6 fun x27_7 w7 =>
  C.ite x27_7 (K (.bool true) w7) (F39.k3 K y1 y2 y3 y7 w7))) : F39.k4 K y1 y2 y3 y7 w := Eq.mpr (by kernel_rfl) h
theorem F39.k3.to {K : VK} {y1 y2 y3 y7 : Value} {w : World} (h : (C.int .add y7 (.int .i64 1) w fun x17_1 w1 =>
  F39.l2 K y1 y2 y3 x17_1 w1)) : F39.k3 K y1 y2 y3 y7 w := Eq.mpr (by kernel_rfl) h
theorem F39.sh {K : VK} {x0 x1 x2 : Value} {w : World} (h : (C.new (.cells (Value.cells x0) 52) w fun x3_1 w1 =>
  F39.l2 K x1 x2 x3_1 (.int .i64 0) w1)) : C.call Try.prog 39 #[x0, x1, x2] w K := calls_of_vc (A := F39.ann) (args := [x0, x1, x2]) (Eq.mpr (by kernel_rfl) h)

/-! ### 10 scutage/scutagelaw33.ReachPaths (46, 3) -/
namespace F10
def ann : Ann := ⟨[(3, [1, 2]), (7, [1, 2, 5, 6]), (9, [1, 2, 5, 6]), (11, [1, 2, 5, 6, 7]), (12, [1, 2, 5, 6, 7]), (14, [1, 2, 5, 6, 7]), (16, [1, 2, 5, 6, 7, 8]), (17, [1, 2, 5, 6, 7, 8]), (19, [])], [(10, [1, 2, 5, 6, 7]), (15, [1, 2, 5, 6, 7, 8])], [], [(4, (.take 4 (.take 0 (.take 3 (.go 1 (.go 2 (.go 5 (.take 6 (.take 7 .fin)) .fin) .fin) .fin))))), (12, (.take 0 (.take 1 (.take 2 (.take 3 (.take 4 (.take 5 (.take 6 (.take 7 (.take 8 (.take 10 (.take 11 (.take 9 (.take 12 (.take 13 (.take 14 (.take 15 (.take 16 (.take 17 (.take 18 (.take 22 (.take 19 (.take 20 (.take 21 (.take 23 (.take 24 (.take 25 (.take 28 (.take 29 (.take 30 (.take 32 (.take 33 (.take 34 (.take 35 (.take 26 (.take 31 (.take 36 (.go 27 (.go 37 (.take 38 (.take 39 .fin)) .fin) .fin)))))))))))))))))))))))))))))))))))))), (17, (.take 0 (.take 1 (.take 2 (.take 4 (.take 3 (.take 5 (.take 6 (.take 9 (.take 10 (.take 11 (.take 12 (.take 13 (.take 7 (.take 14 (.go 8 (.go 15 (.take 16 .fin) .fin) .fin))))))))))))))))], none⟩
noncomputable def code : Code := match Try.f10.body with | some c => c | none => .skip
noncomputable def top (K : VK) : QE := retQ Try.prog Try.f10.results.toList K
noncomputable def k3 (K : VK) (y1 y2 : Value) (w : World) : Prop := nav ann Try.prog 129 (fun c Q => vcCode ann Try.prog 129 c Q [(1, y1), (2, y2)] w) [1, 1] code (top K)
attribute [irreducible] k3
noncomputable def k7 (K : VK) (y1 y2 y5 y6 : Value) (w : World) : Prop := nav ann Try.prog 129 (fun c Q => vcCode ann Try.prog 129 c Q [(1, y1), (2, y2), (5, y5), (6, y6)] w) [1, 1, 1, 1, 1] code (top K)
attribute [irreducible] k7
noncomputable def k9 (K : VK) (y1 y2 y5 y6 : Value) (w : World) : Prop := nav ann Try.prog 129 (fun c Q => vcCode ann Try.prog 129 c Q [(1, y1), (2, y2), (5, y5), (6, y6)] w) [1, 1, 1, 1, 1, 1] code (top K)
attribute [irreducible] k9
noncomputable def k19 (K : VK) (w : World) : Prop := nav ann Try.prog 129 (fun c Q => vcCode ann Try.prog 129 c Q [] w) [1, 1, 1, 1, 1, 1, 1] code (top K)
attribute [irreducible] k19
noncomputable def l10 (K : VK) (y1 y2 y5 y6 y7 : Value) (w : World) : Prop := nav ann Try.prog 129 (isLoop ann Try.prog 129 [(1, y1), (2, y2), (5, y5), (6, y6), (7, y7)] w) [1, 1, 1, 1, 1, 1, 0, 1, 0] code (top K)
attribute [irreducible] l10
noncomputable def k12 (K : VK) (y1 y2 y5 y6 y7 : Value) (w : World) : Prop := nav ann Try.prog 129 (fun c Q => vcCode ann Try.prog 129 c Q [(1, y1), (2, y2), (5, y5), (6, y6), (7, y7)] w) [1, 1, 1, 1, 1, 1, 0, 1, 0, 0, 1] code (top K)
attribute [irreducible] k12
noncomputable def k11 (K : VK) (y1 y2 y5 y6 y7 : Value) (w : World) : Prop := nav ann Try.prog 129 (fun c Q => vcCode ann Try.prog 129 c Q [(1, y1), (2, y2), (5, y5), (6, y6), (7, y7)] w) [1, 1, 1, 1, 1, 1, 0, 1, 0, 0, 1, 1] code (top K)
attribute [irreducible] k11
noncomputable def k14 (K : VK) (y1 y2 y5 y6 y7 : Value) (w : World) : Prop := nav ann Try.prog 129 (fun c Q => vcCode ann Try.prog 129 c Q [(1, y1), (2, y2), (5, y5), (6, y6), (7, y7)] w) [1, 1, 1, 1, 1, 1, 0, 1, 0, 0, 1, 0, 0, 1] code (top K)
attribute [irreducible] k14
noncomputable def l15 (K : VK) (y1 y2 y5 y6 y7 y8 : Value) (w : World) : Prop := nav ann Try.prog 129 (isLoop ann Try.prog 129 [(1, y1), (2, y2), (5, y5), (6, y6), (7, y7), (8, y8)] w) [1, 1, 1, 1, 1, 1, 0, 1, 0, 0, 1, 0, 0, 1, 1, 0] code (top K)
attribute [irreducible] l15
noncomputable def k17 (K : VK) (y1 y2 y5 y6 y7 y8 : Value) (w : World) : Prop := nav ann Try.prog 129 (fun c Q => vcCode ann Try.prog 129 c Q [(1, y1), (2, y2), (5, y5), (6, y6), (7, y7), (8, y8)] w) [1, 1, 1, 1, 1, 1, 0, 1, 0, 0, 1, 0, 0, 1, 1, 0, 0, 1] code (top K)
attribute [irreducible] k17
noncomputable def k16 (K : VK) (y1 y2 y5 y6 y7 y8 : Value) (w : World) : Prop := nav ann Try.prog 129 (fun c Q => vcCode ann Try.prog 129 c Q [(1, y1), (2, y2), (5, y5), (6, y6), (7, y7), (8, y8)] w) [1, 1, 1, 1, 1, 1, 0, 1, 0, 0, 1, 0, 0, 1, 1, 0, 0, 1, 1] code (top K)
attribute [irreducible] k16
end F10
theorem F10.k3.to {K : VK} {y1 y2 : Value} {w : World} (h : (C.loadA 2 y2 w fun x11_1 w1 =>
  C.call Try.prog 32 #[x11_1] w1 fun x12_2 w2 =>
  C.store 2 y2 x12_2 w2 fun w3 =>
  C.draw w3 fun S w4 =>
  C.loadAS S 2 y2 w4 fun x13_5 w5 =>
  C.loadAS S 2 y2 w5 fun x16_6 w6 =>
  (C.call Try.prog 33 #[x13_5] w6 fun x14_7 w7 =>
  (S w7 ∧
  (C.call Try.prog 29 #[x14_7] w7 fun x15_8 w8 =>
  (S w8 ∧
  (C.call Try.prog 38 #[x16_6, y1] w8 fun x18_9 w9 =>
  (S w9 ∧
  C.int .lss y1 (.int .i64 0) w9 fun x20_10 w10 =>
  C.guarded false x20_10 (fun K => K y1 w10) w10 fun x22_11 w11 =>
  C.guarded false x20_10 (fun K => K x15_8 w11) w11 fun x23_12 w12 =>
  C.guarded false x20_10 (fun K => C.len x23_12 w12 K) w12 fun x24_13 w13 =>
  C.guarded false x20_10 (fun K => C.int .geq x22_11 x24_13 w13 K) w13 fun x25_14 w14 =>
  C.pick (some x20_10) (some (.bool true)) (some x25_14) w14 fun x26_15 w15 =>
  C.guarded false x26_15 (fun K => K x15_8 w15) w15 fun x28_16 w16 =>
  C.guarded false x26_15 (fun K => K y1 w16) w16 fun x29_17 w17 =>
  C.guarded false x26_15 (fun K => C.idx 1 x28_16 x29_17 w17 K) w17 fun x30_18 w18 =>
  C.guarded false x26_15 (fun K => C.load1 x30_18 w18 K) w18 fun x31_19 w19 =>
  C.guarded false x26_15 (fun K => C.int .lss x31_19 (.int .i64 0) w19 K) w19 fun x32_20 w20 =>
  C.pick (some x26_15) (some (.bool true)) (some x32_20) w20 fun x33_21 w21 =>
  C.ite x33_21 (C.len x18_9 w21 fun x35_22 w22 =>
  C.int .eql x35_22 (.int .i64 0) w22 fun x36_23 w23 =>
  K x36_23 w23) (F10.k7 K y1 y2 x15_8 x18_9 w21))) ∧ True)) ∧ True)) ∧ True)) : F10.k3 K y1 y2 w := Eq.mpr (by kernel_rfl) h
theorem F10.k7.to {K : VK} {y1 y2 y5 y6 : Value} {w : World} (h : (C.len y6 w fun x38_1 w1 =>
  C.idx 1 y5 y1 w1 fun x41_2 w2 =>
  C.load1 x41_2 w2 fun x42_3 w3 =>
  C.int .add x42_3 (.int .i64 1) w3 fun x43_4 w4 =>
  C.int .neq x38_1 x43_4 w4 fun x44_5 w5 =>
  C.guarded false x44_5 (fun K => K y6 w5) w5 fun x46_6 w6 =>
  C.guarded false x44_5 (fun K => K y5 w6) w6 fun x47_7 w7 =>
  C.guarded false x44_5 (fun K => K y1 w7) w7 fun x48_8 w8 =>
  C.guarded false x44_5 (fun K => C.idx 1 x47_7 x48_8 w8 K) w8 fun x49_9 w9 =>
  C.guarded false x44_5 (fun K => C.load1 x49_9 w9 K) w9 fun x50_10 w10 =>
  C.guarded false x44_5 (fun K => C.idx 1 x46_6 x50_10 w10 K) w10 fun x51_11 w11 =>
  C.guarded false x44_5 (fun K => C.load1 x51_11 w11 K) w11 fun x52_12 w12 =>
  C.guarded false x44_5 (fun K => K y1 w12) w12 fun x53_13 w13 =>
  C.guarded false x44_5 (fun K => C.int .neq x52_12 x53_13 w13 K) w13 fun x54_14 w14 =>
  C.pick (some x44_5) (some (.bool true)) (some x54_14) w14 fun x55_15 w15 =>
  C.ite x55_15 (K (.bool false) w15) (F10.k9 K y1 y2 y5 y6 w15))) : F10.k7 K y1 y2 y5 y6 w := Eq.mpr (by kernel_rfl) h
theorem F10.k9.to {K : VK} {y1 y2 y5 y6 : Value} {w : World} (h : (F10.l10 K y1 y2 y5 y6 (.int .i64 0) w)) : F10.k9 K y1 y2 y5 y6 w := Eq.mpr (by kernel_rfl) h
theorem F10.k19.to {K : VK} {w : World} (h : (K (.bool true) w)) : F10.k19 K w := Eq.mpr (by kernel_rfl) h
theorem F10.l10.to {K : VK} {y1 y2 y5 y6 y7 : Value} {w : World} (h : (C.idx 1 y5 y1 w fun x59_1 w1 =>
  C.load1 x59_1 w1 fun x60_2 w2 =>
  C.int .lss y7 x60_2 w2 fun x61_3 w3 =>
  C.ite x61_3 (F10.k12 K y1 y2 y5 y6 y7 w3) (F10.k19 K w3))) : F10.l10 K y1 y2 y5 y6 y7 w := by unfold F10.l10; exact nav_round (Eq.mpr (by kernel_rfl) h)
theorem F10.k12.to {K : VK} {y1 y2 y5 y6 y7 : Value} {w : World} (h : (C.draw w fun S w1 =>
  C.idx 1 y6 y7 w1 fun x66_2 w2 =>
  C.load1S S x66_2 w2 fun x67_3 w3 =>
  C.int .lss x67_3 (.int .i64 0) w3 fun x68_4 w4 =>
  C.guarded false x68_4 (fun K => K y6 w4) w4 fun x70_5 w5 =>
  C.guarded false x68_4 (fun K => K y7 w5) w5 fun x71_6 w6 =>
  C.guarded false x68_4 (fun K => C.idx 1 x70_5 x71_6 w6 K) w6 fun x72_7 w7 =>
  C.guarded false x68_4 (fun K => K y5 w7) w7 fun x74_8 w8 =>
  C.guarded false x68_4 (fun K => C.len x74_8 w8 K) w8 fun x75_9 w9 =>
  C.guarded false x68_4 (fun K => C.load1S S x72_7 w9 K) w9 fun x73_10 w10 =>
  C.guarded false x68_4 (fun K => C.int .geq x73_10 x75_9 w10 K) w10 fun x76_11 w11 =>
  C.pick (some x68_4) (some (.bool true)) (some x76_11) w11 fun x77_12 w12 =>
  C.guarded false x77_12 (fun K => K y5 w12) w12 fun x79_13 w13 =>
  C.guarded false x77_12 (fun K => K y6 w13) w13 fun x80_14 w14 =>
  C.guarded false x77_12 (fun K => K y7 w14) w14 fun x81_15 w15 =>
  C.guarded false x77_12 (fun K => C.idx 1 x80_14 x81_15 w15 K) w15 fun x82_16 w16 =>
  C.guarded false x77_12 (fun K => K y7 w16) w16 fun x86_17 w17 =>
  C.guarded false x77_12 (fun K => C.load1S S x82_16 w17 K) w17 fun x83_18 w18 =>
  C.guarded false x77_12 (fun K => C.idx 1 x79_13 x83_18 w18 K) w18 fun x84_19 w19 =>
  C.guarded false x77_12 (fun K => C.load1S S x84_19 w19 K) w19 fun x85_20 w20 =>
  C.guarded false x77_12 (fun K => C.int .neq x85_20 x86_17 w20 K) w20 fun x87_21 w21 =>
  C.pick (some x77_12) (some (.bool true)) (some x87_21) w21 fun x88_22 w22 =>
  C.guarded false x88_22 (fun K => K y6 w22) w22 fun x92_23 w23 =>
  C.guarded false x88_22 (fun K => K y7 w23) w23 fun x93_24 w24 =>
  C.guarded false x88_22 (fun K => C.idx 1 x92_23 x93_24 w24 K) w24 fun x94_25 w25 =>
  C.guarded false x88_22 (fun K => K y6 w25) w25 fun x96_26 w26 =>
  C.guarded false x88_22 (fun K => K y7 w26) w26 fun x97_27 w27 =>
  C.guarded false x88_22 (fun K => C.int .add x97_27 (.int .i64 1) w27 K) w27 fun x98_28 w28 =>
  C.guarded false x88_22 (fun K => C.idx 1 x96_26 x98_28 w28 K) w28 fun x99_29 w29 =>
  C.guarded false x88_22 (fun K => C.loadAS S 2 y2 w29 K) w29 fun x90_30 w30 =>
  C.guarded false x88_22 (fun K => C.load1S S x94_25 w30 K) w30 fun x95_31 w31 =>
  C.guarded false x88_22 (fun K => C.load1S S x99_29 w31 K) w31 fun x100_32 w32 =>
  (C.guarded false x88_22 (fun K => C.call Try.prog 33 #[x90_30] w32 K) w32 fun x91_33 w33 =>
  (S w33 ∧
  (C.guarded false x88_22 (fun K => C.call Try.prog 39 #[x91_33, x95_31, x100_32] w33 K) w33 fun x101_34 w34 =>
  (S w34 ∧
  C.guarded false x88_22 (fun K => C.not x101_34 w34 K) w34 fun x102_35 w35 =>
  C.pick (some x88_22) (some (.bool true)) (some x102_35) w35 fun x103_36 w36 =>
  C.ite x103_36 (K (.bool false) w36) (F10.k14 K y1 y2 y5 y6 y7 w36))) ∧ True)) ∧ True)) : F10.k12 K y1 y2 y5 y6 y7 w := Eq.mpr (by kernel_rfl) h
theorem F10.k11.to {K : VK} {y1 y2 y5 y6 y7 : Value} {w : World} (h : (C.int .add y7 (.int .i64 1) w fun x63_1 w1 =>
  F10.l10 K y1 y2 y5 y6 x63_1 w1)) : F10.k11 K y1 y2 y5 y6 y7 w := Eq.mpr (by kernel_rfl) h
theorem F10.k14.to {K : VK} {y1 y2 y5 y6 y7 : Value} {w : World} (h : (F10.l15 K y1 y2 y5 y6 y7 (.int .i64 0) w)) : F10.k14 K y1 y2 y5 y6 y7 w := Eq.mpr (by kernel_rfl) h
theorem F10.l15.to {K : VK} {y1 y2 y5 y6 y7 y8 : Value} {w : World} (h : (C.idx 1 y6 y7 w fun x107_1 w1 =>
  C.load1 x107_1 w1 fun x108_2 w2 =>
  C.int .lss y8 x108_2 w2 fun x109_3 w3 =>
  C.ite x109_3 (F10.k17 K y1 y2 y5 y6 y7 y8 w3) (F10.k11 K y1 y2 y5 y6 y7 w3))) : F10.l15 K y1 y2 y5 y6 y7 y8 w := by unfold F10.l15; exact nav_round (Eq.mpr (by kernel_rfl) h)
theorem F10.k17.to {K : VK} {y1 y2 y5 y6 y7 y8 : Value} {w : World} (h : (C.draw w fun S w1 =>
  C.idx 1 y5 y8 w1 fun x114_2 w2 =>
  C.load1S S x114_2 w2 fun x115_3 w3 =>
  C.int .eql x115_3 y7 w3 fun x117_4 w4 =>
  C.guarded true x117_4 (fun K => K y8 w4) w4 fun x121_5 w5 =>
  C.guarded true x117_4 (fun K => K y6 w5) w5 fun x122_6 w6 =>
  C.guarded true x117_4 (fun K => K y7 w6) w6 fun x123_7 w7 =>
  C.guarded true x117_4 (fun K => C.int .add x123_7 (.int .i64 1) w7 K) w7 fun x124_8 w8 =>
  C.guarded true x117_4 (fun K => C.idx 1 x122_6 x124_8 w8 K) w8 fun x125_9 w9 =>
  C.guarded true x117_4 (fun K => C.loadAS S 2 y2 w9 K) w9 fun x119_10 w10 =>
  C.guarded true x117_4 (fun K => C.load1S S x125_9 w10 K) w10 fun x126_11 w11 =>
  (C.guarded true x117_4 (fun K => C.call Try.prog 33 #[x119_10] w11 K) w11 fun x120_12 w12 =>
  (S w12 ∧
  (C.guarded true x117_4 (fun K => C.call Try.prog 39 #[x120_12, x121_5, x126_11] w12 K) w12 fun x127_13 w13 =>
  (S w13 ∧
  C.pick (some x117_4) (some x127_13) (some (.bool false)) w13 fun x128_14 w14 =>
  C.ite x128_14 (K (.bool false) w14) (F10.k16 K y1 y2 y5 y6 y7 y8 w14))) ∧ True)) ∧ True)) : F10.k17 K y1 y2 y5 y6 y7 y8 w := Eq.mpr (by kernel_rfl) h
theorem F10.k16.to {K : VK} {y1 y2 y5 y6 y7 y8 : Value} {w : World} (h : (C.int .add y8 (.int .i64 1) w fun x111_1 w1 =>
  F10.l15 K y1 y2 y5 y6 y7 x111_1 w1)) : F10.k16 K y1 y2 y5 y6 y7 y8 w := Eq.mpr (by kernel_rfl) h
theorem F10.sh {K : VK} {x0 x1 : Value} {w : World} (h : (C.new (.cells (Value.cells x0) 46) w fun x2_1 w1 =>
  C.call Try.prog 31 #[] w1 fun x9_2 w2 =>
  C.not x9_2 w2 fun x10_3 w3 =>
  C.ite x10_3 (K (.bool false) w3) (F10.k3 K x1 x2_1 w3))) : C.call Try.prog 10 #[x0, x1] w K := calls_of_vc (A := F10.ann) (args := [x0, x1]) (Eq.mpr (by kernel_rfl) h)

end Go.Proofs.YtfhgjncbhjjbfaaV
