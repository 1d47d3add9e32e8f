/- What the bodies of these functions ask, as plain statements. Written by gen.py (own work) for the seat Ytfjilngljnlkjaa. -/
import Derived.Test.YtfjilngljnlkjaaVc3
import Derived.Test.YtfjilngljnlkjaaProg
namespace Go.Proofs.YtfjilngljnlkjaaV
open Go Go.Proofs
set_option linter.unusedVariables false
set_option maxRecDepth 100000

/-! ### 36 scutage/scutageref03.Read (2) -/
namespace F36
def ann : Ann := ⟨[(3, [0, 2]), (6, [0, 2]), (7, [0, 2]), (9, [0, 2])], [], [], [], none⟩
noncomputable def code : Code := match Try.f36.body with | some c => c | none => .skip
noncomputable def top (K : VK) : QE := retQ Try.prog Try.f36.results.toList K
noncomputable def k3 (K : VK) (y0 y2 : Value) (w : World) : Prop := nav ann Try.prog 32 (fun c Q => vcCode ann Try.prog 32 c Q [(0, y0), (2, y2)] w) [1, 1] code (top K)
attribute [irreducible] k3
noncomputable def k7 (K : VK) (y0 y2 : Value) (w : World) : Prop := nav ann Try.prog 32 (fun c Q => vcCode ann Try.prog 32 c Q [(0, y0), (2, y2)] w) [1, 1, 1] code (top K)
attribute [irreducible] k7
noncomputable def k6 (K : VK) (y0 y2 : Value) (w : World) : Prop := nav ann Try.prog 32 (fun c Q => vcCode ann Try.prog 32 c Q [(0, y0), (2, y2)] w) [1, 1, 0, 1, 0, 1] code (top K)
attribute [irreducible] k6
noncomputable def k9 (K : VK) (y0 y2 : Value) (w : World) : Prop := nav ann Try.prog 32 (fun c Q => vcCode ann Try.prog 32 c Q [(0, y0), (2, y2)] w) [1, 1, 1, 1] code (top K)
attribute [irreducible] k9
end F36
theorem F36.k3.to {K : VK} {y0 y2 : Value} {w : World} (h : (C.bin Try.prog .rem 2 (.tmp 7) (.const (.int .i64 2)) y0 (.int .i64 2) w fun x8_1 w1 =>
  C.int .eql x8_1 (.int .i64 0) w1 fun x9_2 w2 =>
  C.ite x9_2 (C.int .lss y0 (.int .i64 2) w2 fun x11_3 w3 =>
  C.guarded false x11_3 (fun K => K y0 w3) w3 fun x13_4 w4 =>
  C.guarded false x11_3 (fun K => C.int .gtr x13_4 (.int .i64 4096) w4 K) w4 fun x14_5 w5 =>
  C.pick (some x11_3) (some (.bool true)) (some x14_5) w5 fun x15_6 w6 =>
  C.ite x15_6 (C.run Try.prog (Instr.build 75 #[]) w6 fun x16_7 w7 =>
  C.store 2 y2 x16_7 w7 fun w8 =>
  C.loadA 2 y2 w8 fun r9 _ =>
  K (.tuple #[r9, (.bool false)]) w8) (F36.k6 K y0 y2 w6)) (F36.k7 K y0 y2 w2))) : F36.k3 K y0 y2 w := Eq.mpr (by kernel_rfl) h
theorem F36.k7.to {K : VK} {y0 y2 : Value} {w : World} (h : (C.int .lss y0 (.int .i64 (-2199023255551)) w fun x22_1 w1 =>
  C.guarded false x22_1 (fun K => K y0 w1) w1 fun x24_2 w2 =>
  C.guarded false x22_1 (fun K => C.int .gtr x24_2 (.int .i64 2199023255551) w2 K) w2 fun x25_3 w3 =>
  C.pick (some x22_1) (some (.bool true)) (some x25_3) w3 fun x26_4 w4 =>
  C.ite x26_4 (C.run Try.prog (Instr.build 75 #[]) w4 fun x27_5 w5 =>
  C.store 2 y2 x27_5 w5 fun w6 =>
  C.loadA 2 y2 w6 fun r7 _ =>
  K (.tuple #[r7, (.bool false)]) w6) (F36.k9 K y0 y2 w4))) : F36.k7 K y0 y2 w := Eq.mpr (by kernel_rfl) h
theorem F36.k6.to {K : VK} {y0 y2 : Value} {w : World} (h : (C.int .sub y0 (.int .i64 2) w fun x18_1 w1 =>
  C.bin Try.prog .quo 2 (.tmp 18) (.const (.int .i64 2)) x18_1 (.int .i64 2) w1 fun x19_2 w2 =>
  C.run Try.prog (Instr.build 75 #[(0, (.int .i64 2)), (1, x19_2)]) w2 fun x20_3 w3 =>
  C.store 2 y2 x20_3 w3 fun w4 =>
  C.loadA 2 y2 w4 fun r5 _ =>
  K (.tuple #[r5, (.bool true)]) w4)) : F36.k6 K y0 y2 w := Eq.mpr (by kernel_rfl) h
theorem F36.k9.to {K : VK} {y0 y2 : Value} {w : World} (h : (C.int .sub y0 (.int .i64 1) w fun x29_1 w1 =>
  C.bin Try.prog .quo 2 (.tmp 29) (.const (.int .i64 2)) x29_1 (.int .i64 2) w1 fun x30_2 w2 =>
  C.run Try.prog (Instr.build 75 #[(0, (.int .i64 1)), (1, x30_2)]) w2 fun x31_3 w3 =>
  C.store 2 y2 x31_3 w3 fun w4 =>
  C.loadA 2 y2 w4 fun r5 _ =>
  K (.tuple #[r5, (.bool true)]) w4)) : F36.k9 K y0 y2 w := Eq.mpr (by kernel_rfl) h
theorem F36.sh {K : VK} {x0 : Value} {w : World} (h : (C.new (.cells #[.int .i64 0, .int .i64 0] 75) w fun x2_1 w1 =>
  C.int .eql x0 (.int .i64 0) w1 fun x5_2 w2 =>
  C.ite x5_2 (C.run Try.prog (Instr.build 75 #[]) w2 fun x6_3 w3 =>
  C.store 2 x2_1 x6_3 w3 fun w4 =>
  C.loadA 2 x2_1 w4 fun r5 _ =>
  K (.tuple #[r5, (.bool true)]) w4) (F36.k3 K x0 x2_1 w2))) : C.call Try.prog 36 #[x0] w K := calls_of_vc (A := F36.ann) (args := [x0]) (Eq.mpr (by kernel_rfl) h)

/-! ### 61 scutage/scutageref03.Put (75) -/
namespace F61
def ann : Ann := ⟨[(3, [1])], [], [], [], none⟩
noncomputable def code : Code := match Try.f61.body with | some c => c | none => .skip
noncomputable def top (K : VK) : QE := retQ Try.prog Try.f61.results.toList K
noncomputable def k3 (K : VK) (y1 : Value) (w : World) : Prop := nav ann Try.prog 12 (fun c Q => vcCode ann Try.prog 12 c Q [(1, y1)] w) [1, 1] code (top K)
attribute [irreducible] k3
end F61
theorem F61.k3.to {K : VK} {y1 : Value} {w : World} (h : (C.field 1 y1 w fun x6_1 w1 =>
  C.load1 x6_1 w1 fun x7_2 w2 =>
  C.int .mul (.int .i64 2) x7_2 w2 fun x8_3 w3 =>
  C.field 0 y1 w3 fun x9_4 w4 =>
  C.load1 x9_4 w4 fun x10_5 w5 =>
  C.int .add x8_3 x10_5 w5 fun x11_6 w6 =>
  K x11_6 w6)) : F61.k3 K y1 w := Eq.mpr (by kernel_rfl) h
theorem F61.sh {K : VK} {x0 : Value} {w : World} (h : (C.new (.cells (Value.cells x0) 75) w fun x1_1 w1 =>
  C.field 0 x1_1 w1 fun x3_2 w2 =>
  C.load1 x3_2 w2 fun x4_3 w3 =>
  C.int .eql x4_3 (.int .i64 0) w3 fun x5_4 w4 =>
  C.ite x5_4 (K (.int .i64 0) w4) (F61.k3 K x1_1 w4))) : C.call Try.prog 61 #[x0] w K := calls_of_vc (A := F61.ann) (args := [x0]) (Eq.mpr (by kernel_rfl) h)

/-! ### 63 scutage/word.Address (2) -/
namespace F63
def ann : Ann := ⟨[(4, [4])], [], [], [], none⟩
noncomputable def code : Code := match Try.f63.body with | some c => c | none => .skip
noncomputable def top (K : VK) : QE := retQ Try.prog Try.f63.results.toList K
noncomputable def k4 (K : VK) (y4 : Value) (w : World) : Prop := nav ann Try.prog 20 (fun c Q => vcCode ann Try.prog 20 c Q [(4, y4)] w) [1, 1, 1] code (top K)
attribute [irreducible] k4
end F63
theorem F63.k4.to {K : VK} {y4 : Value} {w : World} (h : (C.field 1 y4 w fun x18_1 w1 =>
  C.load1 x18_1 w1 fun x19_2 w2 =>
  K (.tuple #[x19_2, (.bool true)]) w2)) : F63.k4 K y4 w := Eq.mpr (by kernel_rfl) h
theorem F63.sh {K : VK} {x0 : Value} {w : World} (h : (C.call Try.prog 71 #[x0] w fun x8_1 w1 =>
  C.ext 0 x8_1 w1 fun x9_2 w2 =>
  C.ext 1 x8_1 w2 fun x10_3 w3 =>
  C.new (.cells #[.int .i64 0, .int .i64 0] 75) w3 fun x4_4 w4 =>
  C.store 2 x4_4 x9_2 w4 fun w5 =>
  C.not x10_3 w5 fun x12_6 w6 =>
  C.guarded false x12_6 (fun K => C.field 0 x4_4 w6 K) w6 fun x14_7 w7 =>
  C.guarded false x12_6 (fun K => C.load1 x14_7 w7 K) w7 fun x15_8 w8 =>
  C.guarded false x12_6 (fun K => C.int .neq x15_8 (.int .i64 2) w8 K) w8 fun x16_9 w9 =>
  C.pick (some x12_6) (some (.bool true)) (some x16_9) w9 fun x17_10 w10 =>
  C.ite x17_10 (K (.tuple #[(.int .i64 0), (.bool false)]) w10) (F63.k4 K x4_4 w10))) : C.call Try.prog 63 #[x0] w K := calls_of_vc (A := F63.ann) (args := [x0]) (Eq.mpr (by kernel_rfl) h)

/-! ### 66 scutage/word.Put (75) -/
namespace F66
def ann : Ann := ⟨[(3, [1]), (6, [1, 4, 9]), (7, [1]), (8, [1, 4]), (9, [4])], [], [], [], none⟩
noncomputable def code : Code := match Try.f66.body with | some c => c | none => .skip
noncomputable def top (K : VK) : QE := retQ Try.prog Try.f66.results.toList K
noncomputable def k3 (K : VK) (y1 : Value) (w : World) : Prop := nav ann Try.prog 21 (fun c Q => vcCode ann Try.prog 21 c Q [(1, y1)] w) [1, 1] code (top K)
attribute [irreducible] k3
noncomputable def k9 (K : VK) (y4 : Value) (w : World) : Prop := nav ann Try.prog 21 (fun c Q => vcCode ann Try.prog 21 c Q [(4, y4)] w) [1, 1, 1, 1] code (top K)
attribute [irreducible] k9
noncomputable def k8 (K : VK) (y1 y4 : Value) (w : World) : Prop := nav ann Try.prog 21 (fun c Q => vcCode ann Try.prog 21 c Q [(1, y1), (4, y4)] w) [1, 1, 1, 0, 1, 0, 1] code (top K)
attribute [irreducible] k8
noncomputable def k7 (K : VK) (y1 : Value) (w : World) : Prop := nav ann Try.prog 21 (fun c Q => vcCode ann Try.prog 21 c Q [(1, y1)] w) [1, 1, 1, 0, 1, 0, 0, 0, 1] code (top K)
attribute [irreducible] k7
noncomputable def k6 (K : VK) (y1 y4 y9 : Value) (w : World) : Prop := nav ann Try.prog 21 (fun c Q => vcCode ann Try.prog 21 c Q [(1, y1), (4, y4), (9, y9)] w) [1, 1, 1, 0, 1, 0, 0, 0, 0, 0, 0, 1] code (top K)
attribute [irreducible] k6
end F66
theorem F66.k3.to {K : VK} {y1 : Value} {w : World} (h : (C.field 0 y1 w fun x8_1 w1 =>
  C.load1 x8_1 w1 fun x9_2 w2 =>
  C.int .eql x9_2 (.int .i64 2) w2 fun x11_3 w3 =>
  C.ite x11_3 (F66.k7 K y1 w3) (F66.k6 K y1 (.int .i64 0) x9_2 w3))) : F66.k3 K y1 w := Eq.mpr (by kernel_rfl) h
theorem F66.k9.to {K : VK} {y4 : Value} {w : World} (h : (K (.tuple #[y4, (.bool true)]) w)) : F66.k9 K y4 w := Eq.mpr (by kernel_rfl) h
theorem F66.k8.to {K : VK} {y1 y4 : Value} {w : World} (h : (C.field 1 y1 w fun x15_1 w1 =>
  C.load1 x15_1 w1 fun x16_2 w2 =>
  C.int .mul (.int .i64 2) x16_2 w2 fun x17_3 w3 =>
  C.int .add x17_3 (.int .i64 1) w3 fun x18_4 w4 =>
  C.int .add y4 x18_4 w4 fun x19_5 w5 =>
  F66.k9 K x19_5 w5)) : F66.k8 K y1 y4 w := Eq.mpr (by kernel_rfl) h
theorem F66.k7.to {K : VK} {y1 : Value} {w : World} (h : (F66.k8 K y1 (.int .i64 1) w)) : F66.k7 K y1 w := Eq.mpr (by kernel_rfl) h
theorem F66.k6.to {K : VK} {y1 y4 y9 : Value} {w : World} (h : (C.int .eql y9 (.int .i64 1) w fun x13_1 w1 =>
  C.ite x13_1 (F66.k8 K y1 y4 w1) (F66.k9 K y4 w1))) : F66.k6 K y1 y4 y9 w := Eq.mpr (by kernel_rfl) h
theorem F66.sh {K : VK} {x0 : Value} {w : World} (h : (C.new (.cells (Value.cells x0) 75) w fun x1_1 w1 =>
  C.loadA 2 x1_1 w1 fun x5_2 w2 =>
  C.call Try.prog 85 #[x5_2] w2 fun x6_3 w3 =>
  C.int .neq x6_3 (.int .i64 0) w3 fun x7_4 w4 =>
  C.ite x7_4 (K (.tuple #[(.int .i64 0), (.bool false)]) w4) (F66.k3 K x1_1 w4))) : C.call Try.prog 66 #[x0] w K := calls_of_vc (A := F66.ann) (args := [x0]) (Eq.mpr (by kernel_rfl) h)

/-! ### 67 scutage/word.Reference (3) -/
namespace F67
def ann : Ann := ⟨[], [], [], [], none⟩
noncomputable def code : Code := match Try.f67.body with | some c => c | none => .skip
noncomputable def top (K : VK) : QE := retQ Try.prog Try.f67.results.toList K
end F67
theorem F67.sh {K : VK} {x0 : Value} {w : World} (h : (C.new (.cells #[.int .i64 0, .int .i64 0] 75) w fun x2_1 w1 =>
  C.run Try.prog (Instr.build 75 #[(0, (.int .i64 2)), (1, x0)]) w1 fun x4_2 w2 =>
  C.call Try.prog 86 #[x4_2] w2 fun x5_3 w3 =>
  C.store 2 x2_1 x5_3 w3 fun w4 =>
  C.loadA 2 x2_1 w4 fun r5 _ =>
  K r5 w4)) : C.call Try.prog 67 #[x0] w K := calls_of_vc (A := F67.ann) (args := [x0]) (Eq.mpr (by kernel_rfl) h)

/-! ### 71 scutage/word.Read (2) -/
namespace F71
def ann : Ann := ⟨[(6, [2, 4]), (8, [2, 4])], [], [], [], none⟩
noncomputable def code : Code := match Try.f71.body with | some c => c | none => .skip
noncomputable def top (K : VK) : QE := retQ Try.prog Try.f71.results.toList K
noncomputable def k6 (K : VK) (y2 y4 : Value) (w : World) : Prop := nav ann Try.prog 24 (fun c Q => vcCode ann Try.prog 24 c Q [(2, y2), (4, y4)] w) [1, 1, 1] code (top K)
attribute [irreducible] k6
noncomputable def k8 (K : VK) (y2 y4 : Value) (w : World) : Prop := nav ann Try.prog 24 (fun c Q => vcCode ann Try.prog 24 c Q [(2, y2), (4, y4)] w) [1, 1, 1, 1] code (top K)
attribute [irreducible] k8
end F71
theorem F71.k6.to {K : VK} {y2 y4 : Value} {w : World} (h : (C.loadA 2 y4 w fun x19_1 w1 =>
  C.call Try.prog 85 #[x19_1] w1 fun x20_2 w2 =>
  C.int .neq x20_2 (.int .i64 0) w2 fun x21_3 w3 =>
  C.ite x21_3 (C.run Try.prog (Instr.build 75 #[]) w3 fun x22_4 w4 =>
  C.store 2 y2 x22_4 w4 fun w5 =>
  C.loadA 2 y2 w5 fun r6 _ =>
  K (.tuple #[r6, (.bool false)]) w5) (F71.k8 K y2 y4 w3))) : F71.k6 K y2 y4 w := Eq.mpr (by kernel_rfl) h
theorem F71.k8.to {K : VK} {y2 y4 : Value} {w : World} (h : (C.loadA 2 y4 w fun x23_1 w1 =>
  C.store 2 y2 x23_1 w1 fun w2 =>
  C.loadA 2 y2 w2 fun r3 _ =>
  K (.tuple #[r3, (.bool true)]) w2)) : F71.k8 K y2 y4 w := Eq.mpr (by kernel_rfl) h
theorem F71.sh {K : VK} {x0 : Value} {w : World} (h : (C.new (.cells #[.int .i64 0, .int .i64 0] 75) w fun x2_1 w1 =>
  C.new (.cells #[.int .i64 0, .int .i64 0] 75) w1 fun x4_2 w2 =>
  C.bin Try.prog .and 2 (.tmp 6) (.const (.int .i64 1)) x0 (.int .i64 1) w2 fun x7_3 w3 =>
  C.int .eql x7_3 (.int .i64 1) w3 fun x8_4 w4 =>
  C.ite x8_4 (C.bin Try.prog .shr 2 (.tmp 9) (.const (.int .u64 1)) x0 (.int .u64 1) w4 fun x10_5 w5 =>
  C.run Try.prog (Instr.build 75 #[(0, (.int .i64 1)), (1, x10_5)]) w5 fun x11_6 w6 =>
  C.store 2 x4_2 x11_6 w6 fun w7 =>
  F71.k6 K x2_1 x4_2 w7) (C.int .neq x0 (.int .i64 0) w4 fun x14_8 w8 =>
  C.ite x14_8 (C.bin Try.prog .quo 2 (.tmp 15) (.const (.int .i64 2)) x0 (.int .i64 2) w8 fun x16_9 w9 =>
  C.int .sub x16_9 (.int .i64 1) w9 fun x17_10 w10 =>
  C.run Try.prog (Instr.build 75 #[(0, (.int .i64 2)), (1, x17_10)]) w10 fun x18_11 w11 =>
  C.store 2 x4_2 x18_11 w11 fun w12 =>
  F71.k6 K x2_1 x4_2 w12) (F71.k6 K x2_1 x4_2 w8)))) : C.call Try.prog 71 #[x0] w K := calls_of_vc (A := F71.ann) (args := [x0]) (Eq.mpr (by kernel_rfl) h)

/-! ### 85 scutage/word.Check (75) -/
namespace F85
def ann : Ann := ⟨[(10, [3]), (12, [])], [], [], [], none⟩
noncomputable def code : Code := match Try.f85.body with | some c => c | none => .skip
noncomputable def top (K : VK) : QE := retQ Try.prog Try.f85.results.toList K
noncomputable def k10 (K : VK) (y3 : Value) (w : World) : Prop := nav ann Try.prog 33 (fun c Q => vcCode ann Try.prog 33 c Q [(3, y3)] w) [1, 1, 1] code (top K)
attribute [irreducible] k10
noncomputable def k12 (K : VK) (w : World) : Prop := nav ann Try.prog 33 (fun c Q => vcCode ann Try.prog 33 c Q [] w) [1, 1, 1, 1] code (top K)
attribute [irreducible] k12
end F85
theorem F85.k10.to {K : VK} {y3 : Value} {w : World} (h : (C.not y3 w fun x32_1 w1 =>
  C.ite x32_1 (K (.int .i64 4) w1) (F85.k12 K w1))) : F85.k10 K y3 w := Eq.mpr (by kernel_rfl) h
theorem F85.k12.to {K : VK} {w : World} (h : (K (.int .i64 0) w)) : F85.k12 K w := Eq.mpr (by kernel_rfl) h
theorem F85.sh {K : VK} {x0 : Value} {w : World} (h : (C.new (.cells (Value.cells x0) 75) w fun x1_1 w1 =>
  C.field 0 x1_1 w1 fun x4_2 w2 =>
  C.load1 x4_2 w2 fun x5_3 w3 =>
  C.int .eql x5_3 (.int .i64 0) w3 fun x7_4 w4 =>
  C.ite x7_4 (C.field 1 x1_1 w4 fun x8_5 w5 =>
  C.load1 x8_5 w5 fun x9_6 w6 =>
  C.int .eql x9_6 (.int .i64 0) w6 fun x10_7 w7 =>
  F85.k10 K x10_7 w7) (C.int .eql x5_3 (.int .i64 1) w4 fun x12_8 w8 =>
  C.ite x12_8 (C.field 1 x1_1 w8 fun x13_9 w9 =>
  C.load1 x13_9 w9 fun x14_10 w10 =>
  C.int .geq x14_10 (.int .i64 (-1099511627776)) w10 fun x15_11 w11 =>
  C.guarded true x15_11 (fun K => C.field 1 x1_1 w11 K) w11 fun x17_12 w12 =>
  C.guarded true x15_11 (fun K => C.load1 x17_12 w12 K) w12 fun x18_13 w13 =>
  C.guarded true x15_11 (fun K => C.int .lss x18_13 (.int .i64 1099511627776) w13 K) w13 fun x19_14 w14 =>
  C.pick (some x15_11) (some x19_14) (some (.bool false)) w14 fun x20_15 w15 =>
  F85.k10 K x20_15 w15) (C.int .eql x5_3 (.int .i64 2) w8 fun x22_16 w16 =>
  C.ite x22_16 (C.field 1 x1_1 w16 fun x23_17 w17 =>
  C.load1 x23_17 w17 fun x24_18 w18 =>
  C.int .geq x24_18 (.int .i64 0) w18 fun x25_19 w19 =>
  C.guarded true x25_19 (fun K => C.field 1 x1_1 w19 K) w19 fun x27_20 w20 =>
  C.guarded true x25_19 (fun K => C.load1 x27_20 w20 K) w20 fun x28_21 w21 =>
  C.guarded true x25_19 (fun K => C.int .lss x28_21 (.int .i64 2048) w21 K) w21 fun x29_22 w22 =>
  C.pick (some x25_19) (some x29_22) (some (.bool false)) w22 fun x30_23 w23 =>
  F85.k10 K x30_23 w23) (K (.int .i64 12) w16))))) : C.call Try.prog 85 #[x0] w K := calls_of_vc (A := F85.ann) (args := [x0]) (Eq.mpr (by kernel_rfl) h)

/-! ### 86 scutage/word.may (75) -/
namespace F86
def ann : Ann := ⟨[(3, [1, 2])], [], [], [], none⟩
noncomputable def code : Code := match Try.f86.body with | some c => c | none => .skip
noncomputable def top (K : VK) : QE := retQ Try.prog Try.f86.results.toList K
noncomputable def k3 (K : VK) (y1 y2 : Value) (w : World) : Prop := nav ann Try.prog 8 (fun c Q => vcCode ann Try.prog 8 c Q [(1, y1), (2, y2)] w) [1, 1] code (top K)
attribute [irreducible] k3
end F86
theorem F86.k3.to {K : VK} {y1 y2 : Value} {w : World} (h : (C.loadA 2 y1 w fun x7_1 w1 =>
  C.store 2 y2 x7_1 w1 fun w2 =>
  C.loadA 2 y2 w2 fun r3 _ =>
  K r3 w2)) : F86.k3 K y1 y2 w := Eq.mpr (by kernel_rfl) h
theorem F86.sh {K : VK} {x0 : Value} {w : World} (h : (C.new (.cells (Value.cells x0) 75) w fun x1_1 w1 =>
  C.new (.cells #[.int .i64 0, .int .i64 0] 75) w1 fun x2_2 w2 =>
  C.loadA 2 x1_1 w2 fun x3_3 w3 =>
  C.call Try.prog 85 #[x3_3] w3 fun x4_4 w4 =>
  C.int .neq x4_4 (.int .i64 0) w4 fun x5_5 w5 =>
  C.ite x5_5 (C.run Try.prog (Instr.build 75 #[]) w5 fun x6_6 w6 =>
  C.store 2 x2_2 x6_6 w6 fun w7 =>
  C.loadA 2 x2_2 w7 fun r8 _ =>
  K r8 w7) (F86.k3 K x1_1 x2_2 w5))) : C.call Try.prog 86 #[x0] w K := calls_of_vc (A := F86.ann) (args := [x0]) (Eq.mpr (by kernel_rfl) h)

end Go.Proofs.YtfjilngljnlkjaaV
