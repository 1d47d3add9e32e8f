/- What the bodies of these functions ask, as plain statements. Written by gen.py (own work) for the seat Ytchonfdnghimdaa. -/
import Derived.Test.YtchonfdnghimdaaVc3
import Derived.Test.YtchonfdnghimdaaProg
namespace Go.Proofs.YtchonfdnghimdaaV
open Go Go.Proofs
set_option linter.unusedVariables false
set_option maxRecDepth 100000

/-! ### 15 scutage/scc.Order (25) -/
namespace F15
def ann : Ann := ⟨[(3, [1]), (7, [1, 3, 4, 5]), (9, [1, 3, 4, 5, 25, 26]), (13, [1, 3, 4, 5, 25, 26]), (14, [4])], [(6, [1, 3, 4, 5]), (8, [1, 3, 4, 5, 25, 26])], [], [], none⟩
noncomputable def code : Code := match Try.f15.body with | some c => c | none => .skip
noncomputable def top (K : VK) : QE := retQ Try.prog Try.f15.results.toList K
noncomputable def k3 (K : VK) (y1 : Value) (w : World) : Prop := nav ann Try.prog 52 (fun c Q => vcCode ann Try.prog 52 c Q [(1, y1)] w) [1, 0, 1] code (top K)
attribute [irreducible] k3
noncomputable def k14 (K : VK) (y4 : Value) (w : World) : Prop := nav ann Try.prog 52 (fun c Q => vcCode ann Try.prog 52 c Q [(4, y4)] w) [1, 0, 1, 1, 1, 1, 1, 1] code (top K)
attribute [irreducible] k14
noncomputable def l6 (K : VK) (y1 y3 y4 y5 : Value) (w : World) : Prop := nav ann Try.prog 52 (isLoop ann Try.prog 52 [(1, y1), (3, y3), (4, y4), (5, y5)] w) [1, 0, 1, 1, 1, 1, 1, 0, 0] code (top K)
attribute [irreducible] l6
noncomputable def k7 (K : VK) (y1 y3 y4 y5 : Value) (w : World) : Prop := nav ann Try.prog 52 (fun c Q => vcCode ann Try.prog 52 c Q [(1, y1), (3, y3), (4, y4), (5, y5)] w) [1, 0, 1, 1, 1, 1, 1, 0, 0, 0, 1] code (top K)
attribute [irreducible] k7
noncomputable def l8 (K : VK) (y1 y3 y4 y5 y25 y26 : Value) (w : World) : Prop := nav ann Try.prog 52 (isLoop ann Try.prog 52 [(1, y1), (3, y3), (4, y4), (5, y5), (25, y25), (26, y26)] w) [1, 0, 1, 1, 1, 1, 1, 0, 0, 0, 1, 0, 1, 0] code (top K)
attribute [irreducible] l8
noncomputable def k9 (K : VK) (y1 y3 y4 y5 y25 y26 : Value) (w : World) : Prop := nav ann Try.prog 52 (fun c Q => vcCode ann Try.prog 52 c Q [(1, y1), (3, y3), (4, y4), (5, y5), (25, y25), (26, y26)] w) [1, 0, 1, 1, 1, 1, 1, 0, 0, 0, 1, 0, 1, 0, 0, 1, 1] code (top K)
attribute [irreducible] k9
noncomputable def k13 (K : VK) (y1 y3 y4 y5 y25 y26 : Value) (w : World) : Prop := nav ann Try.prog 52 (fun c Q => vcCode ann Try.prog 52 c Q [(1, y1), (3, y3), (4, y4), (5, y5), (25, y25), (26, y26)] w) [1, 0, 1, 1, 1, 1, 1, 0, 0, 0, 1, 0, 1, 0, 0, 1, 1, 1] code (top K)
attribute [irreducible] k13
end F15
theorem F15.k3.to {K : VK} {y1 : Value} {w : World} (h : (C.loadA 2 y1 w fun x11_1 w1 =>
  C.call Try.prog 24 #[x11_1] w1 fun x12_2 w2 =>
  C.field 0 y1 w2 fun x13_3 w3 =>
  C.load1 x13_3 w3 fun x14_4 w4 =>
  C.len x14_4 w4 fun x15_5 w5 =>
  C.run Try.prog (Instr.makeSlice 28 x15_5 x15_5) w5 fun x16_6 w6 =>
  C.new (.cells #[.slice none 0 0] 28) w6 fun x5_7 w7 =>
  C.store 1 x5_7 x16_6 w7 fun w8 =>
  F15.l6 K y1 x12_2 (.slice none 0 0) x5_7 w8)) : F15.k3 K y1 w := Eq.mpr (by kernel_rfl) h
theorem F15.k14.to {K : VK} {y4 : Value} {w : World} (h : (K y4 w)) : F15.k14 K y4 w := Eq.mpr (by kernel_rfl) h
theorem F15.l6.to {K : VK} {y1 y3 y4 y5 : Value} {w : World} (h : (C.len y4 w fun x18_1 w1 =>
  C.field 0 y1 w1 fun x19_2 w2 =>
  C.load1 x19_2 w2 fun x20_3 w3 =>
  C.len x20_3 w3 fun x21_4 w4 =>
  C.int .lss x18_1 x21_4 w4 fun x22_5 w5 =>
  C.ite x22_5 (F15.k7 K y1 y3 y4 y5 w5) (F15.k14 K y4 w5))) : F15.l6 K y1 y3 y4 y5 w := by unfold F15.l6; exact nav_round (Eq.mpr (by kernel_rfl) h)
theorem F15.k7.to {K : VK} {y1 y3 y4 y5 : Value} {w : World} (h : (C.field 0 y1 w fun x23_1 w1 =>
  C.load1 x23_1 w1 fun x24_2 w2 =>
  C.len x24_2 w2 fun x25_3 w3 =>
  F15.l8 K y1 y3 y4 y5 x25_3 (.int .i64 0) w3)) : F15.k7 K y1 y3 y4 y5 w := Eq.mpr (by kernel_rfl) h
theorem F15.l8.to {K : VK} {y1 y3 y4 y5 y25 y26 : Value} {w : World} (h : (C.int .lss y26 y25 w fun x27_1 w1 =>
  C.ite x27_1 (F15.k9 K y1 y3 y4 y5 y25 y26 w1) (F15.l6 K y1 y3 y4 y5 w1))) : F15.l8 K y1 y3 y4 y5 y25 y26 w := by unfold F15.l8; exact nav_round (Eq.mpr (by kernel_rfl) h)
theorem F15.k9.to {K : VK} {y1 y3 y4 y5 y25 y26 : Value} {w : World} (h : (C.load1 y5 w fun x29_1 w1 =>
  C.idx 1 x29_1 y26 w1 fun x31_2 w2 =>
  C.load1 x31_2 w2 fun x32_3 w3 =>
  C.not x32_3 w3 fun x33_4 w4 =>
  C.guarded true x33_4 (fun K => K y3 w4) w4 fun x35_5 w5 =>
  C.guarded true x33_4 (fun K => K y26 w5) w5 fun x36_6 w6 =>
  C.guarded true x33_4 (fun K => C.idx 1 x35_5 x36_6 w6 K) w6 fun x37_7 w7 =>
  C.guarded true x33_4 (fun K => C.load1 x37_7 w7 K) w7 fun x38_8 w8 =>
  C.guarded true x33_4 (fun K => K (.func (.func 33) #[] #[y5]) w8) w8 fun x39_9 w9 =>
  C.guarded true x33_4 (fun K => C.call Try.prog 32 #[x38_8, x39_9] w9 K) w9 fun x40_10 w10 =>
  C.guarded true x33_4 (fun K => C.not x40_10 w10 K) w10 fun x41_11 w11 =>
  C.pick (some x33_4) (some x41_11) (some (.bool false)) w11 fun x42_12 w12 =>
  C.ite x42_12 (C.load1 y5 w12 fun x43_13 w13 =>
  C.idx 1 x43_13 y26 w13 fun x45_14 w14 =>
  C.store 1 x45_14 (.bool true) w14 fun w15 =>
  C.run Try.prog (Instr.buildSlice 23 1 #[(0, y26)]) w15 fun x48_16 w16 =>
  C.run Try.prog (Builtin.append_ #[23, 23] 23 #[y4, x48_16]) w16 fun x49_17 w17 =>
  F15.l6 K y1 y3 x49_17 y5 w17) (F15.k13 K y1 y3 y4 y5 y25 y26 w12))) : F15.k9 K y1 y3 y4 y5 y25 y26 w := Eq.mpr (by kernel_rfl) h
theorem F15.k13.to {K : VK} {y1 y3 y4 y5 y25 y26 : Value} {w : World} (h : (C.int .add y26 (.int .i64 1) w fun x50_1 w1 =>
  F15.l8 K y1 y3 y4 y5 y25 x50_1 w1)) : F15.k13 K y1 y3 y4 y5 y25 y26 w := Eq.mpr (by kernel_rfl) h
theorem F15.sh {K : VK} {x0 : Value} {w : World} (h : (C.new (.cells (Value.cells x0) 25) w fun x1_1 w1 =>
  C.loadA 2 x1_1 w1 fun x7_2 w2 =>
  C.call Try.prog 13 #[x7_2] w2 fun x8_3 w3 =>
  C.len x8_3 w3 fun x9_4 w4 =>
  C.int .gtr x9_4 (.int .i64 0) w4 fun x10_5 w5 =>
  C.ite x10_5 (K (.slice none 0 0) w5) (F15.k3 K x1_1 w5))) : C.call Try.prog 15 #[x0] w K := calls_of_vc (A := F15.ann) (args := [x0]) (Eq.mpr (by kernel_rfl) h)

end Go.Proofs.YtchonfdnghimdaaV
