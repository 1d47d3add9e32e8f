/- What the bodies of these functions ask, as plain statements. Written by gen.py (own work) for the seat Ytfdpmgddlaamcaa. -/
import Derived.Test.YtfdpmgddlaamcaaVc3
import Derived.Test.YtfdpmgddlaamcaaProg
namespace Go.Proofs.YtfdpmgddlaamcaaV
open Go Go.Proofs
set_option linter.unusedVariables false
set_option maxRecDepth 100000

/-! ### 53 scutage/scutageplain.Rising (34) -/
namespace F53
def ann : Ann := ⟨[(4, [0, 3, 4]), (5, [0, 3, 4]), (6, [0, 3, 4]), (8, [0, 3, 4, 5]), (14, [3])], [(3, [0, 3, 4]), (7, [0, 3, 4, 5])], [], [(7, (.take 0 (.take 1 (.take 2 (.take 3 (.take 4 (.take 5 (.take 6 (.take 7 (.take 9 (.take 10 (.take 11 (.take 8 (.take 12 (.take 13 (.take 14 .fin))))))))))))))))], none⟩
noncomputable def code : Code := match Try.f53.body with | some c => c | none => .skip
noncomputable def top (K : VK) : QE := retQ Try.prog Try.f53.results.toList K
noncomputable def k14 (K : VK) (y3 : Value) (w : World) : Prop := nav ann Try.prog 55 (fun c Q => vcCode ann Try.prog 55 c Q [(3, y3)] w) [1, 1, 1] code (top K)
attribute [irreducible] k14
noncomputable def l3 (K : VK) (y0 y3 y4 : Value) (w : World) : Prop := nav ann Try.prog 55 (isLoop ann Try.prog 55 [(0, y0), (3, y3), (4, y4)] w) [1, 1, 0, 1, 0] code (top K)
attribute [irreducible] l3
noncomputable def k5 (K : VK) (y0 y3 y4 : Value) (w : World) : Prop := nav ann Try.prog 55 (fun c Q => vcCode ann Try.prog 55 c Q [(0, y0), (3, y3), (4, y4)] w) [1, 1, 0, 1, 0, 0, 1] code (top K)
attribute [irreducible] k5
noncomputable def k4 (K : VK) (y0 y3 y4 : Value) (w : World) : Prop := nav ann Try.prog 55 (fun c Q => vcCode ann Try.prog 55 c Q [(0, y0), (3, y3), (4, y4)] w) [1, 1, 0, 1, 0, 0, 1, 1] code (top K)
attribute [irreducible] k4
noncomputable def k6 (K : VK) (y0 y3 y4 : Value) (w : World) : Prop := nav ann Try.prog 55 (fun c Q => vcCode ann Try.prog 55 c Q [(0, y0), (3, y3), (4, y4)] w) [1, 1, 0, 1, 0, 0, 1, 0, 0, 1] code (top K)
attribute [irreducible] k6
noncomputable def l7 (K : VK) (y0 y3 y4 y5 : Value) (w : World) : Prop := nav ann Try.prog 55 (isLoop ann Try.prog 55 [(0, y0), (3, y3), (4, y4), (5, y5)] w) [1, 1, 0, 1, 0, 0, 1, 0, 0, 1, 1, 0, 0] code (top K)
attribute [irreducible] l7
noncomputable def k8 (K : VK) (y0 y3 y4 y5 : Value) (w : World) : Prop := nav ann Try.prog 55 (fun c Q => vcCode ann Try.prog 55 c Q [(0, y0), (3, y3), (4, y4), (5, y5)] w) [1, 1, 0, 1, 0, 0, 1, 0, 0, 1, 1, 0, 0, 0, 1] code (top K)
attribute [irreducible] k8
end F53
theorem F53.k14.to {K : VK} {y3 : Value} {w : World} (h : (K y3 w)) : F53.k14 K y3 w := Eq.mpr (by kernel_rfl) h
theorem F53.l3.to {K : VK} {y0 y3 y4 : Value} {w : World} (h : (C.len y0 w fun x9_1 w1 =>
  C.int .lss y4 x9_1 w1 fun x10_2 w2 =>
  C.ite x10_2 (F53.k5 K y0 y3 y4 w2) (F53.k14 K y3 w2))) : F53.l3 K y0 y3 y4 w := by unfold F53.l3; exact nav_round (Eq.mpr (by kernel_rfl) h)
theorem F53.k5.to {K : VK} {y0 y3 y4 : Value} {w : World} (h : (C.idx 1 y0 y4 w fun x16_1 w1 =>
  C.load1 x16_1 w1 fun x17_2 w2 =>
  C.call Try.prog 22 #[y3, x17_2] w2 fun x18_3 w3 =>
  C.ite x18_3 (F53.k4 K y0 y3 y4 w3) (F53.k6 K y0 y3 y4 w3))) : F53.k5 K y0 y3 y4 w := Eq.mpr (by kernel_rfl) h
theorem F53.k4.to {K : VK} {y0 y3 y4 : Value} {w : World} (h : (C.int .add y4 (.int .i64 1) w fun x12_1 w1 =>
  F53.l3 K y0 y3 x12_1 w1)) : F53.k4 K y0 y3 y4 w := Eq.mpr (by kernel_rfl) h
theorem F53.k6.to {K : VK} {y0 y3 y4 : Value} {w : World} (h : (F53.l7 K y0 y3 y4 (.int .i64 0) w)) : F53.k6 K y0 y3 y4 w := Eq.mpr (by kernel_rfl) h
theorem F53.l7.to {K : VK} {y0 y3 y4 y5 : Value} {w : World} (h : (C.draw w fun S w1 =>
  C.len y3 w1 fun x21_2 w2 =>
  C.int .lss y5 x21_2 w2 fun x22_3 w3 =>
  C.guarded true x22_3 (fun K => K y3 w3) w3 fun x24_4 w4 =>
  C.guarded true x22_3 (fun K => K y5 w4) w4 fun x25_5 w5 =>
  C.guarded true x22_3 (fun K => C.idx 1 x24_4 x25_5 w5 K) w5 fun x26_6 w6 =>
  C.guarded true x22_3 (fun K => K y0 w6) w6 fun x28_7 w7 =>
  C.guarded true x22_3 (fun K => K y4 w7) w7 fun x29_8 w8 =>
  C.guarded true x22_3 (fun K => C.idx 1 x28_7 x29_8 w8 K) w8 fun x30_9 w9 =>
  C.guarded true x22_3 (fun K => C.load1S S x26_6 w9 K) w9 fun x27_10 w10 =>
  C.guarded true x22_3 (fun K => C.load1S S x30_9 w10 K) w10 fun x31_11 w11 =>
  C.guarded true x22_3 (fun K => C.int .lss x27_10 x31_11 w11 K) w11 fun x32_12 w12 =>
  C.pick (some x22_3) (some x32_12) (some (.bool false)) w12 fun x33_13 w13 =>
  C.ite x33_13 (F53.k8 K y0 y3 y4 y5 w13) (C.run Try.prog (Instr.sliceAt 34 y3 none (some y5) none) w13 fun x39_14 w14 =>
  C.run Try.prog (Builtin.append_ #[34, 34] 34 #[(.slice none 0 0), x39_14]) w14 fun x40_15 w15 =>
  C.idx 1 y0 y4 w15 fun x44_16 w16 =>
  C.load1 x44_16 w16 fun x45_17 w17 =>
  C.run Try.prog (Instr.buildSlice 34 1 #[(0, x45_17)]) w17 fun x46_18 w18 =>
  C.run Try.prog (Builtin.append_ #[34, 34] 34 #[x40_15, x46_18]) w18 fun x47_19 w19 =>
  C.run Try.prog (Instr.sliceAt 34 y3 (some y5) none none) w19 fun x51_20 w20 =>
  C.run Try.prog (Builtin.append_ #[34, 34] 34 #[x47_19, x51_20]) w20 fun x52_21 w21 =>
  F53.k4 K y0 x52_21 y4 w21))) : F53.l7 K y0 y3 y4 y5 w := by unfold F53.l7; exact nav_round (Eq.mpr (by kernel_rfl) h)
theorem F53.k8.to {K : VK} {y0 y3 y4 y5 : Value} {w : World} (h : (C.int .add y5 (.int .i64 1) w fun x35_1 w1 =>
  F53.l7 K y0 y3 y4 x35_1 w1)) : F53.k8 K y0 y3 y4 y5 w := Eq.mpr (by kernel_rfl) h
theorem F53.sh {K : VK} {x0 : Value} {w : World} (h : (F53.l3 K x0 (.slice none 0 0) (.int .i64 0) w)) : C.call Try.prog 53 #[x0] w K := calls_of_vc (A := F53.ann) (args := [x0]) (Eq.mpr (by kernel_rfl) h)

end Go.Proofs.YtfdpmgddlaamcaaV
