/- What the bodies of these functions ask, as plain statements. Written by gen.py (own work) for the seat Ytchonfdnghimdaa. -/
import Derived.Test.YtchonfdnghimdaaVc3
import Derived.Test.YtchonfdnghimdaaProg
namespace Go.Proofs.YtchonfdnghimdaaV
open Go Go.Proofs
set_option linter.unusedVariables false
set_option maxRecDepth 100000

/-! ### 90 math/bits.Mul (63, 63) -/
namespace F90
def ann : Ann := ⟨[(3, [0, 1])], [], [], [], none⟩
noncomputable def code : Code := match Try.f90.body with | some c => c | none => .skip
noncomputable def top (K : VK) : QE := retQ Try.prog Try.f90.results.toList K
noncomputable def k3 (K : VK) (y0 y1 : Value) (w : World) : Prop := nav ann Try.prog 30 (fun c Q => vcCode ann Try.prog 30 c Q [(0, y0), (1, y1)] w) [1, 1] code (top K)
attribute [irreducible] k3
end F90
theorem F90.k3.to {K : VK} {y0 y1 : Value} {w : World} (h : (C.call Try.prog 92 #[y0, y1] w fun x25_1 w1 =>
  C.ext 0 x25_1 w1 fun x26_2 w2 =>
  C.ext 1 x25_1 w2 fun x27_3 w3 =>
  K (.tuple #[x26_2, x27_3]) w3)) : F90.k3 K y0 y1 w := Eq.mpr (by kernel_rfl) h
theorem F90.sh {K : VK} {x0 x1 : Value} {w : World} (h : (C.ite (.bool false) (C.conv .u32 x0 w fun x12_1 w1 =>
  C.conv .u32 x1 w1 fun x14_2 w2 =>
  C.call Try.prog 91 #[x12_1, x14_2] w2 fun x15_3 w3 =>
  C.ext 0 x15_3 w3 fun x16_4 w4 =>
  C.ext 1 x15_3 w4 fun x17_5 w5 =>
  C.conv .u64 x16_4 w5 fun x19_6 w6 =>
  C.conv .u64 x17_5 w6 fun x21_7 w7 =>
  K (.tuple #[x19_6, x21_7]) w7) (F90.k3 K x0 x1 w))) : C.call Try.prog 90 #[x0, x1] w K := calls_of_vc (A := F90.ann) (args := [x0, x1]) (Eq.mpr (by kernel_rfl) h)

/-! ### 91 math/bits.Mul32 (80, 80) -/
namespace F91
def ann : Ann := ⟨[], [], [], [], none⟩
noncomputable def code : Code := match Try.f91.body with | some c => c | none => .skip
noncomputable def top (K : VK) : QE := retQ Try.prog Try.f91.results.toList K
end F91
theorem F91.sh {K : VK} {x0 x1 : Value} {w : World} (h : (C.conv .u64 x0 w fun x8_1 w1 =>
  C.conv .u64 x1 w1 fun x10_2 w2 =>
  C.int .mul x8_1 x10_2 w2 fun x11_3 w3 =>
  C.bin Try.prog .shr 82 (.tmp 12) (.const (.int .u64 32)) x11_3 (.int .u64 32) w3 fun x13_4 w4 =>
  C.conv .u32 x13_4 w4 fun x14_5 w5 =>
  C.conv .u32 x11_3 w5 fun x16_6 w6 =>
  K (.tuple #[x14_5, x16_6]) w6)) : C.call Try.prog 91 #[x0, x1] w K := calls_of_vc (A := F91.ann) (args := [x0, x1]) (Eq.mpr (by kernel_rfl) h)

/-! ### 92 math/bits.Mul64 (82, 82) -/
namespace F92
def ann : Ann := ⟨[], [], [], [], none⟩
noncomputable def code : Code := match Try.f92.body with | some c => c | none => .skip
noncomputable def top (K : VK) : QE := retQ Try.prog Try.f92.results.toList K
end F92
theorem F92.sh {K : VK} {x0 x1 : Value} {w : World} (h : (C.bin Try.prog .and 82 (.tmp 14) (.const (.int .u64 4294967295)) x0 (.int .u64 4294967295) w fun x15_1 w1 =>
  C.bin Try.prog .shr 82 (.tmp 16) (.const (.int .u64 32)) x0 (.int .u64 32) w1 fun x17_2 w2 =>
  C.bin Try.prog .and 82 (.tmp 18) (.const (.int .u64 4294967295)) x1 (.int .u64 4294967295) w2 fun x19_3 w3 =>
  C.bin Try.prog .shr 82 (.tmp 20) (.const (.int .u64 32)) x1 (.int .u64 32) w3 fun x21_4 w4 =>
  C.int .mul x15_1 x19_3 w4 fun x24_5 w5 =>
  C.int .mul x17_2 x19_3 w5 fun x27_6 w6 =>
  C.bin Try.prog .shr 82 (.tmp 28) (.const (.int .u64 32)) x24_5 (.int .u64 32) w6 fun x29_7 w7 =>
  C.int .add x27_6 x29_7 w7 fun x30_8 w8 =>
  C.bin Try.prog .and 82 (.tmp 31) (.const (.int .u64 4294967295)) x30_8 (.int .u64 4294967295) w8 fun x32_9 w9 =>
  C.bin Try.prog .shr 82 (.tmp 33) (.const (.int .u64 32)) x30_8 (.int .u64 32) w9 fun x34_10 w10 =>
  C.int .mul x15_1 x21_4 w10 fun x38_11 w11 =>
  C.int .add x32_9 x38_11 w11 fun x39_12 w12 =>
  C.int .mul x17_2 x21_4 w12 fun x42_13 w13 =>
  C.int .add x42_13 x34_10 w13 fun x44_14 w14 =>
  C.bin Try.prog .shr 82 (.tmp 45) (.const (.int .u64 32)) x39_12 (.int .u64 32) w14 fun x46_15 w15 =>
  C.int .add x44_14 x46_15 w15 fun x47_16 w16 =>
  C.int .mul x0 x1 w16 fun x50_17 w17 =>
  K (.tuple #[x47_16, x50_17]) w17)) : C.call Try.prog 92 #[x0, x1] w K := calls_of_vc (A := F92.ann) (args := [x0, x1]) (Eq.mpr (by kernel_rfl) h)

end Go.Proofs.YtchonfdnghimdaaV
