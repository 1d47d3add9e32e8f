/- What the bodies of these functions ask, as plain statements. Written by gen.py (own work) for the seat Ytfjilngljnlkjaa. -/
import Derived.Test.YtfjilngljnlkjaaVc3
import Derived.Test.YtfjilngljnlkjaaProg
namespace Go.Proofs.YtfjilngljnlkjaaV
open Go Go.Proofs
set_option linter.unusedVariables false
set_option maxRecDepth 100000

/-! ### 4 scutage/scutagelaw37.EvacCopies (22, 22) -/
namespace F4
def ann : Ann := ⟨[(3, [0, 1]), (11, [1, 5, 6, 7, 8])], [], [], [], none⟩
noncomputable def code : Code := match Try.f4.body with | some c => c | none => .skip
noncomputable def top (K : VK) : QE := retQ Try.prog Try.f4.results.toList K
noncomputable def k3 (K : VK) (y0 y1 : Value) (w : World) : Prop := nav ann Try.prog 99 (fun c Q => vcCode ann Try.prog 99 c Q [(0, y0), (1, y1)] w) [1, 1] code (top K)
attribute [irreducible] k3
noncomputable def k11 (K : VK) (y1 y5 y6 y7 y8 : Value) (w : World) : Prop := nav ann Try.prog 99 (fun c Q => vcCode ann Try.prog 99 c Q [(1, y1), (5, y5), (6, y6), (7, y7), (8, y8)] w) [1, 1, 1, 1, 1, 1, 1] code (top K)
attribute [irreducible] k11
end F4
theorem F4.k3.to {K : VK} {y0 y1 : Value} {w : World} (h : (C.call Try.prog 15 #[y0] w fun x17_1 w1 =>
  C.call Try.prog 15 #[y1] w1 fun x19_2 w2 =>
  C.call Try.prog 16 #[x17_1, x19_2] w2 fun x23_3 w3 =>
  C.ext 0 x23_3 w3 fun x24_4 w4 =>
  C.ext 1 x23_3 w4 fun x25_5 w5 =>
  C.ext 2 x23_3 w5 fun x26_6 w6 =>
  C.call Try.prog 13 #[x17_1] w6 fun x29_7 w7 =>
  C.ext 0 x29_7 w7 fun x30_8 w8 =>
  C.ext 1 x29_7 w8 fun x31_9 w9 =>
  C.int .eql x31_9 (.int .i64 0) w9 fun x33_10 w10 =>
  C.guarded true x33_10 (fun K => K x30_8 w10) w10 fun x35_11 w11 =>
  C.guarded true x33_10 (fun K => K x19_2 w11) w11 fun x36_12 w12 =>
  C.guarded true x33_10 (fun K => C.call Try.prog 17 #[x35_11, x36_12] w12 K) w12 fun x37_13 w13 =>
  C.guarded true x33_10 (fun K => C.not x37_13 w13 K) w13 fun x38_14 w14 =>
  C.pick (some x33_10) (some x38_14) (some (.bool false)) w14 fun x39_15 w15 =>
  C.ite x39_15 (C.int .neq (.int .i64 4) (.int .i64 0) w15 fun x41_16 w16 =>
  C.ite x41_16 (C.call Try.prog 18 #[x17_1, x19_2] w16 fun x45_17 w17 =>
  C.ext 0 x45_17 w17 fun x46_18 w18 =>
  C.ext 1 x45_17 w18 fun x47_19 w19 =>
  C.new (.cells #[.slice none 0 0, .slice none 0 0] 42) w19 fun x10_20 w20 =>
  C.store 2 x10_20 x46_18 w20 fun w21 =>
  C.int .eql x26_6 (.int .i64 4) w21 fun x50_22 w22 =>
  C.guarded true x50_22 (fun K => K x24_4 w22) w22 fun x52_23 w23 =>
  C.guarded true x50_22 (fun K => C.len x52_23 w23 K) w23 fun x53_24 w24 =>
  C.guarded true x50_22 (fun K => C.int .eql x53_24 (.int .i64 0) w24 K) w24 fun x54_25 w25 =>
  C.pick (some x50_22) (some x54_25) (some (.bool false)) w25 fun x55_26 w26 =>
  C.guarded true x55_26 (fun K => K x25_5 w26) w26 fun x57_27 w27 =>
  C.guarded true x55_26 (fun K => C.len x57_27 w27 K) w27 fun x58_28 w28 =>
  C.guarded true x55_26 (fun K => C.int .eql x58_28 (.int .i64 0) w28 K) w28 fun x59_29 w29 =>
  C.pick (some x55_26) (some x59_29) (some (.bool false)) w29 fun x60_30 w30 =>
  C.guarded true x60_30 (fun K => K x47_19 w30) w30 fun x62_31 w31 =>
  C.guarded true x60_30 (fun K => K x26_6 w31) w31 fun x63_32 w32 =>
  C.guarded true x60_30 (fun K => C.int .eql x62_31 x63_32 w32 K) w32 fun x64_33 w33 =>
  C.pick (some x60_30) (some x64_33) (some (.bool false)) w33 fun x65_34 w34 =>
  C.guarded true x65_34 (fun K => C.field 0 x10_20 w34 K) w34 fun x67_35 w35 =>
  C.guarded true x65_34 (fun K => C.load1 x67_35 w35 K) w35 fun x68_36 w36 =>
  C.guarded true x65_34 (fun K => C.len x68_36 w36 K) w36 fun x69_37 w37 =>
  C.guarded true x65_34 (fun K => C.int .eql x69_37 (.int .i64 0) w37 K) w37 fun x70_38 w38 =>
  C.pick (some x65_34) (some x70_38) (some (.bool false)) w38 fun x71_39 w39 =>
  C.guarded true x71_39 (fun K => C.field 1 x10_20 w39 K) w39 fun x73_40 w40 =>
  C.guarded true x71_39 (fun K => C.load1 x73_40 w40 K) w40 fun x74_41 w41 =>
  C.guarded true x71_39 (fun K => C.len x74_41 w41 K) w41 fun x75_42 w42 =>
  C.guarded true x71_39 (fun K => C.int .eql x75_42 (.int .i64 0) w42 K) w42 fun x76_43 w43 =>
  C.pick (some x71_39) (some x76_43) (some (.bool false)) w43 fun x77_44 w44 =>
  K x77_44 w44) (F4.k11 K x19_2 x24_4 x25_5 x26_6 x30_8 w16)) (C.int .neq x31_9 (.int .i64 0) w15 fun x41_45 w45 =>
  C.ite x41_45 (C.call Try.prog 18 #[x17_1, x19_2] w45 fun x45_46 w46 =>
  C.ext 0 x45_46 w46 fun x46_47 w47 =>
  C.ext 1 x45_46 w47 fun x47_48 w48 =>
  C.new (.cells #[.slice none 0 0, .slice none 0 0] 42) w48 fun x10_49 w49 =>
  C.store 2 x10_49 x46_47 w49 fun w50 =>
  C.int .eql x26_6 x31_9 w50 fun x50_51 w51 =>
  C.guarded true x50_51 (fun K => K x24_4 w51) w51 fun x52_52 w52 =>
  C.guarded true x50_51 (fun K => C.len x52_52 w52 K) w52 fun x53_53 w53 =>
  C.guarded true x50_51 (fun K => C.int .eql x53_53 (.int .i64 0) w53 K) w53 fun x54_54 w54 =>
  C.pick (some x50_51) (some x54_54) (some (.bool false)) w54 fun x55_55 w55 =>
  C.guarded true x55_55 (fun K => K x25_5 w55) w55 fun x57_56 w56 =>
  C.guarded true x55_55 (fun K => C.len x57_56 w56 K) w56 fun x58_57 w57 =>
  C.guarded true x55_55 (fun K => C.int .eql x58_57 (.int .i64 0) w57 K) w57 fun x59_58 w58 =>
  C.pick (some x55_55) (some x59_58) (some (.bool false)) w58 fun x60_59 w59 =>
  C.guarded true x60_59 (fun K => K x47_48 w59) w59 fun x62_60 w60 =>
  C.guarded true x60_59 (fun K => K x26_6 w60) w60 fun x63_61 w61 =>
  C.guarded true x60_59 (fun K => C.int .eql x62_60 x63_61 w61 K) w61 fun x64_62 w62 =>
  C.pick (some x60_59) (some x64_62) (some (.bool false)) w62 fun x65_63 w63 =>
  C.guarded true x65_63 (fun K => C.field 0 x10_49 w63 K) w63 fun x67_64 w64 =>
  C.guarded true x65_63 (fun K => C.load1 x67_64 w64 K) w64 fun x68_65 w65 =>
  C.guarded true x65_63 (fun K => C.len x68_65 w65 K) w65 fun x69_66 w66 =>
  C.guarded true x65_63 (fun K => C.int .eql x69_66 (.int .i64 0) w66 K) w66 fun x70_67 w67 =>
  C.pick (some x65_63) (some x70_67) (some (.bool false)) w67 fun x71_68 w68 =>
  C.guarded true x71_68 (fun K => C.field 1 x10_49 w68 K) w68 fun x73_69 w69 =>
  C.guarded true x71_68 (fun K => C.load1 x73_69 w69 K) w69 fun x74_70 w70 =>
  C.guarded true x71_68 (fun K => C.len x74_70 w70 K) w70 fun x75_71 w71 =>
  C.guarded true x71_68 (fun K => C.int .eql x75_71 (.int .i64 0) w71 K) w71 fun x76_72 w72 =>
  C.pick (some x71_68) (some x76_72) (some (.bool false)) w72 fun x77_73 w73 =>
  K x77_73 w73) (F4.k11 K x19_2 x24_4 x25_5 x26_6 x30_8 w45)))) : F4.k3 K y0 y1 w := Eq.mpr (by kernel_rfl) h
theorem F4.k11.to {K : VK} {y1 y5 y6 y7 y8 : Value} {w : World} (h : (C.call Try.prog 20 #[y8, y1] w fun x82_1 w1 =>
  C.call Try.prog 19 #[y8, x82_1, y1] w1 fun x84_2 w2 =>
  C.ext 0 x84_2 w2 fun x85_3 w3 =>
  C.ext 1 x84_2 w3 fun x86_4 w4 =>
  C.int .eql y7 (.int .i64 0) w4 fun x88_5 w5 =>
  C.guarded true x88_5 (fun K => K y5 w5) w5 fun x90_6 w6 =>
  C.guarded true x88_5 (fun K => K x85_3 w6) w6 fun x91_7 w7 =>
  C.guarded true x88_5 (fun K => C.call Try.prog 21 #[x90_6, x91_7] w7 K) w7 fun x92_8 w8 =>
  C.pick (some x88_5) (some x92_8) (some (.bool false)) w8 fun x93_9 w9 =>
  C.guarded true x93_9 (fun K => K y6 w9) w9 fun x95_10 w10 =>
  C.guarded true x93_9 (fun K => K x86_4 w10) w10 fun x96_11 w11 =>
  C.guarded true x93_9 (fun K => C.call Try.prog 21 #[x95_10, x96_11] w11 K) w11 fun x97_12 w12 =>
  C.pick (some x93_9) (some x97_12) (some (.bool false)) w12 fun x98_13 w13 =>
  K x98_13 w13)) : F4.k11 K y1 y5 y6 y7 y8 w := Eq.mpr (by kernel_rfl) h
theorem F4.sh {K : VK} {x0 x1 : Value} {w : World} (h : (C.call Try.prog 10 #[] w fun x14_1 w1 =>
  C.not x14_1 w1 fun x15_2 w2 =>
  C.ite x15_2 (K (.bool false) w2) (F4.k3 K x0 x1 w2))) : C.call Try.prog 4 #[x0, x1] w K := calls_of_vc (A := F4.ann) (args := [x0, x1]) (Eq.mpr (by kernel_rfl) h)

end Go.Proofs.YtfjilngljnlkjaaV
