/- What the bodies of these functions ask, as plain statements. Written by gen.py (own work) for the seat Ytckageghbhkklaa. -/
import Derived.Test.YtckageghbhkklaaVc3
import Derived.Test.YtckageghbhkklaaProg
namespace Go.Proofs.YtckageghbhkklaaV
open Go Go.Proofs
set_option linter.unusedVariables false
set_option maxRecDepth 100000

/-! ### 8 scutage/scutagelaw22.BankClones (3, 22, 22, 22) -/
namespace F8b
def ann : Ann := ⟨[(3, [0, 1, 2, 3]), (7, [3, 9, 10, 11, 12, 13, 14])], [], [], [(6, (.take 0 (.take 2 (.take 1 (.go 3 (.go 4 (.take 5 (.take 6 (.take 7 (.go 8 (.go 9 (.take 10 .fin) .fin) .fin)))) (.go 8 (.go 4 (.take 5 (.take 6 (.take 7 (.go 9 (.take 10 .fin) .fin)))) .fin) .fin)) (.go 8 (.go 3 (.go 4 (.take 5 (.take 6 (.take 7 (.go 9 (.take 10 .fin) .fin)))) .fin) .fin) .fin)))))), (7, (.take 0 (.take 2 (.take 1 (.go 3 (.go 4 (.take 5 (.take 6 (.take 7 (.go 8 (.go 9 (.take 10 .fin) .fin) .fin)))) (.go 8 (.go 4 (.take 5 (.take 6 (.take 7 (.go 9 (.take 10 .fin) .fin)))) .fin) .fin)) (.go 8 (.go 3 (.go 4 (.take 5 (.take 6 (.take 7 (.go 9 (.take 10 .fin) .fin)))) .fin) .fin) .fin))))))]⟩
noncomputable def code : Code := match Try.f8.body with | some c => c | none => .skip
noncomputable def top (K : VK) : QE := retQ Try.prog Try.f8.results.toList K
noncomputable def k3 (K : VK) (y0 y1 y2 y3 : Value) (w : World) : Prop := nav ann Try.prog 140 (fun c Q => vcCode ann Try.prog 140 c Q [(0, y0), (1, y1), (2, y2), (3, y3)] w) [1, 1] code (top K)
attribute [irreducible] k3
noncomputable def k7 (K : VK) (y3 y9 y10 y11 y12 y13 y14 : Value) (w : World) : Prop := nav ann Try.prog 140 (fun c Q => vcCode ann Try.prog 140 c Q [(3, y3), (9, y9), (10, y10), (11, y11), (12, y12), (13, y13), (14, y14)] w) [1, 1, 1, 1, 1, 1] code (top K)
attribute [irreducible] k7
end F8b
theorem F8b.k3.to {K : VK} {y0 y1 y2 y3 : Value} {w : World} (h : (C.call Try.prog 16 #[y0] w fun x22_1 w1 =>
  C.call Try.prog 17 #[y0, (.int .i64 0), (.int .i64 65535)] w1 fun x26_2 w2 =>
  C.run Try.prog (Instr.build 25 #[(0, x26_2)]) w2 fun x27_3 w3 =>
  C.call Try.prog 18 #[y1] w3 fun x29_4 w4 =>
  C.call Try.prog 15 #[x22_1, x27_3, x29_4] w4 fun x30_5 w5 =>
  C.ext 0 x30_5 w5 fun x31_6 w6 =>
  C.ext 1 x30_5 w6 fun x32_7 w7 =>
  C.new (.cells #[.int .i64 0, .int .i64 0, .int .i64 0, .int .i64 0, .int .i64 0] 25) w7 fun x10_8 w8 =>
  C.store 5 x10_8 x31_6 w8 fun w9 =>
  C.call Try.prog 34 #[x22_1] w9 fun x34_10 w10 =>
  C.draw w10 fun S w11 =>
  C.loadAS S 5 x10_8 w11 fun x37_12 w12 =>
  (C.call Try.prog 18 #[y2] w12 fun x39_19 w19 =>
  (S w19 ∧
  (C.call Try.prog 15 #[x22_1, x37_12, x39_19] w19 fun x40_25 w25 =>
  (S w25 ∧
  C.ext 0 x40_25 w25 fun x41_26 w26 =>
  C.ext 1 x40_25 w26 fun x42_27 w27 =>
  (C.new (.cells #[.int .i64 0, .int .i64 0, .int .i64 0, .int .i64 0, .int .i64 0] 25) w27 fun x13_28 w28 =>
  (S w28 ∧
  (C.store 5 x13_28 x41_26 w28 fun w29 =>
  (S w29 ∧
  F8b.k7 K y3 x22_1 x10_8 x32_7 x34_10 x13_28 x42_27 w29)) ∧ True)) ∧ True)) ∧ ((C.new (.cells #[.int .i64 0, .int .i64 0, .int .i64 0, .int .i64 0, .int .i64 0] 25) w19 fun x13_20 w20 =>
  (S w20 ∧
  (C.call Try.prog 15 #[x22_1, x37_12, x39_19] w20 fun x40_21 w21 =>
  (S w21 ∧
  C.ext 0 x40_21 w21 fun x41_22 w22 =>
  C.ext 1 x40_21 w22 fun x42_23 w23 =>
  (C.store 5 x13_20 x41_22 w23 fun w24 =>
  (S w24 ∧
  F8b.k7 K y3 x22_1 x10_8 x32_7 x34_10 x13_20 x42_23 w24)) ∧ True)) ∧ True)) ∧ True))) ∧ ((C.new (.cells #[.int .i64 0, .int .i64 0, .int .i64 0, .int .i64 0, .int .i64 0] 25) w12 fun x13_13 w13 =>
  (S w13 ∧
  (C.call Try.prog 18 #[y2] w13 fun x39_14 w14 =>
  (S w14 ∧
  (C.call Try.prog 15 #[x22_1, x37_12, x39_14] w14 fun x40_15 w15 =>
  (S w15 ∧
  C.ext 0 x40_15 w15 fun x41_16 w16 =>
  C.ext 1 x40_15 w16 fun x42_17 w17 =>
  (C.store 5 x13_13 x41_16 w17 fun w18 =>
  (S w18 ∧
  F8b.k7 K y3 x22_1 x10_8 x32_7 x34_10 x13_13 x42_17 w18)) ∧ True)) ∧ True)) ∧ True)) ∧ True))) : F8b.k3 K y0 y1 y2 y3 w := Eq.mpr (by kernel_rfl) h
theorem F8b.k7.to {K : VK} {y3 y9 y10 y11 y12 y13 y14 : Value} {w : World} (h : (C.draw w fun S w1 =>
  C.loadAS S 5 y10 w1 fun x45_2 w2 =>
  (C.call Try.prog 18 #[y3] w2 fun x47_79 w79 =>
  (S w79 ∧
  (C.call Try.prog 15 #[y12, x45_2, x47_79] w79 fun x48_155 w155 =>
  (S w155 ∧
  C.ext 0 x48_155 w155 fun x49_156 w156 =>
  C.ext 1 x48_155 w156 fun x50_157 w157 =>
  (C.new (.cells #[.int .i64 0, .int .i64 0, .int .i64 0, .int .i64 0, .int .i64 0] 25) w157 fun x15_158 w158 =>
  (S w158 ∧
  (C.store 5 x15_158 x49_156 w158 fun w159 =>
  (S w159 ∧
  C.run Try.prog (Instr.build 58 #[]) w159 fun x51_160 w160 =>
  C.new (.cells (Value.cells x51_160) 58) w160 fun x52_161 w161 =>
  C.guarded true y11 (fun K => K y14 w161) w161 fun x55_162 w162 =>
  C.pick (some y11) (some x55_162) (some (.bool false)) w162 fun x56_163 w163 =>
  C.guarded true x56_163 (fun K => K x50_157 w163) w163 fun x58_164 w164 =>
  C.pick (some x56_163) (some x58_164) (some (.bool false)) w164 fun x59_165 w165 =>
  C.guarded true x59_165 (fun K => K y9 w165) w165 fun x61_166 w166 =>
  C.guarded true x59_165 (fun K => C.loadA 5 y13 w166 K) w166 fun x62_167 w167 =>
  C.guarded true x59_165 (fun K => C.call Try.prog 35 #[x61_166, x62_167] w167 K) w167 fun x63_168 w168 =>
  C.pick (some x59_165) (some x63_168) (some (.bool false)) w168 fun x64_169 w169 =>
  C.guarded true x64_169 (fun K => K y12 w169) w169 fun x66_170 w170 =>
  C.guarded true x64_169 (fun K => C.loadA 5 x15_158 w170 K) w170 fun x67_171 w171 =>
  C.guarded true x64_169 (fun K => C.call Try.prog 35 #[x66_170, x67_171] w171 K) w171 fun x68_172 w172 =>
  C.pick (some x64_169) (some x68_172) (some (.bool false)) w172 fun x69_173 w173 =>
  C.guarded true x69_173 (fun K => K (.pointer none) w173) w173 fun x71_174 w174 =>
  C.guarded true x69_173 (fun K => C.call Try.prog 19 #[x71_174, (.int .i64 1)] w174 K) w174 fun x72_175 w175 =>
  C.guarded true x69_173 (fun K => C.int .eql x72_175 (.int .i64 0) w175 K) w175 fun x73_176 w176 =>
  C.pick (some x69_173) (some x73_176) (some (.bool false)) w176 fun x74_177 w177 =>
  C.guarded true x74_177 (fun K => K x52_161 w177) w177 fun x76_178 w178 =>
  C.guarded true x74_177 (fun K => C.call Try.prog 19 #[x76_178, (.int .i64 1)] w178 K) w178 fun x77_179 w179 =>
  C.guarded true x74_177 (fun K => C.int .eql x77_179 (.int .i64 0) w179 K) w179 fun x78_180 w180 =>
  C.pick (some x74_177) (some x78_180) (some (.bool false)) w180 fun x79_181 w181 =>
  C.guarded true x79_181 (fun K => K (.pointer none) w181) w181 fun x81_182 w182 =>
  C.guarded true x79_181 (fun K => C.call Try.prog 20 #[x81_182, (.int .i64 0)] w182 K) w182 fun x82_183 w183 =>
  C.guarded true x79_181 (fun K => C.not x82_183 w183 K) w183 fun x83_184 w184 =>
  C.pick (some x79_181) (some x83_184) (some (.bool false)) w184 fun x84_185 w185 =>
  C.guarded true x84_185 (fun K => K x52_161 w185) w185 fun x86_186 w186 =>
  C.guarded true x84_185 (fun K => C.call Try.prog 20 #[x86_186, (.int .i64 0)] w186 K) w186 fun x87_187 w187 =>
  C.guarded true x84_185 (fun K => C.not x87_187 w187 K) w187 fun x88_188 w188 =>
  C.pick (some x84_185) (some x88_188) (some (.bool false)) w188 fun x89_189 w189 =>
  C.guarded true x89_189 (fun K => K (.pointer none) w189) w189 fun x91_190 w190 =>
  C.guarded true x89_189 (fun K => C.call Try.prog 21 #[x91_190, (.int .i64 1)] w190 K) w190 fun x92_191 w191 =>
  C.guarded true x89_189 (fun K => C.int .eql x92_191 (.int .i64 0) w191 K) w191 fun x93_192 w192 =>
  C.pick (some x89_189) (some x93_192) (some (.bool false)) w192 fun x94_193 w193 =>
  C.guarded true x94_193 (fun K => K x52_161 w193) w193 fun x96_194 w194 =>
  C.guarded true x94_193 (fun K => C.call Try.prog 21 #[x96_194, (.int .i64 1)] w194 K) w194 fun x97_195 w195 =>
  C.guarded true x94_193 (fun K => C.int .eql x97_195 (.int .i64 0) w195 K) w195 fun x98_196 w196 =>
  C.pick (some x94_193) (some x98_196) (some (.bool false)) w196 fun x99_197 w197 =>
  C.guarded true x99_197 (fun K => K (.pointer none) w197) w197 fun x101_198 w198 =>
  C.guarded true x99_197 (fun K => C.call Try.prog 22 #[x101_198] w198 K) w198 fun x102_199 w199 =>
  C.guarded true x99_197 (fun K => C.int .eql x102_199 (.int .i64 0) w199 K) w199 fun x103_200 w200 =>
  C.pick (some x99_197) (some x103_200) (some (.bool false)) w200 fun x104_201 w201 =>
  C.guarded true x104_201 (fun K => K x52_161 w201) w201 fun x106_202 w202 =>
  C.guarded true x104_201 (fun K => C.call Try.prog 22 #[x106_202] w202 K) w202 fun x107_203 w203 =>
  C.guarded true x104_201 (fun K => C.int .eql x107_203 (.int .i64 0) w203 K) w203 fun x108_204 w204 =>
  C.pick (some x104_201) (some x108_204) (some (.bool false)) w204 fun x109_205 w205 =>
  C.guarded true x109_205 (fun K => K (.pointer none) w205) w205 fun x111_206 w206 =>
  C.guarded true x109_205 (fun K => C.call Try.prog 23 #[x111_206] w206 K) w206 fun x112_207 w207 =>
  C.guarded true x109_205 (fun K => C.int .eql x112_207 (.int .i64 0) w207 K) w207 fun x113_208 w208 =>
  C.pick (some x109_205) (some x113_208) (some (.bool false)) w208 fun x114_209 w209 =>
  C.guarded true x114_209 (fun K => K (.pointer none) w209) w209 fun x116_210 w210 =>
  C.guarded true x114_209 (fun K => C.call Try.prog 24 #[x116_210] w210 K) w210 fun x117_211 w211 =>
  C.guarded true x114_209 (fun K => C.int .eql x117_211 (.int .i64 0) w211 K) w211 fun x118_212 w212 =>
  C.pick (some x114_209) (some x118_212) (some (.bool false)) w212 fun x119_213 w213 =>
  C.guarded true x119_213 (fun K => K (.pointer none) w213) w213 fun x121_214 w214 =>
  C.guarded true x119_213 (fun K => C.call Try.prog 25 #[x121_214] w214 K) w214 fun x122_215 w215 =>
  C.guarded true x119_213 (fun K => C.int .eql x122_215 (.int .i64 0) w215 K) w215 fun x123_216 w216 =>
  C.pick (some x119_213) (some x123_216) (some (.bool false)) w216 fun x124_217 w217 =>
  C.guarded true x124_217 (fun K => K x52_161 w217) w217 fun x126_218 w218 =>
  C.guarded true x124_217 (fun K => C.call Try.prog 25 #[x126_218] w218 K) w218 fun x127_219 w219 =>
  C.guarded true x124_217 (fun K => C.int .eql x127_219 (.int .i64 0) w219 K) w219 fun x128_220 w220 =>
  C.pick (some x124_217) (some x128_220) (some (.bool false)) w220 fun x129_221 w221 =>
  C.guarded true x129_221 (fun K => K (.pointer none) w221) w221 fun x131_222 w222 =>
  C.guarded true x129_221 (fun K => C.call Try.prog 34 #[x131_222] w222 K) w222 fun x132_223 w223 =>
  C.guarded true x129_221 (fun K => C.bin Try.prog .eql 28 (.tmp 132) (.const (.pointer none)) x132_223 (.pointer none) w223 K) w223 fun x133_224 w224 =>
  C.pick (some x129_221) (some x133_224) (some (.bool false)) w224 fun x134_225 w225 =>
  C.guarded true x134_225 (fun K => K x52_161 w225) w225 fun x136_226 w226 =>
  C.guarded true x134_225 (fun K => C.call Try.prog 34 #[x136_226] w226 K) w226 fun x137_227 w227 =>
  C.guarded true x134_225 (fun K => C.bin Try.prog .eql 28 (.tmp 137) (.const (.pointer none)) x137_227 (.pointer none) w227 K) w227 fun x138_228 w228 =>
  C.pick (some x134_225) (some x138_228) (some (.bool false)) w228 fun x139_229 w229 =>
  K x139_229 w229)) ∧ True)) ∧ True)) ∧ ((C.new (.cells #[.int .i64 0, .int .i64 0, .int .i64 0, .int .i64 0, .int .i64 0] 25) w79 fun x15_80 w80 =>
  (S w80 ∧
  (C.call Try.prog 15 #[y12, x45_2, x47_79] w80 fun x48_81 w81 =>
  (S w81 ∧
  C.ext 0 x48_81 w81 fun x49_82 w82 =>
  C.ext 1 x48_81 w82 fun x50_83 w83 =>
  (C.store 5 x15_80 x49_82 w83 fun w84 =>
  (S w84 ∧
  C.run Try.prog (Instr.build 58 #[]) w84 fun x51_85 w85 =>
  C.new (.cells (Value.cells x51_85) 58) w85 fun x52_86 w86 =>
  C.guarded true y11 (fun K => K y14 w86) w86 fun x55_87 w87 =>
  C.pick (some y11) (some x55_87) (some (.bool false)) w87 fun x56_88 w88 =>
  C.guarded true x56_88 (fun K => K x50_83 w88) w88 fun x58_89 w89 =>
  C.pick (some x56_88) (some x58_89) (some (.bool false)) w89 fun x59_90 w90 =>
  C.guarded true x59_90 (fun K => K y9 w90) w90 fun x61_91 w91 =>
  C.guarded true x59_90 (fun K => C.loadA 5 y13 w91 K) w91 fun x62_92 w92 =>
  C.guarded true x59_90 (fun K => C.call Try.prog 35 #[x61_91, x62_92] w92 K) w92 fun x63_93 w93 =>
  C.pick (some x59_90) (some x63_93) (some (.bool false)) w93 fun x64_94 w94 =>
  C.guarded true x64_94 (fun K => K y12 w94) w94 fun x66_95 w95 =>
  C.guarded true x64_94 (fun K => C.loadA 5 x15_80 w95 K) w95 fun x67_96 w96 =>
  C.guarded true x64_94 (fun K => C.call Try.prog 35 #[x66_95, x67_96] w96 K) w96 fun x68_97 w97 =>
  C.pick (some x64_94) (some x68_97) (some (.bool false)) w97 fun x69_98 w98 =>
  C.guarded true x69_98 (fun K => K (.pointer none) w98) w98 fun x71_99 w99 =>
  C.guarded true x69_98 (fun K => C.call Try.prog 19 #[x71_99, (.int .i64 1)] w99 K) w99 fun x72_100 w100 =>
  C.guarded true x69_98 (fun K => C.int .eql x72_100 (.int .i64 0) w100 K) w100 fun x73_101 w101 =>
  C.pick (some x69_98) (some x73_101) (some (.bool false)) w101 fun x74_102 w102 =>
  C.guarded true x74_102 (fun K => K x52_86 w102) w102 fun x76_103 w103 =>
  C.guarded true x74_102 (fun K => C.call Try.prog 19 #[x76_103, (.int .i64 1)] w103 K) w103 fun x77_104 w104 =>
  C.guarded true x74_102 (fun K => C.int .eql x77_104 (.int .i64 0) w104 K) w104 fun x78_105 w105 =>
  C.pick (some x74_102) (some x78_105) (some (.bool false)) w105 fun x79_106 w106 =>
  C.guarded true x79_106 (fun K => K (.pointer none) w106) w106 fun x81_107 w107 =>
  C.guarded true x79_106 (fun K => C.call Try.prog 20 #[x81_107, (.int .i64 0)] w107 K) w107 fun x82_108 w108 =>
  C.guarded true x79_106 (fun K => C.not x82_108 w108 K) w108 fun x83_109 w109 =>
  C.pick (some x79_106) (some x83_109) (some (.bool false)) w109 fun x84_110 w110 =>
  C.guarded true x84_110 (fun K => K x52_86 w110) w110 fun x86_111 w111 =>
  C.guarded true x84_110 (fun K => C.call Try.prog 20 #[x86_111, (.int .i64 0)] w111 K) w111 fun x87_112 w112 =>
  C.guarded true x84_110 (fun K => C.not x87_112 w112 K) w112 fun x88_113 w113 =>
  C.pick (some x84_110) (some x88_113) (some (.bool false)) w113 fun x89_114 w114 =>
  C.guarded true x89_114 (fun K => K (.pointer none) w114) w114 fun x91_115 w115 =>
  C.guarded true x89_114 (fun K => C.call Try.prog 21 #[x91_115, (.int .i64 1)] w115 K) w115 fun x92_116 w116 =>
  C.guarded true x89_114 (fun K => C.int .eql x92_116 (.int .i64 0) w116 K) w116 fun x93_117 w117 =>
  C.pick (some x89_114) (some x93_117) (some (.bool false)) w117 fun x94_118 w118 =>
  C.guarded true x94_118 (fun K => K x52_86 w118) w118 fun x96_119 w119 =>
  C.guarded true x94_118 (fun K => C.call Try.prog 21 #[x96_119, (.int .i64 1)] w119 K) w119 fun x97_120 w120 =>
  C.guarded true x94_118 (fun K => C.int .eql x97_120 (.int .i64 0) w120 K) w120 fun x98_121 w121 =>
  C.pick (some x94_118) (some x98_121) (some (.bool false)) w121 fun x99_122 w122 =>
  C.guarded true x99_122 (fun K => K (.pointer none) w122) w122 fun x101_123 w123 =>
  C.guarded true x99_122 (fun K => C.call Try.prog 22 #[x101_123] w123 K) w123 fun x102_124 w124 =>
  C.guarded true x99_122 (fun K => C.int .eql x102_124 (.int .i64 0) w124 K) w124 fun x103_125 w125 =>
  C.pick (some x99_122) (some x103_125) (some (.bool false)) w125 fun x104_126 w126 =>
  C.guarded true x104_126 (fun K => K x52_86 w126) w126 fun x106_127 w127 =>
  C.guarded true x104_126 (fun K => C.call Try.prog 22 #[x106_127] w127 K) w127 fun x107_128 w128 =>
  C.guarded true x104_126 (fun K => C.int .eql x107_128 (.int .i64 0) w128 K) w128 fun x108_129 w129 =>
  C.pick (some x104_126) (some x108_129) (some (.bool false)) w129 fun x109_130 w130 =>
  C.guarded true x109_130 (fun K => K (.pointer none) w130) w130 fun x111_131 w131 =>
  C.guarded true x109_130 (fun K => C.call Try.prog 23 #[x111_131] w131 K) w131 fun x112_132 w132 =>
  C.guarded true x109_130 (fun K => C.int .eql x112_132 (.int .i64 0) w132 K) w132 fun x113_133 w133 =>
  C.pick (some x109_130) (some x113_133) (some (.bool false)) w133 fun x114_134 w134 =>
  C.guarded true x114_134 (fun K => K (.pointer none) w134) w134 fun x116_135 w135 =>
  C.guarded true x114_134 (fun K => C.call Try.prog 24 #[x116_135] w135 K) w135 fun x117_136 w136 =>
  C.guarded true x114_134 (fun K => C.int .eql x117_136 (.int .i64 0) w136 K) w136 fun x118_137 w137 =>
  C.pick (some x114_134) (some x118_137) (some (.bool false)) w137 fun x119_138 w138 =>
  C.guarded true x119_138 (fun K => K (.pointer none) w138) w138 fun x121_139 w139 =>
  C.guarded true x119_138 (fun K => C.call Try.prog 25 #[x121_139] w139 K) w139 fun x122_140 w140 =>
  C.guarded true x119_138 (fun K => C.int .eql x122_140 (.int .i64 0) w140 K) w140 fun x123_141 w141 =>
  C.pick (some x119_138) (some x123_141) (some (.bool false)) w141 fun x124_142 w142 =>
  C.guarded true x124_142 (fun K => K x52_86 w142) w142 fun x126_143 w143 =>
  C.guarded true x124_142 (fun K => C.call Try.prog 25 #[x126_143] w143 K) w143 fun x127_144 w144 =>
  C.guarded true x124_142 (fun K => C.int .eql x127_144 (.int .i64 0) w144 K) w144 fun x128_145 w145 =>
  C.pick (some x124_142) (some x128_145) (some (.bool false)) w145 fun x129_146 w146 =>
  C.guarded true x129_146 (fun K => K (.pointer none) w146) w146 fun x131_147 w147 =>
  C.guarded true x129_146 (fun K => C.call Try.prog 34 #[x131_147] w147 K) w147 fun x132_148 w148 =>
  C.guarded true x129_146 (fun K => C.bin Try.prog .eql 28 (.tmp 132) (.const (.pointer none)) x132_148 (.pointer none) w148 K) w148 fun x133_149 w149 =>
  C.pick (some x129_146) (some x133_149) (some (.bool false)) w149 fun x134_150 w150 =>
  C.guarded true x134_150 (fun K => K x52_86 w150) w150 fun x136_151 w151 =>
  C.guarded true x134_150 (fun K => C.call Try.prog 34 #[x136_151] w151 K) w151 fun x137_152 w152 =>
  C.guarded true x134_150 (fun K => C.bin Try.prog .eql 28 (.tmp 137) (.const (.pointer none)) x137_152 (.pointer none) w152 K) w152 fun x138_153 w153 =>
  C.pick (some x134_150) (some x138_153) (some (.bool false)) w153 fun x139_154 w154 =>
  K x139_154 w154)) ∧ True)) ∧ True)) ∧ True))) ∧ ((C.new (.cells #[.int .i64 0, .int .i64 0, .int .i64 0, .int .i64 0, .int .i64 0] 25) w2 fun x15_3 w3 =>
  (S w3 ∧
  (C.call Try.prog 18 #[y3] w3 fun x47_4 w4 =>
  (S w4 ∧
  (C.call Try.prog 15 #[y12, x45_2, x47_4] w4 fun x48_5 w5 =>
  (S w5 ∧
  C.ext 0 x48_5 w5 fun x49_6 w6 =>
  C.ext 1 x48_5 w6 fun x50_7 w7 =>
  (C.store 5 x15_3 x49_6 w7 fun w8 =>
  (S w8 ∧
  C.run Try.prog (Instr.build 58 #[]) w8 fun x51_9 w9 =>
  C.new (.cells (Value.cells x51_9) 58) w9 fun x52_10 w10 =>
  C.guarded true y11 (fun K => K y14 w10) w10 fun x55_11 w11 =>
  C.pick (some y11) (some x55_11) (some (.bool false)) w11 fun x56_12 w12 =>
  C.guarded true x56_12 (fun K => K x50_7 w12) w12 fun x58_13 w13 =>
  C.pick (some x56_12) (some x58_13) (some (.bool false)) w13 fun x59_14 w14 =>
  C.guarded true x59_14 (fun K => K y9 w14) w14 fun x61_15 w15 =>
  C.guarded true x59_14 (fun K => C.loadA 5 y13 w15 K) w15 fun x62_16 w16 =>
  C.guarded true x59_14 (fun K => C.call Try.prog 35 #[x61_15, x62_16] w16 K) w16 fun x63_17 w17 =>
  C.pick (some x59_14) (some x63_17) (some (.bool false)) w17 fun x64_18 w18 =>
  C.guarded true x64_18 (fun K => K y12 w18) w18 fun x66_19 w19 =>
  C.guarded true x64_18 (fun K => C.loadA 5 x15_3 w19 K) w19 fun x67_20 w20 =>
  C.guarded true x64_18 (fun K => C.call Try.prog 35 #[x66_19, x67_20] w20 K) w20 fun x68_21 w21 =>
  C.pick (some x64_18) (some x68_21) (some (.bool false)) w21 fun x69_22 w22 =>
  C.guarded true x69_22 (fun K => K (.pointer none) w22) w22 fun x71_23 w23 =>
  C.guarded true x69_22 (fun K => C.call Try.prog 19 #[x71_23, (.int .i64 1)] w23 K) w23 fun x72_24 w24 =>
  C.guarded true x69_22 (fun K => C.int .eql x72_24 (.int .i64 0) w24 K) w24 fun x73_25 w25 =>
  C.pick (some x69_22) (some x73_25) (some (.bool false)) w25 fun x74_26 w26 =>
  C.guarded true x74_26 (fun K => K x52_10 w26) w26 fun x76_27 w27 =>
  C.guarded true x74_26 (fun K => C.call Try.prog 19 #[x76_27, (.int .i64 1)] w27 K) w27 fun x77_28 w28 =>
  C.guarded true x74_26 (fun K => C.int .eql x77_28 (.int .i64 0) w28 K) w28 fun x78_29 w29 =>
  C.pick (some x74_26) (some x78_29) (some (.bool false)) w29 fun x79_30 w30 =>
  C.guarded true x79_30 (fun K => K (.pointer none) w30) w30 fun x81_31 w31 =>
  C.guarded true x79_30 (fun K => C.call Try.prog 20 #[x81_31, (.int .i64 0)] w31 K) w31 fun x82_32 w32 =>
  C.guarded true x79_30 (fun K => C.not x82_32 w32 K) w32 fun x83_33 w33 =>
  C.pick (some x79_30) (some x83_33) (some (.bool false)) w33 fun x84_34 w34 =>
  C.guarded true x84_34 (fun K => K x52_10 w34) w34 fun x86_35 w35 =>
  C.guarded true x84_34 (fun K => C.call Try.prog 20 #[x86_35, (.int .i64 0)] w35 K) w35 fun x87_36 w36 =>
  C.guarded true x84_34 (fun K => C.not x87_36 w36 K) w36 fun x88_37 w37 =>
  C.pick (some x84_34) (some x88_37) (some (.bool false)) w37 fun x89_38 w38 =>
  C.guarded true x89_38 (fun K => K (.pointer none) w38) w38 fun x91_39 w39 =>
  C.guarded true x89_38 (fun K => C.call Try.prog 21 #[x91_39, (.int .i64 1)] w39 K) w39 fun x92_40 w40 =>
  C.guarded true x89_38 (fun K => C.int .eql x92_40 (.int .i64 0) w40 K) w40 fun x93_41 w41 =>
  C.pick (some x89_38) (some x93_41) (some (.bool false)) w41 fun x94_42 w42 =>
  C.guarded true x94_42 (fun K => K x52_10 w42) w42 fun x96_43 w43 =>
  C.guarded true x94_42 (fun K => C.call Try.prog 21 #[x96_43, (.int .i64 1)] w43 K) w43 fun x97_44 w44 =>
  C.guarded true x94_42 (fun K => C.int .eql x97_44 (.int .i64 0) w44 K) w44 fun x98_45 w45 =>
  C.pick (some x94_42) (some x98_45) (some (.bool false)) w45 fun x99_46 w46 =>
  C.guarded true x99_46 (fun K => K (.pointer none) w46) w46 fun x101_47 w47 =>
  C.guarded true x99_46 (fun K => C.call Try.prog 22 #[x101_47] w47 K) w47 fun x102_48 w48 =>
  C.guarded true x99_46 (fun K => C.int .eql x102_48 (.int .i64 0) w48 K) w48 fun x103_49 w49 =>
  C.pick (some x99_46) (some x103_49) (some (.bool false)) w49 fun x104_50 w50 =>
  C.guarded true x104_50 (fun K => K x52_10 w50) w50 fun x106_51 w51 =>
  C.guarded true x104_50 (fun K => C.call Try.prog 22 #[x106_51] w51 K) w51 fun x107_52 w52 =>
  C.guarded true x104_50 (fun K => C.int .eql x107_52 (.int .i64 0) w52 K) w52 fun x108_53 w53 =>
  C.pick (some x104_50) (some x108_53) (some (.bool false)) w53 fun x109_54 w54 =>
  C.guarded true x109_54 (fun K => K (.pointer none) w54) w54 fun x111_55 w55 =>
  C.guarded true x109_54 (fun K => C.call Try.prog 23 #[x111_55] w55 K) w55 fun x112_56 w56 =>
  C.guarded true x109_54 (fun K => C.int .eql x112_56 (.int .i64 0) w56 K) w56 fun x113_57 w57 =>
  C.pick (some x109_54) (some x113_57) (some (.bool false)) w57 fun x114_58 w58 =>
  C.guarded true x114_58 (fun K => K (.pointer none) w58) w58 fun x116_59 w59 =>
  C.guarded true x114_58 (fun K => C.call Try.prog 24 #[x116_59] w59 K) w59 fun x117_60 w60 =>
  C.guarded true x114_58 (fun K => C.int .eql x117_60 (.int .i64 0) w60 K) w60 fun x118_61 w61 =>
  C.pick (some x114_58) (some x118_61) (some (.bool false)) w61 fun x119_62 w62 =>
  C.guarded true x119_62 (fun K => K (.pointer none) w62) w62 fun x121_63 w63 =>
  C.guarded true x119_62 (fun K => C.call Try.prog 25 #[x121_63] w63 K) w63 fun x122_64 w64 =>
  C.guarded true x119_62 (fun K => C.int .eql x122_64 (.int .i64 0) w64 K) w64 fun x123_65 w65 =>
  C.pick (some x119_62) (some x123_65) (some (.bool false)) w65 fun x124_66 w66 =>
  C.guarded true x124_66 (fun K => K x52_10 w66) w66 fun x126_67 w67 =>
  C.guarded true x124_66 (fun K => C.call Try.prog 25 #[x126_67] w67 K) w67 fun x127_68 w68 =>
  C.guarded true x124_66 (fun K => C.int .eql x127_68 (.int .i64 0) w68 K) w68 fun x128_69 w69 =>
  C.pick (some x124_66) (some x128_69) (some (.bool false)) w69 fun x129_70 w70 =>
  C.guarded true x129_70 (fun K => K (.pointer none) w70) w70 fun x131_71 w71 =>
  C.guarded true x129_70 (fun K => C.call Try.prog 34 #[x131_71] w71 K) w71 fun x132_72 w72 =>
  C.guarded true x129_70 (fun K => C.bin Try.prog .eql 28 (.tmp 132) (.const (.pointer none)) x132_72 (.pointer none) w72 K) w72 fun x133_73 w73 =>
  C.pick (some x129_70) (some x133_73) (some (.bool false)) w73 fun x134_74 w74 =>
  C.guarded true x134_74 (fun K => K x52_10 w74) w74 fun x136_75 w75 =>
  C.guarded true x134_74 (fun K => C.call Try.prog 34 #[x136_75] w75 K) w75 fun x137_76 w76 =>
  C.guarded true x134_74 (fun K => C.bin Try.prog .eql 28 (.tmp 137) (.const (.pointer none)) x137_76 (.pointer none) w76 K) w76 fun x138_77 w77 =>
  C.pick (some x134_74) (some x138_77) (some (.bool false)) w77 fun x139_78 w78 =>
  K x139_78 w78)) ∧ True)) ∧ True)) ∧ True)) ∧ True))) : F8b.k7 K y3 y9 y10 y11 y12 y13 y14 w := Eq.mpr (by kernel_rfl) h
theorem F8b.sh {K : VK} {x0 x1 x2 x3 : Value} {w : World} (h : (C.call Try.prog 14 #[] w fun x19_1 w1 =>
  C.not x19_1 w1 fun x20_2 w2 =>
  C.ite x20_2 (K (.bool false) w2) (F8b.k3 K x0 x1 x2 x3 w2))) : C.call Try.prog 8 #[x0, x1, x2, x3] w K := calls_of_vc (A := F8b.ann) (args := [x0, x1, x2, x3]) (Eq.mpr (by kernel_rfl) h)

end Go.Proofs.YtckageghbhkklaaV
