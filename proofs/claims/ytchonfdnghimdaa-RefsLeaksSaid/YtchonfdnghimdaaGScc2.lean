/- What the bodies of these functions ask, as plain statements. Written by gen.py (own work) for the seat Ytchonfdnghimdaa. -/
import Derived.Test.YtchonfdnghimdaaVc6
import Derived.Test.YtchonfdnghimdaaProg
namespace Go.Proofs.YtchonfdnghimdaaV
open Go Go.Proofs
set_option linter.unusedVariables false
set_option maxRecDepth 100000

/-! ### 11 scutage/scc.Parts (25) -/
namespace F11
def ann : Ann := ⟨[(5, [1, 3, 4, 16, 17]), (8, [1, 3, 4, 16, 17]), (17, [6, 4294967291])], [(4, [1, 3, 4, 16, 17])], [], [], none⟩
noncomputable def code : Code := match Try.f11.body with | some c => c | none => .skip
noncomputable def top (K : VK) : QE := retQ Try.prog Try.f11.results.toList K
noncomputable def as12 : Code := asOf (codeAt [1, 1, 1, 1, 1, 1, 0, 1, 0] code)
noncomputable def bd12 : Code := bdOf (codeAt [1, 1, 1, 1, 1, 1, 0, 1, 0] code)
noncomputable def l4 (K : VK) (y1 y3 y4 y16 y17 : Value) (w : World) : Prop := nav ann Try.prog 61 (isLoop ann Try.prog 61 [(1, y1), (3, y3), (4, y4), (16, y16), (17, y17)] w) [1, 1, 1, 0, 1, 0] code (top K)
attribute [irreducible] l4
noncomputable def k5 (K : VK) (y1 y3 y4 y16 y17 : Value) (w : World) : Prop := nav ann Try.prog 61 (fun c Q => vcCode ann Try.prog 61 c Q [(1, y1), (3, y3), (4, y4), (16, y16), (17, y17)] w) [1, 1, 1, 0, 1, 0, 0, 1, 1] code (top K)
attribute [irreducible] k5
noncomputable def k8 (K : VK) (y1 y3 y4 y16 y17 : Value) (w : World) : Prop := nav ann Try.prog 61 (fun c Q => vcCode ann Try.prog 61 c Q [(1, y1), (3, y3), (4, y4), (16, y16), (17, y17)] w) [1, 1, 1, 0, 1, 0, 0, 1, 1, 1] code (top K)
attribute [irreducible] k8
noncomputable def k17 (K : VK) (y6 y4294967291 : Value) (w : World) : Prop := nav ann Try.prog 61 (fun c Q => vcCode ann Try.prog 61 c Q [(6, y6), (4294967291, y4294967291)] w) [1, 1, 1, 1, 1, 1, 1] code (top K)
attribute [irreducible] k17
end F11
theorem F11.l4.to {K : VK} {y1 y3 y4 y16 y17 : Value} {w : World} (h : (C.int .lss y17 y16 w fun x18_1 w1 =>
  C.ite x18_1 (F11.k5 K y1 y3 y4 y16 y17 w1) (C.new (.cells #[.slice none 0 0] 22) w1 fun x6_2 w2 =>
  C.loadA 2 y1 w2 fun x34_3 w3 =>
  C.call Try.prog 24 #[x34_3] w3 fun x35_4 w4 =>
  C.call Try.prog 22 #[x35_4] w4 fun x36_5 w5 =>
  C.new (.cells #[.pointer none] 40) w5 fun x7_6 w6 =>
  C.store 1 x7_6 x36_5 w6 fun w7 =>
  C.call Try.prog 25 #[y3] w7 fun x38_8 w8 =>
  C.range Try.prog 61 x38_8 #[39, 40] F11.as12 F11.bd12 [(38, x38_8), (37, y3), (7, x7_6), (36, x36_5), (35, x35_4), (34, x34_3), (6, x6_2), (18, x18_1), (1, y1), (3, y3), (4, y4), (16, y16), (17, y17)] w8 fun D9 j w9 =>
  C.left j (F11.k17 K x6_2 (.int .i64 (D9 : Int)) w9) (C.leave (.int .i64 (D9 : Int)) w9 fun w10 =>
  False) (fun id => cond (Nat.beq id 2) (F11.k17 K x6_2 (.int .i64 (D9 : Int)) w9) (False))))) : F11.l4 K y1 y3 y4 y16 y17 w := by unfold F11.l4; exact nav_round (Eq.mpr (by kernel_rfl) h)
theorem F11.k5.to {K : VK} {y1 y3 y4 y16 y17 : Value} {w : World} (h : (C.nilCheck y4 w fun x21_1 w1 =>
  C.field 1 x21_1 w1 fun x22_2 w2 =>
  C.load1 x22_2 w2 fun x23_3 w3 =>
  C.idx 1 x23_3 y17 w3 fun x25_4 w4 =>
  C.load1 x25_4 w4 fun x26_5 w5 =>
  C.not x26_5 w5 fun x27_6 w6 =>
  C.ite x27_6 (C.call Try.prog 23 #[y4, y17] w6 fun x31_7 w7 =>
  C.run Try.prog (Builtin.append_ #[23, 23] 23 #[y3, x31_7]) w7 fun x32_8 w8 =>
  F11.k8 K y1 x32_8 y4 y16 y17 w8) (F11.k8 K y1 y3 y4 y16 y17 w6))) : F11.k5 K y1 y3 y4 y16 y17 w := Eq.mpr (by kernel_rfl) h
theorem F11.k8.to {K : VK} {y1 y3 y4 y16 y17 : Value} {w : World} (h : (C.int .add y17 (.int .i64 1) w fun x33_1 w1 =>
  F11.l4 K y1 y3 y4 y16 x33_1 w1)) : F11.k8 K y1 y3 y4 y16 y17 w := Eq.mpr (by kernel_rfl) h
theorem F11.k17.to {K : VK} {y6 y4294967291 : Value} {w : World} (h : (C.load1 y6 w fun x58_1 w1 =>
  C.call Try.prog 27 #[x58_1, (.func (.func 28) #[] #[])] w1 fun x59_2 w2 =>
  C.load1 y6 w2 fun x60_3 w3 =>
  C.leave y4294967291 w3 fun w4 =>
  K x60_3 w4)) : F11.k17 K y6 y4294967291 w := Eq.mpr (by kernel_rfl) h
theorem F11.sh {K : VK} {x0 : Value} {w : World} (h : (C.new (.cells (Value.cells x0) 25) w fun x1_1 w1 =>
  C.field 0 x1_1 w1 fun x11_2 w2 =>
  C.load1 x11_2 w2 fun x12_3 w3 =>
  C.call Try.prog 22 #[x12_3] w3 fun x13_4 w4 =>
  C.field 0 x1_1 w4 fun x14_5 w5 =>
  C.load1 x14_5 w5 fun x15_6 w6 =>
  C.len x15_6 w6 fun x16_7 w7 =>
  F11.l4 K x1_1 (.slice none 0 0) x13_4 x16_7 (.int .i64 0) w7)) : C.call Try.prog 11 #[x0] w K := calls_of_vc (A := F11.ann) (args := [x0]) (Eq.mpr (by kernel_rfl) h)
namespace R11_12
def ann (l : Nat) : Ann := ⟨[], [], [], [], some l⟩
noncomputable def top (l : Nat) (K : VK) : QE := roundQ l K
end R11_12
theorem R11_12.yield {l : Nat} {r : Loop} {K : VK} {y6 y7 a39 a40 : Value} {w : World} (hr : w.heap[l]? = some (.loop r)) (hn : r.tmps.size = 61) (hp : r.params = #[39, 40]) (ha : r.assign = F11.as12) (hb : r.body = F11.bd12)
    (he : ∀ t v, lkT [(6, y6), (7, y7)] t = some v → r.tmps[t]? = some v) (h : (C.begin l w fun w1 =>
  C.load1 y7 w1 fun x41_2 w2 =>
  C.nilCheck x41_2 w2 fun x42_3 w3 =>
  C.field 1 x42_3 w3 fun x43_4 w4 =>
  C.load1 x43_4 w4 fun x44_5 w5 =>
  C.idx 1 x44_5 a40 w5 fun x46_6 w6 =>
  C.load1 x46_6 w6 fun x47_7 w7 =>
  C.not x47_7 w7 fun x48_8 w8 =>
  C.ite x48_8 (C.load1 y7 w8 fun x49_9 w9 =>
  C.call Try.prog 23 #[x49_9, a40] w9 fun x51_10 w10 =>
  C.call Try.prog 26 #[x51_10] w10 fun x53_11 w11 =>
  C.load1 y6 w11 fun x54_12 w12 =>
  C.run Try.prog (Instr.buildSlice 22 1 #[(0, x51_10)]) w12 fun x56_13 w13 =>
  C.run Try.prog (Builtin.append_ #[22, 22] 22 #[x54_12, x56_13]) w13 fun x57_14 w14 =>
  C.store 1 y6 x57_14 w14 fun w15 =>
  C.endr l none true (.ready) w15 K) (C.endr l none true (.ready) w8 K))) : C.yield Try.prog l #[a39, a40] w K :=
  yield_of (A := R11_12.ann l) (env := [(6, y6), (7, y7)]) rfl hr hn (by rw [hp]; rfl) he rfl (by rw [hp]; decide) (by rw [ha, hb, hp]; exact Eq.mpr (by kernel_rfl) h)

end Go.Proofs.YtchonfdnghimdaaV
