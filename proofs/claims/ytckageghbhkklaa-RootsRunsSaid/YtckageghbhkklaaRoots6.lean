/- RootsClones: what the law's function comes to. -/
import Derived.Test.YtckageghbhkklaaRoots5
import Derived.Test.YtckageghbhkklaaOwn2
namespace Go.Proofs.YtckageghbhkklaaV
open Go Go.Proofs Go.RowKit
set_option linter.unusedVariables false
set_option linter.unusedSimpArgs false
section
variable {K : VK} {w : World}
theorem build40_7 : (Instr.build 40 #[(0, (.int .i64 7))]).run Try.prog w = .ok (V 7 0) w := by kernel_rfl
/-- What was told is written on: only its own block changes. -/
theorem junk_loop {W1 : World} {a : Value} {y1 y2 y7 y8 y9 y10 : Value} {n : Nat} (hn : n ≤ 16) {fz : Prop} :
    ∀ (d j : Nat) (w : World) (xs : List (List Value)), n = j + d → xs.length = n → Fr (blkS a) W1 w → OwnS w a 40 2 xs →
      (∀ w', Fr (blkS a) W1 w' → F12.k11 K y1 y2 y7 y8 y9 y10 w') → F12.l8 K y1 y2 y7 y8 y9 y10 a (.int .i64 (j : Int)) w := by
  intro d
  induction d with
  | zero =>
    intro j w xs hd hx hf ho h
    refine F12.l8.to (C.len_rd ho.rd ?_)
    simp only [C.ite_true, C.ite_false, C.pick_true, C.pick_false, C.not_bool, C.field_ptr, C.nilCheck_ptr, C.add_mk, C.sub_mk, C.mul_mk, C.eql_mk, C.neq_mk, C.lss_mk, C.leq_mk, C.gtr_mk, C.geq_mk, C.conv_mk, C.len_mk, C.ext_0, C.ext_1, C.ext3_0, C.ext3_1, C.ext3_2, C.guarded_yes, C.guarded_tf, C.guarded_ft, C.guarded_undef, Bool.not_true, Bool.not_false, Nat.zero_add, eq_self, decide_true, decide_false, show ¬ ((j : Int) < (xs.length : Int)) by omega]
    exact h w hf
  | succ d ih =>
    intro j w xs hd hx hf ho h
    refine F12.l8.to (C.len_rd ho.rd ?_)
    simp only [C.ite_true, C.ite_false, C.pick_true, C.pick_false, C.not_bool, C.field_ptr, C.nilCheck_ptr, C.add_mk, C.sub_mk, C.mul_mk, C.eql_mk, C.neq_mk, C.lss_mk, C.leq_mk, C.gtr_mk, C.geq_mk, C.conv_mk, C.len_mk, C.ext_0, C.ext_1, C.ext3_0, C.ext3_1, C.ext3_2, C.guarded_yes, C.guarded_tf, C.guarded_ft, C.guarded_undef, Bool.not_true, Bool.not_false, Nat.zero_add, eq_self, decide_true, decide_false, show ((j : Int) < (xs.length : Int)) by omega]
    refine F12.k10.to (C.run_of build40_7 ?_)
    refine C.storeAt_own (x := V 7 0) ho (by omega) (by rw [Int.toNat_natCast]; omega) rfl v2_cells fun w1 ho1 hf1 _ => ?_
    refine F12.k9.to ?_
    simp only [C.ite_true, C.ite_false, C.pick_true, C.pick_false, C.not_bool, C.field_ptr, C.nilCheck_ptr, C.add_mk, C.sub_mk, C.mul_mk, C.eql_mk, C.neq_mk, C.lss_mk, C.leq_mk, C.gtr_mk, C.geq_mk, C.conv_mk, C.len_mk, C.ext_0, C.ext_1, C.ext3_0, C.ext3_1, C.ext3_2, C.guarded_yes, C.guarded_tf, C.guarded_ft, C.guarded_undef, Bool.not_true, Bool.not_false, Nat.zero_add, eq_self, decide_true, decide_false]
    rw [wrap64_id (n := (j : Int) + 1) (by omega), show (j : Int) + 1 = ((j + 1 : Nat) : Int) by omega]
    exact ih (j + 1) w1 _ (by omega) (by simpa using hx) (hf.trans hf1) ho1 h
theorem RootsClones_c {va vb vc : Value} {a b c : List ROp} (ha : RdS w va 4 (ropC a)) (hb : RdS w vb 4 (ropC b)) (hc : RdS w vc 4 (ropC c)) (h : ∀ w', Fr [] w w' → K (.bool true) w') : C.call Try.prog 12 #[va, vb, vc] w K := by
  refine F12.sh (alive_r fun w1 hf1 => ?_)
  simp only [C.ite_true, C.ite_false, C.pick_true, C.pick_false, C.not_bool, C.field_ptr, C.nilCheck_ptr, C.add_mk, C.sub_mk, C.mul_mk, C.eql_mk, C.neq_mk, C.lss_mk, C.leq_mk, C.gtr_mk, C.geq_mk, C.conv_mk, C.len_mk, C.ext_0, C.ext_1, C.ext3_0, C.ext3_1, C.ext3_2, C.guarded_yes, C.guarded_tf, C.guarded_ft, C.guarded_undef, Bool.not_true, Bool.not_false, Nat.zero_add, eq_self, decide_true, decide_false]
  refine F12.k3.to (new_r fun r w2 hf2 hr hR => few_r ha fun va' ha' => ?_)
  have hf12 := hf1.trans hf2
  have hr0 : w.heap.size ≤ r := by have := hf1.size; omega
  refine run_r ha' hr0 hf12 (by simp [blkS, Value.ownBlock]) ⟨hR, OwnS.nil _ _ _, by simp [blkS, Value.ownBlock], by simp [blkS, Value.ownBlock], by simp⟩ fun s m w3 hI3 hx3 => ?_
  generalize hp : List.foldl rstepL [] (List.take 50 a) = p at hI3
  have hf3 : Fr [] w w3 := hf12.then hx3.fr fun g hg => by
    simp [blkS, Value.ownBlock] at hg
    exact .inr (by omega)
  have z12 := hf12.size
  have hs3 : ∀ g ∈ blkS s, w.heap.size ≤ g := fun g hg => by
    rcases hx3.s g hg with h | h
    · simp [blkS, Value.ownBlock] at h
    · omega
  have hm3 : ∀ g ∈ blkS m, w.heap.size ≤ g := fun g hg => by
    rcases hx3.m g hg with h | h
    · simp [blkS, Value.ownBlock] at h
    · omega
  have hpl := hI3.len
  try simp only [C.ite_true, C.ite_false, C.pick_true, C.pick_false, C.not_bool, C.field_ptr, C.nilCheck_ptr, C.add_mk, C.sub_mk, C.mul_mk, C.eql_mk, C.neq_mk, C.lss_mk, C.leq_mk, C.gtr_mk, C.geq_mk, C.conv_mk, C.len_mk, C.ext_0, C.ext_1, C.ext3_0, C.ext3_1, C.ext3_2, C.guarded_yes, C.guarded_tf, C.guarded_ft, C.guarded_undef, Bool.not_true, Bool.not_false, Nat.zero_add, eq_self, decide_true, decide_false]
  refine Clone_c hI3.rts (by omega) fun k t w4 hf4 hRk hk0 hnt => ?_
  have hI4 := hI3.keep0 hf4
  have z3 := hf3.size
  have z4 := hf4.size
  refine All_c hI4.rts (by omega) fun al w5 hf5 hoa hna => ?_
  have hI5 := hI4.keep0 hf5
  have lm3 := hI3.own.mem_lt
  have ls3 := hI3.rts.2.1.mem_lt
  have lr3 := lt_of_at hI3.rts.1
  have lt4 := hRk.2.1.mem_lt
  have lk4 := lt_of_at hRk.1
  have nal := hna.blk
  have nt := hnt.blk
  have := junk_loop (K := K) (y1 := vb) (y2 := vc) (y7 := .pointer (some ⟨r, 0, none⟩)) (y8 := m) (y9 := .bool true) (y10 := .pointer (some ⟨k, 0, none⟩)) (a := al) (W1 := w5) hI3.len (fz := True) p.length 0 w5 _ (by omega) (by rw [valC_len]) (Fr.refl _ _) hoa fun w6 hf6 => ?_
  · exact this
  · have hI6 : RIn w6 r s m p := hI5.keep hf6 (fun h => by have := nal r h; omega) (fun g hg h => by have := nal g h; have := ls3 g hg; omega) (fun g hg h => by have := nal g h; have := lm3 g hg; omega)
    have hK6 : RIn w6 k t m p := by
      refine ⟨⟨hf6.at_ (hf5.at_ hRk.1 (by simp)) (fun h => by have := nal k h; omega), (hRk.2.1.keep hf5 (by simp)).keep' hf6 (fun g hg h => by have := nal g h; have := lt4 g hg; omega), hRk.2.2⟩, hI6.own, fun h => by have := lm3 k h; omega, fun g hg h => by have := nt g h; have := lm3 g hg; omega, hI6.len⟩
    have hf06 : Fr [] w w6 := ((hf3.trans hf4).trans hf5).then hf6 fun g hg => .inr (by have := nal g hg; omega)
    refine F12.k11.to (few_r hb fun vb' hb' => ?_)
    refine run_r hb' hr0 hf06 hs3 hI6 fun s7 m7 w7 hI7 hx7 => ?_
    generalize hq : List.foldl rstepL p (List.take 50 b) = q at hI7
    have z5 := hf5.size
    have z6 := hf6.size
    have z7 := hx7.fr.size
    have hf07 : Fr [] w w7 := hf06.then hx7.fr fun g hg => by
      rcases List.mem_cons.1 hg with rfl | hg
      · exact .inr hr0
      · exact .inr (hs3 g hg)
    have hK7 : RIn w7 k t m p := hK6.keep hx7.fr (fun h => by
        rcases List.mem_cons.1 h with rfl | h
        · omega
        · have := ls3 k h; omega) (fun g hg h => by
        have := nt g hg
        rcases List.mem_cons.1 h with rfl | h
        · omega
        · have := ls3 g h; omega) (fun g hg h => by
        rcases List.mem_cons.1 h with rfl | h
        · exact hI3.mr hg
        · exact hI3.ms g hg h)
    try simp only [C.ite_true, C.ite_false, C.pick_true, C.pick_false, C.not_bool, C.field_ptr, C.nilCheck_ptr, C.add_mk, C.sub_mk, C.mul_mk, C.eql_mk, C.neq_mk, C.lss_mk, C.leq_mk, C.gtr_mk, C.geq_mk, C.conv_mk, C.len_mk, C.ext_0, C.ext_1, C.ext3_0, C.ext3_1, C.ext3_2, C.guarded_yes, C.guarded_tf, C.guarded_ft, C.guarded_undef, Bool.not_true, Bool.not_false, Nat.zero_add, eq_self, decide_true, decide_false]
    refine few_r hc fun vc' hc' => ?_
    refine run_r hc' (by omega : w.heap.size ≤ k) hf07 (fun g hg => by have := nt g hg; omega) hK7 fun t8 m8 w8 hK8 hx8 => ?_
    generalize hu : List.foldl rstepL p (List.take 50 c) = u at hK8
    have z8 := hx8.fr.size
    have ls6 := hI6.rts.2.1.mem_lt
    have lm6 := hI6.own.mem_lt
    have lt6 := hK6.rts.2.1.mem_lt
    have lk6 := lt_of_at hK6.rts.1
    have hI8 : RIn w8 r s7 m7 q := hI7.keep hx8.fr (fun h => by
        rcases List.mem_cons.1 h with rfl | h
        · omega
        · have := nt r h; omega) (fun g hg h => by
        rcases List.mem_cons.1 h with rfl | h
        · rcases hx7.s g hg with h | h
          · have := ls3 g h; omega
          · omega
        · rcases hx7.s g hg with h' | h'
          · have := ls3 g h'; have := nt g h; omega
          · have := lt6 g h; omega) (fun g hg h => by
        rcases List.mem_cons.1 h with rfl | h
        · rcases hx7.m g hg with h | h
          · have := lm3 g h; omega
          · omega
        · rcases hx7.m g hg with h' | h'
          · have := lm3 g h'; have := nt g h; omega
          · have := lt6 g h; omega)
    have hf08 : Fr [] w w8 := hf07.then hx8.fr fun g hg => by
      rcases List.mem_cons.1 hg with rfl | hg
      · exact .inr (by omega)
      · exact .inr (by have := nt g hg; omega)
    try simp only [C.ite_true, C.ite_false, C.pick_true, C.pick_false, C.not_bool, C.field_ptr, C.nilCheck_ptr, C.add_mk, C.sub_mk, C.mul_mk, C.eql_mk, C.neq_mk, C.lss_mk, C.leq_mk, C.gtr_mk, C.geq_mk, C.conv_mk, C.len_mk, C.ext_0, C.ext_1, C.ext3_0, C.ext3_1, C.ext3_2, C.guarded_yes, C.guarded_tf, C.guarded_ft, C.guarded_undef, Bool.not_true, Bool.not_false, Nat.zero_add, eq_self, decide_true, decide_false]
    refine Clear_nil (Pop_nil fun w9 hf9 => ?_)
    try simp only [C.ite_true, C.ite_false, C.pick_true, C.pick_false, C.not_bool, C.field_ptr, C.nilCheck_ptr, C.add_mk, C.sub_mk, C.mul_mk, C.eql_mk, C.neq_mk, C.lss_mk, C.leq_mk, C.gtr_mk, C.geq_mk, C.conv_mk, C.len_mk, C.ext_0, C.ext_1, C.ext3_0, C.ext3_1, C.ext3_2, C.guarded_yes, C.guarded_tf, C.guarded_ft, C.guarded_undef, Bool.not_true, Bool.not_false, Nat.zero_add, eq_self, decide_true, decide_false]
    refine C.new_of fun x w10 hn10 => C.store_all hn10.at_ rfl v2_cells rfl fun w11 hu11 => ?_
    have f11 : Fr [] w8 w11 := (hf9.trans hn10.fr).then hu11.fr fun g hg => by
      simp only [List.mem_singleton] at hg
      have := hn10.is; have := hf9.size
      exact .inr (by omega)
    have hx11 := hu11.at_
    refine Get_nil _ fun w12 hf12 => ?_
    try simp only [C.ite_true, C.ite_false, C.pick_true, C.pick_false, C.not_bool, C.field_ptr, C.nilCheck_ptr, C.add_mk, C.sub_mk, C.mul_mk, C.eql_mk, C.neq_mk, C.lss_mk, C.leq_mk, C.gtr_mk, C.geq_mk, C.conv_mk, C.len_mk, C.ext_0, C.ext_1, C.ext3_0, C.ext3_1, C.ext3_2, C.guarded_yes, C.guarded_tf, C.guarded_ft, C.guarded_undef, Bool.not_true, Bool.not_false, Nat.zero_add, eq_self, decide_true, decide_false]
    refine C.new_of fun y w13 hn13 => C.store_all hn13.at_ rfl v2_cells rfl fun w14 hu14 => ?_
    have lx12 := lt_of_at (hf12.at_ hx11 (by simp))
    have hxy : x ≠ y := hn13.ne lx12
    have f14 : Fr [] w11 w14 := (hf12.trans hn13.fr).then hu14.fr fun g hg => by
      simp only [List.mem_singleton] at hg
      have := hn13.is; have := hf12.size
      exact .inr (by omega)
    have hx14 := f14.at_ hx11 (by simp)
    have hy14 := hu14.at_
    have f84 := f11.trans f14
    try simp only [C.ite_true, C.ite_false, C.pick_true, C.pick_false, C.not_bool, C.field_ptr, C.nilCheck_ptr, C.add_mk, C.sub_mk, C.mul_mk, C.eql_mk, C.neq_mk, C.lss_mk, C.leq_mk, C.gtr_mk, C.geq_mk, C.conv_mk, C.len_mk, C.ext_0, C.ext_1, C.ext3_0, C.ext3_1, C.ext3_2, C.guarded_yes, C.guarded_tf, C.guarded_ft, C.guarded_undef, Bool.not_true, Bool.not_false, Nat.zero_add, eq_self, decide_true, decide_false]
    have hI14 := hI8.keep0 f84
    have hK14 := hK8.keep0 f84
    have hql := hI14.len
    have hul := hK14.len
    refine All_c hI14.rts (by omega) fun z w15 f15 ho15 _ => Values_c ho15.rd (hI14.keep0 f15).own.rd fun w16 f16 => ?_
    simp only [C.ite_true, C.ite_false, C.pick_true, C.pick_false, C.not_bool, C.field_ptr, C.nilCheck_ptr, C.add_mk, C.sub_mk, C.mul_mk, C.eql_mk, C.neq_mk, C.lss_mk, C.leq_mk, C.gtr_mk, C.geq_mk, C.conv_mk, C.len_mk, C.ext_0, C.ext_1, C.ext3_0, C.ext3_1, C.ext3_2, C.guarded_yes, C.guarded_tf, C.guarded_ft, C.guarded_undef, Bool.not_true, Bool.not_false, Nat.zero_add, eq_self, decide_true, decide_false]
    have hK16 := (hK14.keep0 f15).keep0 f16
    refine All_c hK16.rts (by omega) fun z w17 f17 ho17 _ => Values_c ho17.rd (hK16.keep0 f17).own.rd fun w18 f18 => ?_
    simp only [C.ite_true, C.ite_false, C.pick_true, C.pick_false, C.not_bool, C.field_ptr, C.nilCheck_ptr, C.add_mk, C.sub_mk, C.mul_mk, C.eql_mk, C.neq_mk, C.lss_mk, C.leq_mk, C.gtr_mk, C.geq_mk, C.conv_mk, C.len_mk, C.ext_0, C.ext_1, C.ext3_0, C.ext3_1, C.ext3_2, C.guarded_yes, C.guarded_tf, C.guarded_ft, C.guarded_undef, Bool.not_true, Bool.not_false, Nat.zero_add, eq_self, decide_true, decide_false]
    have f418 := f15.trans (f16.trans (f17.trans f18))
    refine C.run_of build40_0 (Push_nil 0 0 fun w19 f19 => ?_)
    have hx19 := f19.at_ (f418.at_ hx14 (by simp)) (by simp)
    have hy19 := f19.at_ (f418.at_ hy14 (by simp)) (by simp)
    simp only [C.ite_true, C.ite_false, C.pick_true, C.pick_false, C.not_bool, C.field_ptr, C.nilCheck_ptr, C.add_mk, C.sub_mk, C.mul_mk, C.eql_mk, C.neq_mk, C.lss_mk, C.leq_mk, C.gtr_mk, C.geq_mk, C.conv_mk, C.len_mk, C.ext_0, C.ext_1, C.ext3_0, C.ext3_1, C.ext3_2, C.guarded_yes, C.guarded_tf, C.guarded_ft, C.guarded_undef, Bool.not_true, Bool.not_false, Nat.zero_add, eq_self, decide_true, decide_false]
    refine C.loadA_all hx19 rfl (C.run_of build40_0 ⟨_, veq _ _ 0 0 0 0, ?_⟩)
    simp only [C.ite_true, C.ite_false, C.pick_true, C.pick_false, C.not_bool, C.field_ptr, C.nilCheck_ptr, C.add_mk, C.sub_mk, C.mul_mk, C.eql_mk, C.neq_mk, C.lss_mk, C.leq_mk, C.gtr_mk, C.geq_mk, C.conv_mk, C.len_mk, C.ext_0, C.ext_1, C.ext3_0, C.ext3_1, C.ext3_2, C.guarded_yes, C.guarded_tf, C.guarded_ft, C.guarded_undef, Bool.not_true, Bool.not_false, Nat.zero_add, eq_self, decide_true, decide_false, and_self]
    refine C.loadA_all hy19 rfl (C.loadA_all hx19 rfl ⟨_, veq _ _ 0 0 0 0, ?_⟩)
    simp only [C.ite_true, C.ite_false, C.pick_true, C.pick_false, C.not_bool, C.field_ptr, C.nilCheck_ptr, C.add_mk, C.sub_mk, C.mul_mk, C.eql_mk, C.neq_mk, C.lss_mk, C.leq_mk, C.gtr_mk, C.geq_mk, C.conv_mk, C.len_mk, C.ext_0, C.ext_1, C.ext3_0, C.ext3_1, C.ext3_2, C.guarded_yes, C.guarded_tf, C.guarded_ft, C.guarded_undef, Bool.not_true, Bool.not_false, Nat.zero_add, eq_self, decide_true, decide_false, and_self]
    refine Len_nil ?_
    simp only [C.ite_true, C.ite_false, C.pick_true, C.pick_false, C.not_bool, C.field_ptr, C.nilCheck_ptr, C.add_mk, C.sub_mk, C.mul_mk, C.eql_mk, C.neq_mk, C.lss_mk, C.leq_mk, C.gtr_mk, C.geq_mk, C.conv_mk, C.len_mk, C.ext_0, C.ext_1, C.ext3_0, C.ext3_1, C.ext3_2, C.guarded_yes, C.guarded_tf, C.guarded_ft, C.guarded_undef, Bool.not_true, Bool.not_false, Nat.zero_add, eq_self, decide_true, decide_false]
    refine All_nil ?_
    simp only [C.ite_true, C.ite_false, C.pick_true, C.pick_false, C.not_bool, C.field_ptr, C.nilCheck_ptr, C.add_mk, C.sub_mk, C.mul_mk, C.eql_mk, C.neq_mk, C.lss_mk, C.leq_mk, C.gtr_mk, C.geq_mk, C.conv_mk, C.len_mk, C.ext_0, C.ext_1, C.ext3_0, C.ext3_1, C.ext3_2, C.guarded_yes, C.guarded_tf, C.guarded_ft, C.guarded_undef, Bool.not_true, Bool.not_false, Nat.zero_add, eq_self, decide_true, decide_false, show (((0 : Nat) : Int) = 0) = True from by simp]
    refine Refs_nil ?_
    simp only [C.ite_true, C.ite_false, C.pick_true, C.pick_false, C.not_bool, C.field_ptr, C.nilCheck_ptr, C.add_mk, C.sub_mk, C.mul_mk, C.eql_mk, C.neq_mk, C.lss_mk, C.leq_mk, C.gtr_mk, C.geq_mk, C.conv_mk, C.len_mk, C.ext_0, C.ext_1, C.ext3_0, C.ext3_1, C.ext3_2, C.guarded_yes, C.guarded_tf, C.guarded_ft, C.guarded_undef, Bool.not_true, Bool.not_false, Nat.zero_add, eq_self, decide_true, decide_false, show (((0 : Nat) : Int) = 0) = True from by simp]
    refine Clone_nil ⟨_, eq_nil_nil _ _ Try.underlying65, ?_⟩
    simp only [C.ite_true, C.ite_false, C.pick_true, C.pick_false, C.not_bool, C.field_ptr, C.nilCheck_ptr, C.add_mk, C.sub_mk, C.mul_mk, C.eql_mk, C.neq_mk, C.lss_mk, C.leq_mk, C.gtr_mk, C.geq_mk, C.conv_mk, C.len_mk, C.ext_0, C.ext_1, C.ext3_0, C.ext3_1, C.ext3_2, C.guarded_yes, C.guarded_tf, C.guarded_ft, C.guarded_undef, Bool.not_true, Bool.not_false, Nat.zero_add, eq_self, decide_true, decide_false]
    exact h w19 (hf08.trans (f84.trans (f418.trans f19)))
end
end Go.Proofs.YtckageghbhkklaaV
