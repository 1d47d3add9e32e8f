/- A ledger's calls: what each comes to. -/
import Derived.Test.YtckageghbhkklaaLed1
namespace Go.Proofs.YtckageghbhkklaaV
open Go Go.Proofs Go.RowKit
set_option linter.unusedVariables false
set_option linter.unusedSimpArgs false
theorem lastN_drop (k : Nat) (l : List Bool) : lastN k l = l.drop (l.length - k) := rfl
theorem lastN_len (k : Nat) (l : List Bool) : (lastN k l).length = min k l.length := by unfold lastN; rw [List.length_drop]; omega
section
variable {K : VK} {w : World}
theorem put_tail {g bb T t m : Nat} {win most : Int} {S : Nat → Value} {L : Nat → List Bool} {w0 : World} {v : Value} {work : Bool} (hL0 : Led w0 g bb T win most S L) (ht : t < T) (hf0 : Fr [] w0 w) (hm : m ≤ 64) (hl : (L t).length ≤ 64) (hv : RdS w v 1 (boolC (List.replicate m work)))
    (h : ∀ s w', Fr (bb :: blkS (S t)) w0 w' → Led w' g bb T win most (upd S t s) (upd L t (L t ++ List.replicate m work)) → (∀ x ∈ blkS s, x ∈ blkS (S t) ∨ w0.heap.size ≤ x) → F75.k1 K (.pointer (some ⟨g, 0, none⟩)) (.pointer (some ⟨bb, t * 3, none⟩)) w') :
    C.run Try.prog (Builtin.append_ #[90, 90] 90 #[S t, v]) w fun x w24 => (w24.heap[g]? = some (ledB win most bb T) ∧ (C.store 1 (.pointer (some ⟨bb, t * 3, none⟩)) x w24 fun w27 => (w27.heap[g]? = some (ledB win most bb T) ∧ F75.k1 K (.pointer (some ⟨g, 0, none⟩)) (.pointer (some ⟨bb, t * 3, none⟩)) w27)) ∧ True) := by
  have hL := hL0.keep0 hf0
  have hS := hL.sg t ht
  refine C.append_of (xs := boolC (L t)) (ys := boolC (List.replicate m work)) (e := 4) (sz := 1) (bytes := 1) (z := .bool false) Try.underlying90 (by kernel_rfl) rfl (by decide) (hL.own t ht) hv boolC_one
    (by rw [boolC_len, boolC_len]; simp; omega) (by rw [boolC_len, boolC_len]; simp; omega) fun s w1 ho hf hb _ => ?_
  have hg1 := hf.at_ hL.obj fun hx => (hS g hx).1 rfl
  obtain ⟨cs, hbb, hc⟩ := hL.bk
  have hbb1 := hf.at_ hbb fun hx => (hS bb hx).2 rfl
  have hsz := hc.1
  refine ⟨hg1, C.store1_of hbb1 ho.one.2 ho.one.1 (by omega) fun w2 hu => ?_, trivial⟩
  have hsb : ∀ x ∈ blkS s, x ∈ blkS (S t) ∨ w.heap.size ≤ x := fun x hx => by
    rcases hb with e | ⟨g', e, hle⟩
    · exact .inl (by rw [mem_blkS, ← e, ← mem_blkS]; exact hx)
    · rw [mem_blkS.1 hx] at e
      simp only [Option.some.injEq] at e
      exact .inr (by omega)
  have lbb := lt_of_at hbb
  have hsbb : ∀ x ∈ blkS s, x ≠ bb := fun x hx => by
    rcases hsb x hx with h' | h'
    · exact (hS x h').2
    · omega
  have hfA : Fr (bb :: blkS (S t)) w w2 := (hf.mono fun x hx => by simp [hx]).trans (hu.fr.mono (by simp))
  refine ⟨hu.fr.at_ hg1 (by simp only [List.mem_singleton]; exact hL.gb), h s w2 (hf0.w.trans hfA) ?_ fun x hx => ?_⟩
  · refine hL.row ht hfA ⟨_, hu.at_, hc.set0 ht s⟩ ?_ hsb fun x hx => by simpa using hx
    rw [boolC_app]
    exact ho.keep' hu.fr fun x hx => by simpa using hsbb x hx
  · rcases hsb x hx with h' | h'
    · exact .inl h'
    · exact .inr (by have := hf0.size; omega)
theorem put_a {g bb T t : Nat} {win most n : Int} {S : Nat → Value} {L : Nat → List Bool} {work : Bool} (hL : Led w g bb T win most S L) (ht : t < T) (h0 : 0 ≤ n) (h64 : n ≤ 64) (hw0 : 0 ≤ win) (hl : (L t).length ≤ 64)
    (h : ∀ s w', Fr (bb :: blkS (S t)) w w' → Led w' g bb T win most (upd S t s) (upd L t (L t ++ List.replicate (min n win).toNat work)) → (∀ x ∈ blkS s, x ∈ blkS (S t) ∨ w.heap.size ≤ x) → F75.k1 K (.pointer (some ⟨g, 0, none⟩)) (.pointer (some ⟨bb, t * 3, none⟩)) w') :
    C.call Try.prog 75 #[.pointer (some ⟨g, 0, none⟩), .pointer (some ⟨bb, t * 3, none⟩), .int .i64 n, .bool work] w K := by
  refine F75.sh (C.draw_of (fun w' => w'.heap[g]? = some (ledB win most bb T)) fun w1 hf1 he1 => ⟨by rw [he1]; exact hL.obj, ?_⟩)
  have hL1 := hL.keep0 hf1
  obtain ⟨cs, hbb, hc⟩ := hL1.bk
  simp only [C.ite_true, C.ite_false, C.pick_true, C.pick_false, C.not_bool, C.field_ptr, C.nilCheck_ptr, C.add_mk, C.sub_mk, C.mul_mk, C.eql_mk, C.neq_mk, C.lss_mk, C.leq_mk, C.gtr_mk, C.geq_mk, C.conv_mk, C.len_mk, C.ext_0, C.ext_1, C.ext3_0, C.ext3_1, C.ext3_2, C.guarded_yes, C.guarded_tf, C.guarded_ft, C.guarded_undef, Bool.not_true, Bool.not_false, Nat.zero_add, eq_self, decide_true, decide_false, Nat.add_zero]
  refine C.load1S_of (v := .int .i64 win) (fun w' hw => ⟨_, _, _, hw, rfl⟩) ⟨_, fun w' _ => min2_runb _ _ _ _ _ _, ?_⟩
  have em : min n win = ((min n win).toNat : Int) := by omega
  rw [em]
  have hm : (min n win).toNat ≤ 64 := by omega
  clear em
  generalize (min n win).toNat = m at *
  have hn2 := New.mk' w1 (.cells #[.bool work] 4)
  have hs1 : RdS (w1.alloc (.cells #[.bool work] 4)) (.slice (some ⟨w1.heap.size, 0, none⟩) 1 1) 1 [[.bool work]] := RdS.of_block hn2.at_ rfl (by simp) (by simp) (by simp) (by simp)
  have hL2 := hL1.keep0 hn2.fr
  have rd : ∀ {v' w'}, OwnS w' v' 4 1 (List.replicate m [.bool work]) → RdS w' v' 1 (boolC (List.replicate m work)) := fun ho => by rw [boolC_rep]; exact ho.rd
  have hb0 := (hc.2 t ht).1
  have f12 := hf1.trans hn2.fr
  refine ⟨C.load1_of hbb hb0 ⟨hL1.obj, C.run_of (bs90 work) ⟨hL2.obj, RepBool_c hs1 rfl (by omega) fun v' w3 hf3 ho3 hn3 => ⟨hf3.at_ hL2.obj (by simp), put_tail hL ht (f12.trans hf3) hm hl (rd ho3) h, trivial⟩, trivial⟩, trivial⟩, ?_⟩
  refine ⟨C.run_of (bs90 work) ⟨hL2.obj, C.load1_of (hn2.fr.at_ hbb (by simp)) hb0 ⟨hL2.obj, RepBool_c hs1 rfl (by omega) fun v' w3 hf3 ho3 hn3 => ⟨hf3.at_ hL2.obj (by simp), put_tail hL ht (f12.trans hf3) hm hl (rd ho3) h, trivial⟩, trivial⟩, ?_⟩, trivial⟩
  refine ⟨RepBool_c hs1 rfl (by omega) fun v' w3 hf3 ho3 hn3 => ⟨hf3.at_ hL2.obj (by simp), C.load1_of (hf3.at_ (hn2.fr.at_ hbb (by simp)) (by simp)) hb0 ⟨hf3.at_ hL2.obj (by simp), put_tail hL ht (f12.trans hf3) hm hl (rd ho3) h, trivial⟩, trivial⟩, trivial⟩
theorem put_b {g bb T t : Nat} {win most : Int} {S : Nat → Value} {L : Nat → List Bool} (hL : Led w g bb T win most S L) (ht : t < T) (hw0 : 0 ≤ win) (hw1 : win ≤ 64) (hl : (L t).length ≤ 1000)
    (h : ∀ s w', Fr [bb] w w' → Led w' g bb T win most (upd S t s) (upd L t (lastN win.toNat (L t))) → NewS w s → K (.tuple #[]) w') : F75.k1 K (.pointer (some ⟨g, 0, none⟩)) (.pointer (some ⟨bb, t * 3, none⟩)) w := by
  refine F75.k1.to (C.draw_of (fun w' => w'.heap[g]? = some (ledB win most bb T)) fun w1 hf1 he1 => ⟨by rw [he1]; exact hL.obj, ?_⟩)
  have hL1 := hL.keep0 hf1
  obtain ⟨cs, hbb, hc⟩ := hL1.bk
  have hb0 := (hc.2 t ht).1
  have hsz := hc.1
  have hrd := (hL1.own t ht).rd
  have hS := hL1.sg t ht
  have lbb := lt_of_at hbb
  simp only [C.ite_true, C.ite_false, C.pick_true, C.pick_false, C.not_bool, C.field_ptr, C.nilCheck_ptr, C.add_mk, C.sub_mk, C.mul_mk, C.eql_mk, C.neq_mk, C.lss_mk, C.leq_mk, C.gtr_mk, C.geq_mk, C.conv_mk, C.len_mk, C.ext_0, C.ext_1, C.ext3_0, C.ext3_1, C.ext3_2, C.guarded_yes, C.guarded_tf, C.guarded_ft, C.guarded_undef, Bool.not_true, Bool.not_false, Nat.zero_add, eq_self, decide_true, decide_false, Nat.add_zero]
  refine C.load1S_of (v := .int .i64 win) (fun w' hw => ⟨_, _, _, hw, rfl⟩) ?_
  obtain ⟨A, c, he, hcap⟩ := hrd.len_c (P := Try.prog) (K := K)
  rw [boolC_len] at he hcap
  have tail : ∀ v, RdS w1 v 1 (boolC (lastN win.toNat (L t))) → C.call Try.prog 79 #[v] w1 fun x42_25 w25 => (w25.heap[g]? = some (ledB win most bb T) ∧ (C.store 1 (.pointer (some ⟨bb, t * 3, none⟩)) x42_25 w25 fun w28 => (w28.heap[g]? = some (ledB win most bb T) ∧ K (.tuple #[]) w28)) ∧ True) := by
    intro v hv
    refine CloneB_c hv (by rw [lastN_len]; omega) fun s w2 hf2 ho2 hn2 => ?_
    have hg2 := hf2.at_ hL1.obj (by simp)
    have hbb2 := hf2.at_ hbb (by simp)
    refine ⟨hg2, C.store1_of hbb2 ho2.one.2 ho2.one.1 (by omega) fun w3 hu => ?_, trivial⟩
    have hns := hn2.blk
    have hfA : Fr [bb] w1 w3 := hf2.w.trans hu.fr
    refine ⟨hu.fr.at_ hg2 (by simp only [List.mem_singleton]; exact hL.gb), h s w3 (hf1.w.trans hfA) ?_ (hn2.mono hf1.size)⟩
    refine hL1.row ht hfA ⟨_, hu.at_, hc.set0 ht s⟩ (ho2.keep' hu.fr fun x hx => ?_) (fun x hx => .inr (hns x hx)) fun x hx => .inl (by simpa using hx)
    have := hns x hx
    simp only [List.mem_singleton]
    omega
  have hlen : (L t).length ≤ 9223372036854775807 := by omega
  have run : ∀ w' : World, (Instr.sliceAt 90 (S t) (some (.int .i64 (max (((L t).length : Int) - win) 0))) none none).run Try.prog w' = .ok (.slice (if c = (L t).length - win.toNat then A else A.map (·.add (((L t).length - win.toNat) * 1))) ((L t).length - ((L t).length - win.toNat)) (c - ((L t).length - win.toNat))) w' := fun w' => by
    have := sliceFrom_run (P := Try.prog) (w := w') (t := 90) (e := 4) (sz := 1) A (L t).length c .i64 (max (((L t).length : Int) - win) 0) Try.underlying90 (by kernel_rfl) (by omega) (by omega)
    rw [he, this]
    rw [show (max (((L t).length : Int) - win) 0).toNat = (L t).length - win.toNat by omega]
  have hd : RdS w1 (.slice (if c = (L t).length - win.toNat then A else A.map (·.add (((L t).length - win.toNat) * 1))) ((L t).length - ((L t).length - win.toNat)) (c - ((L t).length - win.toNat))) 1 (boolC (lastN win.toNat (L t))) := by
    rw [he] at hrd
    have := hrd.drop ((L t).length - win.toNat) (by omega)
    rw [← boolC_drop] at this
    exact this
  refine ⟨C.load1_of hbb hb0 ⟨hL1.obj, C.load1_of hbb hb0 ⟨hL1.obj, ?_⟩, trivial⟩, C.load1_of hbb hb0 ⟨hL1.obj, ?_⟩, trivial⟩
  · refine C.len_rd hrd ?_
    simp only [C.ite_true, C.ite_false, C.pick_true, C.pick_false, C.not_bool, C.field_ptr, C.nilCheck_ptr, C.add_mk, C.sub_mk, C.mul_mk, C.eql_mk, C.neq_mk, C.lss_mk, C.leq_mk, C.gtr_mk, C.geq_mk, C.conv_mk, C.len_mk, C.ext_0, C.ext_1, C.ext3_0, C.ext3_1, C.ext3_2, C.guarded_yes, C.guarded_tf, C.guarded_ft, C.guarded_undef, Bool.not_true, Bool.not_false, Nat.zero_add, eq_self, decide_true, decide_false, boolC_len]
    rw [wrap64_id (by omega)]
    exact ⟨_, fun w' _ => max2_runb _ _ _ _ _ _, _, fun w' _ => run w', tail _ hd, trivial⟩
  · refine C.len_rd hrd ?_
    simp only [C.ite_true, C.ite_false, C.pick_true, C.pick_false, C.not_bool, C.field_ptr, C.nilCheck_ptr, C.add_mk, C.sub_mk, C.mul_mk, C.eql_mk, C.neq_mk, C.lss_mk, C.leq_mk, C.gtr_mk, C.geq_mk, C.conv_mk, C.len_mk, C.ext_0, C.ext_1, C.ext3_0, C.ext3_1, C.ext3_2, C.guarded_yes, C.guarded_tf, C.guarded_ft, C.guarded_undef, Bool.not_true, Bool.not_false, Nat.zero_add, eq_self, decide_true, decide_false, boolC_len]
    rw [wrap64_id (by omega)]
    exact ⟨_, fun w' _ => max2_runb _ _ _ _ _ _, C.load1_of hbb hb0 ⟨hL1.obj, _, fun w' _ => run w', tail _ hd, trivial⟩, trivial⟩
theorem upd_upd {α : Type} (f : Nat → α) (t : Nat) (x y : α) : upd (upd f t x) t y = upd f t y := by
  funext u
  unfold upd
  split <;> rfl
/-- What one call leaves. -/
structure LNx (w w' : World) (bb t : Nat) (S : Nat → Value) (s : Value) : Prop where
  fr : Fr (bb :: blkS (S t)) w w'
  new : ∀ x ∈ blkS s, w.heap.size ≤ x
theorem put_c {g bb T t : Nat} {win most n : Int} {S : Nat → Value} {L : Nat → List Bool} {work : Bool} (hL : Led w g bb T win most S L) (ht : t < T) (h0 : 0 ≤ n) (h64 : n ≤ 64) (hw0 : 0 ≤ win) (hw1 : win ≤ 64) (hl : (L t).length ≤ 64)
    (h : ∀ s w', LNx w w' bb t S s → Led w' g bb T win most (upd S t s) (upd L t (lastN win.toNat (L t ++ List.replicate (min n win).toNat work))) → K (.tuple #[]) w') :
    C.call Try.prog 75 #[.pointer (some ⟨g, 0, none⟩), .pointer (some ⟨bb, t * 3, none⟩), .int .i64 n, .bool work] w K := by
  refine put_a hL ht h0 h64 hw0 hl fun s1 w1 hf1 hL1 hs1 => ?_
  refine put_b hL1 ht hw0 hw1 (by rw [upd_same]; simp; omega) fun s2 w2 hf2 hL2 hn2 => ?_
  rw [upd_upd, upd_upd, upd_same] at hL2
  exact h s2 w2 ⟨hf1.trans (hf2.mono (by simp)), fun x hx => Nat.le_trans hf1.size (hn2.blk x hx)⟩ hL2
/-- A number among a book's, changed. -/
theorem num_c {g bb T t k : Nat} {win most n : Int} {S : Nat → Value} {L : Nat → List Bool} (hL : Led w g bb T win most S L) (ht : t < T) (hk : k = 1 ∨ k = 2) {F : World → Prop}
    (h : ∀ w', Fr [bb] w w' → Led w' g bb T win most S L → F w') :
    C.load1 (.pointer (some ⟨bb, t * 3 + k, none⟩)) w fun x28_4 w4 => C.int .add x28_4 (.int .i64 n) w4 fun x30_5 w5 => C.store 1 (.pointer (some ⟨bb, t * 3 + k, none⟩)) x30_5 w5 F := by
  obtain ⟨cs, hbb, hc⟩ := hL.bk
  have hsz := hc.1
  obtain ⟨_, ⟨a, ha⟩, ⟨b, hb⟩⟩ := hc.2 t ht
  have : ∃ m, cs[t * 3 + k]? = some (.int .i64 m) := by
    rcases hk with rfl | rfl
    · exact ⟨a, ha⟩
    · exact ⟨b, hb⟩
  obtain ⟨m, hm⟩ := this
  refine C.load1_of hbb hm ?_
  simp only [C.ite_true, C.ite_false, C.pick_true, C.pick_false, C.not_bool, C.field_ptr, C.nilCheck_ptr, C.add_mk, C.sub_mk, C.mul_mk, C.eql_mk, C.neq_mk, C.lss_mk, C.leq_mk, C.gtr_mk, C.geq_mk, C.conv_mk, C.len_mk, C.ext_0, C.ext_1, C.ext3_0, C.ext3_1, C.ext3_2, C.guarded_yes, C.guarded_tf, C.guarded_ft, C.guarded_undef, Bool.not_true, Bool.not_false, Nat.zero_add, eq_self, decide_true, decide_false]
  refine C.store1_of hbb rfl rfl (by omega) fun w1 hu => h w1 hu.fr ?_
  exact ⟨hu.fr.at_ hL.obj (by simp only [List.mem_singleton]; exact hL.gb), ⟨_, hu.at_, hc.set12 ht hk _⟩, fun u hu' => (hL.own u hu').keep' hu.fr fun x hx => by simpa using (hL.sg u hu' x hx).2, hL.gb, hL.sg, hL.ss⟩
theorem Run_no {g bb T t : Nat} {win most n : Int} {S : Nat → Value} {L : Nat → List Bool} (hL : Led w g bb T win most S L) (ht : t < T) (hn : ¬ (0 ≤ n ∧ n ≤ 64)) (h : K (.bool false) w) : C.call Try.prog 53 #[.pointer (some ⟨g, 0, none⟩), .int .i64 (t : Int), .int .i64 n] w K := by
  refine F53.sh (of_c hL ht ⟨_, eq_ptr_nil _ _ _ Try.underlying110, ?_⟩)
  simp only [C.ite_true, C.ite_false, C.pick_true, C.pick_false, C.not_bool, C.field_ptr, C.nilCheck_ptr, C.add_mk, C.sub_mk, C.mul_mk, C.eql_mk, C.neq_mk, C.lss_mk, C.leq_mk, C.gtr_mk, C.geq_mk, C.conv_mk, C.len_mk, C.ext_0, C.ext_1, C.ext3_0, C.ext3_1, C.ext3_2, C.guarded_yes, C.guarded_tf, C.guarded_ft, C.guarded_undef, Bool.not_true, Bool.not_false, Nat.zero_add, eq_self, decide_true, decide_false]
  by_cases h0 : n < 0
  · simp only [C.ite_true, C.ite_false, C.pick_true, C.pick_false, C.not_bool, C.field_ptr, C.nilCheck_ptr, C.add_mk, C.sub_mk, C.mul_mk, C.eql_mk, C.neq_mk, C.lss_mk, C.leq_mk, C.gtr_mk, C.geq_mk, C.conv_mk, C.len_mk, C.ext_0, C.ext_1, C.ext3_0, C.ext3_1, C.ext3_2, C.guarded_yes, C.guarded_tf, C.guarded_ft, C.guarded_undef, Bool.not_true, Bool.not_false, Nat.zero_add, eq_self, decide_true, decide_false, h0]
    exact h
  · simp only [C.ite_true, C.ite_false, C.pick_true, C.pick_false, C.not_bool, C.field_ptr, C.nilCheck_ptr, C.add_mk, C.sub_mk, C.mul_mk, C.eql_mk, C.neq_mk, C.lss_mk, C.leq_mk, C.gtr_mk, C.geq_mk, C.conv_mk, C.len_mk, C.ext_0, C.ext_1, C.ext3_0, C.ext3_1, C.ext3_2, C.guarded_yes, C.guarded_tf, C.guarded_ft, C.guarded_undef, Bool.not_true, Bool.not_false, Nat.zero_add, eq_self, decide_true, decide_false, h0, show n > 64 by omega]
    exact h
theorem Run_yes {g bb T t : Nat} {win most n : Int} {S : Nat → Value} {L : Nat → List Bool} (hL : Led w g bb T win most S L) (ht : t < T) (h0 : 0 ≤ n) (h64 : n ≤ 64) (hw0 : 0 ≤ win) (hw1 : win ≤ 64) (hl : (L t).length ≤ 64)
    (h : ∀ s w', LNx w w' bb t S s → Led w' g bb T win most (upd S t s) (upd L t (lastN win.toNat (L t ++ List.replicate (min n win).toNat false))) → K (.bool true) w') : C.call Try.prog 53 #[.pointer (some ⟨g, 0, none⟩), .int .i64 (t : Int), .int .i64 n] w K := by
  refine F53.sh (of_c hL ht ⟨_, eq_ptr_nil _ _ _ Try.underlying110, ?_⟩)
  simp only [C.ite_true, C.ite_false, C.pick_true, C.pick_false, C.not_bool, C.field_ptr, C.nilCheck_ptr, C.add_mk, C.sub_mk, C.mul_mk, C.eql_mk, C.neq_mk, C.lss_mk, C.leq_mk, C.gtr_mk, C.geq_mk, C.conv_mk, C.len_mk, C.ext_0, C.ext_1, C.ext3_0, C.ext3_1, C.ext3_2, C.guarded_yes, C.guarded_tf, C.guarded_ft, C.guarded_undef, Bool.not_true, Bool.not_false, Nat.zero_add, eq_self, decide_true, decide_false, show ¬ n < 0 by omega, show ¬ n > 64 by omega]
  refine F53.k4.to (put_c hL ht h0 h64 hw0 hw1 hl fun s w1 hx hL1 => ?_)
  simp only [C.ite_true, C.ite_false, C.pick_true, C.pick_false, C.not_bool, C.field_ptr, C.nilCheck_ptr, C.add_mk, C.sub_mk, C.mul_mk, C.eql_mk, C.neq_mk, C.lss_mk, C.leq_mk, C.gtr_mk, C.geq_mk, C.conv_mk, C.len_mk, C.ext_0, C.ext_1, C.ext3_0, C.ext3_1, C.ext3_2, C.guarded_yes, C.guarded_tf, C.guarded_ft, C.guarded_undef, Bool.not_true, Bool.not_false, Nat.zero_add, eq_self, decide_true, decide_false]
  exact num_c hL1 ht (.inl rfl) fun w2 hf2 hL2 => h s w2 ⟨hx.fr.trans (hf2.mono (by simp)), hx.new⟩ hL2
/-- May they come? -/
def admits (win most n : Int) (l : List Bool) : Bool := decide (0 ≤ n ∧ n ≤ most ∧ (cnt (l.drop ((l.length : Int) + n - win).toNat) : Int) + n ≤ most)
theorem Admit_c {g bb T t : Nat} {win most n : Int} {S : Nat → Value} {L : Nat → List Bool} (hL : Led w g bb T win most S L) (ht : t < T) (hw0 : 0 ≤ win) (hw1 : win ≤ 64) (hm : most ≤ win) (hl : (L t).length ≤ 64)
    (h : ∀ w', Fr [] w w' → K (.bool (admits win most n (L t))) w') : C.call Try.prog 73 #[.pointer (some ⟨g, 0, none⟩), .int .i64 (t : Int), .int .i64 n] w K := by
  refine F73.sh (of_c hL ht ⟨_, eq_ptr_nil _ _ _ Try.underlying110, ?_⟩)
  simp only [C.ite_true, C.ite_false, C.pick_true, C.pick_false, C.not_bool, C.field_ptr, C.nilCheck_ptr, C.add_mk, C.sub_mk, C.mul_mk, C.eql_mk, C.neq_mk, C.lss_mk, C.leq_mk, C.gtr_mk, C.geq_mk, C.conv_mk, C.len_mk, C.ext_0, C.ext_1, C.ext3_0, C.ext3_1, C.ext3_2, C.guarded_yes, C.guarded_tf, C.guarded_ft, C.guarded_undef, Bool.not_true, Bool.not_false, Nat.zero_add, eq_self, decide_true, decide_false]
  by_cases h0 : n < 0
  · simp only [C.ite_true, C.ite_false, C.pick_true, C.pick_false, C.not_bool, C.field_ptr, C.nilCheck_ptr, C.add_mk, C.sub_mk, C.mul_mk, C.eql_mk, C.neq_mk, C.lss_mk, C.leq_mk, C.gtr_mk, C.geq_mk, C.conv_mk, C.len_mk, C.ext_0, C.ext_1, C.ext3_0, C.ext3_1, C.ext3_2, C.guarded_yes, C.guarded_tf, C.guarded_ft, C.guarded_undef, Bool.not_true, Bool.not_false, Nat.zero_add, eq_self, decide_true, decide_false, h0]
    have := h w (Fr.refl _ _)
    rw [show admits win most n (L t) = false from decide_eq_false (by omega)] at this
    exact this
  · simp only [C.ite_true, C.ite_false, C.pick_true, C.pick_false, C.not_bool, C.field_ptr, C.nilCheck_ptr, C.add_mk, C.sub_mk, C.mul_mk, C.eql_mk, C.neq_mk, C.lss_mk, C.leq_mk, C.gtr_mk, C.geq_mk, C.conv_mk, C.len_mk, C.ext_0, C.ext_1, C.ext3_0, C.ext3_1, C.ext3_2, C.guarded_yes, C.guarded_tf, C.guarded_ft, C.guarded_undef, Bool.not_true, Bool.not_false, Nat.zero_add, eq_self, decide_true, decide_false, h0]
    refine C.load1_of (v := .int .i64 most) hL.obj rfl ?_
    by_cases h1 : n > most
    · simp only [C.ite_true, C.ite_false, C.pick_true, C.pick_false, C.not_bool, C.field_ptr, C.nilCheck_ptr, C.add_mk, C.sub_mk, C.mul_mk, C.eql_mk, C.neq_mk, C.lss_mk, C.leq_mk, C.gtr_mk, C.geq_mk, C.conv_mk, C.len_mk, C.ext_0, C.ext_1, C.ext3_0, C.ext3_1, C.ext3_2, C.guarded_yes, C.guarded_tf, C.guarded_ft, C.guarded_undef, Bool.not_true, Bool.not_false, Nat.zero_add, eq_self, decide_true, decide_false, h1]
      have := h w (Fr.refl _ _)
      rw [show admits win most n (L t) = false from decide_eq_false (by omega)] at this
      exact this
    · simp only [C.ite_true, C.ite_false, C.pick_true, C.pick_false, C.not_bool, C.field_ptr, C.nilCheck_ptr, C.add_mk, C.sub_mk, C.mul_mk, C.eql_mk, C.neq_mk, C.lss_mk, C.leq_mk, C.gtr_mk, C.geq_mk, C.conv_mk, C.len_mk, C.ext_0, C.ext_1, C.ext3_0, C.ext3_1, C.ext3_2, C.guarded_yes, C.guarded_tf, C.guarded_ft, C.guarded_undef, Bool.not_true, Bool.not_false, Nat.zero_add, eq_self, decide_true, decide_false, h1]
      obtain ⟨cs, hbb, hc⟩ := hL.bk
      have hb0 := (hc.2 t ht).1
      refine F73.k4.to (C.draw_of (fun w' => w'.heap[g]? = some (ledB win most bb T) ∧ w'.heap[bb]? = some (.cells cs 114 (0, 0))) fun w1 hf1 he1 => ⟨by rw [he1]; exact ⟨hL.obj, hbb⟩, ?_⟩)
      have hL1 := hL.keep0 hf1
      simp only [C.ite_true, C.ite_false, C.pick_true, C.pick_false, C.not_bool, C.field_ptr, C.nilCheck_ptr, C.add_mk, C.sub_mk, C.mul_mk, C.eql_mk, C.neq_mk, C.lss_mk, C.leq_mk, C.gtr_mk, C.geq_mk, C.conv_mk, C.len_mk, C.ext_0, C.ext_1, C.ext3_0, C.ext3_1, C.ext3_2, C.guarded_yes, C.guarded_tf, C.guarded_ft, C.guarded_undef, Bool.not_true, Bool.not_false, Nat.zero_add, eq_self, decide_true, decide_false, Nat.add_zero]
      refine C.load1S_of (v := S t) (fun w' hw => ⟨_, _, _, hw.2, hb0⟩) (C.len_rd (hL1.own t ht).rd ?_)
      simp only [C.ite_true, C.ite_false, C.pick_true, C.pick_false, C.not_bool, C.field_ptr, C.nilCheck_ptr, C.add_mk, C.sub_mk, C.mul_mk, C.eql_mk, C.neq_mk, C.lss_mk, C.leq_mk, C.gtr_mk, C.geq_mk, C.conv_mk, C.len_mk, C.ext_0, C.ext_1, C.ext3_0, C.ext3_1, C.ext3_2, C.guarded_yes, C.guarded_tf, C.guarded_ft, C.guarded_undef, Bool.not_true, Bool.not_false, Nat.zero_add, eq_self, decide_true, decide_false, boolC_len]
      rw [wrap64_id (by omega)]
      refine C.load1S_of (v := .int .i64 win) (fun w' hw => ⟨_, _, _, hw.1, rfl⟩) ?_
      simp only [C.ite_true, C.ite_false, C.pick_true, C.pick_false, C.not_bool, C.field_ptr, C.nilCheck_ptr, C.add_mk, C.sub_mk, C.mul_mk, C.eql_mk, C.neq_mk, C.lss_mk, C.leq_mk, C.gtr_mk, C.geq_mk, C.conv_mk, C.len_mk, C.ext_0, C.ext_1, C.ext3_0, C.ext3_1, C.ext3_2, C.guarded_yes, C.guarded_tf, C.guarded_ft, C.guarded_undef, Bool.not_true, Bool.not_false, Nat.zero_add, eq_self, decide_true, decide_false]
      rw [wrap64_id (by omega)]
      refine ⟨_, fun w' _ => max2_runb _ _ _ _ _ _, C.load1S_of (v := .int .i64 most) (fun w' hw => ⟨_, _, _, hw.1, rfl⟩) ?_⟩
      rw [show max (((L t).length : Int) + n - win) 0 = ((((L t).length : Int) + n - win).toNat : Int) by omega]
      refine ⟨bookcount_c hL1 ht _ (by omega) fun w2 hf2 => ⟨⟨hf2.at_ hL1.obj (by simp), hf2.at_ (hf1.at_ hbb (by simp)) (by simp)⟩, ?_⟩, trivial⟩
      have hcl := cnt_le ((L t).drop (((L t).length : Int) + n - win).toNat)
      rw [List.length_drop] at hcl
      simp only [C.ite_true, C.ite_false, C.pick_true, C.pick_false, C.not_bool, C.field_ptr, C.nilCheck_ptr, C.add_mk, C.sub_mk, C.mul_mk, C.eql_mk, C.neq_mk, C.lss_mk, C.leq_mk, C.gtr_mk, C.geq_mk, C.conv_mk, C.len_mk, C.ext_0, C.ext_1, C.ext3_0, C.ext3_1, C.ext3_2, C.guarded_yes, C.guarded_tf, C.guarded_ft, C.guarded_undef, Bool.not_true, Bool.not_false, Nat.zero_add, eq_self, decide_true, decide_false]
      rw [wrap64_id (by omega)]
      have := h w2 (hf1.trans hf2)
      have e : admits win most n (L t) = decide ((cnt ((L t).drop (((L t).length : Int) + n - win).toNat) : Int) + n ≤ most) := decide_eq_decide.2 (by omega)
      rw [e] at this
      exact this
theorem Work_c {g bb T t : Nat} {win most n : Int} {S : Nat → Value} {L : Nat → List Bool} (hL : Led w g bb T win most S L) (ht : t < T) (hw0 : 0 ≤ win) (hw1 : win ≤ 64) (hm : most ≤ win) (hl : (L t).length ≤ 64)
    (hno : admits win most n (L t) = false → ∀ w', Fr [] w w' → K (.bool false) w')
    (h : admits win most n (L t) = true → ∀ s w', LNx w w' bb t S s → Led w' g bb T win most (upd S t s) (upd L t (lastN win.toNat (L t ++ List.replicate (min n win).toNat true))) → K (.bool true) w') : C.call Try.prog 55 #[.pointer (some ⟨g, 0, none⟩), .int .i64 (t : Int), .int .i64 n] w K := by
  refine F55.sh (Admit_c hL ht hw0 hw1 hm hl fun w1 hf1 => ?_)
  cases ha : admits win most n (L t) with
  | false =>
    simp only [C.ite_true, C.ite_false, C.pick_true, C.pick_false, C.not_bool, C.field_ptr, C.nilCheck_ptr, C.add_mk, C.sub_mk, C.mul_mk, C.eql_mk, C.neq_mk, C.lss_mk, C.leq_mk, C.gtr_mk, C.geq_mk, C.conv_mk, C.len_mk, C.ext_0, C.ext_1, C.ext3_0, C.ext3_1, C.ext3_2, C.guarded_yes, C.guarded_tf, C.guarded_ft, C.guarded_undef, Bool.not_true, Bool.not_false, Nat.zero_add, eq_self, decide_true, decide_false]
    exact hno ha w1 hf1
  | true =>
    simp only [C.ite_true, C.ite_false, C.pick_true, C.pick_false, C.not_bool, C.field_ptr, C.nilCheck_ptr, C.add_mk, C.sub_mk, C.mul_mk, C.eql_mk, C.neq_mk, C.lss_mk, C.leq_mk, C.gtr_mk, C.geq_mk, C.conv_mk, C.len_mk, C.ext_0, C.ext_1, C.ext3_0, C.ext3_1, C.ext3_2, C.guarded_yes, C.guarded_tf, C.guarded_ft, C.guarded_undef, Bool.not_true, Bool.not_false, Nat.zero_add, eq_self, decide_true, decide_false]
    have hadm := of_decide_eq_true ha
    have hL1 := hL.keep0 hf1
    refine F55.k3.to (of_c hL1 ht (put_c hL1 ht hadm.1 (by omega) hw0 hw1 hl fun s w2 hx hL2 => ?_))
    simp only [C.ite_true, C.ite_false, C.pick_true, C.pick_false, C.not_bool, C.field_ptr, C.nilCheck_ptr, C.add_mk, C.sub_mk, C.mul_mk, C.eql_mk, C.neq_mk, C.lss_mk, C.leq_mk, C.gtr_mk, C.geq_mk, C.conv_mk, C.len_mk, C.ext_0, C.ext_1, C.ext3_0, C.ext3_1, C.ext3_2, C.guarded_yes, C.guarded_tf, C.guarded_ft, C.guarded_undef, Bool.not_true, Bool.not_false, Nat.zero_add, eq_self, decide_true, decide_false]
    refine num_c hL2 ht (.inr rfl) fun w3 hf3 hL3 => h ha s w3 ⟨(hf1.w.trans hx.fr).trans (hf3.mono (by simp)), fun x hx' => Nat.le_trans hf1.size (hx.new x hx')⟩ hL3
end
end Go.Proofs.YtckageghbhkklaaV
