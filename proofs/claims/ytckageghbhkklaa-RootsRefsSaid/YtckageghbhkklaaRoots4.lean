/- One call of a script, of the program and by a list: what it comes to. -/
import Derived.Test.YtckageghbhkklaaRoots3
import Derived.Test.YtckageghbhkklaaWord2
namespace Go.Proofs.YtckageghbhkklaaV
open Go Go.Proofs Go.RowKit
set_option linter.unusedVariables false
set_option linter.unusedSimpArgs false
/-- Calls, as cells. -/
structure ROp where
  a : Int
  i : Int
  k : Int
  n : Int
def ROp.v (x : ROp) : Value := .agg #[.int .i64 x.a, .int .i64 x.i, .int .i64 x.k, .int .i64 x.n]
def rstepL (l : List (Int × Int)) (x : ROp) : List (Int × Int) :=
  if x.a = 1 then (if chk x.k x.n ≠ 0 ∨ 16 ≤ l.length then l else l ++ [(x.k, x.n)]) else if x.a = 2 then l.dropLast else if x.a = 3 then [] else l
theorem rstepL_len {l : List (Int × Int)} (x : ROp) (h : l.length ≤ 16) : (rstepL l x).length ≤ 16 := by
  have h1 : l.dropLast.length = l.length - 1 := List.length_dropLast
  unfold rstepL
  split
  · split
    · exact h
    · rw [List.length_append]; simp only [List.length_cons, List.length_nil]; omega
  · split
    · omega
    · split
      · simp
      · exact h
/-- The roots and the list beside them. -/
structure RIn (w : World) (r : Nat) (s m : Value) (l : List (Int × Int)) : Prop where
  rts : Rts w r s l
  own : OwnS w m 40 2 (valC l)
  mr : r ∉ blkS m
  ms : ∀ g, g ∈ blkS m → g ∉ blkS s
  len : l.length ≤ 16
structure RNx (w w' : World) (r : Nat) (s m s' m' : Value) : Prop where
  fr : Fr (r :: blkS s) w w'
  s : ∀ g ∈ blkS s', g ∈ blkS s ∨ w.heap.size ≤ g
  m : ∀ g ∈ blkS m', g ∈ blkS m ∨ w.heap.size ≤ g
theorem RNx.refl (w : World) (r : Nat) (s m : Value) : RNx w w r s m s m := ⟨Fr.refl _ _, fun _ h => .inl h, fun _ h => .inl h⟩
theorem RNx.trans {w w1 w2 : World} {r : Nat} {s m s1 m1 s2 m2 : Value} (h : RNx w w1 r s m s1 m1) (k : RNx w1 w2 r s1 m1 s2 m2) : RNx w w2 r s m s2 m2 := by
  have := h.fr.size
  refine ⟨h.fr.then k.fr fun x hx => ?_, fun g hg => ?_, fun g hg => ?_⟩
  · rcases List.mem_cons.1 hx with rfl | hx
    · exact .inl (by simp)
    · rcases h.s x hx with h | h
      · exact .inl (by simp [h])
      · exact .inr h
  · rcases k.s g hg with h' | h'
    · exact h.s g h'
    · exact .inr (by omega)
  · rcases k.m g hg with h' | h'
    · exact h.m g h'
    · exact .inr (by omega)
theorem RNx.of_fr {w w1 w2 : World} {r : Nat} {s m s1 m1 : Value} (h : RNx w w1 r s m s1 m1) (k : Fr [] w1 w2) : RNx w w2 r s m s1 m1 := h.trans ⟨k.w, fun _ h => .inl h, fun _ h => .inl h⟩
theorem OwnS.mem_lt {w : World} {v : Value} {e : TypeId} {sz : Nat} {xs : List (List Value)} (h : OwnS w v e sz xs) : ∀ g ∈ blkS v, g < w.heap.size := fun g hg => h.lt (mem_blkS.1 hg)
theorem OwnS.keep' {S : List Nat} {w w' : World} {v : Value} {e : TypeId} {sz : Nat} {xs : List (List Value)} (h : OwnS w v e sz xs) (hf : Fr S w w') (hS : ∀ g ∈ blkS v, g ∉ S) : OwnS w' v e sz xs := h.keep hf fun g hg => hS g (mem_blkS.2 hg)
theorem RIn.keep {S : List Nat} {w w' : World} {r : Nat} {s m : Value} {l : List (Int × Int)} (h : RIn w r s m l) (hf : Fr S w w') (h1 : r ∉ S) (h2 : ∀ g ∈ blkS s, g ∉ S) (h3 : ∀ g ∈ blkS m, g ∉ S) : RIn w' r s m l :=
  ⟨⟨hf.at_ h.rts.1 h1, h.rts.2.1.keep' hf h2, h.rts.2.2⟩, h.own.keep' hf h3, h.mr, h.ms, h.len⟩
theorem RIn.keep0 {w w' : World} {r : Nat} {s m : Value} {l : List (Int × Int)} (h : RIn w r s m l) (hf : Fr [] w w') : RIn w' r s m l := h.keep hf (by simp) (by simp) (by simp)
def opB (x : ROp) : Obj := .cells #[.int .i64 x.a, .int .i64 x.i, .int .i64 x.k, .int .i64 x.n] 103 (0, 0)
section
variable {K : VK} {w : World}
theorem NewS.blk {w : World} {v : Value} (h : NewS w v) : ∀ g ∈ blkS v, w.heap.size ≤ g := fun g hg => h g (mem_blkS.1 hg)
theorem OwnS.cap {v : Value} {e : TypeId} {sz : Nat} {xs : List (List Value)} (h : OwnS w v e sz xs) : ∃ A c, v = .slice A xs.length c ∧ xs.length ≤ c ∧ (A = none → xs = []) := by
  obtain ⟨⟨_, h⟩, _⟩ := h
  rcases h with ⟨rfl, h⟩ | ⟨g, cap, cur, rfl, _, _, h1, _⟩
  · exact ⟨none, 0, by rw [h], by omega, fun _ => List.eq_nil_of_length_eq_zero h⟩
  · exact ⟨_, cap, rfl, h1, fun h => by cases h⟩
theorem step_c {r : Nat} {s m : Value} {l : List (Int × Int)} (x : ROp) (hI : RIn w r s m l) (h : ∀ s' m' w', RIn w' r s' m' (rstepL l x) → RNx w w' r s m s' m' → K (.tuple #[m', .bool true]) w') :
    C.call Try.prog 68 #[.pointer (some ⟨r, 0, none⟩), m, x.v] w K := by
  have hlen := hI.len
  refine F68.sh (C.new_of fun b w1 hn => C.len_rd (hI.own.keep hn.fr (by simp)).rd ?_)
  rw [valC_len]
  have hb : w1.heap[b]? = some (opB x) := hn.at_
  have lb : w.heap.size ≤ b := by have := hn.is; omega
  have hI1 := hI.keep0 hn.fr
  have lr := lt_of_at hI.rts.1
  have lr1 := lt_of_at hI1.rts.1
  have lm := hI.own.mem_lt
  have ls := hI.rts.2.1.mem_lt
  have hbs : b ∉ blkS s := fun hb => by have := ls b hb; omega
  have hbm : b ∉ blkS m := fun hb => by have := lm b hb; omega
  have same : ∀ w', Fr [] w w' → rstepL l x = l → K (.tuple #[m, .bool true]) w' := fun w' hf e => h s m w' (by rw [e]; exact hI.keep0 hf) ((RNx.refl w r s m).of_fr hf)
  try simp only [C.ite_true, C.ite_false, C.pick_true, C.pick_false, C.not_bool, C.field_ptr, C.nilCheck_ptr, C.add_mk, C.sub_mk, C.mul_mk, C.eql_mk, C.neq_mk, C.lss_mk, C.leq_mk, C.gtr_mk, C.geq_mk, C.conv_mk, C.len_mk, C.ext_0, C.ext_1, C.ext3_0, C.ext3_1, C.ext3_2, C.guarded_yes, C.guarded_tf, C.guarded_ft, C.guarded_undef, Bool.not_true, Bool.not_false, Nat.zero_add, eq_self, decide_true, decide_false]
  refine C.load1_of (v := .int .i64 x.a) hb rfl ?_
  by_cases a1 : x.a = 1
  · simp only [C.ite_true, C.ite_false, C.pick_true, C.pick_false, C.not_bool, C.field_ptr, C.nilCheck_ptr, C.add_mk, C.sub_mk, C.mul_mk, C.eql_mk, C.neq_mk, C.lss_mk, C.leq_mk, C.gtr_mk, C.geq_mk, C.conv_mk, C.len_mk, C.ext_0, C.ext_1, C.ext3_0, C.ext3_1, C.ext3_2, C.guarded_yes, C.guarded_tf, C.guarded_ft, C.guarded_undef, Bool.not_true, Bool.not_false, Nat.zero_add, eq_self, decide_true, decide_false, a1]
    refine C.loadA_of (vs := [.int .i64 x.k, .int .i64 x.n]) hb (by simp) rfl (RefCheck_c x.k x.n fun w2 hf2 => ?_)
    have hb2 := hf2.at_ hb (by simp)
    have hI2 := hI1.keep0 hf2
    have no : chk x.k x.n ≠ 0 ∨ 16 ≤ l.length → C.call Try.prog 39 #[.pointer (some ⟨r, 0, none⟩), V x.k x.n] w2 fun x31_15 w15 => C.not x31_15 w15 fun x32_16 w16 => K (.tuple #[m, x32_16]) w16 := fun hc =>
      Push_no _ _ hI2.rts hc fun w3 hf3 => by
        try simp only [C.ite_true, C.ite_false, C.pick_true, C.pick_false, C.not_bool, C.field_ptr, C.nilCheck_ptr, C.add_mk, C.sub_mk, C.mul_mk, C.eql_mk, C.neq_mk, C.lss_mk, C.leq_mk, C.gtr_mk, C.geq_mk, C.conv_mk, C.len_mk, C.ext_0, C.ext_1, C.ext3_0, C.ext3_1, C.ext3_2, C.guarded_yes, C.guarded_tf, C.guarded_ft, C.guarded_undef, Bool.not_true, Bool.not_false, Nat.zero_add, eq_self, decide_true, decide_false]
        exact same w3 (hn.fr.trans (hf2.trans hf3)) (by unfold rstepL; rw [if_pos a1, if_pos hc])
    by_cases c0 : chk x.k x.n = 0
    · simp only [C.ite_true, C.ite_false, C.pick_true, C.pick_false, C.not_bool, C.field_ptr, C.nilCheck_ptr, C.add_mk, C.sub_mk, C.mul_mk, C.eql_mk, C.neq_mk, C.lss_mk, C.leq_mk, C.gtr_mk, C.geq_mk, C.conv_mk, C.len_mk, C.ext_0, C.ext_1, C.ext3_0, C.ext3_1, C.ext3_2, C.guarded_yes, C.guarded_tf, C.guarded_ft, C.guarded_undef, Bool.not_true, Bool.not_false, Nat.zero_add, eq_self, decide_true, decide_false, c0, ne_eq, not_true_eq_false]
      by_cases c1 : 16 ≤ l.length
      · rw [decide_eq_true (by omega : (l.length : Int) ≥ 16)]
        simp only [C.ite_true, C.ite_false, C.pick_true, C.pick_false, C.not_bool, C.field_ptr, C.nilCheck_ptr, C.add_mk, C.sub_mk, C.mul_mk, C.eql_mk, C.neq_mk, C.lss_mk, C.leq_mk, C.gtr_mk, C.geq_mk, C.conv_mk, C.len_mk, C.ext_0, C.ext_1, C.ext3_0, C.ext3_1, C.ext3_2, C.guarded_yes, C.guarded_tf, C.guarded_ft, C.guarded_undef, Bool.not_true, Bool.not_false, Nat.zero_add, eq_self, decide_true, decide_false]
        exact C.loadA_of (vs := [.int .i64 x.k, .int .i64 x.n]) hb2 (by simp) rfl (no (.inr c1))
      · rw [decide_eq_false (by omega : ¬ (l.length : Int) ≥ 16)]
        simp only [C.ite_true, C.ite_false, C.pick_true, C.pick_false, C.not_bool, C.field_ptr, C.nilCheck_ptr, C.add_mk, C.sub_mk, C.mul_mk, C.eql_mk, C.neq_mk, C.lss_mk, C.leq_mk, C.gtr_mk, C.geq_mk, C.conv_mk, C.len_mk, C.ext_0, C.ext_1, C.ext3_0, C.ext3_1, C.ext3_2, C.guarded_yes, C.guarded_tf, C.guarded_ft, C.guarded_undef, Bool.not_true, Bool.not_false, Nat.zero_add, eq_self, decide_true, decide_false]
        have e1 : rstepL l x = l ++ [(x.k, x.n)] := by unfold rstepL; rw [if_pos a1, if_neg (by simp [c0]; omega)]
        refine F68.k5.to ?_
        refine C.append_of (xs := []) (ys := valC l) (e := 40) (sz := 2) (bytes := 16) (z := V 0 0) Try.underlying64 (by kernel_rfl) rfl (by decide) (OwnS.nil _ _ _) hI2.own.rd valC_one (by rw [valC_len]; simp; omega) (by rw [valC_len]; simp; omega) fun m1 w3 ho3 hf3 hb3 _ => ?_
        have hf3' : Fr [] w2 w3 := hf3.mono (by simp [blkS, Value.ownBlock])
        have hn3 : NewS w2 m1 := fun g hg => by
          rcases hb3 with e | ⟨g', e, hle⟩
          · rw [e] at hg; simp [Value.ownBlock] at hg
          · rw [hg] at e; simp only [Option.some.injEq] at e; omega
        rw [List.nil_append] at ho3
        have hb3 := hf3'.at_ hb2 (by simp)
        try simp only [C.ite_true, C.ite_false, C.pick_true, C.pick_false, C.not_bool, C.field_ptr, C.nilCheck_ptr, C.add_mk, C.sub_mk, C.mul_mk, C.eql_mk, C.neq_mk, C.lss_mk, C.leq_mk, C.gtr_mk, C.geq_mk, C.conv_mk, C.len_mk, C.ext_0, C.ext_1, C.ext3_0, C.ext3_1, C.ext3_2, C.guarded_yes, C.guarded_tf, C.guarded_ft, C.guarded_undef, Bool.not_true, Bool.not_false, Nat.zero_add, eq_self, decide_true, decide_false]
        refine C.loadA_of (vs := [.int .i64 x.k, .int .i64 x.n]) hb3 (by simp) rfl (C.run_of (bs40 x.k x.n) ?_)
        have hn4 := New.mk' w3 (.cells #[.int .i64 x.k, .int .i64 x.n] 40)
        refine C.append_of (xs := valC l) (ys := valC [(x.k, x.n)]) (e := 40) (sz := 2) (bytes := 16) (z := V 0 0) Try.underlying64 (by kernel_rfl) rfl (by decide) (ho3.keep hn4.fr (by simp)) (RdS.of_block hn4.at_ rfl (by simp) (by simp) (by simp [valC]) (by simp [valC])) valC_one
          (by rw [valC_len, valC_len]; simp; omega) (by rw [valC_len, valC_len]; simp; omega) fun m2 w5 ho5 hf5 hb5 _ => ?_
        have hf5' : Fr [] w2 w5 := (hf3'.trans hn4.fr).then hf5 fun g hg => .inr (hn3.blk g hg)
        have hn5 : NewS w2 m2 := fun g hg => by
          rcases hb5 with e | ⟨g', e, hle⟩
          · rw [e] at hg; exact hn3 g hg
          · rw [hg] at e; simp only [Option.some.injEq] at e; have := hf3'.size; have := hn4.fr.size; omega
        have hb5 := hf5'.at_ hb2 (by simp)
        try simp only [C.ite_true, C.ite_false, C.pick_true, C.pick_false, C.not_bool, C.field_ptr, C.nilCheck_ptr, C.add_mk, C.sub_mk, C.mul_mk, C.eql_mk, C.neq_mk, C.lss_mk, C.leq_mk, C.gtr_mk, C.geq_mk, C.conv_mk, C.len_mk, C.ext_0, C.ext_1, C.ext3_0, C.ext3_1, C.ext3_2, C.guarded_yes, C.guarded_tf, C.guarded_ft, C.guarded_undef, Bool.not_true, Bool.not_false, Nat.zero_add, eq_self, decide_true, decide_false]
        refine C.loadA_of (vs := [.int .i64 x.k, .int .i64 x.n]) hb5 (by simp) rfl ?_
        have hI5 := hI2.keep0 hf5'
        have s2 := hn.fr.size
        have s3 := hf2.size
        have s5 := hf5'.size
        refine Push_yes x.k x.n hI5.rts c0 (by omega) fun s' w6 hf6 hr6 hs6 => ?_
        refine h s' m2 w6 ?_ ?_
        · rw [e1]
          rw [← valC_app] at ho5
          refine ⟨hr6, ho5.keep' hf6 fun g hg => ?_, fun hg => ?_, fun g hg hg' => ?_, by simp; omega⟩
          · have := hn5.blk g hg
            simp only [List.mem_cons, not_or]
            exact ⟨by omega, fun hg' => by have := ls g hg'; omega⟩
          · have := hn5.blk r hg
            omega
          · have h1 := hn5.blk g hg
            have h2 := ho5.mem_lt g hg
            rcases hs6 g (mem_blkS.1 hg') with h3 | h3
            · have := ls g h3; omega
            · omega
        · refine ⟨((hn.fr.trans hf2).trans hf5').w.trans hf6, fun g hg => ?_, fun g hg => ?_⟩
          · rcases hs6 g (mem_blkS.1 hg) with h3 | h3
            · exact .inl h3
            · exact .inr (by omega)
          · have := hn5.blk g hg
            exact .inr (by omega)
    · simp only [C.ite_true, C.ite_false, C.pick_true, C.pick_false, C.not_bool, C.field_ptr, C.nilCheck_ptr, C.add_mk, C.sub_mk, C.mul_mk, C.eql_mk, C.neq_mk, C.lss_mk, C.leq_mk, C.gtr_mk, C.geq_mk, C.conv_mk, C.len_mk, C.ext_0, C.ext_1, C.ext3_0, C.ext3_1, C.ext3_2, C.guarded_yes, C.guarded_tf, C.guarded_ft, C.guarded_undef, Bool.not_true, Bool.not_false, Nat.zero_add, eq_self, decide_true, decide_false, c0, ne_eq, not_false_eq_true]
      exact C.loadA_of (vs := [.int .i64 x.k, .int .i64 x.n]) hb2 (by simp) rfl (no (.inl c0))
  · simp only [C.ite_true, C.ite_false, C.pick_true, C.pick_false, C.not_bool, C.field_ptr, C.nilCheck_ptr, C.add_mk, C.sub_mk, C.mul_mk, C.eql_mk, C.neq_mk, C.lss_mk, C.leq_mk, C.gtr_mk, C.geq_mk, C.conv_mk, C.len_mk, C.ext_0, C.ext_1, C.ext3_0, C.ext3_1, C.ext3_2, C.guarded_yes, C.guarded_tf, C.guarded_ft, C.guarded_undef, Bool.not_true, Bool.not_false, Nat.zero_add, eq_self, decide_true, decide_false, a1]
    refine F68.k9.to ?_
    try simp only [C.ite_true, C.ite_false, C.pick_true, C.pick_false, C.not_bool, C.field_ptr, C.nilCheck_ptr, C.add_mk, C.sub_mk, C.mul_mk, C.eql_mk, C.neq_mk, C.lss_mk, C.leq_mk, C.gtr_mk, C.geq_mk, C.conv_mk, C.len_mk, C.ext_0, C.ext_1, C.ext3_0, C.ext3_1, C.ext3_2, C.guarded_yes, C.guarded_tf, C.guarded_ft, C.guarded_undef, Bool.not_true, Bool.not_false, Nat.zero_add, eq_self, decide_true, decide_false]
    refine C.load1_of (v := .int .i64 x.a) hb rfl ?_
    by_cases a2 : x.a = 2
    · have e2 : rstepL l x = l.dropLast := by unfold rstepL; rw [if_neg a1, if_pos a2]
      simp only [C.ite_true, C.ite_false, C.pick_true, C.pick_false, C.not_bool, C.field_ptr, C.nilCheck_ptr, C.add_mk, C.sub_mk, C.mul_mk, C.eql_mk, C.neq_mk, C.lss_mk, C.leq_mk, C.gtr_mk, C.geq_mk, C.conv_mk, C.len_mk, C.ext_0, C.ext_1, C.ext3_0, C.ext3_1, C.ext3_2, C.guarded_yes, C.guarded_tf, C.guarded_ft, C.guarded_undef, Bool.not_true, Bool.not_false, Nat.zero_add, eq_self, decide_true, decide_false, a2]
      rcases List.eq_nil_or_concat l with rfl | ⟨l', ⟨k, n⟩, rfl⟩
      · refine Pop_no hI1.rts fun w2 hf2 => ?_
        try simp only [C.ite_true, C.ite_false, C.pick_true, C.pick_false, C.not_bool, C.field_ptr, C.nilCheck_ptr, C.add_mk, C.sub_mk, C.mul_mk, C.eql_mk, C.neq_mk, C.lss_mk, C.leq_mk, C.gtr_mk, C.geq_mk, C.conv_mk, C.len_mk, C.ext_0, C.ext_1, C.ext3_0, C.ext3_1, C.ext3_2, C.guarded_yes, C.guarded_tf, C.guarded_ft, C.guarded_undef, Bool.not_true, Bool.not_false, Nat.zero_add, eq_self, decide_true, decide_false]
        refine C.new_of fun c w3 hn3 => C.store_all hn3.at_ rfl v2_cells rfl fun w4 hu => ?_
        simp only [C.ite_true, C.ite_false, C.pick_true, C.pick_false, C.not_bool, C.field_ptr, C.nilCheck_ptr, C.add_mk, C.sub_mk, C.mul_mk, C.eql_mk, C.neq_mk, C.lss_mk, C.leq_mk, C.gtr_mk, C.geq_mk, C.conv_mk, C.len_mk, C.ext_0, C.ext_1, C.ext3_0, C.ext3_1, C.ext3_2, C.guarded_yes, C.guarded_tf, C.guarded_ft, C.guarded_undef, Bool.not_true, Bool.not_false, Nat.zero_add, eq_self, decide_true, decide_false, List.length_nil, Int.ofNat_eq_natCast, show (((0 : Nat) : Int) = 0) = True from by simp]
        refine C.loadA_all hu.at_ rfl (C.run_of build40_0 ⟨_, veq _ _ 0 0 0 0, ?_⟩)
        simp only [C.ite_true, C.ite_false, C.pick_true, C.pick_false, C.not_bool, C.field_ptr, C.nilCheck_ptr, C.add_mk, C.sub_mk, C.mul_mk, C.eql_mk, C.neq_mk, C.lss_mk, C.leq_mk, C.gtr_mk, C.geq_mk, C.conv_mk, C.len_mk, C.ext_0, C.ext_1, C.ext3_0, C.ext3_1, C.ext3_2, C.guarded_yes, C.guarded_tf, C.guarded_ft, C.guarded_undef, Bool.not_true, Bool.not_false, Nat.zero_add, eq_self, decide_true, decide_false, and_self]
        refine same w4 (((hn.fr.trans hf2).trans hn3.fr).then hu.fr fun g hg => ?_) (by rw [e2]; rfl)
        simp only [List.mem_singleton] at hg
        have := hn3.is; have := hn.fr.size; have := hf2.size
        exact .inr (by omega)
      · rw [List.concat_eq_append] at *
        refine Pop_yes hI1.rts (by simp at hlen; omega) fun s' w2 hf2 hr2 hs2 => ?_
        try simp only [C.ite_true, C.ite_false, C.pick_true, C.pick_false, C.not_bool, C.field_ptr, C.nilCheck_ptr, C.add_mk, C.sub_mk, C.mul_mk, C.eql_mk, C.neq_mk, C.lss_mk, C.leq_mk, C.gtr_mk, C.geq_mk, C.conv_mk, C.len_mk, C.ext_0, C.ext_1, C.ext3_0, C.ext3_1, C.ext3_2, C.guarded_yes, C.guarded_tf, C.guarded_ft, C.guarded_undef, Bool.not_true, Bool.not_false, Nat.zero_add, eq_self, decide_true, decide_false]
        refine C.new_of fun c w3 hn3 => C.store_all (x := V k n) hn3.at_ rfl v2_cells rfl fun w4 hu => ?_
        rw [decide_eq_false (by simp; omega : ¬ ((l' ++ [(k, n)]).length : Int) = 0)]
        simp only [C.ite_true, C.ite_false, C.pick_true, C.pick_false, C.not_bool, C.field_ptr, C.nilCheck_ptr, C.add_mk, C.sub_mk, C.mul_mk, C.eql_mk, C.neq_mk, C.lss_mk, C.leq_mk, C.gtr_mk, C.geq_mk, C.conv_mk, C.len_mk, C.ext_0, C.ext_1, C.ext3_0, C.ext3_1, C.ext3_2, C.guarded_yes, C.guarded_tf, C.guarded_ft, C.guarded_undef, Bool.not_true, Bool.not_false, Nat.zero_add, eq_self, decide_true, decide_false]
        have lc : w.heap.size ≤ c := by have := hn3.is; have := hn.fr.size; have := hf2.size; omega
        have lc2 : w2.heap.size ≤ c := by have := hn3.is; omega
        have hc4 := hu.at_
        refine F68.k13.to (C.draw_of (fun w' => w'.heap[c]? = some (.cells #[.int .i64 k, .int .i64 n] 40 (0, 0)) ∧ RdS w' m 2 (valC (l' ++ [(k, n)]))) fun w5 hf5 he5 => ?_)
        have hm2 : OwnS w2 m 40 2 (valC (l' ++ [(k, n)])) := hI1.own.keep' hf2 fun g hg hg' => by
          simp only [List.mem_singleton] at hg'
          subst hg'
          exact hI.mr hg
        have ho5 : OwnS w5 m 40 2 (valC (l' ++ [(k, n)])) := ((hm2.keep hn3.fr (by simp)).keep' hu.fr fun g hg hg' => by
          simp only [List.mem_singleton] at hg'
          have := hm2.mem_lt g hg
          omega).keep hf5 (by simp)
        have hS : w5.heap[c]? = some (.cells #[.int .i64 k, .int .i64 n] 40 (0, 0)) ∧ RdS w5 m 2 (valC (l' ++ [(k, n)])) := ⟨hf5.at_ hc4 (by simp), ho5.rd⟩
        refine ⟨hS, ?_⟩
        obtain ⟨A, cp, rfl, hcap, hA⟩ := ho5.cap
        have hll : (l' ++ [(k, n)]).length = l'.length + 1 := by simp
        rw [valC_len] at *
        try simp only [C.ite_true, C.ite_false, C.pick_true, C.pick_false, C.not_bool, C.field_ptr, C.nilCheck_ptr, C.add_mk, C.sub_mk, C.mul_mk, C.eql_mk, C.neq_mk, C.lss_mk, C.leq_mk, C.gtr_mk, C.geq_mk, C.conv_mk, C.len_mk, C.ext_0, C.ext_1, C.ext3_0, C.ext3_1, C.ext3_2, C.guarded_yes, C.guarded_tf, C.guarded_ft, C.guarded_undef, Bool.not_true, Bool.not_false, Nat.zero_add, eq_self, decide_true, decide_false]
        rw [wrap64_id (by omega)]
        have e1 : ((l' ++ [(k, n)]).length : Int) - 1 = (l'.length : Int) := by omega
        rw [e1]
        refine C.idx_rdS (S := fun w' => w'.heap[c]? = some (.cells #[.int .i64 k, .int .i64 n] 40 (0, 0)) ∧ RdS w' (.slice A (l' ++ [(k, n)]).length cp) 2 (valC (l' ++ [(k, n)]))) (x := [.int .i64 k, .int .i64 n]) (fun w' hw => hw.2) hS (by omega)
          (by rw [Int.toNat_natCast, valC_app, List.getElem?_append_right (by rw [valC_len]; exact Nat.le_refl _), valC_len, Nat.sub_self]; rfl) fun g o hl1 hs1 => ?_
        have hrun : ∀ w' : World, (Instr.sliceAt 64 (.slice A (l' ++ [(k, n)]).length cp) none (some (.int .i64 (l'.length : Int))) none).run Try.prog w' = .ok (.slice A l'.length cp) w' := fun w' => by
          have := sliceTo_run (P := Try.prog) (w := w') (t := 64) (e := 40) (sz := 2) A (l' ++ [(k, n)]).length cp .i64 (l'.length : Int) Try.underlying64 (by kernel_rfl) (by omega) (by omega)
          rwa [Int.toNat_natCast] at this
        refine ⟨_, fun w' _ => hrun w', ?_⟩
        refine C.loadAS_of (vs := [.int .i64 k, .int .i64 n]) (fun w' hw => ⟨_, _, _, hw.1, by simp, rfl⟩) (C.loadAS_cells hl1 (by decide) hs1 ⟨_, fun w' _ => veq _ _ k n k n, ?_⟩)
        simp only [C.ite_true, C.ite_false, C.pick_true, C.pick_false, C.not_bool, C.field_ptr, C.nilCheck_ptr, C.add_mk, C.sub_mk, C.mul_mk, C.eql_mk, C.neq_mk, C.lss_mk, C.leq_mk, C.gtr_mk, C.geq_mk, C.conv_mk, C.len_mk, C.ext_0, C.ext_1, C.ext3_0, C.ext3_1, C.ext3_2, C.guarded_yes, C.guarded_tf, C.guarded_ft, C.guarded_undef, Bool.not_true, Bool.not_false, Nat.zero_add, eq_self, decide_true, decide_false, and_self]
        have ho5' := ho5.take l'.length (by omega) (fun hA' => by have := hA hA'; simp [valC] at this)
        rw [← valC_take, List.take_left' rfl] at ho5'
        have hbm' : blkS (.slice A l'.length cp) = blkS (.slice A (l' ++ [(k, n)]).length cp) := by cases A <;> rfl
        have hbs' : blkS s' = blkS s := by unfold blkS; rw [hs2]
        have hdl : (l' ++ [(k, n)]).dropLast = l' := List.dropLast_concat
        have f25 : Fr [] w2 w5 := (hn3.fr.then hu.fr (by simp; omega)).trans hf5
        refine h s' _ w5 ?_ ?_
        · rw [e2, hdl]
          refine ⟨⟨f25.at_ hr2.1 (by simp), hr2.2.1.keep f25 (by simp), hr2.2.2⟩, ho5', ?_, ?_, by omega⟩
          · rw [hbm']; exact hI.mr
          · rw [hbm', hbs']; exact hI.ms
        · refine ⟨((hn.fr.w.trans hf2).trans f25.w).mono (by simp), ?_, ?_⟩
          · rw [hbs']; exact fun _ h => .inl h
          · rw [hbm']; exact fun _ h => .inl h
    · simp only [C.ite_true, C.ite_false, C.pick_true, C.pick_false, C.not_bool, C.field_ptr, C.nilCheck_ptr, C.add_mk, C.sub_mk, C.mul_mk, C.eql_mk, C.neq_mk, C.lss_mk, C.leq_mk, C.gtr_mk, C.geq_mk, C.conv_mk, C.len_mk, C.ext_0, C.ext_1, C.ext3_0, C.ext3_1, C.ext3_2, C.guarded_yes, C.guarded_tf, C.guarded_ft, C.guarded_undef, Bool.not_true, Bool.not_false, Nat.zero_add, eq_self, decide_true, decide_false, a2]
      refine F68.k14.to ?_
      try simp only [C.ite_true, C.ite_false, C.pick_true, C.pick_false, C.not_bool, C.field_ptr, C.nilCheck_ptr, C.add_mk, C.sub_mk, C.mul_mk, C.eql_mk, C.neq_mk, C.lss_mk, C.leq_mk, C.gtr_mk, C.geq_mk, C.conv_mk, C.len_mk, C.ext_0, C.ext_1, C.ext3_0, C.ext3_1, C.ext3_2, C.guarded_yes, C.guarded_tf, C.guarded_ft, C.guarded_undef, Bool.not_true, Bool.not_false, Nat.zero_add, eq_self, decide_true, decide_false]
      refine C.load1_of (v := .int .i64 x.a) hb rfl ?_
      by_cases a3 : x.a = 3
      · simp only [C.ite_true, C.ite_false, C.pick_true, C.pick_false, C.not_bool, C.field_ptr, C.nilCheck_ptr, C.add_mk, C.sub_mk, C.mul_mk, C.eql_mk, C.neq_mk, C.lss_mk, C.leq_mk, C.gtr_mk, C.geq_mk, C.conv_mk, C.len_mk, C.ext_0, C.ext_1, C.ext3_0, C.ext3_1, C.ext3_2, C.guarded_yes, C.guarded_tf, C.guarded_ft, C.guarded_undef, Bool.not_true, Bool.not_false, Nat.zero_add, eq_self, decide_true, decide_false, a3]
        have e3 : rstepL l x = [] := by unfold rstepL; rw [if_neg a1, if_neg a2, if_pos a3]
        refine Clear_c hI1.rts fun w2 hf2 hr2 => h (.slice none 0 0) (.slice none 0 0) w2 ?_ ?_
        · rw [e3]
          exact ⟨hr2, OwnS.nil _ _ _, by simp [blkS, Value.ownBlock], by simp [blkS, Value.ownBlock], by simp⟩
        · exact ⟨(hn.fr.w.trans hf2).mono (by simp), by simp [blkS, Value.ownBlock], by simp [blkS, Value.ownBlock]⟩
      · have e4 : rstepL l x = l := by unfold rstepL; rw [if_neg a1, if_neg a2, if_neg a3]
        simp only [C.ite_true, C.ite_false, C.pick_true, C.pick_false, C.not_bool, C.field_ptr, C.nilCheck_ptr, C.add_mk, C.sub_mk, C.mul_mk, C.eql_mk, C.neq_mk, C.lss_mk, C.leq_mk, C.gtr_mk, C.geq_mk, C.conv_mk, C.len_mk, C.ext_0, C.ext_1, C.ext3_0, C.ext3_1, C.ext3_2, C.guarded_yes, C.guarded_tf, C.guarded_ft, C.guarded_undef, Bool.not_true, Bool.not_false, Nat.zero_add, eq_self, decide_true, decide_false, a3]
        refine F68.k17.to ?_
        try simp only [C.ite_true, C.ite_false, C.pick_true, C.pick_false, C.not_bool, C.field_ptr, C.nilCheck_ptr, C.add_mk, C.sub_mk, C.mul_mk, C.eql_mk, C.neq_mk, C.lss_mk, C.leq_mk, C.gtr_mk, C.geq_mk, C.conv_mk, C.len_mk, C.ext_0, C.ext_1, C.ext3_0, C.ext3_1, C.ext3_2, C.guarded_yes, C.guarded_tf, C.guarded_ft, C.guarded_undef, Bool.not_true, Bool.not_false, Nat.zero_add, eq_self, decide_true, decide_false]
        refine C.load1_of (v := .int .i64 x.i) hb rfl (Get_c _ hI1.rts fun w2 hf2 => ?_)
        have hb2 := hf2.at_ hb (by simp)
        by_cases hi : 0 ≤ x.i ∧ x.i.toNat < l.length
        · rw [dif_pos hi]
          try simp only [C.ite_true, C.ite_false, C.pick_true, C.pick_false, C.not_bool, C.field_ptr, C.nilCheck_ptr, C.add_mk, C.sub_mk, C.mul_mk, C.eql_mk, C.neq_mk, C.lss_mk, C.leq_mk, C.gtr_mk, C.geq_mk, C.conv_mk, C.len_mk, C.ext_0, C.ext_1, C.ext3_0, C.ext3_1, C.ext3_2, C.guarded_yes, C.guarded_tf, C.guarded_ft, C.guarded_undef, Bool.not_true, Bool.not_false, Nat.zero_add, eq_self, decide_true, decide_false]
          refine C.new_of fun c w3 hn3 => C.store_all (x := V l[x.i.toNat].1 l[x.i.toNat].2) hn3.at_ rfl v2_cells rfl fun w4 hu => ?_
          have lc : w.heap.size ≤ c := by have := hn3.is; have := hn.fr.size; have := hf2.size; omega
          have hbc : b ≠ c := hn3.ne (lt_of_at hb2)
          have hb4 := hu.fr.at_ (hn3.fr.at_ hb2 (by simp)) (by simpa using hbc)
          have f4 : Fr [] w w4 := ((hn.fr.trans hf2).trans hn3.fr).then hu.fr (by simp; omega)
          refine C.load1_of (v := .int .i64 x.i) hb4 rfl ?_
          simp only [C.ite_true, C.ite_false, C.pick_true, C.pick_false, C.not_bool, C.field_ptr, C.nilCheck_ptr, C.add_mk, C.sub_mk, C.mul_mk, C.eql_mk, C.neq_mk, C.lss_mk, C.leq_mk, C.gtr_mk, C.geq_mk, C.conv_mk, C.len_mk, C.ext_0, C.ext_1, C.ext3_0, C.ext3_1, C.ext3_2, C.guarded_yes, C.guarded_tf, C.guarded_ft, C.guarded_undef, Bool.not_true, Bool.not_false, Nat.zero_add, eq_self, decide_true, decide_false, show ¬ x.i < 0 by omega]
          refine C.load1_of (v := .int .i64 x.i) hb4 rfl ?_
          simp only [C.ite_true, C.ite_false, C.pick_true, C.pick_false, C.not_bool, C.field_ptr, C.nilCheck_ptr, C.add_mk, C.sub_mk, C.mul_mk, C.eql_mk, C.neq_mk, C.lss_mk, C.leq_mk, C.gtr_mk, C.geq_mk, C.conv_mk, C.len_mk, C.ext_0, C.ext_1, C.ext3_0, C.ext3_1, C.ext3_2, C.guarded_yes, C.guarded_tf, C.guarded_ft, C.guarded_undef, Bool.not_true, Bool.not_false, Nat.zero_add, eq_self, decide_true, decide_false, show ¬ x.i ≥ (l.length : Int) by omega]
          refine F68.k20.to (C.draw_of (fun w' => w'.heap[c]? = some (.cells #[.int .i64 l[x.i.toNat].1, .int .i64 l[x.i.toNat].2] 40 (0, 0)) ∧ w'.heap[b]? = some (opB x) ∧ RdS w' m 2 (valC l)) fun w5 hf5 he5 => ?_)
          have hI5 := hI.keep0 (f4.trans hf5)
          have hS : w5.heap[c]? = some (.cells #[.int .i64 l[x.i.toNat].1, .int .i64 l[x.i.toNat].2] 40 (0, 0)) ∧ w5.heap[b]? = some (opB x) ∧ RdS w5 m 2 (valC l) := ⟨hf5.at_ hu.at_ (by simp), hf5.at_ hb4 (by simp), hI5.own.rd⟩
          refine ⟨hS, ?_⟩
          try simp only [C.ite_true, C.ite_false, C.pick_true, C.pick_false, C.not_bool, C.field_ptr, C.nilCheck_ptr, C.add_mk, C.sub_mk, C.mul_mk, C.eql_mk, C.neq_mk, C.lss_mk, C.leq_mk, C.gtr_mk, C.geq_mk, C.conv_mk, C.len_mk, C.ext_0, C.ext_1, C.ext3_0, C.ext3_1, C.ext3_2, C.guarded_yes, C.guarded_tf, C.guarded_ft, C.guarded_undef, Bool.not_true, Bool.not_false, Nat.zero_add, eq_self, decide_true, decide_false]
          refine C.loadAS_of (vs := [.int .i64 l[x.i.toNat].1, .int .i64 l[x.i.toNat].2]) (fun w' hw => ⟨_, _, _, hw.1, by simp, rfl⟩) (C.load1S_of (v := .int .i64 x.i) (fun w' hw => ⟨_, _, _, hw.2.1, rfl⟩) ?_)
          refine C.idx_rdS (S := fun w' => w'.heap[c]? = some (.cells #[.int .i64 l[x.i.toNat].1, .int .i64 l[x.i.toNat].2] 40 (0, 0)) ∧ w'.heap[b]? = some (opB x) ∧ RdS w' m 2 (valC l)) (fun w' hw => hw.2.2) hS hi.1 (valC_get hi.2) fun g o hl1 hs1 => ?_
          refine C.loadAS_cells hl1 (by decide) hs1 ⟨_, fun w' _ => veq _ _ _ _ _ _, ?_⟩
          simp only [C.ite_true, C.ite_false, C.pick_true, C.pick_false, C.not_bool, C.field_ptr, C.nilCheck_ptr, C.add_mk, C.sub_mk, C.mul_mk, C.eql_mk, C.neq_mk, C.lss_mk, C.leq_mk, C.gtr_mk, C.geq_mk, C.conv_mk, C.len_mk, C.ext_0, C.ext_1, C.ext3_0, C.ext3_1, C.ext3_2, C.guarded_yes, C.guarded_tf, C.guarded_ft, C.guarded_undef, Bool.not_true, Bool.not_false, Nat.zero_add, eq_self, decide_true, decide_false, and_self]
          exact same w5 (f4.trans hf5) e4
        · rw [dif_neg hi]
          try simp only [C.ite_true, C.ite_false, C.pick_true, C.pick_false, C.not_bool, C.field_ptr, C.nilCheck_ptr, C.add_mk, C.sub_mk, C.mul_mk, C.eql_mk, C.neq_mk, C.lss_mk, C.leq_mk, C.gtr_mk, C.geq_mk, C.conv_mk, C.len_mk, C.ext_0, C.ext_1, C.ext3_0, C.ext3_1, C.ext3_2, C.guarded_yes, C.guarded_tf, C.guarded_ft, C.guarded_undef, Bool.not_true, Bool.not_false, Nat.zero_add, eq_self, decide_true, decide_false]
          refine C.new_of fun c w3 hn3 => C.store_all hn3.at_ rfl v2_cells rfl fun w4 hu => ?_
          have lc : w.heap.size ≤ c := by have := hn3.is; have := hn.fr.size; have := hf2.size; omega
          have hbc : b ≠ c := hn3.ne (lt_of_at hb2)
          have hb4 := hu.fr.at_ (hn3.fr.at_ hb2 (by simp)) (by simpa using hbc)
          have f4 : Fr [] w w4 := ((hn.fr.trans hf2).trans hn3.fr).then hu.fr (by simp; omega)
          refine C.load1_of (v := .int .i64 x.i) hb4 rfl ?_
          have fin : C.loadA 2 (.pointer (some ⟨c, 0, none⟩)) w4 fun x100_16 w16 => C.run Try.prog (Instr.build 40 #[]) w16 fun x101_17 w17 => C.bin Try.prog .eql 40 (.tmp 100) (.tmp 101) x100_16 x101_17 w17 fun x102_18 w18 =>
              C.guarded true x102_18 (fun K => K (.bool false) w18) w18 fun x104_19 w19 => C.guarded true x102_18 (fun K => C.not x104_19 w19 K) w19 fun x105_20 w20 => C.pick (some x102_18) (some x105_20) (some (.bool false)) w20 fun x106_21 w21 => K (.tuple #[m, x106_21]) w21 := by
            refine C.loadA_all hu.at_ rfl (C.run_of build40_0 ⟨_, veq _ _ 0 0 0 0, ?_⟩)
            simp only [C.ite_true, C.ite_false, C.pick_true, C.pick_false, C.not_bool, C.field_ptr, C.nilCheck_ptr, C.add_mk, C.sub_mk, C.mul_mk, C.eql_mk, C.neq_mk, C.lss_mk, C.leq_mk, C.gtr_mk, C.geq_mk, C.conv_mk, C.len_mk, C.ext_0, C.ext_1, C.ext3_0, C.ext3_1, C.ext3_2, C.guarded_yes, C.guarded_tf, C.guarded_ft, C.guarded_undef, Bool.not_true, Bool.not_false, Nat.zero_add, eq_self, decide_true, decide_false, and_self]
            exact same w4 f4 e4
          by_cases h0 : x.i < 0
          · simp only [C.ite_true, C.ite_false, C.pick_true, C.pick_false, C.not_bool, C.field_ptr, C.nilCheck_ptr, C.add_mk, C.sub_mk, C.mul_mk, C.eql_mk, C.neq_mk, C.lss_mk, C.leq_mk, C.gtr_mk, C.geq_mk, C.conv_mk, C.len_mk, C.ext_0, C.ext_1, C.ext3_0, C.ext3_1, C.ext3_2, C.guarded_yes, C.guarded_tf, C.guarded_ft, C.guarded_undef, Bool.not_true, Bool.not_false, Nat.zero_add, eq_self, decide_true, decide_false, h0]
            exact fin
          · simp only [C.ite_true, C.ite_false, C.pick_true, C.pick_false, C.not_bool, C.field_ptr, C.nilCheck_ptr, C.add_mk, C.sub_mk, C.mul_mk, C.eql_mk, C.neq_mk, C.lss_mk, C.leq_mk, C.gtr_mk, C.geq_mk, C.conv_mk, C.len_mk, C.ext_0, C.ext_1, C.ext3_0, C.ext3_1, C.ext3_2, C.guarded_yes, C.guarded_tf, C.guarded_ft, C.guarded_undef, Bool.not_true, Bool.not_false, Nat.zero_add, eq_self, decide_true, decide_false, h0]
            refine C.load1_of (v := .int .i64 x.i) hb4 rfl ?_
            simp only [C.ite_true, C.ite_false, C.pick_true, C.pick_false, C.not_bool, C.field_ptr, C.nilCheck_ptr, C.add_mk, C.sub_mk, C.mul_mk, C.eql_mk, C.neq_mk, C.lss_mk, C.leq_mk, C.gtr_mk, C.geq_mk, C.conv_mk, C.len_mk, C.ext_0, C.ext_1, C.ext3_0, C.ext3_1, C.ext3_2, C.guarded_yes, C.guarded_tf, C.guarded_ft, C.guarded_undef, Bool.not_true, Bool.not_false, Nat.zero_add, eq_self, decide_true, decide_false, show x.i ≥ (l.length : Int) by omega]
            exact fin
end
end Go.Proofs.YtckageghbhkklaaV
