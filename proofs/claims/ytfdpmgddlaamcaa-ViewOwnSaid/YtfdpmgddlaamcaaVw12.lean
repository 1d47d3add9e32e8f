/- The serials of what can be reached; alive; ViewReaches: what the calls come to. -/
import Derived.Test.YtfdpmgddlaamcaaVw11
import Derived.Test.YtfdpmgddlaamcaaVwSort
import Derived.Test.YtfdpmgddlaamcaaGView2
import Derived.Shelf.SortM.SortNone
namespace Go.Proofs.YtfdpmgddlaamcaaV
open Go Go.Proofs Go.RowKit
set_option linter.unusedVariables false
set_option linter.unusedSimpArgs false
set_option maxRecDepth 10000
def srt (l : List Int) : List Int := l.mergeSort fun x y => decide (x ≤ y)
theorem srt_perm (l : List Int) : (srt l).Perm l := List.mergeSort_perm l _
theorem srt_len (l : List Int) : (srt l).length = l.length := (srt_perm l).length_eq
theorem srt_le (l : List Int) : (srt l).Pairwise (· ≤ ·) := by
  have := List.pairwise_mergeSort (le := fun (x y : Int) => decide (x ≤ y)) (fun a b c h1 h2 => by simp at *; omega) (fun a b => by simp; omega) l
  exact this.imp fun h => by simpa using h
theorem srt_lt {l : List Int} (h : l.Nodup) : (srt l).Pairwise (· < ·) := by
  have h1 := srt_le l
  have h2 : (srt l).Nodup := (srt_perm l).nodup_iff.2 h
  exact (h1.and h2).imp fun ⟨a, b⟩ => by omega
/-- The serials of the first nodes that were met. -/
def serT (N : List Nd) (m : List Bool) : Nat → List Int
  | 0 => []
  | j + 1 => serT N m j ++ if m[j]? = some true then [(N.getD j (0, [])).1] else []
theorem serT_succ {N : List Nd} {m : List Bool} {j : Nat} (h : j < N.length) : serT N m (j + 1) = serT N m j ++ if m[j]? = some true then [N[j].1] else [] := by
  show _ ++ _ = _
  rw [List.getD_eq_getElem?_getD, List.getElem?_eq_getElem h]
  rfl
theorem serT_len (N : List Nd) (m : List Bool) : ∀ j, (serT N m j).length ≤ j
  | 0 => by simp [serT]
  | j + 1 => by
    have := serT_len N m j
    simp only [serT, List.length_append]
    split <;> simp <;> omega
theorem serT_mem {N : List Nd} {m : List Bool} {s : Int} : ∀ {j : Nat}, j ≤ N.length → (s ∈ serT N m j ↔ ∃ i, ∃ h : i < N.length, i < j ∧ m[i]? = some true ∧ N[i].1 = s)
  | 0, _ => by simp [serT]
  | j + 1, hj => by
    have jl : j < N.length := by omega
    rw [serT_succ jl, List.mem_append, serT_mem (by omega)]
    constructor
    · rintro (⟨i, h, h1, h2, h3⟩ | h)
      · exact ⟨i, h, by omega, h2, h3⟩
      · split at h
        · rename_i hm
          exact ⟨j, jl, by omega, hm, (List.mem_singleton.1 h).symm⟩
        · simp at h
    · rintro ⟨i, h, h1, h2, h3⟩
      by_cases e : i = j
      · subst e
        right
        rw [if_pos h2]
        simpa using h3.symm
      · exact .inl ⟨i, h, by omega, h2, h3⟩
theorem serT_nodup (V : Vw) : ∀ {j : Nat}, j ≤ V.2.length → (serT V.2 (metL V) j).Nodup
  | 0, _ => by simp [serT]
  | j + 1, hj => by
    have jl : j < V.2.length := by omega
    rw [serT_succ jl]
    by_cases hm : (metL V)[j]? = some true
    · rw [if_pos hm, List.nodup_append]
      refine ⟨serT_nodup V (by omega), by simp, fun a ha b hb => ?_⟩
      rw [serT_mem (by omega)] at ha
      obtain ⟨i, hi, h1, h2, h3⟩ := ha
      simp only [List.mem_singleton] at hb
      subst hb
      rw [← h3]
      intro c
      have := Rch.inj (metL_get.1 h2) (metL_get.1 hm) hi jl c
      omega
    · rw [if_neg hm, List.append_nil]
      exact serT_nodup V (by omega)
noncomputable def reachL (V : Vw) : List Int := srt (serT V.2 (metL V) V.2.length)
theorem reachL_lt (V : Vw) : (reachL V).Pairwise (· < ·) := srt_lt (serT_nodup V (Nat.le_refl _))
theorem intC_flat (l : List Int) : (intC l).flatten = l.map (Value.int .i64) := by
  induction l with
  | nil => rfl
  | cons x l ih => simp only [intC, List.map_cons, List.flatten_cons, List.cons_append, List.nil_append] at *; rw [ih]
section
variable {K : VK} {w : World}
theorem SortW_c {v : Value} {l : List Int} (ho : OwnS w v 2 1 (intC l)) (hl : l.length ≤ 4000000000000000) (h : ∀ w', Fr (blkS v) w w' → OwnS w' v 2 1 (intC (srt l)) → K (.tuple #[]) w') : C.call Try.prog 71 #[v] w K := by
  obtain ⟨⟨h1, h2⟩, h3⟩ := ho
  rw [intC_len] at h1 h2
  rcases h2 with ⟨rfl, h2⟩ | ⟨g, cap, cur, rfl, hb, hg, h4, h5, h6, h7⟩
  · have e : l = [] := List.eq_nil_of_length_eq_zero h2
    subst e
    refine (AnyM.slices_Sort_int_none sortW none 0 w).mono ?_
    rintro e w' ⟨rfl, rfl⟩
    exact ⟨_, rfl, h w' (Fr.refl _ _) (by
      have : srt [] = [] := by simp [srt]
      rw [this]
      exact OwnS.nil _ _ _)⟩
  · rw [intC_flat, Nat.mul_one] at h7
    have hH := holds_of_blockI hg h7
    refine (AnyM.slices_Sort_int sortW g 0 cap l w hH (lt_of_at hg) (by omega)).mono ?_
    rintro e w' ⟨rfl, n, os, rfl⟩
    refine ⟨_, rfl, h _ (fr_of_grownBy (v := .slice (some ⟨g, 0, none⟩) l.length cap) (grownBy_sortedI _)) ?_⟩
    have hr := ownsRow_sortedI (n := n) (os := os) (base := 0) (ts := srt l) (srt_len l) (Nat.zero_le _) hg h4 h5 h6
    refine ⟨?_, fun x hx => ⟨?_, intC_one x hx⟩⟩
    · rw [intC_len, intC_flat, srt_len]
      exact hr
    · simp only [intC, List.mem_map] at hx
      obtain ⟨y, _, rfl⟩ := hx
      rfl
/-- Numbers that rise: nothing to be compacted. -/
theorem CompactW_loop {v : Value} {l : List Int} (hv : RdS w v 1 (intC l)) (hp : l.Pairwise (· < ·)) (h : ∀ w', Fr [] w w' → K v w') :
    ∀ (d j : Nat) (w' : World), l.length ≤ j + 1 + d → Fr [] w w' → F72.l4 K v (.int .i64 ((j + 1 : Nat) : Int)) w' := by
  have hle := hv.le
  rw [intC_len] at hle
  have fin : ∀ (j : Nat) (w' : World), l.length ≤ j + 1 → Fr [] w w' → F72.l4 K v (.int .i64 ((j + 1 : Nat) : Int)) w' := fun j w' hj hf => by
    refine F72.l4.to (C.len_rd hv ?_)
    rw [intC_len]
    simp only [C.ite_true, C.ite_false, C.pick_true, C.pick_false, C.not_bool, C.field_ptr, C.nilCheck_ptr, C.add_mk, C.sub_mk, C.mul_mk, C.eql_mk, C.neq_mk, C.lss_mk, C.leq_mk, C.gtr_mk, C.geq_mk, C.conv_mk, C.len_mk, C.ext_0, C.ext_1, C.ext3_0, C.ext3_1, C.ext3_2, C.guarded_yes, C.guarded_tf, C.guarded_ft, C.guarded_undef, Bool.not_true, Bool.not_false, Nat.zero_add, eq_self, decide_true, decide_false, show ¬ (((j + 1 : Nat) : Int) < (l.length : Int)) by omega]
    exact F72.k16.to (h w' hf)
  intro d
  induction d with
  | zero => exact fun j w' hj hf => fin j w' (by omega) hf
  | succ d ih =>
    intro j w' hj hf
    by_cases hjl : l.length ≤ j + 1
    · exact fin j w' hjl hf
    have jl : j + 1 < l.length := by omega
    refine F72.l4.to (C.len_rd hv ?_)
    rw [intC_len]
    simp only [C.ite_true, C.ite_false, C.pick_true, C.pick_false, C.not_bool, C.field_ptr, C.nilCheck_ptr, C.add_mk, C.sub_mk, C.mul_mk, C.eql_mk, C.neq_mk, C.lss_mk, C.leq_mk, C.gtr_mk, C.geq_mk, C.conv_mk, C.len_mk, C.ext_0, C.ext_1, C.ext3_0, C.ext3_1, C.ext3_2, C.guarded_yes, C.guarded_tf, C.guarded_ft, C.guarded_undef, Bool.not_true, Bool.not_false, Nat.zero_add, eq_self, decide_true, decide_false, show (((j + 1 : Nat) : Int) < (l.length : Int)) by omega]
    refine F72.k6.to (C.draw_of (fun w2 => Fr [] w w2) fun w1 hf1 he1 => ⟨hf.trans hf1, ?_⟩)
    have f1 := hf.trans hf1
    simp only [C.ite_true, C.ite_false, C.pick_true, C.pick_false, C.not_bool, C.field_ptr, C.nilCheck_ptr, C.add_mk, C.sub_mk, C.mul_mk, C.eql_mk, C.neq_mk, C.lss_mk, C.leq_mk, C.gtr_mk, C.geq_mk, C.conv_mk, C.len_mk, C.ext_0, C.ext_1, C.ext3_0, C.ext3_1, C.ext3_2, C.guarded_yes, C.guarded_tf, C.guarded_ft, C.guarded_undef, Bool.not_true, Bool.not_false, Nat.zero_add, eq_self, decide_true, decide_false]
    rw [wrap64_id (n := ((j + 1 : Nat) : Int) - 1) (by omega), show ((j + 1 : Nat) : Int) - 1 = (j : Int) by omega]
    refine C.idx_rdS (S := fun w2 => Fr [] w w2) (fun w2 hw => hv.keep hw) f1 (by omega) (by rw [Int.toNat_natCast]; exact intC_get jl) fun ga oa _ hs1 => ?_
    refine C.idx_rdS (S := fun w2 => Fr [] w w2) (fun w2 hw => hv.keep hw) f1 (by omega) (by rw [Int.toNat_natCast]; exact intC_get (l := l) (j := j) (by omega)) fun gb ob _ hs2 => ?_
    refine C.load1S_of (v := .int .i64 l[j + 1]) (fun w' hw => by obtain ⟨cs, e, fz, x, y⟩ := hs1 w' hw; exact ⟨cs, e, fz, x, by simpa using y 0 (by simp)⟩) ?_
    refine C.load1S_of (v := .int .i64 l[j]) (fun w' hw => by obtain ⟨cs, e, fz, x, y⟩ := hs2 w' hw; exact ⟨cs, e, fz, x, by simpa using y 0 (by simp)⟩) ?_
    have hlt := List.pairwise_iff_getElem.1 hp j (j + 1) (by omega) jl (by omega)
    have hne : ¬ (l[j + 1] = l[j]) := by omega
    simp only [C.ite_true, C.ite_false, C.pick_true, C.pick_false, C.not_bool, C.field_ptr, C.nilCheck_ptr, C.add_mk, C.sub_mk, C.mul_mk, C.eql_mk, C.neq_mk, C.lss_mk, C.leq_mk, C.gtr_mk, C.geq_mk, C.conv_mk, C.len_mk, C.ext_0, C.ext_1, C.ext3_0, C.ext3_1, C.ext3_2, C.guarded_yes, C.guarded_tf, C.guarded_ft, C.guarded_undef, Bool.not_true, Bool.not_false, Nat.zero_add, eq_self, decide_true, decide_false, hne]
    refine F72.k5.to ?_
    simp only [C.ite_true, C.ite_false, C.pick_true, C.pick_false, C.not_bool, C.field_ptr, C.nilCheck_ptr, C.add_mk, C.sub_mk, C.mul_mk, C.eql_mk, C.neq_mk, C.lss_mk, C.leq_mk, C.gtr_mk, C.geq_mk, C.conv_mk, C.len_mk, C.ext_0, C.ext_1, C.ext3_0, C.ext3_1, C.ext3_2, C.guarded_yes, C.guarded_tf, C.guarded_ft, C.guarded_undef, Bool.not_true, Bool.not_false, Nat.zero_add, eq_self, decide_true, decide_false]
    rw [wrap64_id (n := ((j + 1 : Nat) : Int) + 1) (by omega), show ((j + 1 : Nat) : Int) + 1 = ((j + 1 + 1 : Nat) : Int) by omega]
    exact ih (j + 1) w1 (by omega) f1
theorem CompactW_c {v : Value} {l : List Int} (hv : RdS w v 1 (intC l)) (hp : l.Pairwise (· < ·)) (h : ∀ w', Fr [] w w' → K v w') : C.call Try.prog 72 #[v] w K := by
  refine F72.sh (C.len_rd hv ?_)
  rw [intC_len]
  by_cases h2 : (l.length : Int) < 2
  · simp only [C.ite_true, C.ite_false, C.pick_true, C.pick_false, C.not_bool, C.field_ptr, C.nilCheck_ptr, C.add_mk, C.sub_mk, C.mul_mk, C.eql_mk, C.neq_mk, C.lss_mk, C.leq_mk, C.gtr_mk, C.geq_mk, C.conv_mk, C.len_mk, C.ext_0, C.ext_1, C.ext3_0, C.ext3_1, C.ext3_2, C.guarded_yes, C.guarded_tf, C.guarded_ft, C.guarded_undef, Bool.not_true, Bool.not_false, Nat.zero_add, eq_self, decide_true, decide_false, h2]
    exact h w (Fr.refl _ _)
  · simp only [C.ite_true, C.ite_false, C.pick_true, C.pick_false, C.not_bool, C.field_ptr, C.nilCheck_ptr, C.add_mk, C.sub_mk, C.mul_mk, C.eql_mk, C.neq_mk, C.lss_mk, C.leq_mk, C.gtr_mk, C.geq_mk, C.conv_mk, C.len_mk, C.ext_0, C.ext_1, C.ext3_0, C.ext3_1, C.ext3_2, C.guarded_yes, C.guarded_tf, C.guarded_ft, C.guarded_undef, Bool.not_true, Bool.not_false, Nat.zero_add, eq_self, decide_true, decide_false, h2]
    exact F72.k3.to (CompactW_loop hv hp h l.length 0 w (by omega) (Fr.refl _ _))
theorem Reach_loop {W0 : World} {rv nv mv : Value} {V : Vw} {b : Nat} (hV : IsV W0 rv nv V) (hF : FitV V) (hm0 : W0.heap.size ≤ W0.heap.size) (h : ∀ v' w', Fr [] W0 w' → NewS W0 v' → OwnS w' v' 2 1 (intC (serT V.2 (metL V) V.2.length)) → F29.k8 K v' w') :
    ∀ (d j : Nat) (o : Value) (w : World), V.2.length = j + d → Fr [] W0 w → VB w b rv nv → RdS w mv 1 (boolC (metL V)) → (∀ g ∈ blkS mv, g ∉ blkS o) → (∀ g ∈ blkS mv, g < w.heap.size) → NewS W0 o → OwnS w o 2 1 (intC (serT V.2 (metL V) j)) →
      F29.l3 K (.pointer (some ⟨b, 0, none⟩)) o mv (.int .i64 (V.2.length : Int)) (.int .i64 (j : Int)) w := by
  have hle := hV.nodes.le
  have hfit := hF.nodes
  intro d
  induction d with
  | zero =>
    intro j o w hj hf hb hm hbo hbs hn ho
    obtain rfl : j = V.2.length := by omega
    refine F29.l3.to ?_
    simp only [C.ite_true, C.ite_false, C.pick_true, C.pick_false, C.not_bool, C.field_ptr, C.nilCheck_ptr, C.add_mk, C.sub_mk, C.mul_mk, C.eql_mk, C.neq_mk, C.lss_mk, C.leq_mk, C.gtr_mk, C.geq_mk, C.conv_mk, C.len_mk, C.ext_0, C.ext_1, C.ext3_0, C.ext3_1, C.ext3_2, C.guarded_yes, C.guarded_tf, C.guarded_ft, C.guarded_undef, Bool.not_true, Bool.not_false, Nat.zero_add, eq_self, decide_true, decide_false, show ¬ ((V.2.length : Int) < (V.2.length : Int)) by omega]
    exact h o w hf hn ho
  | succ d ih =>
    intro j o w hj hf hb hm hbo hbs hn ho
    have jl : j < V.2.length := by omega
    have jm : j < (metL V).length := by rw [metL_len]; exact jl
    have hs := serT_succ (m := metL V) jl
    have hlen := serT_len V.2 (metL V) j
    refine F29.l3.to ?_
    simp only [C.ite_true, C.ite_false, C.pick_true, C.pick_false, C.not_bool, C.field_ptr, C.nilCheck_ptr, C.add_mk, C.sub_mk, C.mul_mk, C.eql_mk, C.neq_mk, C.lss_mk, C.leq_mk, C.gtr_mk, C.geq_mk, C.conv_mk, C.len_mk, C.ext_0, C.ext_1, C.ext3_0, C.ext3_1, C.ext3_2, C.guarded_yes, C.guarded_tf, C.guarded_ft, C.guarded_undef, Bool.not_true, Bool.not_false, Nat.zero_add, eq_self, decide_true, decide_false, show ((j : Int) < (V.2.length : Int)) by omega]
    refine F29.k4.to (C.idx_rd hm (by omega) (by rw [Int.toNat_natCast]; exact boolC_get jm) fun g oo cs e' fz hg _ hc => C.load1_of (v := .bool (metL V)[j]) hg (by simpa using hc 0 (by simp)) ?_)
    have eget : (metL V)[j]? = some (metL V)[j] := List.getElem?_eq_getElem jm
    cases hmj : (metL V)[j] with
    | true =>
      rw [eget, hmj, if_pos rfl] at hs
      simp only [C.ite_true, C.ite_false, C.pick_true, C.pick_false, C.not_bool, C.field_ptr, C.nilCheck_ptr, C.add_mk, C.sub_mk, C.mul_mk, C.eql_mk, C.neq_mk, C.lss_mk, C.leq_mk, C.gtr_mk, C.geq_mk, C.conv_mk, C.len_mk, C.ext_0, C.ext_1, C.ext3_0, C.ext3_1, C.ext3_2, C.guarded_yes, C.guarded_tf, C.guarded_ft, C.guarded_undef, Bool.not_true, Bool.not_false, Nat.zero_add, eq_self, decide_true, decide_false]
      refine C.load1_of (v := nv) hb rfl ((hV.keep hf).nodes.get jl fun g oo cs e' fz f hg h0 h1 hr => ?_)
      simp only [C.ite_true, C.ite_false, C.pick_true, C.pick_false, C.not_bool, C.field_ptr, C.nilCheck_ptr, C.add_mk, C.sub_mk, C.mul_mk, C.eql_mk, C.neq_mk, C.lss_mk, C.leq_mk, C.gtr_mk, C.geq_mk, C.conv_mk, C.len_mk, C.ext_0, C.ext_1, C.ext3_0, C.ext3_1, C.ext3_2, C.guarded_yes, C.guarded_tf, C.guarded_ft, C.guarded_undef, Bool.not_true, Bool.not_false, Nat.zero_add, eq_self, decide_true, decide_false]
      refine C.load1_of hg h0 (C.appW hf hn ho (by omega) fun o' w' a b' c d' e => ?_)
      refine F29.k7.to ?_
      simp only [C.ite_true, C.ite_false, C.pick_true, C.pick_false, C.not_bool, C.field_ptr, C.nilCheck_ptr, C.add_mk, C.sub_mk, C.mul_mk, C.eql_mk, C.neq_mk, C.lss_mk, C.leq_mk, C.gtr_mk, C.geq_mk, C.conv_mk, C.len_mk, C.ext_0, C.ext_1, C.ext3_0, C.ext3_1, C.ext3_2, C.guarded_yes, C.guarded_tf, C.guarded_ft, C.guarded_undef, Bool.not_true, Bool.not_false, Nat.zero_add, eq_self, decide_true, decide_false]
      rw [wrap64_id (n := (j : Int) + 1) (by omega), show (j : Int) + 1 = ((j + 1 : Nat) : Int) by omega]
      refine ih (j + 1) o' w' (by omega) a (hb.keep d' (ho.nb hb (by decide))) ?_ (fun z hz c' => ?_) (fun z hz => by have := hbs z hz; have := d'.size; omega) b' (by rw [hs]; exact c)
      · obtain ⟨A, cc, rfl, x1, x2, x3⟩ := hm
        refine ⟨A, cc, rfl, x1, x2, fun hx => ?_⟩
        obtain ⟨g, o1, cs, e, fz, rfl, hg, hc⟩ := x3 hx
        exact ⟨g, o1, cs, e, fz, rfl, d'.at_ hg (hbo g (mem_blkS.2 rfl)), hc⟩
      · rcases e z c' with q | q
        · exact hbo z hz q
        · have := hbs z hz; omega
    | false =>
      rw [eget, hmj, if_neg (by simp), List.append_nil] at hs
      simp only [C.ite_true, C.ite_false, C.pick_true, C.pick_false, C.not_bool, C.field_ptr, C.nilCheck_ptr, C.add_mk, C.sub_mk, C.mul_mk, C.eql_mk, C.neq_mk, C.lss_mk, C.leq_mk, C.gtr_mk, C.geq_mk, C.conv_mk, C.len_mk, C.ext_0, C.ext_1, C.ext3_0, C.ext3_1, C.ext3_2, C.guarded_yes, C.guarded_tf, C.guarded_ft, C.guarded_undef, Bool.not_true, Bool.not_false, Nat.zero_add, eq_self, decide_true, decide_false]
      refine F29.k7.to ?_
      simp only [C.ite_true, C.ite_false, C.pick_true, C.pick_false, C.not_bool, C.field_ptr, C.nilCheck_ptr, C.add_mk, C.sub_mk, C.mul_mk, C.eql_mk, C.neq_mk, C.lss_mk, C.leq_mk, C.gtr_mk, C.geq_mk, C.conv_mk, C.len_mk, C.ext_0, C.ext_1, C.ext3_0, C.ext3_1, C.ext3_2, C.guarded_yes, C.guarded_tf, C.guarded_ft, C.guarded_undef, Bool.not_true, Bool.not_false, Nat.zero_add, eq_self, decide_true, decide_false]
      rw [wrap64_id (n := (j : Int) + 1) (by omega), show (j : Int) + 1 = ((j + 1 : Nat) : Int) by omega]
      exact ih (j + 1) o w (by omega) hf hb hm hbo hbs hn (by rw [hs]; exact ho)
theorem Reach_c {rv nv : Value} {V : Vw} (hV : IsV w rv nv V) (hF : FitV V) (h : ∀ v' w', Fr [] w w' → NewS w v' → RdS w' v' 1 (intC (reachL V)) → K v' w') : C.call Try.prog 29 #[.agg #[rv, nv]] w K := by
  refine F29.sh (VB.new hV fun b w1 hf1 _ hb hV1 => hb.all (reach_c hV1 hF fun mv w2 hf2 hn2 ho2 => C.len_rd ho2.rd ?_))
  rw [boolC_len, metL_len]
  have f2 := hf1.trans hf2
  have hfit := hF.nodes
  refine Reach_loop (W0 := w) hV hF (Nat.le_refl _) (fun v' w3 hf3 hn3 ho3 => ?_) V.2.length 0 (.slice none 0 0) w2 (by omega) f2 (hb.keep hf2 (by simp)) ho2.rd (fun g hg c => by simp [blkS, Value.ownBlock] at c) (fun g hg => ho2.mem_lt g hg) (NewS.nil _) (OwnS.nil _ _ _)
  have hlen := serT_len V.2 (metL V) V.2.length
  refine F29.k8.to (SortW_c ho3 (by omega) fun w4 hf4 ho4 => CompactW_c ho4.rd (reachL_lt V) fun w5 hf5 => ?_)
  exact h v' w5 ((hf3.then hf4 fun g hg => .inr (hn3 g (mem_blkS.1 hg))).trans hf5) hn3 (ho4.rd.keep hf5)
/-! ### Words compared -/
theorem WordsEq_loop {a b : Value} {xs ys : List Int} (ra : RdS w a 1 (intC xs)) (rb : RdS w b 1 (intC ys)) (hl : xs.length = ys.length) (h : ∀ w', Fr [] w w' → K (.bool (decide (xs = ys))) w') :
    ∀ (d i : Nat) (w' : World), xs.length = i + d → Fr [] w w' → (∀ j, j < i → xs[j]? = ys[j]?) → F45.l4 K a b (.int .i64 (i : Int)) w' := by
  have hl2 := ra.le
  rw [intC_len] at hl2
  intro d
  induction d with
  | zero =>
    intro i w' hi hf he
    refine F45.l4.to (C.len_rd (ra.keep hf) ?_)
    rw [intC_len]
    simp only [C.ite_true, C.ite_false, C.pick_true, C.pick_false, C.not_bool, C.field_ptr, C.nilCheck_ptr, C.add_mk, C.sub_mk, C.mul_mk, C.eql_mk, C.neq_mk, C.lss_mk, C.leq_mk, C.gtr_mk, C.geq_mk, C.conv_mk, C.len_mk, C.ext_0, C.ext_1, C.ext3_0, C.ext3_1, C.ext3_2, C.guarded_yes, C.guarded_tf, C.guarded_ft, C.guarded_undef, Bool.not_true, Bool.not_false, Nat.zero_add, eq_self, decide_true, decide_false, show ¬ ((i : Int) < (xs.length : Int)) by omega]
    refine F45.k8.to ?_
    have := h w' hf
    rwa [decide_eq_true (list_eq_of hl (by omega) he)] at this
  | succ d ih =>
    intro i w' hi hf he
    have hix : i < xs.length := by omega
    have hiy : i < ys.length := by omega
    refine F45.l4.to (C.len_rd (ra.keep hf) ?_)
    rw [intC_len]
    simp only [C.ite_true, C.ite_false, C.pick_true, C.pick_false, C.not_bool, C.field_ptr, C.nilCheck_ptr, C.add_mk, C.sub_mk, C.mul_mk, C.eql_mk, C.neq_mk, C.lss_mk, C.leq_mk, C.gtr_mk, C.geq_mk, C.conv_mk, C.len_mk, C.ext_0, C.ext_1, C.ext3_0, C.ext3_1, C.ext3_2, C.guarded_yes, C.guarded_tf, C.guarded_ft, C.guarded_undef, Bool.not_true, Bool.not_false, Nat.zero_add, eq_self, decide_true, decide_false, show ((i : Int) < (xs.length : Int)) by omega]
    refine F45.k6.to (C.draw_of (fun w2 => Fr [] w w2) fun w1 hf1 he1 => ⟨hf.trans hf1, ?_⟩)
    have f1 := hf.trans hf1
    refine C.idx_rdS (S := fun w2 => Fr [] w w2) (fun w2 hw => ra.keep hw) f1 (by omega) (by rw [Int.toNat_natCast]; exact intC_get hix) fun ga oa _ hs1 => ?_
    refine C.idx_rdS (S := fun w2 => Fr [] w w2) (fun w2 hw => rb.keep hw) f1 (by omega) (by rw [Int.toNat_natCast]; exact intC_get hiy) fun gb ob _ hs2 => ?_
    refine C.load1S_of (v := .int .i64 xs[i]) (fun w' hw => by obtain ⟨cs, e, fz, x, y⟩ := hs1 w' hw; exact ⟨cs, e, fz, x, by simpa using y 0 (by simp)⟩) ?_
    refine C.load1S_of (v := .int .i64 ys[i]) (fun w' hw => by obtain ⟨cs, e, fz, x, y⟩ := hs2 w' hw; exact ⟨cs, e, fz, x, by simpa using y 0 (by simp)⟩) ?_
    by_cases hb : xs[i] = ys[i]
    · have : ¬ (xs[i] ≠ ys[i]) := fun c => c hb
      rw [C.neq_mk, decide_eq_false this]
      simp only [C.ite_true, C.ite_false, C.pick_true, C.pick_false, C.not_bool, C.field_ptr, C.nilCheck_ptr, C.add_mk, C.sub_mk, C.mul_mk, C.eql_mk, C.neq_mk, C.lss_mk, C.leq_mk, C.gtr_mk, C.geq_mk, C.conv_mk, C.len_mk, C.ext_0, C.ext_1, C.ext3_0, C.ext3_1, C.ext3_2, C.guarded_yes, C.guarded_tf, C.guarded_ft, C.guarded_undef, Bool.not_true, Bool.not_false, Nat.zero_add, eq_self, decide_true, decide_false]
      refine F45.k5.to ?_
      simp only [C.ite_true, C.ite_false, C.pick_true, C.pick_false, C.not_bool, C.field_ptr, C.nilCheck_ptr, C.add_mk, C.sub_mk, C.mul_mk, C.eql_mk, C.neq_mk, C.lss_mk, C.leq_mk, C.gtr_mk, C.geq_mk, C.conv_mk, C.len_mk, C.ext_0, C.ext_1, C.ext3_0, C.ext3_1, C.ext3_2, C.guarded_yes, C.guarded_tf, C.guarded_ft, C.guarded_undef, Bool.not_true, Bool.not_false, Nat.zero_add, eq_self, decide_true, decide_false]
      rw [wrap64_id (n := (i : Int) + 1) (by omega), show (i : Int) + 1 = ((i + 1 : Nat) : Int) by omega]
      exact ih (i + 1) w1 (by omega) f1 (step_eq hix hiy he hb)
    · rw [C.neq_mk, decide_eq_true (show xs[i] ≠ ys[i] from hb)]
      simp only [C.ite_true, C.ite_false, C.pick_true, C.pick_false, C.not_bool, C.field_ptr, C.nilCheck_ptr, C.add_mk, C.sub_mk, C.mul_mk, C.eql_mk, C.neq_mk, C.lss_mk, C.leq_mk, C.gtr_mk, C.geq_mk, C.conv_mk, C.len_mk, C.ext_0, C.ext_1, C.ext3_0, C.ext3_1, C.ext3_2, C.guarded_yes, C.guarded_tf, C.guarded_ft, C.guarded_undef, Bool.not_true, Bool.not_false, Nat.zero_add, eq_self, decide_true, decide_false]
      have := h w1 f1
      rwa [decide_eq_false (fun e => hb (by subst e; rfl))] at this
theorem WordsEq_c {a b : Value} {xs ys : List Int} (ra : RdS w a 1 (intC xs)) (rb : RdS w b 1 (intC ys)) (h : ∀ w', Fr [] w w' → K (.bool (decide (xs = ys))) w') : C.call Try.prog 45 #[a, b] w K := by
  refine F45.sh (C.len_rd ra (C.len_rd rb ?_))
  rw [intC_len, intC_len]
  by_cases e : (xs.length : Int) = (ys.length : Int)
  · have : ¬ ((xs.length : Int) ≠ (ys.length : Int)) := fun c => c e
    rw [C.neq_mk, decide_eq_false this, C.ite_false]
    exact F45.k3.to (WordsEq_loop ra rb (by omega) h xs.length 0 w (by omega) (Fr.refl _ _) fun j hj => by omega)
  · rw [C.neq_mk, decide_eq_true (show (xs.length : Int) ≠ (ys.length : Int) from e), C.ite_true]
    have := h w (Fr.refl _ _)
    rwa [decide_eq_false (fun c => e (by rw [c]))] at this
/-! ### alive -/
def oneF : List Va := List.replicate 4 (0, 0)
def oneV : Vw := ([], [(0, oneF)])
theorem oneV_fit : FitT oneV := ⟨⟨by decide, by decide, fun i h => by simp [oneV] at h, fun i h => by
  have : i = 0 := by simp [oneV] at h; omega
  subst this
  show oneF.length * 16 ≤ _
  decide⟩, by decide, by decide⟩
theorem met_one : metL oneV = [true] := by
  refine (metL_eq (m := [true]) rfl (fun i hi => ?_) fun i hi => ?_).symm
  · have : i = 0 := by
      have := (List.getElem?_eq_some_iff.1 hi).1
      simpa using this
    subst this
    exact .seed (s := 0) (by simp [seeds]) (by decide)
  · have := hi.lt
    have : i = 0 := by simpa [oneV] using this
    subst this
    rfl
theorem chk_one : chkI oneV = 0 := by
  refine chkI_0 (fun k a c h1 h2 => ?_) ?_ ?_ ?_
  · have := (List.getElem?_eq_some_iff.1 h2).1
    simp [oneV] at this
  · rintro ⟨x, hx, ho⟩
    have : x = (0, 0) := by simpa [allOf, oneV, oneF] using hx
    subst this
    unfold OddVa at ho
    simp at ho
  · rintro ⟨x, hx, ho⟩
    have : x = (0, 0) := by simpa [allOf, oneV, oneF] using hx
    subst this
    have := ho.1
    simp at this
  · rw [met_one]; simp
theorem reach_one : reachL oneV = [0] := by
  unfold reachL
  rw [met_one, show serT oneV.2 [true] oneV.2.length = [0] by decide]
  simp [srt]
theorem zero_view (w : World) : IsV w (.slice none 0 0) (.slice none 0 0) ([], []) := ⟨⟨[], (OwnS.nil w 59 1).rd, rfl, fun i h => by simp at h⟩, ⟨[], rfl, (OwnS.nil w 61 2).rd, fun i h => by simp at h⟩⟩
theorem b61 (A : Option Addr) (n c : Nat) : (Instr.build 61 #[(1, .slice A n c)]).run Try.prog w = .ok (.agg #[.int .i64 0, .slice A n c]) w := by kernel_rfl
theorem b51 (A : Option Addr) (n c : Nat) : (Instr.build 51 #[(1, .slice A n c)]).run Try.prog w = .ok (.agg #[.slice none 0 0, .slice A n c]) w := by kernel_rfl
theorem b51_0 : (Instr.build 51 #[]).run Try.prog w = .ok (.agg #[.slice none 0 0, .slice none 0 0]) w := by kernel_rfl
theorem one_c (h : ∀ rv nv w', Fr [] w w' → IsV w' rv nv oneV → K (.agg #[rv, nv]) w') : C.call Try.prog 60 #[] w K := by
  refine F60.sh (C.new_of fun b0 w1 hn1 => ?_)
  refine C.make_of (t := 59) (e := 71) (sz := 2) (bytes := 16) (z := .agg #[.int .i64 0, .int .i64 0]) 4 Try.underlying59 (by kernel_rfl) rfl (by decide) (by simp [Value.cells, Value.oneCell']) (by omega) (by omega) fun g w2 hn2 ho2 => ?_
  have e0 : List.replicate 4 (Value.cells (.agg #[.int .i64 0, .int .i64 0])).toList = valC oneF := by simp [valC, oneF, Value.cells]
  rw [e0] at ho2
  refine C.run_of (b61 _ _ _) (C.run_of (bs49 _ _ _ _) ?_)
  have hn3 := New.mk' w2 (.cells #[.int .i64 0, .slice (some ⟨g, 0, none⟩) 4 4] 61)
  have i1 := hn1.is
  have i2 := hn2.is
  have z1 := hn1.sz
  have z2 := hn2.sz
  have hb0 : w2.heap[b0]? = some (.cells #[.slice none 0 0, .slice none 0 0] 51 (0, 0)) := hn2.fr.at_ hn1.at_ (by simp)
  have ho3 := ho2.rd.keep hn3.fr
  have hb3 := hn3.fr.at_ hb0 (by simp)
  have f3 : Fr [] w (w2.alloc (.cells #[.int .i64 0, .slice (some ⟨g, 0, none⟩) 4 4] 61)) := (hn1.fr.trans hn2.fr).trans hn3.fr
  have hnode : RdS (w2.alloc (.cells #[.int .i64 0, .slice (some ⟨g, 0, none⟩) 4 4] 61)) (.slice (some ⟨w2.heap.size, 0, none⟩) 1 1) 2 [[.int .i64 0, .slice (some ⟨g, 0, none⟩) 4 4]] := RdS.of_block hn3.at_ rfl (by simp) (by simp) (by simp) (by simp)
  generalize w2.alloc (.cells #[.int .i64 0, .slice (some ⟨g, 0, none⟩) 4 4] 61) = w3 at *
  have hV3 : IsV w3 (.slice none 0 0) (.slice (some ⟨w2.heap.size, 0, none⟩) 1 1) oneV := ⟨(zero_view w3).rows, ⟨[.slice (some ⟨g, 0, none⟩) 4 4], rfl, hnode, fun i h h' => by
    have : i = 0 := by simpa using h'
    subst this
    exact ho3⟩⟩
  refine C.run_of (b51 _ _ _) (C.store_all (x := .agg #[.slice none 0 0, .slice (some ⟨w2.heap.size, 0, none⟩) 1 1]) hb3 rfl (by
    intro u hu
    simp [Value.cells] at hu
    rcases hu with rfl | rfl <;> rfl) rfl fun w4 hu4 => C.loadA_all hu4.at_ rfl ?_)
  have hu4f := hu4.fr
  have key : ∀ {v : Value} {sz : Nat} {xs : List (List Value)}, RdS w3 v sz xs → (∀ g ∈ blkS v, g ≠ b0) → RdS w4 v sz xs := fun hr hb => by
    obtain ⟨A, cc, rfl, x1, x2, x3⟩ := hr
    refine ⟨A, cc, rfl, x1, x2, fun hx => ?_⟩
    obtain ⟨g, o1, cs, e, fz, rfl, hg, hc⟩ := x3 hx
    exact ⟨g, o1, cs, e, fz, rfl, hu4f.at_ hg (by simpa using hb g (mem_blkS.2 rfl)), hc⟩
  refine h _ _ w4 (f3.then hu4.fr fun z hz => .inr (by simp only [List.mem_singleton] at hz; omega)) ⟨(zero_view w4).rows, ⟨[.slice (some ⟨g, 0, none⟩) 4 4], rfl, key hnode fun z hz => ?_, fun i h h' => ?_⟩⟩
  · simp [blkS, Value.ownBlock] at hz
    omega
  · have : i = 0 := by simpa using h'
    subst this
    exact key ho3 fun z hz => by
      simp [blkS, Value.ownBlock] at hz
      omega
theorem alive_ok : AliveOk := by
  intro K w h
  refine F25.sh (one_c fun rv nv w1 hf1 hV1 => C.new_of fun b1 w2 hn2 => ?_)
  have hV2 := hV1.keep hn2.fr
  have e0 := hV2.cells
  refine C.store_all (x := .agg #[rv, nv]) hn2.at_ (by rw [e0]; rfl) hV2.ones rfl fun w3 hu3 => ?_
  have i2 := hn2.is
  have g13 : Fr [] w1 w3 := hn2.fr.then hu3.fr fun z hz => .inr (by simp only [List.mem_singleton] at hz; omega)
  have hV3 := hV1.keep g13
  have hb3 : VB w3 b1 rv nv := by
    have := hu3.at_
    rw [e0] at this
    exact this
  have f3 := hf1.trans g13
  refine hb3.all (Find_c hV3 oneV_fit.toFitV (fun w4 hf4 hp => absurd hp (by decide)) fun i f w4 hf4 hi hp ho hlo => ?_)
  have ei : i = 0 := by simpa [oneV] using hi
  subst ei
  simp only [C.ite_true, C.ite_false, C.pick_true, C.pick_false, C.not_bool, C.field_ptr, C.nilCheck_ptr, C.add_mk, C.sub_mk, C.mul_mk, C.eql_mk, C.neq_mk, C.lss_mk, C.leq_mk, C.gtr_mk, C.geq_mk, C.conv_mk, C.len_mk, C.ext_0, C.ext_1, C.ext3_0, C.ext3_1, C.ext3_2, C.guarded_yes, C.guarded_tf, C.guarded_ft, C.guarded_undef, Bool.not_true, Bool.not_false, Nat.zero_add, eq_self, decide_true, decide_false]
  refine C.putNd ho.rd fun b2 w5 hf5 hb20 hb2 => ?_
  have f35 := hf4.trans hf5
  have hb5 := hb3.keep f35 (by simp)
  have hV5 := hV3.keep f35
  refine hb5.all (Words_c hV5 fun w6 hf6 => ?_)
  rw [show IntKind.i64.wrap (wdN oneV.2 oneV.2.length) = 5 by simp only [IntKind.wrap_i64]; decide]
  simp only [C.ite_true, C.ite_false, C.pick_true, C.pick_false, C.not_bool, C.field_ptr, C.nilCheck_ptr, C.add_mk, C.sub_mk, C.mul_mk, C.eql_mk, C.neq_mk, C.lss_mk, C.leq_mk, C.gtr_mk, C.geq_mk, C.conv_mk, C.len_mk, C.ext_0, C.ext_1, C.ext3_0, C.ext3_1, C.ext3_2, C.guarded_yes, C.guarded_tf, C.guarded_ft, C.guarded_undef, Bool.not_true, Bool.not_false, Nat.zero_add, eq_self, decide_true, decide_false]
  refine (hb5.keep hf6 (by simp)).all (Check_c (hV5.keep hf6) oneV_fit fun w7 hf7 => ?_)
  rw [chk_one]
  simp only [C.ite_true, C.ite_false, C.pick_true, C.pick_false, C.not_bool, C.field_ptr, C.nilCheck_ptr, C.add_mk, C.sub_mk, C.mul_mk, C.eql_mk, C.neq_mk, C.lss_mk, C.leq_mk, C.gtr_mk, C.geq_mk, C.conv_mk, C.len_mk, C.ext_0, C.ext_1, C.ext3_0, C.ext3_1, C.ext3_2, C.guarded_yes, C.guarded_tf, C.guarded_ft, C.guarded_undef, Bool.not_true, Bool.not_false, Nat.zero_add, eq_self, decide_true, decide_false]
  have f57 := hf6.trans hf7
  refine C.load1_of (v := f) (f57.at_ hb2 (by simp)) rfl (C.len_rd ho.rd ?_)
  rw [valC_len, show ((oneV.2[0].2.length : Nat) : Int) = 4 from rfl]
  simp only [C.ite_true, C.ite_false, C.pick_true, C.pick_false, C.not_bool, C.field_ptr, C.nilCheck_ptr, C.add_mk, C.sub_mk, C.mul_mk, C.eql_mk, C.neq_mk, C.lss_mk, C.leq_mk, C.gtr_mk, C.geq_mk, C.conv_mk, C.len_mk, C.ext_0, C.ext_1, C.ext3_0, C.ext3_1, C.ext3_2, C.guarded_yes, C.guarded_tf, C.guarded_ft, C.guarded_undef, Bool.not_true, Bool.not_false, Nat.zero_add, eq_self, decide_true, decide_false]
  have hb7 := hb5.keep f57 (by simp)
  have hV7 := hV5.keep f57
  refine hb7.all (hb7.all (Same_c hV7 hV7 fun w8 hf8 => ?_))
  rw [decide_eq_true rfl]
  simp only [C.ite_true, C.ite_false, C.pick_true, C.pick_false, C.not_bool, C.field_ptr, C.nilCheck_ptr, C.add_mk, C.sub_mk, C.mul_mk, C.eql_mk, C.neq_mk, C.lss_mk, C.leq_mk, C.gtr_mk, C.geq_mk, C.conv_mk, C.len_mk, C.ext_0, C.ext_1, C.ext3_0, C.ext3_1, C.ext3_2, C.guarded_yes, C.guarded_tf, C.guarded_ft, C.guarded_undef, Bool.not_true, Bool.not_false, Nat.zero_add, eq_self, decide_true, decide_false]
  have hb8 := hb7.keep hf8 (by simp)
  have hV8 := hV7.keep hf8
  refine hb8.all (C.run_of b51_0 (Same_c hV8 (zero_view w8) fun w9 hf9 => ?_))
  rw [show decide (oneV = ([], [])) = false by decide]
  simp only [C.ite_true, C.ite_false, C.pick_true, C.pick_false, C.not_bool, C.field_ptr, C.nilCheck_ptr, C.add_mk, C.sub_mk, C.mul_mk, C.eql_mk, C.neq_mk, C.lss_mk, C.leq_mk, C.gtr_mk, C.geq_mk, C.conv_mk, C.len_mk, C.ext_0, C.ext_1, C.ext3_0, C.ext3_1, C.ext3_2, C.guarded_yes, C.guarded_tf, C.guarded_ft, C.guarded_undef, Bool.not_true, Bool.not_false, Nat.zero_add, eq_self, decide_true, decide_false]
  have hb9 := hb8.keep hf9 (by simp)
  have hV9 := hV8.keep hf9
  refine hb9.all (Reach_c hV9 oneV_fit.toFitV fun v w10 hf10 hn10 hr10 => C.run_of (bs57 0) ?_)
  have hn11 := New.mk' w10 (.cells #[.int .i64 0] 2)
  refine WordsEq_c (xs := reachL oneV) (ys := [0]) (hr10.keep hn11.fr) (RdS.of_block hn11.at_ rfl (by simp) (by simp) (by simp [intC]) (by simp [intC])) fun w12 hf12 => ?_
  rw [reach_one, decide_eq_true rfl]
  try simp only [C.ite_true, C.ite_false, C.pick_true, C.pick_false, C.not_bool, C.field_ptr, C.nilCheck_ptr, C.add_mk, C.sub_mk, C.mul_mk, C.eql_mk, C.neq_mk, C.lss_mk, C.leq_mk, C.gtr_mk, C.geq_mk, C.conv_mk, C.len_mk, C.ext_0, C.ext_1, C.ext3_0, C.ext3_1, C.ext3_2, C.guarded_yes, C.guarded_tf, C.guarded_ft, C.guarded_undef, Bool.not_true, Bool.not_false, Nat.zero_add, eq_self, decide_true, decide_false]
  exact h w12 ((f3.trans f35).trans (((f57.trans hf8).trans hf9).trans ((hf10.trans hn11.fr).trans hf12)))
end
end Go.Proofs.YtfdpmgddlaamcaaV
