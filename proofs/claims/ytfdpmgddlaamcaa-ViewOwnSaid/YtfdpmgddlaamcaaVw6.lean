/- The statement's own: references, all values, what was met: what the calls come to. -/
import Derived.Test.YtfdpmgddlaamcaaVw5
namespace Go.Proofs.YtfdpmgddlaamcaaV
open Go Go.Proofs Go.RowKit
set_option linter.unusedVariables false
set_option linter.unusedSimpArgs false
set_option maxRecDepth 10000
theorem refsOf_app (a b : List Va) : refsOf (a ++ b) = refsOf a ++ refsOf b := by simp [refsOf]
theorem refsOf_len (l : List Va) : (refsOf l).length ≤ l.length := by
  unfold refsOf
  rw [List.length_map]
  exact List.length_filter_le _ _
theorem refsOf_one (x : Va) : refsOf [x] = if x.1 = 2 then [x.2] else [] := by
  unfold refsOf
  by_cases h : x.1 = 2 <;> simp [h]
theorem refsOf_succ {l : List Va} {i : Nat} (h : i < l.length) : refsOf (l.take (i + 1)) = refsOf (l.take i) ++ if l[i].1 = 2 then [l[i].2] else [] := by
  rw [List.take_succ_eq_append_getElem h, refsOf_app, refsOf_one]
/-- All values of a view. -/
def allOf (V : Vw) : List Va := V.1.flatten ++ V.2.flatMap Prod.snd
structure FitT (V : Vw) : Prop extends FitV V where
  tot : (allOf V).length ≤ 4000000000000
  sum : V.1.length + V.2.length ≤ 4000000000000
theorem seeds_le (V : Vw) : (seeds V).length ≤ 1 + V.1.flatten.length := by
  unfold seeds
  rw [List.length_cons]
  have : ∀ L : List (List Va), (L.flatMap refsOf).length ≤ L.flatten.length := by
    intro L
    induction L with
    | nil => simp
    | cons l L ih =>
      have := refsOf_len l
      simp only [List.flatMap_cons, List.flatten_cons, List.length_append]
      omega
  have := this V.1
  omega
theorem wsum_le : ∀ (n : Nat) (N : List Nd), wsum (List.replicate n false) N ≤ (N.flatMap Prod.snd).length
  | 0, N => by simp [wsum]
  | n + 1, [] => by simp [wsum, List.replicate_succ]
  | n + 1, nd :: N => by
    have := wsum_le n N
    have := refsOf_len nd.2
    simp only [List.replicate_succ, wsum, List.flatMap_cons, List.length_append]
    rw [if_neg Bool.false_ne_true]
    omega
theorem seeds_wsum (V : Vw) : (seeds V).length + wsum (List.replicate V.2.length false) V.2 ≤ 1 + (allOf V).length := by
  have h1 := seeds_le V
  have h2 := wsum_le V.2.length V.2
  unfold allOf
  rw [List.length_append]
  omega
section
variable {K : VK} {w : World}
theorem bs57 (n : Int) : (Instr.buildSlice 57 1 #[(0, .int .i64 n)]).run Try.prog w = .ok (.slice (some ⟨w.heap.size, 0, none⟩) 1 1) (w.alloc (.cells #[.int .i64 n] 2)) := by kernel_rfl
/-- append(v, n). -/
theorem C.appW {W0 : World} {v : Value} {l : List Int} {n : Int} (hf : Fr [] W0 w) (hn : NewS W0 v) (hv : OwnS w v 2 1 (intC l)) (hl : l.length ≤ 17592186044415)
    (hk : ∀ v' w', Fr [] W0 w' → NewS W0 v' → OwnS w' v' 2 1 (intC (l ++ [n])) → Fr (blkS v) w w' → (∀ g ∈ blkS v', g ∈ blkS v ∨ w.heap.size ≤ g) → K v' w') :
    C.run Try.prog (Instr.buildSlice 57 1 #[(0, .int .i64 n)]) w fun x w1 => C.run Try.prog (Builtin.append_ #[57, 57] 57 #[v, x]) w1 K :=
  C.app1 (x := [.int .i64 n]) (e := 2) (sz := 1) (bytes := 8) (z := .int .i64 0) Try.underlying57 (by kernel_rfl) rfl (by decide) (bs57 n) rfl (by simp [Value.oneCell']) hf hn hv (by rw [intC_len]; omega) (by rw [intC_len]; omega) fun v' w' a b c d e => hk v' w' a b (by rw [intC_app]; exact c) d e
/-- append(v, l...). -/
theorem C.appWs {W0 : World} {v src : Value} {l k : List Int} (hf : Fr [] W0 w) (hn : NewS W0 v) (hv : OwnS w v 2 1 (intC l)) (hs : RdS w src 1 (intC k)) (hl : l.length + k.length ≤ 17592186044415)
    (hk : ∀ v' w', Fr [] W0 w' → NewS W0 v' → OwnS w' v' 2 1 (intC (l ++ k)) → Fr (blkS v) w w' → (∀ g ∈ blkS v', g ∈ blkS v ∨ w.heap.size ≤ g) → K v' w') :
    C.run Try.prog (Builtin.append_ #[57, 57] 57 #[v, src]) w K :=
  C.appN (e := 2) (sz := 1) (bytes := 8) (z := .int .i64 0) Try.underlying57 (by kernel_rfl) rfl (by decide) hf hn hv hs intC_one (by rw [intC_len, intC_len]; omega) (by rw [intC_len, intC_len]; omega) fun v' w' a b c d e => hk v' w' a b (by rw [intC_app]; exact c) d e
theorem C.appVs {W0 : World} {v src : Value} {l k : List Va} (hf : Fr [] W0 w) (hn : NewS W0 v) (hv : OwnS w v 71 2 (valC l)) (hs : RdS w src 2 (valC k)) (hl : l.length + k.length ≤ 8796093022208)
    (hk : ∀ v' w', Fr [] W0 w' → NewS W0 v' → OwnS w' v' 71 2 (valC (l ++ k)) → Fr (blkS v) w w' → (∀ g ∈ blkS v', g ∈ blkS v ∨ w.heap.size ≤ g) → K v' w') :
    C.run Try.prog (Builtin.append_ #[59, 59] 59 #[v, src]) w K :=
  C.appN (e := 71) (sz := 2) (bytes := 16) (z := .agg #[.int .i64 0, .int .i64 0]) Try.underlying59 (by kernel_rfl) rfl (by decide) hf hn hv hs valC_one (by rw [valC_len, valC_len]; omega) (by rw [valC_len, valC_len]; omega) fun v' w' a b c d e => hk v' w' a b (by rw [valC_app]; exact c) d e
theorem refs_loop {W0 : World} {v : Value} {l : List Va} (hr : RdS W0 v 2 (valC l)) (hl : l.length ≤ 8796093022208) (h : ∀ v' w', Fr [] W0 w' → NewS W0 v' → OwnS w' v' 2 1 (intC (refsOf l)) → K v' w') :
    ∀ (d i : Nat) (o : Value) (w : World), l.length = i + d → Fr [] W0 w → NewS W0 o → OwnS w o 2 1 (intC (refsOf (l.take i))) → F70.l3 K v o (.int .i64 (i : Int)) w := by
  intro d
  induction d with
  | zero =>
    intro i o w hi hf hn ho
    refine F70.l3.to (C.len_rd (hr.keep hf) ?_)
    rw [valC_len]
    simp only [C.ite_true, C.ite_false, C.pick_true, C.pick_false, C.not_bool, C.field_ptr, C.nilCheck_ptr, C.add_mk, C.sub_mk, C.mul_mk, C.eql_mk, C.neq_mk, C.lss_mk, C.leq_mk, C.gtr_mk, C.geq_mk, C.conv_mk, C.len_mk, C.ext_0, C.ext_1, C.ext3_0, C.ext3_1, C.ext3_2, C.guarded_yes, C.guarded_tf, C.guarded_ft, C.guarded_undef, Bool.not_true, Bool.not_false, Nat.zero_add, eq_self, decide_true, decide_false, show ¬ ((i : Int) < (l.length : Int)) by omega]
    rw [List.take_of_length_le (by omega)] at ho
    exact F70.k7.to (h o w hf hn ho)
  | succ d ih =>
    intro i o w hi hf hn ho
    have il : i < l.length := by omega
    have hs := refsOf_succ il
    have hlen : (refsOf (l.take i)).length ≤ i := by have := refsOf_len (l.take i); rw [List.length_take] at this; omega
    refine F70.l3.to (C.len_rd (hr.keep hf) ?_)
    rw [valC_len]
    simp only [C.ite_true, C.ite_false, C.pick_true, C.pick_false, C.not_bool, C.field_ptr, C.nilCheck_ptr, C.add_mk, C.sub_mk, C.mul_mk, C.eql_mk, C.neq_mk, C.lss_mk, C.leq_mk, C.gtr_mk, C.geq_mk, C.conv_mk, C.len_mk, C.ext_0, C.ext_1, C.ext3_0, C.ext3_1, C.ext3_2, C.guarded_yes, C.guarded_tf, C.guarded_ft, C.guarded_undef, Bool.not_true, Bool.not_false, Nat.zero_add, eq_self, decide_true, decide_false, show ((i : Int) < (l.length : Int)) by omega]
    have nx : ∀ o' w', Fr [] W0 w' → NewS W0 o' → OwnS w' o' 2 1 (intC (refsOf (l.take (i + 1)))) → F70.k4 K v o' (.int .i64 (i : Int)) w' := fun o' w' a b c => by
      refine F70.k4.to ?_
      simp only [C.ite_true, C.ite_false, C.pick_true, C.pick_false, C.not_bool, C.field_ptr, C.nilCheck_ptr, C.add_mk, C.sub_mk, C.mul_mk, C.eql_mk, C.neq_mk, C.lss_mk, C.leq_mk, C.gtr_mk, C.geq_mk, C.conv_mk, C.len_mk, C.ext_0, C.ext_1, C.ext3_0, C.ext3_1, C.ext3_2, C.guarded_yes, C.guarded_tf, C.guarded_ft, C.guarded_undef, Bool.not_true, Bool.not_false, Nat.zero_add, eq_self, decide_true, decide_false]
      rw [wrap64_id (n := (i : Int) + 1) (by omega), show (i : Int) + 1 = ((i + 1 : Nat) : Int) by omega]
      exact ih (i + 1) o' w' (by omega) a b c
    refine F70.k5.to (C.idx_rd (hr.keep hf) (by omega) (by rw [Int.toNat_natCast]; exact valC_get il) fun g oo cs e fz hg _ hc => ?_)
    simp only [C.ite_true, C.ite_false, C.pick_true, C.pick_false, C.not_bool, C.field_ptr, C.nilCheck_ptr, C.add_mk, C.sub_mk, C.mul_mk, C.eql_mk, C.neq_mk, C.lss_mk, C.leq_mk, C.gtr_mk, C.geq_mk, C.conv_mk, C.len_mk, C.ext_0, C.ext_1, C.ext3_0, C.ext3_1, C.ext3_2, C.guarded_yes, C.guarded_tf, C.guarded_ft, C.guarded_undef, Bool.not_true, Bool.not_false, Nat.zero_add, eq_self, decide_true, decide_false]
    refine C.load1_of (v := .int .i64 l[i].1) hg (by simpa using hc 0 (by omega)) ?_
    by_cases h2 : l[i].1 = 2
    · simp only [C.ite_true, C.ite_false, C.pick_true, C.pick_false, C.not_bool, C.field_ptr, C.nilCheck_ptr, C.add_mk, C.sub_mk, C.mul_mk, C.eql_mk, C.neq_mk, C.lss_mk, C.leq_mk, C.gtr_mk, C.geq_mk, C.conv_mk, C.len_mk, C.ext_0, C.ext_1, C.ext3_0, C.ext3_1, C.ext3_2, C.guarded_yes, C.guarded_tf, C.guarded_ft, C.guarded_undef, Bool.not_true, Bool.not_false, Nat.zero_add, eq_self, decide_true, decide_false, h2]
      refine C.idx_rd (hr.keep hf) (by omega) (by rw [Int.toNat_natCast]; exact valC_get il) fun g oo cs e fz hg _ hc => ?_
      simp only [C.ite_true, C.ite_false, C.pick_true, C.pick_false, C.not_bool, C.field_ptr, C.nilCheck_ptr, C.add_mk, C.sub_mk, C.mul_mk, C.eql_mk, C.neq_mk, C.lss_mk, C.leq_mk, C.gtr_mk, C.geq_mk, C.conv_mk, C.len_mk, C.ext_0, C.ext_1, C.ext3_0, C.ext3_1, C.ext3_2, C.guarded_yes, C.guarded_tf, C.guarded_ft, C.guarded_undef, Bool.not_true, Bool.not_false, Nat.zero_add, eq_self, decide_true, decide_false]
      refine C.load1_of (v := .int .i64 l[i].2) hg (by simpa using hc 1 (by omega)) (C.appW hf hn ho (by omega) fun o' w' a b c _ _ => nx o' w' a b ?_)
      rw [hs, if_pos h2]
      exact c
    · simp only [C.ite_true, C.ite_false, C.pick_true, C.pick_false, C.not_bool, C.field_ptr, C.nilCheck_ptr, C.add_mk, C.sub_mk, C.mul_mk, C.eql_mk, C.neq_mk, C.lss_mk, C.leq_mk, C.gtr_mk, C.geq_mk, C.conv_mk, C.len_mk, C.ext_0, C.ext_1, C.ext3_0, C.ext3_1, C.ext3_2, C.guarded_yes, C.guarded_tf, C.guarded_ft, C.guarded_undef, Bool.not_true, Bool.not_false, Nat.zero_add, eq_self, decide_true, decide_false, h2]
      refine nx o w hf hn ?_
      rw [hs, if_neg h2, List.append_nil]
      exact ho
theorem refs_c {v : Value} {l : List Va} (hr : RdS w v 2 (valC l)) (hl : l.length * 16 ≤ 140737488355328) (h : ∀ v' w', Fr [] w w' → NewS w v' → OwnS w' v' 2 1 (intC (refsOf l)) → K v' w') : C.call Try.prog 70 #[v] w K :=
  F70.sh (refs_loop hr (by omega) h l.length 0 _ w (by omega) (Fr.refl _ _) (NewS.nil _) (OwnS.nil _ _ _))
/-! ### all -/
theorem flat_succ {L : List (List Va)} {j : Nat} (h : j < L.length) : (L.take (j + 1)).flatten = (L.take j).flatten ++ L[j] := by
  rw [List.take_succ_eq_append_getElem h, List.flatten_append]
  simp
theorem flatm_succ {N : List Nd} {j : Nat} (h : j < N.length) : (N.take (j + 1)).flatMap Prod.snd = (N.take j).flatMap Prod.snd ++ N[j].2 := by
  rw [List.take_succ_eq_append_getElem h, List.flatMap_append]
  simp
theorem flat_take_le (L : List (List Va)) (j : Nat) : (L.take j).flatten.length ≤ L.flatten.length := by
  have : L.flatten = (L.take j).flatten ++ (L.drop j).flatten := by rw [← List.flatten_append, List.take_append_drop]
  rw [this, List.length_append]
  omega
theorem flatm_take_le (N : List Nd) (j : Nat) : ((N.take j).flatMap Prod.snd).length ≤ (N.flatMap Prod.snd).length := by
  have : N.flatMap Prod.snd = (N.take j).flatMap Prod.snd ++ (N.drop j).flatMap Prod.snd := by rw [← List.flatMap_append, List.take_append_drop]
  rw [this, List.length_append]
  omega
theorem all_nodes {W0 : World} {rv nv : Value} {V : Vw} {b : Nat} (hV : IsV W0 rv nv V) (hF : FitT V) (h : ∀ v' w', Fr [] W0 w' → NewS W0 v' → OwnS w' v' 71 2 (valC (allOf V)) → K v' w') :
    ∀ (d j : Nat) (o : Value) (w : World), V.2.length = j + d → Fr [] W0 w → VB w b rv nv → NewS W0 o → OwnS w o 71 2 (valC (V.1.flatten ++ (V.2.take j).flatMap Prod.snd)) → F69.l7 K (.pointer (some ⟨b, 0, none⟩)) o (.int .i64 (j : Int)) w := by
  have hle := hV.nodes.le
  have htot := hF.tot
  unfold allOf at htot
  rw [List.length_append] at htot
  intro d
  induction d with
  | zero =>
    intro j o w hj hf hb hn ho
    refine F69.l7.to (hb.f1 (hV.nodes.len ?_))
    simp only [C.ite_true, C.ite_false, C.pick_true, C.pick_false, C.not_bool, C.field_ptr, C.nilCheck_ptr, C.add_mk, C.sub_mk, C.mul_mk, C.eql_mk, C.neq_mk, C.lss_mk, C.leq_mk, C.gtr_mk, C.geq_mk, C.conv_mk, C.len_mk, C.ext_0, C.ext_1, C.ext3_0, C.ext3_1, C.ext3_2, C.guarded_yes, C.guarded_tf, C.guarded_ft, C.guarded_undef, Bool.not_true, Bool.not_false, Nat.zero_add, eq_self, decide_true, decide_false, show ¬ ((j : Int) < (V.2.length : Int)) by omega]
    rw [List.take_of_length_le (by omega)] at ho
    exact F69.k10.to (h o w hf hn ho)
  | succ d ih =>
    intro j o w hj hf hb hn ho
    have jl : j < V.2.length := by omega
    refine F69.l7.to (hb.f1 (hV.nodes.len ?_))
    simp only [C.ite_true, C.ite_false, C.pick_true, C.pick_false, C.not_bool, C.field_ptr, C.nilCheck_ptr, C.add_mk, C.sub_mk, C.mul_mk, C.eql_mk, C.neq_mk, C.lss_mk, C.leq_mk, C.gtr_mk, C.geq_mk, C.conv_mk, C.len_mk, C.ext_0, C.ext_1, C.ext3_0, C.ext3_1, C.ext3_2, C.guarded_yes, C.guarded_tf, C.guarded_ft, C.guarded_undef, Bool.not_true, Bool.not_false, Nat.zero_add, eq_self, decide_true, decide_false, show ((j : Int) < (V.2.length : Int)) by omega]
    refine F69.k9.to (hb.f1 ((hV.keep hf).nodes.get jl fun g oo cs e fz f hg h0 h1 hr => ?_))
    simp only [C.ite_true, C.ite_false, C.pick_true, C.pick_false, C.not_bool, C.field_ptr, C.nilCheck_ptr, C.add_mk, C.sub_mk, C.mul_mk, C.eql_mk, C.neq_mk, C.lss_mk, C.leq_mk, C.gtr_mk, C.geq_mk, C.conv_mk, C.len_mk, C.ext_0, C.ext_1, C.ext3_0, C.ext3_1, C.ext3_2, C.guarded_yes, C.guarded_tf, C.guarded_ft, C.guarded_undef, Bool.not_true, Bool.not_false, Nat.zero_add, eq_self, decide_true, decide_false]
    have h2 := flatm_take_le V.2 (j + 1)
    rw [flatm_succ jl, List.length_append] at h2
    refine C.load1_of hg h1 (C.appVs hf hn ho hr (by rw [List.length_append]; omega) fun o' w' a b' c d' _ => ?_)
    refine F69.k8.to ?_
    simp only [C.ite_true, C.ite_false, C.pick_true, C.pick_false, C.not_bool, C.field_ptr, C.nilCheck_ptr, C.add_mk, C.sub_mk, C.mul_mk, C.eql_mk, C.neq_mk, C.lss_mk, C.leq_mk, C.gtr_mk, C.geq_mk, C.conv_mk, C.len_mk, C.ext_0, C.ext_1, C.ext3_0, C.ext3_1, C.ext3_2, C.guarded_yes, C.guarded_tf, C.guarded_ft, C.guarded_undef, Bool.not_true, Bool.not_false, Nat.zero_add, eq_self, decide_true, decide_false]
    rw [wrap64_id (n := (j : Int) + 1) (by omega), show (j : Int) + 1 = ((j + 1 : Nat) : Int) by omega]
    exact ih (j + 1) o' w' (by omega) a (hb.keep d' (ho.nb hb (by decide))) b' (by rw [flatm_succ jl, ← List.append_assoc]; exact c)
theorem all_rows {W0 : World} {rv nv : Value} {V : Vw} {b : Nat} (hV : IsV W0 rv nv V) (hF : FitT V) (h : ∀ v' w', Fr [] W0 w' → NewS W0 v' → OwnS w' v' 71 2 (valC (allOf V)) → K v' w') :
    ∀ (d j : Nat) (o : Value) (w : World), V.1.length = j + d → Fr [] W0 w → VB w b rv nv → NewS W0 o → OwnS w o 71 2 (valC (V.1.take j).flatten) → F69.l3 K (.pointer (some ⟨b, 0, none⟩)) o (.int .i64 (j : Int)) w := by
  have hle := hV.rows.le
  have htot := hF.tot
  unfold allOf at htot
  rw [List.length_append] at htot
  intro d
  induction d with
  | zero =>
    intro j o w hj hf hb hn ho
    refine F69.l3.to (hb.f0 (hV.rows.len ?_))
    simp only [C.ite_true, C.ite_false, C.pick_true, C.pick_false, C.not_bool, C.field_ptr, C.nilCheck_ptr, C.add_mk, C.sub_mk, C.mul_mk, C.eql_mk, C.neq_mk, C.lss_mk, C.leq_mk, C.gtr_mk, C.geq_mk, C.conv_mk, C.len_mk, C.ext_0, C.ext_1, C.ext3_0, C.ext3_1, C.ext3_2, C.guarded_yes, C.guarded_tf, C.guarded_ft, C.guarded_undef, Bool.not_true, Bool.not_false, Nat.zero_add, eq_self, decide_true, decide_false, show ¬ ((j : Int) < (V.1.length : Int)) by omega]
    rw [List.take_of_length_le (by omega)] at ho
    exact F69.k6.to (all_nodes hV hF h V.2.length 0 o w (by omega) hf hb hn (by simpa using ho))
  | succ d ih =>
    intro j o w hj hf hb hn ho
    have jl : j < V.1.length := by omega
    refine F69.l3.to (hb.f0 (hV.rows.len ?_))
    simp only [C.ite_true, C.ite_false, C.pick_true, C.pick_false, C.not_bool, C.field_ptr, C.nilCheck_ptr, C.add_mk, C.sub_mk, C.mul_mk, C.eql_mk, C.neq_mk, C.lss_mk, C.leq_mk, C.gtr_mk, C.geq_mk, C.conv_mk, C.len_mk, C.ext_0, C.ext_1, C.ext3_0, C.ext3_1, C.ext3_2, C.guarded_yes, C.guarded_tf, C.guarded_ft, C.guarded_undef, Bool.not_true, Bool.not_false, Nat.zero_add, eq_self, decide_true, decide_false, show ((j : Int) < (V.1.length : Int)) by omega]
    have h2 := flat_take_le V.1 (j + 1)
    rw [flat_succ jl, List.length_append] at h2
    refine F69.k5.to (hb.f0 ((hV.keep hf).rows.get jl fun v hr => C.appVs hf hn ho hr (by omega) fun o' w' a b' c d' _ => ?_))
    refine F69.k4.to ?_
    simp only [C.ite_true, C.ite_false, C.pick_true, C.pick_false, C.not_bool, C.field_ptr, C.nilCheck_ptr, C.add_mk, C.sub_mk, C.mul_mk, C.eql_mk, C.neq_mk, C.lss_mk, C.leq_mk, C.gtr_mk, C.geq_mk, C.conv_mk, C.len_mk, C.ext_0, C.ext_1, C.ext3_0, C.ext3_1, C.ext3_2, C.guarded_yes, C.guarded_tf, C.guarded_ft, C.guarded_undef, Bool.not_true, Bool.not_false, Nat.zero_add, eq_self, decide_true, decide_false]
    rw [wrap64_id (n := (j : Int) + 1) (by omega), show (j : Int) + 1 = ((j + 1 : Nat) : Int) by omega]
    exact ih (j + 1) o' w' (by omega) a (hb.keep d' (ho.nb hb (by decide))) b' (by rw [flat_succ jl]; exact c)
theorem all_c {rv nv : Value} {V : Vw} (hV : IsV w rv nv V) (hF : FitT V) (h : ∀ v' w', Fr [] w w' → NewS w v' → OwnS w' v' 71 2 (valC (allOf V)) → K v' w') : C.call Try.prog 69 #[.agg #[rv, nv]] w K :=
  F69.sh (VB.new hV fun b w1 hf1 _ hb hV1 => all_rows hV hF h V.1.length 0 _ w1 (by omega) hf1 hb (NewS.nil _) (OwnS.nil _ _ _))
/-! ### met -/
/-- What stands while what can be reached is met. -/
structure MI (W0 : World) (b : Nat) (rv nv : Value) (m : List Bool) (q : List Int) (w : World) (y z : Value) : Prop where
  fr : Fr [] W0 w
  hb : VB w b rv nv
  o : OwnS w y 4 1 (boolC m)
  on : NewS W0 y
  q : OwnS w z 2 1 (intC q)
  qn : NewS W0 z
theorem MI.keep {W0 w w' : World} {b : Nat} {rv nv y z : Value} {m : List Bool} {q : List Int} (h : MI W0 b rv nv m q w y z) (hf : Fr [] w w') : MI W0 b rv nv m q w' y z :=
  ⟨h.fr.trans hf, h.hb.keep hf (by simp), h.o.keep hf (by simp), h.on, h.q.keep hf (by simp), h.qn⟩
theorem MI.app {W0 : World} {b : Nat} {rv nv y z : Value} {m : List Bool} {q k : List Int} {v : Value} (h : MI W0 b rv nv m q w y z) (hs : RdS w v 1 (intC k)) (hl : q.length + k.length ≤ 17592186044415) (hk : ∀ w' z', MI W0 b rv nv m (q ++ k) w' y z' → K z' w') : C.run Try.prog (Builtin.append_ #[57, 57] 57 #[z, v]) w K :=
  C.appWs h.fr h.qn h.q hs hl fun z' w' a b' c d _ => hk w' z' ⟨a, h.hb.keep d (h.q.nb h.hb (by decide)), h.o.keep' d (h.o.ne h.q (by decide)), h.on, c, b'⟩
theorem met_loop {W0 : World} {rv nv : Value} {V : Vw} {b T : Nat} (hV : IsV W0 rv nv V) (hF : FitT V) (hT : T ≤ 4000000000001) (h : ∀ v' w', Fr [] W0 w' → NewS W0 v' → OwnS w' v' 4 1 (boolC (metL V)) → K v' w') :
    ∀ (d : Nat) (m : List Bool) (q : List Int) (a : Nat) (y z : Value) (w : World), MI W0 b rv nv m q w y z → Wz V m q a → a ≤ q.length → wsum m V.2 + (q.length - a) = d → q.length + wsum m V.2 ≤ T →
      F28.l8 K (.pointer (some ⟨b, 0, none⟩)) y z (.int .i64 (a : Int)) w := by
  intro d
  induction d with
  | zero =>
    intro m q a y z w hI hW ha hd ht
    have e : a = q.length := by omega
    refine F28.l8.to (C.len_rd hI.q.rd ?_)
    rw [intC_len]
    simp only [C.ite_true, C.ite_false, C.pick_true, C.pick_false, C.not_bool, C.field_ptr, C.nilCheck_ptr, C.add_mk, C.sub_mk, C.mul_mk, C.eql_mk, C.neq_mk, C.lss_mk, C.leq_mk, C.gtr_mk, C.geq_mk, C.conv_mk, C.len_mk, C.ext_0, C.ext_1, C.ext3_0, C.ext3_1, C.ext3_2, C.guarded_yes, C.guarded_tf, C.guarded_ft, C.guarded_undef, Bool.not_true, Bool.not_false, Nat.zero_add, eq_self, decide_true, decide_false, show ¬ ((a : Int) < (q.length : Int)) by omega]
    subst e
    have := hI.o
    rw [wz_end hW] at this
    exact F28.k14.to (h y w hI.fr hI.on this)
  | succ d ih =>
    intro m q a y z w hI hW ha hd ht
    by_cases ea : a = q.length
    · refine F28.l8.to (C.len_rd hI.q.rd ?_)
      rw [intC_len]
      simp only [C.ite_true, C.ite_false, C.pick_true, C.pick_false, C.not_bool, C.field_ptr, C.nilCheck_ptr, C.add_mk, C.sub_mk, C.mul_mk, C.eql_mk, C.neq_mk, C.lss_mk, C.leq_mk, C.gtr_mk, C.geq_mk, C.conv_mk, C.len_mk, C.ext_0, C.ext_1, C.ext3_0, C.ext3_1, C.ext3_2, C.guarded_yes, C.guarded_tf, C.guarded_ft, C.guarded_undef, Bool.not_true, Bool.not_false, Nat.zero_add, eq_self, decide_true, decide_false, show ¬ ((a : Int) < (q.length : Int)) by omega]
      subst ea
      have := hI.o
      rw [wz_end hW] at this
      exact F28.k14.to (h y w hI.fr hI.on this)
    have al : a < q.length := by omega
    have hqa : q[a]? = some q[a] := List.getElem?_eq_getElem al
    refine F28.l8.to (C.len_rd hI.q.rd ?_)
    rw [intC_len]
    simp only [C.ite_true, C.ite_false, C.pick_true, C.pick_false, C.not_bool, C.field_ptr, C.nilCheck_ptr, C.add_mk, C.sub_mk, C.mul_mk, C.eql_mk, C.neq_mk, C.lss_mk, C.leq_mk, C.gtr_mk, C.geq_mk, C.conv_mk, C.len_mk, C.ext_0, C.ext_1, C.ext3_0, C.ext3_1, C.ext3_2, C.guarded_yes, C.guarded_tf, C.guarded_ft, C.guarded_undef, Bool.not_true, Bool.not_false, Nat.zero_add, eq_self, decide_true, decide_false, show ((a : Int) < (q.length : Int)) by omega]
    refine F28.k10.to (C.draw_of (fun w' => Fr [] w w') fun w1 hf1 he1 => ⟨hf1, ?_⟩)
    refine C.idx_rdS (S := fun w' => Fr [] w w') (fun w' hw => hI.q.rd.keep hw) hf1 (by omega) (by rw [Int.toNat_natCast]; exact intC_get al) fun g oo _ hs => ?_
    refine C.loadAS_of (vs := [rv, nv]) (fun w' hw => ⟨_, _, _, hI.hb.keep hw (by simp), by simp, by simp⟩) ?_
    refine C.load1S_of (v := .int .i64 q[a]) (fun w' hw => by obtain ⟨cs, e, fz, x, y⟩ := hs w' hw; exact ⟨cs, e, fz, x, by simpa using y 0 (by simp)⟩) ?_
    have hI1 := hI.keep hf1
    refine ⟨find_c (hV.keep hI1.fr) fun w2 hf2 => ⟨hf1.trans hf2, ?_⟩, trivial⟩
    have hI2 := hI1.keep hf2
    have skip : (∀ i, plc V.2 q[a] = some i → m[i]? = some true) → F28.k9 K (.pointer (some ⟨b, 0, none⟩)) y z (.int .i64 (a : Int)) w2 := fun hm => by
      refine F28.k9.to ?_
      simp only [C.ite_true, C.ite_false, C.pick_true, C.pick_false, C.not_bool, C.field_ptr, C.nilCheck_ptr, C.add_mk, C.sub_mk, C.mul_mk, C.eql_mk, C.neq_mk, C.lss_mk, C.leq_mk, C.gtr_mk, C.geq_mk, C.conv_mk, C.len_mk, C.ext_0, C.ext_1, C.ext3_0, C.ext3_1, C.ext3_2, C.guarded_yes, C.guarded_tf, C.guarded_ft, C.guarded_undef, Bool.not_true, Bool.not_false, Nat.zero_add, eq_self, decide_true, decide_false]
      rw [wrap64_id (n := (a : Int) + 1) (by omega), show (a : Int) + 1 = ((a + 1 : Nat) : Int) by omega]
      exact ih m q (a + 1) y z w2 hI2 (wz_skip hW hqa hm) (by omega) (by omega) ht
    cases hp : plc V.2 q[a] with
    | none =>
      have e : plcI V.2 q[a] = -1 := by unfold plcI; rw [hp]
      rw [e]
      simp only [C.ite_true, C.ite_false, C.pick_true, C.pick_false, C.not_bool, C.field_ptr, C.nilCheck_ptr, C.add_mk, C.sub_mk, C.mul_mk, C.eql_mk, C.neq_mk, C.lss_mk, C.leq_mk, C.gtr_mk, C.geq_mk, C.conv_mk, C.len_mk, C.ext_0, C.ext_1, C.ext3_0, C.ext3_1, C.ext3_2, C.guarded_yes, C.guarded_tf, C.guarded_ft, C.guarded_undef, Bool.not_true, Bool.not_false, Nat.zero_add, eq_self, decide_true, decide_false, show ¬ ((-1 : Int) ≥ 0) by omega]
      exact skip fun i hi => by rw [hp] at hi; cases hi
    | some i =>
      have e : plcI V.2 q[a] = (i : Int) := by unfold plcI; rw [hp]
      have li := plc_lt hp
      have lm : i < m.length := by rw [hW.len]; exact li
      rw [e]
      simp only [C.ite_true, C.ite_false, C.pick_true, C.pick_false, C.not_bool, C.field_ptr, C.nilCheck_ptr, C.add_mk, C.sub_mk, C.mul_mk, C.eql_mk, C.neq_mk, C.lss_mk, C.leq_mk, C.gtr_mk, C.geq_mk, C.conv_mk, C.len_mk, C.ext_0, C.ext_1, C.ext3_0, C.ext3_1, C.ext3_2, C.guarded_yes, C.guarded_tf, C.guarded_ft, C.guarded_undef, Bool.not_true, Bool.not_false, Nat.zero_add, eq_self, decide_true, decide_false, show ((i : Int) ≥ 0) by omega]
      refine C.idx_rd hI2.o.rd (by omega) (by rw [Int.toNat_natCast]; exact boolC_get lm) fun g oo cs e' fz hg _ hc => ?_
      refine C.load1_of (v := .bool m[i]) hg (by simpa using hc 0 (by simp)) ?_
      cases hmi : m[i] with
      | true =>
        simp only [C.ite_true, C.ite_false, C.pick_true, C.pick_false, C.not_bool, C.field_ptr, C.nilCheck_ptr, C.add_mk, C.sub_mk, C.mul_mk, C.eql_mk, C.neq_mk, C.lss_mk, C.leq_mk, C.gtr_mk, C.geq_mk, C.conv_mk, C.len_mk, C.ext_0, C.ext_1, C.ext3_0, C.ext3_1, C.ext3_2, C.guarded_yes, C.guarded_tf, C.guarded_ft, C.guarded_undef, Bool.not_true, Bool.not_false, Nat.zero_add, eq_self, decide_true, decide_false]
        exact skip fun k hk => by rw [hp] at hk; obtain rfl := Option.some.inj hk; rw [List.getElem?_eq_getElem lm, hmi]
      | false =>
        simp only [C.ite_true, C.ite_false, C.pick_true, C.pick_false, C.not_bool, C.field_ptr, C.nilCheck_ptr, C.add_mk, C.sub_mk, C.mul_mk, C.eql_mk, C.neq_mk, C.lss_mk, C.leq_mk, C.gtr_mk, C.geq_mk, C.conv_mk, C.len_mk, C.ext_0, C.ext_1, C.ext3_0, C.ext3_1, C.ext3_2, C.guarded_yes, C.guarded_tf, C.guarded_ft, C.guarded_undef, Bool.not_true, Bool.not_false, Nat.zero_add, eq_self, decide_true, decide_false]
        have hmf : m[i]? = some false := by rw [List.getElem?_eq_getElem lm, hmi]
        have hni : V.2[i]? = some V.2[i] := List.getElem?_eq_getElem li
        have hws := wsum_set (N := V.2) hmf hni
        refine C.storeAt_own hI2.o (by omega) (by rw [Int.toNat_natCast, boolC_len]; exact lm) rfl (by simp [Value.cells, Value.oneCell']) fun w3 ho3 hf3 hz3 => ?_
        rw [Int.toNat_natCast] at ho3
        have hI3 : MI W0 b rv nv (m.set i true) q w3 y z := ⟨hI2.fr.then hf3 fun x hx => .inr (hI2.on x (mem_blkS.1 hx)), hI2.hb.keep hf3 (hI2.o.nb hI2.hb (by decide)), by rw [← boolC_set]; exact ho3, hI2.on, hI2.q.keep' hf3 (hI2.q.ne hI2.o (by decide)), hI2.qn⟩
        refine C.load1_of (v := nv) hI3.hb rfl ((hV.keep hI3.fr).nodes.get li fun g oo cs e' fz f hg h0 h1 hr => ?_)
        simp only [C.ite_true, C.ite_false, C.pick_true, C.pick_false, C.not_bool, C.field_ptr, C.nilCheck_ptr, C.add_mk, C.sub_mk, C.mul_mk, C.eql_mk, C.neq_mk, C.lss_mk, C.leq_mk, C.gtr_mk, C.geq_mk, C.conv_mk, C.len_mk, C.ext_0, C.ext_1, C.ext3_0, C.ext3_1, C.ext3_2, C.guarded_yes, C.guarded_tf, C.guarded_ft, C.guarded_undef, Bool.not_true, Bool.not_false, Nat.zero_add, eq_self, decide_true, decide_false]
        refine C.load1_of hg h1 (refs_c hr (hF.fld i li) fun v4 w4 hf4 hn4 ho4 => (hI3.keep hf4).app ho4.rd (by omega) fun w5 z' hI5 => ?_)
        refine F28.k9.to ?_
        simp only [C.ite_true, C.ite_false, C.pick_true, C.pick_false, C.not_bool, C.field_ptr, C.nilCheck_ptr, C.add_mk, C.sub_mk, C.mul_mk, C.eql_mk, C.neq_mk, C.lss_mk, C.leq_mk, C.gtr_mk, C.geq_mk, C.conv_mk, C.len_mk, C.ext_0, C.ext_1, C.ext3_0, C.ext3_1, C.ext3_2, C.guarded_yes, C.guarded_tf, C.guarded_ft, C.guarded_undef, Bool.not_true, Bool.not_false, Nat.zero_add, eq_self, decide_true, decide_false]
        rw [wrap64_id (n := (a : Int) + 1) (by omega), show (a : Int) + 1 = ((a + 1 : Nat) : Int) by omega]
        exact ih (m.set i true) (q ++ refsOf V.2[i].2) (a + 1) y z' w5 hI5 (wz_meet hW hqa hp hni) (by rw [List.length_append]; omega) (by rw [List.length_append]; omega) (by rw [List.length_append]; omega)
theorem met_rows {W0 : World} {rv nv : Value} {V : Vw} {b : Nat} (hV : IsV W0 rv nv V) (hF : FitT V) (h : ∀ v' w', Fr [] W0 w' → NewS W0 v' → OwnS w' v' 4 1 (boolC (metL V)) → K v' w') :
    ∀ (d j : Nat) (y z : Value) (w : World), V.1.length = j + d → MI W0 b rv nv (List.replicate V.2.length false) (0 :: (V.1.take j).flatMap refsOf) w y z → F28.l4 K (.pointer (some ⟨b, 0, none⟩)) y z (.int .i64 (j : Int)) w := by
  have hle := hV.rows.le
  have hsw := seeds_wsum V
  have htot := hF.tot
  intro d
  induction d with
  | zero =>
    intro j y z w hj hI
    refine F28.l4.to (hI.hb.f0 (hV.rows.len ?_))
    simp only [C.ite_true, C.ite_false, C.pick_true, C.pick_false, C.not_bool, C.field_ptr, C.nilCheck_ptr, C.add_mk, C.sub_mk, C.mul_mk, C.eql_mk, C.neq_mk, C.lss_mk, C.leq_mk, C.gtr_mk, C.geq_mk, C.conv_mk, C.len_mk, C.ext_0, C.ext_1, C.ext3_0, C.ext3_1, C.ext3_2, C.guarded_yes, C.guarded_tf, C.guarded_ft, C.guarded_undef, Bool.not_true, Bool.not_false, Nat.zero_add, eq_self, decide_true, decide_false, show ¬ ((j : Int) < (V.1.length : Int)) by omega]
    rw [List.take_of_length_le (by omega)] at hI
    exact F28.k7.to (met_loop (T := 4000000000001) hV hF (by omega) h _ _ (seeds V) 0 y z w hI (wz_0 V) (by omega) rfl (by omega))
  | succ d ih =>
    intro j y z w hj hI
    have jl : j < V.1.length := by omega
    refine F28.l4.to (hI.hb.f0 (hV.rows.len ?_))
    simp only [C.ite_true, C.ite_false, C.pick_true, C.pick_false, C.not_bool, C.field_ptr, C.nilCheck_ptr, C.add_mk, C.sub_mk, C.mul_mk, C.eql_mk, C.neq_mk, C.lss_mk, C.leq_mk, C.gtr_mk, C.geq_mk, C.conv_mk, C.len_mk, C.ext_0, C.ext_1, C.ext3_0, C.ext3_1, C.ext3_2, C.guarded_yes, C.guarded_tf, C.guarded_ft, C.guarded_undef, Bool.not_true, Bool.not_false, Nat.zero_add, eq_self, decide_true, decide_false, show ((j : Int) < (V.1.length : Int)) by omega]
    have e : (V.1.take (j + 1)).flatMap refsOf = (V.1.take j).flatMap refsOf ++ refsOf V.1[j] := by
      rw [List.take_succ_eq_append_getElem jl, List.flatMap_append]
      simp
    have hlen : ((V.1.take (j + 1)).flatMap refsOf).length ≤ (V.1.flatMap refsOf).length := by
      have : V.1.flatMap refsOf = (V.1.take (j + 1)).flatMap refsOf ++ (V.1.drop (j + 1)).flatMap refsOf := by rw [← List.flatMap_append, List.take_append_drop]
      rw [this, List.length_append]
      omega
    have hs0 : (seeds V).length = (V.1.flatMap refsOf).length + 1 := by simp [seeds]
    rw [e, List.length_append] at hlen
    refine F28.k6.to (hI.hb.f0 ((hV.keep hI.fr).rows.get jl fun v hr => refs_c hr (hF.row j jl) fun v1 w1 hf1 hn1 ho1 => (hI.keep hf1).app ho1.rd (by simp only [List.length_cons]; omega) fun w2 z' hI2 => ?_))
    refine F28.k5.to ?_
    simp only [C.ite_true, C.ite_false, C.pick_true, C.pick_false, C.not_bool, C.field_ptr, C.nilCheck_ptr, C.add_mk, C.sub_mk, C.mul_mk, C.eql_mk, C.neq_mk, C.lss_mk, C.leq_mk, C.gtr_mk, C.geq_mk, C.conv_mk, C.len_mk, C.ext_0, C.ext_1, C.ext3_0, C.ext3_1, C.ext3_2, C.guarded_yes, C.guarded_tf, C.guarded_ft, C.guarded_undef, Bool.not_true, Bool.not_false, Nat.zero_add, eq_self, decide_true, decide_false]
    rw [wrap64_id (n := (j : Int) + 1) (by omega), show (j : Int) + 1 = ((j + 1 : Nat) : Int) by omega]
    refine ih (j + 1) y z' w2 (by omega) ?_
    rw [e]
    exact hI2
theorem met_c {rv nv : Value} {V : Vw} (hV : IsV w rv nv V) (hF : FitT V) (h : ∀ v' w', Fr [] w w' → NewS w v' → OwnS w' v' 4 1 (boolC (metL V)) → K v' w') : C.call Try.prog 28 #[.agg #[rv, nv]] w K := by
  have hfit := hF.nodes
  refine F28.sh (VB.new hV fun b w1 hf1 _ hb hV1 => hb.f1 (hV.nodes.len ?_))
  refine C.make_of (t := 55) (e := 4) (sz := 1) (bytes := 1) (z := .bool false) V.2.length Try.underlying55 (by kernel_rfl) rfl (by decide) (by simp [Value.cells, Value.oneCell']) (by omega) (by omega) fun gy w2 hn2 ho2 => ?_
  refine C.run_of (bs57 0) ?_
  have hn3 := New.mk' w2 (.cells #[.int .i64 0] 2)
  have f2 := hf1.trans hn2.fr
  have i2 := hn2.is
  have z1 := hf1.size
  refine met_rows hV hF h V.1.length 0 _ _ _ (by omega) ⟨f2.trans hn3.fr, (hb.keep hn2.fr (by simp)).keep hn3.fr (by simp), ?_, fun g hg => ?_, OwnS.of_block hn3.at_ rfl (by simp) (by simp) rfl (by simp [intC, Value.oneCell']) (by simp [intC]), fun g hg => ?_⟩
  · have : boolC (List.replicate V.2.length false) = List.replicate V.2.length (Value.cells (.bool false)).toList := by simp [boolC, Value.cells]
    rw [this]
    exact ho2.keep hn3.fr (by simp)
  · simp only [Value.ownBlock, Option.some.injEq] at hg
    omega
  · simp only [Value.ownBlock, Option.some.injEq] at hg
    have := f2.size
    omega
end
end Go.Proofs.YtfdpmgddlaamcaaV
