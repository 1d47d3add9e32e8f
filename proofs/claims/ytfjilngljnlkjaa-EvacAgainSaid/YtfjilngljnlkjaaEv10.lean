/- Images, by the reference: Order, moved, Lay. -/
import Derived.Test.YtfjilngljnlkjaaEv9
import Derived.Test.YtfjilngljnlkjaaEv3
namespace Go.Proofs.YtfjilngljnlkjaaV
open Go Go.Proofs Go.RowKit
set_option linter.unusedVariables false
set_option linter.unusedSimpArgs false
set_option maxRecDepth 10000
def natI (o : List Nat) : List Int := o.map fun p : Nat => (p : Int)
theorem natI_len (o : List Nat) : (natI o).length = o.length := by simp [natI]
theorem natI_get {o : List Nat} {j : Nat} (h : j < o.length) (h' : j < (natI o).length) : (natI o)[j] = (o[j] : Int) := by simp [natI]
theorem natI_app (a b : List Nat) : natI (a ++ b) = natI a ++ natI b := by simp [natI]
theorem layS_app (m : List Ob) (o a b : List Nat) : layS m o (a ++ b) = layS m o a ++ layS m o b := List.flatMap_append
theorem layS_one (m : List Ob) (o : List Nat) (p : Nat) : layS m o [p] = hdA m p :: (fsA m p).map (movW m o) := by simp [layS]
section
variable {K : VK} {w : World}
theorem ObsAt.get0 {W0 : World} {mv : Value} {m : List Ob} {fs : List Value} {j : Nat} (h : ObsAt W0 mv m fs) (hf : Fr [] W0 w) (hj : j < m.length)
    (hk : ∀ g o cs e fz fv, w.heap[g]? = some (.cells cs e fz) → cs[o]? = some (.int .i64 (m[j].at_ : Int)) → cs[o + 1]? = some (.int .i64 m[j].ser) → cs[o + 2]? = some fv → RdS W0 fv 1 (intC m[j].fs) → K (.pointer (some ⟨g, o, none⟩)) w) :
    C.idx 3 mv (.int .i64 (j : Int)) w K := by
  have hj' : j < fs.length := by rw [h.len]; exact hj
  refine C.idx_rd (h.keep hf).rd (by omega) (by rw [Int.toNat_natCast]; exact obC_get hj hj') fun g o cs e fz hg _ hc => hk g o cs e fz fs[j] hg ?_ ?_ ?_ (h.fld j hj hj')
  · simpa using hc 0 (by omega)
  · simpa using hc 1 (by omega)
  · simpa using hc 2 (by omega)
/-- Was it met? -/
theorem met_loop {mv ov wv : Value} {y7 y8 : Value} {o : List Nat} {p : Nat} (ho : RdS w ov 1 (intC (natI o))) (h : F20.k16 K mv ov wv y7 y8 (.int .i64 (p : Int)) (.bool (decide (p ∈ o))) w) :
    ∀ (d j : Nat) (b : Bool), o.length = j + d → b = decide (p ∈ o.take j) → F20.l13 K mv ov wv y7 y8 (.int .i64 (p : Int)) (.bool b) (.int .i64 (j : Int)) w := by
  have hle := ho.le
  rw [intC_len, natI_len] at hle
  intro d
  induction d with
  | zero =>
    intro j b hj hb
    refine F20.l13.to (C.len_rd ho ?_)
    rw [intC_len, natI_len]
    simp only [C.ite_true, C.ite_false, C.pick_true, C.pick_false, C.not_bool, C.field_ptr, C.nilCheck_ptr, C.add_mk, C.sub_mk, C.mul_mk, C.eql_mk, C.neq_mk, C.lss_mk, C.leq_mk, C.gtr_mk, C.geq_mk, C.conv_mk, C.len_mk, C.ext_0, C.ext_1, C.ext3_0, C.ext3_1, C.ext3_2, C.guarded_yes, C.guarded_tf, C.guarded_ft, C.guarded_undef, Bool.not_true, Bool.not_false, Nat.zero_add, eq_self, decide_true, decide_false, show ¬ ((j : Int) < (o.length : Int)) by omega]
    rw [List.take_of_length_le (by omega)] at hb
    rw [hb]
    exact h
  | succ d ih =>
    intro j b hj hb
    have jl : j < o.length := by omega
    have jl' : j < (natI o).length := by rw [natI_len]; exact jl
    refine F20.l13.to (C.len_rd ho ?_)
    rw [intC_len, natI_len]
    simp only [C.ite_true, C.ite_false, C.pick_true, C.pick_false, C.not_bool, C.field_ptr, C.nilCheck_ptr, C.add_mk, C.sub_mk, C.mul_mk, C.eql_mk, C.neq_mk, C.lss_mk, C.leq_mk, C.gtr_mk, C.geq_mk, C.conv_mk, C.len_mk, C.ext_0, C.ext_1, C.ext3_0, C.ext3_1, C.ext3_2, C.guarded_yes, C.guarded_tf, C.guarded_ft, C.guarded_undef, Bool.not_true, Bool.not_false, Nat.zero_add, eq_self, decide_true, decide_false, show ((j : Int) < (o.length : Int)) by omega]
    have nx : ∀ b', b' = decide (p ∈ o.take (j + 1)) → F20.k14 K mv ov wv y7 y8 (.int .i64 (p : Int)) (.bool b') (.int .i64 (j : Int)) w := fun b' hb' => by
      refine F20.k14.to ?_
      simp only [C.ite_true, C.ite_false, C.pick_true, C.pick_false, C.not_bool, C.field_ptr, C.nilCheck_ptr, C.add_mk, C.sub_mk, C.mul_mk, C.eql_mk, C.neq_mk, C.lss_mk, C.leq_mk, C.gtr_mk, C.geq_mk, C.conv_mk, C.len_mk, C.ext_0, C.ext_1, C.ext3_0, C.ext3_1, C.ext3_2, C.guarded_yes, C.guarded_tf, C.guarded_ft, C.guarded_undef, Bool.not_true, Bool.not_false, Nat.zero_add, eq_self, decide_true, decide_false]
      rw [wrap64_id (n := (j : Int) + 1) (by omega), show (j : Int) + 1 = ((j + 1 : Nat) : Int) by omega]
      exact ih (j + 1) b' (by omega) hb'
    have et : o.take (j + 1) = o.take j ++ [o[j]] := by rw [List.take_add_one, List.getElem?_eq_getElem jl]; rfl
    refine F20.k15.to ?_
    cases b with
    | true =>
      simp only [C.ite_true, C.ite_false, C.pick_true, C.pick_false, C.not_bool, C.field_ptr, C.nilCheck_ptr, C.add_mk, C.sub_mk, C.mul_mk, C.eql_mk, C.neq_mk, C.lss_mk, C.leq_mk, C.gtr_mk, C.geq_mk, C.conv_mk, C.len_mk, C.ext_0, C.ext_1, C.ext3_0, C.ext3_1, C.ext3_2, C.guarded_yes, C.guarded_tf, C.guarded_ft, C.guarded_undef, Bool.not_true, Bool.not_false, Nat.zero_add, eq_self, decide_true, decide_false]
      refine nx true ?_
      have := of_decide_eq_true hb.symm
      rw [eq_comm, decide_eq_true_eq, et]
      exact List.mem_append.2 (.inl this)
    | false =>
      have hn : p ∉ o.take j := of_decide_eq_false hb.symm
      simp only [C.ite_true, C.ite_false, C.pick_true, C.pick_false, C.not_bool, C.field_ptr, C.nilCheck_ptr, C.add_mk, C.sub_mk, C.mul_mk, C.eql_mk, C.neq_mk, C.lss_mk, C.leq_mk, C.gtr_mk, C.geq_mk, C.conv_mk, C.len_mk, C.ext_0, C.ext_1, C.ext3_0, C.ext3_1, C.ext3_2, C.guarded_yes, C.guarded_tf, C.guarded_ft, C.guarded_undef, Bool.not_true, Bool.not_false, Nat.zero_add, eq_self, decide_true, decide_false]
      refine C.idx_int ho jl' fun g oo cs e fz hg hv => C.load1_of hg hv ?_
      rw [natI_get jl jl']
      by_cases c : o[j] = p
      · simp only [C.ite_true, C.ite_false, C.pick_true, C.pick_false, C.not_bool, C.field_ptr, C.nilCheck_ptr, C.add_mk, C.sub_mk, C.mul_mk, C.eql_mk, C.neq_mk, C.lss_mk, C.leq_mk, C.gtr_mk, C.geq_mk, C.conv_mk, C.len_mk, C.ext_0, C.ext_1, C.ext3_0, C.ext3_1, C.ext3_2, C.guarded_yes, C.guarded_tf, C.guarded_ft, C.guarded_undef, Bool.not_true, Bool.not_false, Nat.zero_add, eq_self, decide_true, decide_false, show (o[j] : Int) = (p : Int) by omega]
        refine nx true ?_
        rw [eq_comm, decide_eq_true_eq, et]
        simp [c]
      · simp only [C.ite_true, C.ite_false, C.pick_true, C.pick_false, C.not_bool, C.field_ptr, C.nilCheck_ptr, C.add_mk, C.sub_mk, C.mul_mk, C.eql_mk, C.neq_mk, C.lss_mk, C.leq_mk, C.gtr_mk, C.geq_mk, C.conv_mk, C.len_mk, C.ext_0, C.ext_1, C.ext3_0, C.ext3_1, C.ext3_2, C.guarded_yes, C.guarded_tf, C.guarded_ft, C.guarded_undef, Bool.not_true, Bool.not_false, Nat.zero_add, eq_self, decide_true, decide_false, show ¬ (o[j] : Int) = (p : Int) by omega]
        refine nx false ?_
        rw [eq_comm, decide_eq_false_iff_not, et]
        exact fun h => (List.mem_append.1 h).elim hn fun h => c (List.mem_singleton.1 h).symm
/-- Words, each to its object. -/
theorem ord_words {W0 : World} {mv wv y7 : Value} {m : List Ob} {fs : List Value} {ws : List Int} {o : List Nat} (hM : ObsAt W0 mv m fs) (hws : RdS W0 wv 1 (intC ws)) (hr : Rng ws) (hf : fineL m ws) (hP : Pls m o) (hml : m.length ≤ 2048)
    (h : ∀ ov w', Fr [] W0 w' → NewS W0 ov → OwnS w' ov 3 1 (intC (natI (vis m o ws))) → F20.k18 K mv ov y7 w') :
    ∀ (d j : Nat) (w : World) (ov : Value), ws.length = j + d → Fr [] W0 w → NewS W0 ov → OwnS w ov 3 1 (intC (natI (vis m o (ws.take j)))) → F20.l6 K mv ov wv y7 (.int .i64 (j : Int)) w := by
  have hle := hws.le
  rw [intC_len] at hle
  intro d
  induction d with
  | zero =>
    intro j w ov hj hf0 hn ho
    refine F20.l6.to (C.len_rd hws ?_)
    rw [intC_len]
    simp only [C.ite_true, C.ite_false, C.pick_true, C.pick_false, C.not_bool, C.field_ptr, C.nilCheck_ptr, C.add_mk, C.sub_mk, C.mul_mk, C.eql_mk, C.neq_mk, C.lss_mk, C.leq_mk, C.gtr_mk, C.geq_mk, C.conv_mk, C.len_mk, C.ext_0, C.ext_1, C.ext3_0, C.ext3_1, C.ext3_2, C.guarded_yes, C.guarded_tf, C.guarded_ft, C.guarded_undef, Bool.not_true, Bool.not_false, Nat.zero_add, eq_self, decide_true, decide_false, show ¬ ((j : Int) < (ws.length : Int)) by omega]
    rw [List.take_of_length_le (by omega)] at ho
    exact h ov w hf0 hn ho
  | succ d ih =>
    intro j w ov hj hf0 hn ho
    have jl : j < ws.length := by omega
    have hin := List.getElem_mem jl
    have hfx := hf _ hin
    have hPj := hP.vis (ws.take j)
    have hol := hPj.len
    refine F20.l6.to (C.len_rd hws ?_)
    rw [intC_len]
    simp only [C.ite_true, C.ite_false, C.pick_true, C.pick_false, C.not_bool, C.field_ptr, C.nilCheck_ptr, C.add_mk, C.sub_mk, C.mul_mk, C.eql_mk, C.neq_mk, C.lss_mk, C.leq_mk, C.gtr_mk, C.geq_mk, C.conv_mk, C.len_mk, C.ext_0, C.ext_1, C.ext3_0, C.ext3_1, C.ext3_2, C.guarded_yes, C.guarded_tf, C.guarded_ft, C.guarded_undef, Bool.not_true, Bool.not_false, Nat.zero_add, eq_self, decide_true, decide_false, show ((j : Int) < (ws.length : Int)) by omega]
    have nx : ∀ ov' w', Fr [] W0 w' → NewS W0 ov' → OwnS w' ov' 3 1 (intC (natI (vis1 m (vis m o (ws.take j)) ws[j]))) → F20.k7 K mv ov' wv y7 (.int .i64 (j : Int)) w' := fun ov' w' a b c => by
      refine F20.k7.to ?_
      simp only [C.ite_true, C.ite_false, C.pick_true, C.pick_false, C.not_bool, C.field_ptr, C.nilCheck_ptr, C.add_mk, C.sub_mk, C.mul_mk, C.eql_mk, C.neq_mk, C.lss_mk, C.leq_mk, C.gtr_mk, C.geq_mk, C.conv_mk, C.len_mk, C.ext_0, C.ext_1, C.ext3_0, C.ext3_1, C.ext3_2, C.guarded_yes, C.guarded_tf, C.guarded_ft, C.guarded_undef, Bool.not_true, Bool.not_false, Nat.zero_add, eq_self, decide_true, decide_false]
      rw [wrap64_id (n := (j : Int) + 1) (by omega), show (j : Int) + 1 = ((j + 1 : Nat) : Int) by omega]
      refine ih (j + 1) w' ov' (by omega) a b ?_
      rw [take_snoc jl, vis_snoc]
      exact c
    have ok := fine_ok hfx
    refine F20.k8.to (C.idx_int (hws.keep hf0) jl fun g oo cs e fz hg hv => C.load1_of hg hv (RefRead_c _ (hr _ hin) (fun hc w1 hf1 => ?_) (fun hc w1 hf1 => absurd (of_decide_eq_true ok) hc)))
    simp only [C.ite_true, C.ite_false, C.pick_true, C.pick_false, C.not_bool, C.field_ptr, C.nilCheck_ptr, C.add_mk, C.sub_mk, C.mul_mk, C.eql_mk, C.neq_mk, C.lss_mk, C.leq_mk, C.gtr_mk, C.geq_mk, C.conv_mk, C.len_mk, C.ext_0, C.ext_1, C.ext3_0, C.ext3_1, C.ext3_2, C.guarded_yes, C.guarded_tf, C.guarded_ft, C.guarded_undef, Bool.not_true, Bool.not_false, Nat.zero_add, eq_self, decide_true, decide_false]
    refine readPut fun b w2 hf2 _ hb => ?_
    have f2 := hf0.trans (hf1.trans hf2)
    have ho2 := (ho.keep hf1 (by simp)).keep hf2 (by simp)
    try simp only [C.ite_true, C.ite_false, C.pick_true, C.pick_false, C.not_bool, C.field_ptr, C.nilCheck_ptr, C.add_mk, C.sub_mk, C.mul_mk, C.eql_mk, C.neq_mk, C.lss_mk, C.leq_mk, C.gtr_mk, C.geq_mk, C.conv_mk, C.len_mk, C.ext_0, C.ext_1, C.ext3_0, C.ext3_1, C.ext3_2, C.guarded_yes, C.guarded_tf, C.guarded_ft, C.guarded_undef, Bool.not_true, Bool.not_false, Nat.zero_add, eq_self, decide_true, decide_false]
    refine C.load1_of (v := .int .i64 (rdK ws[j])) hb rfl ?_
    by_cases k2 : rdK ws[j] = 2
    · have hw : wRef ws[j] = some (rdN ws[j]).toNat := by unfold wRef; rw [if_pos ⟨hc, k2⟩]
      have hn2 := (wRef_ok hw).2.2
      obtain ⟨p, hp, hwp⟩ := fine_pl hfx hw
      simp only [C.ite_true, C.ite_false, C.pick_true, C.pick_false, C.not_bool, C.field_ptr, C.nilCheck_ptr, C.add_mk, C.sub_mk, C.mul_mk, C.eql_mk, C.neq_mk, C.lss_mk, C.leq_mk, C.gtr_mk, C.geq_mk, C.conv_mk, C.len_mk, C.ext_0, C.ext_1, C.ext3_0, C.ext3_1, C.ext3_2, C.guarded_yes, C.guarded_tf, C.guarded_ft, C.guarded_undef, Bool.not_true, Bool.not_false, Nat.zero_add, eq_self, decide_true, decide_false, ne_eq, k2, not_true_eq_false]
      refine F20.k10.to ?_
      simp only [C.ite_true, C.ite_false, C.pick_true, C.pick_false, C.not_bool, C.field_ptr, C.nilCheck_ptr, C.add_mk, C.sub_mk, C.mul_mk, C.eql_mk, C.neq_mk, C.lss_mk, C.leq_mk, C.gtr_mk, C.geq_mk, C.conv_mk, C.len_mk, C.ext_0, C.ext_1, C.ext3_0, C.ext3_1, C.ext3_2, C.guarded_yes, C.guarded_tf, C.guarded_ft, C.guarded_undef, Bool.not_true, Bool.not_false, Nat.zero_add, eq_self, decide_true, decide_false]
      refine C.load1_of (v := .int .i64 (rdN ws[j])) hb rfl ?_
      rw [hn2]
      refine Find_c (hM.keep f2) ?_
      have e : plI m (rdN ws[j]).toNat = (p : Int) := by unfold plI; rw [hp]
      rw [e]
      refine met_loop ho2.rd ?_ _ 0 false (by simp; rfl) (by simp)
      refine F20.k16.to ?_
      by_cases c : p ∈ vis m o (ws.take j)
      · have e2 : vis1 m (vis m o (ws.take j)) ws[j] = vis m o (ws.take j) := by unfold vis1; rw [hwp]; simp only [c, if_true]
        simp only [C.ite_true, C.ite_false, C.pick_true, C.pick_false, C.not_bool, C.field_ptr, C.nilCheck_ptr, C.add_mk, C.sub_mk, C.mul_mk, C.eql_mk, C.neq_mk, C.lss_mk, C.leq_mk, C.gtr_mk, C.geq_mk, C.conv_mk, C.len_mk, C.ext_0, C.ext_1, C.ext3_0, C.ext3_1, C.ext3_2, C.guarded_yes, C.guarded_tf, C.guarded_ft, C.guarded_undef, Bool.not_true, Bool.not_false, Nat.zero_add, eq_self, decide_true, decide_false, c]
        refine nx ov w2 f2 hn ?_
        rw [e2]
        exact ho2
      · have e2 : vis1 m (vis m o (ws.take j)) ws[j] = vis m o (ws.take j) ++ [p] := by unfold vis1; rw [hwp]; simp only [c, if_false]
        simp only [C.ite_true, C.ite_false, C.pick_true, C.pick_false, C.not_bool, C.field_ptr, C.nilCheck_ptr, C.add_mk, C.sub_mk, C.mul_mk, C.eql_mk, C.neq_mk, C.lss_mk, C.leq_mk, C.gtr_mk, C.geq_mk, C.conv_mk, C.len_mk, C.ext_0, C.ext_1, C.ext3_0, C.ext3_1, C.ext3_2, C.guarded_yes, C.guarded_tf, C.guarded_ft, C.guarded_undef, Bool.not_true, Bool.not_false, Nat.zero_add, eq_self, decide_true, decide_false, c]
        refine C.appI f2 hn ho2 (by rw [natI_len]; omega) fun ov' w3 hf3 hn3 ho3 _ _ => nx ov' w3 hf3 hn3 ?_
        rw [e2, natI_app]
        simpa [natI] using ho3
    · have hw : wRef ws[j] = none := by unfold wRef; rw [if_neg fun c => k2 c.2]
      have e2 : vis1 m (vis m o (ws.take j)) ws[j] = vis m o (ws.take j) := by unfold vis1; rw [wPl_none hw]
      simp only [C.ite_true, C.ite_false, C.pick_true, C.pick_false, C.not_bool, C.field_ptr, C.nilCheck_ptr, C.add_mk, C.sub_mk, C.mul_mk, C.eql_mk, C.neq_mk, C.lss_mk, C.leq_mk, C.gtr_mk, C.geq_mk, C.conv_mk, C.len_mk, C.ext_0, C.ext_1, C.ext3_0, C.ext3_1, C.ext3_2, C.guarded_yes, C.guarded_tf, C.guarded_ft, C.guarded_undef, Bool.not_true, Bool.not_false, Nat.zero_add, eq_self, decide_true, decide_false, ne_eq, k2, not_false_eq_true]
      refine nx ov w2 f2 hn ?_
      rw [e2]
      exact ho2
theorem ord_outer {W0 : World} {mv : Value} {m : List Ob} {fs : List Value} {R : List Nat} (hM : ObsAt W0 mv m fs) (hr : ∀ o ∈ m, Rng o.fs) (hf : fineM m) (hml : m.length ≤ 2048)
    (h : ∀ ov w', Fr [] W0 w' → NewS W0 ov → OwnS w' ov 3 1 (intC (natI R)) → K ov w') :
    ∀ (f k : Nat) (w : World) (ov wv : Value) (ws : List Int) (o : List Nat), m.length < k + f → k ≤ 100000 → Fr [] W0 w → NewS W0 ov → OwnS w ov 3 1 (intC (natI o)) → Pls m o → RdS W0 wv 1 (intC ws) → Rng ws → fineL m ws → bfs m f (vis m o ws) k = R →
      F20.l5 K mv ov wv (.int .i64 (k : Int)) w := by
  intro f
  induction f with
  | zero =>
    intro k w ov wv ws o hk hk2 hf0 hn ho hP hws hrw hfw hR
    refine F20.l5.to (ord_words hM hws hrw hfw hP hml (fun ov' w' a b c => ?_) ws.length 0 w ov (by omega) hf0 hn ho)
    have := (hP.vis ws).len
    refine F20.k18.to (C.len_rd c.rd ?_)
    rw [intC_len, natI_len]
    simp only [C.ite_true, C.ite_false, C.pick_true, C.pick_false, C.not_bool, C.field_ptr, C.nilCheck_ptr, C.add_mk, C.sub_mk, C.mul_mk, C.eql_mk, C.neq_mk, C.lss_mk, C.leq_mk, C.gtr_mk, C.geq_mk, C.conv_mk, C.len_mk, C.ext_0, C.ext_1, C.ext3_0, C.ext3_1, C.ext3_2, C.guarded_yes, C.guarded_tf, C.guarded_ft, C.guarded_undef, Bool.not_true, Bool.not_false, Nat.zero_add, eq_self, decide_true, decide_false, show ((k : Int) ≥ ((vis m o ws).length : Int)) by omega]
    have e : vis m o ws = R := hR
    exact h ov' w' a b (by rw [← e]; exact c)
  | succ f ih =>
    intro k w ov wv ws o hk hk2 hf0 hn ho hP hws hrw hfw hR
    refine F20.l5.to (ord_words hM hws hrw hfw hP hml (fun ov' w' a b c => ?_) ws.length 0 w ov (by omega) hf0 hn ho)
    have hP' := hP.vis ws
    have hl := hP'.len
    refine F20.k18.to (C.len_rd c.rd ?_)
    rw [intC_len, natI_len]
    by_cases hkl : (vis m o ws).length ≤ k
    · simp only [C.ite_true, C.ite_false, C.pick_true, C.pick_false, C.not_bool, C.field_ptr, C.nilCheck_ptr, C.add_mk, C.sub_mk, C.mul_mk, C.eql_mk, C.neq_mk, C.lss_mk, C.leq_mk, C.gtr_mk, C.geq_mk, C.conv_mk, C.len_mk, C.ext_0, C.ext_1, C.ext3_0, C.ext3_1, C.ext3_2, C.guarded_yes, C.guarded_tf, C.guarded_ft, C.guarded_undef, Bool.not_true, Bool.not_false, Nat.zero_add, eq_self, decide_true, decide_false, show ((k : Int) ≥ ((vis m o ws).length : Int)) by omega]
      have e : vis m o ws = R := by
        rw [← hR]
        unfold bfs
        rw [List.getElem?_eq_none hkl]
      exact h ov' w' a b (by rw [← e]; exact c)
    · have kl : k < (vis m o ws).length := by omega
      have kl' : k < (natI (vis m o ws)).length := by rw [natI_len]; exact kl
      have hp := hP'.2 _ (List.getElem_mem kl)
      simp only [C.ite_true, C.ite_false, C.pick_true, C.pick_false, C.not_bool, C.field_ptr, C.nilCheck_ptr, C.add_mk, C.sub_mk, C.mul_mk, C.eql_mk, C.neq_mk, C.lss_mk, C.leq_mk, C.gtr_mk, C.geq_mk, C.conv_mk, C.len_mk, C.ext_0, C.ext_1, C.ext3_0, C.ext3_1, C.ext3_2, C.guarded_yes, C.guarded_tf, C.guarded_ft, C.guarded_undef, Bool.not_true, Bool.not_false, Nat.zero_add, eq_self, decide_true, decide_false, show ¬ ((k : Int) ≥ ((vis m o ws).length : Int)) by omega]
      refine F20.k20.to (C.idx_int c.rd kl' fun g oo cs e fz hg hv => C.load1_of hg hv ?_)
      rw [natI_get kl kl']
      -- the fields, as they were ahead
      have hp' : (vis m o ws)[k] < fs.length := by rw [hM.len]; exact hp
      refine C.idx_rd (hM.keep a).rd (by omega) (by rw [Int.toNat_natCast]; exact obC_get hp hp') fun g2 o2 cs2 e2 fz2 hg2 _ hc2 => ?_
      simp only [C.ite_true, C.ite_false, C.pick_true, C.pick_false, C.not_bool, C.field_ptr, C.nilCheck_ptr, C.add_mk, C.sub_mk, C.mul_mk, C.eql_mk, C.neq_mk, C.lss_mk, C.leq_mk, C.gtr_mk, C.geq_mk, C.conv_mk, C.len_mk, C.ext_0, C.ext_1, C.ext3_0, C.ext3_1, C.ext3_2, C.guarded_yes, C.guarded_tf, C.guarded_ft, C.guarded_undef, Bool.not_true, Bool.not_false, Nat.zero_add, eq_self, decide_true, decide_false]
      refine C.load1_of (v := fs[(vis m o ws)[k]]) hg2 (by simpa using hc2 2 (by omega)) ?_
      refine F20.k4.to ?_
      simp only [C.ite_true, C.ite_false, C.pick_true, C.pick_false, C.not_bool, C.field_ptr, C.nilCheck_ptr, C.add_mk, C.sub_mk, C.mul_mk, C.eql_mk, C.neq_mk, C.lss_mk, C.leq_mk, C.gtr_mk, C.geq_mk, C.conv_mk, C.len_mk, C.ext_0, C.ext_1, C.ext3_0, C.ext3_1, C.ext3_2, C.guarded_yes, C.guarded_tf, C.guarded_ft, C.guarded_undef, Bool.not_true, Bool.not_false, Nat.zero_add, eq_self, decide_true, decide_false]
      rw [wrap64_id (n := (k : Int) + 1) (by omega), show (k : Int) + 1 = ((k + 1 : Nat) : Int) by omega]
      refine ih (k + 1) w' ov' _ m[(vis m o ws)[k]].fs (vis m o ws) (by omega) (by omega) a b c hP' (hM.fld _ hp hp') (hr _ (List.getElem_mem hp)) (hf _ (List.getElem_mem hp)) ?_
      rw [← hR]
      conv => rhs; unfold bfs
      rw [List.getElem?_eq_getElem kl]
      simp only [fsA_get hp]
theorem Order_c {mv rv : Value} {m : List Ob} {fs : List Value} {roots : List Int} (hM : ObsAt w mv m fs) (hr : ∀ o ∈ m, Rng o.fs) (hf : fineM m) (hml : m.length ≤ 2048) (hrv : RdS w rv 1 (intC roots)) (hrr : Rng roots) (hfr : fineL m roots)
    (h : ∀ ov w', Fr [] w w' → NewS w ov → OwnS w' ov 3 1 (intC (natI (ordO m roots))) → K ov w') : C.call Try.prog 20 #[mv, rv] w K :=
  F20.sh (ord_outer hM hr hf hml h (m.length + 1) 0 w (.slice none 0 0) rv roots [] (by omega) (by omega) (Fr.refl _ _) (NewS.nil _) (OwnS.nil _ _ _) (Pls.nil m) hrv hrr hfr rfl)
/-- Where an object stands, counted. -/
theorem pos_loop {W0 : World} {mv ov wv y7 y8 : Value} {m : List Ob} {fs : List Value} {o : List Nat} {p : Nat} (hM : ObsAt W0 mv m fs) (ho : RdS W0 ov 1 (intC (natI o))) (hP : Pls m o) (hp : p ∈ o) (hsz : szS m o ≤ 2048)
    (h : ∀ w', Fr [] W0 w' → F44.k13 K mv ov wv y7 y8 (.int .i64 (pos m o p : Int)) w') :
    ∀ (d j : Nat) (w : World), o.idxOf p = j + d → Fr [] W0 w → F44.l10 K mv ov wv y7 y8 (.int .i64 (p : Int)) (.int .i64 (szS m (o.take j) : Int)) (.int .i64 (j : Int)) w := by
  have hix := idx_lt hp
  have hgx := idx_get hp
  have hpx := pos_get (m := m) hP.1 hix
  rw [hgx] at hpx
  have hol := ho.le
  rw [intC_len, natI_len] at hol
  intro d
  induction d with
  | zero =>
    intro j w hj hf
    have ej : j = o.idxOf p := by omega
    subst ej
    have jl' : o.idxOf p < (natI o).length := by rw [natI_len]; exact hix
    refine F44.l10.to (C.idx_int (ho.keep hf) jl' fun g oo cs e fz hg hv => C.load1_of hg hv ?_)
    rw [natI_get hix jl', hgx]
    rw [C.neq_mk, decide_eq_false (by simp), C.ite_false, ← hpx]
    exact h w hf
  | succ d ih =>
    intro j w hj hf
    have jl : j < o.length := by omega
    have jl' : j < (natI o).length := by rw [natI_len]; exact jl
    have hne : o[j] ≠ p := fun e => by
      have hne := List.pairwise_iff_getElem.1 (List.nodup_iff_pairwise_ne.1 hP.1) j (o.idxOf p) jl hix (by omega)
      exact hne (e.trans hgx.symm)
    have hq := hP.2 _ (List.getElem_mem jl)
    have hM' := hM.keep hf
    have est : szS m (o.take (j + 1)) = szS m (o.take j) + szA m o[j] := by rw [List.take_add_one, List.getElem?_eq_getElem jl]; exact szI m _ _
    have hle : szS m (o.take (j + 1)) ≤ szS m o := by
      have e := List.take_append_drop (j + 1) o
      have : szS m o = szS m (o.take (j + 1)) + szS m (o.drop (j + 1)) := by rw [← szS_app, e]
      omega
    have hszp : szA m o[j] = 1 + m[o[j]].fs.length := by unfold szA; rw [fsA_get hq]
    refine F44.l10.to (C.idx_int (ho.keep hf) jl' fun g oo cs e fz hg hv => C.load1_of hg hv ?_)
    rw [natI_get jl jl', C.neq_mk, decide_eq_true (show (o[j] : Int) ≠ (p : Int) by omega), C.ite_true]
    refine F44.k12.to ?_
    simp only [C.ite_true, C.ite_false, C.pick_true, C.pick_false, C.not_bool, C.field_ptr, C.nilCheck_ptr, C.add_mk, C.sub_mk, C.mul_mk, C.eql_mk, C.neq_mk, C.lss_mk, C.leq_mk, C.gtr_mk, C.geq_mk, C.conv_mk, C.len_mk, C.ext_0, C.ext_1, C.ext3_0, C.ext3_1, C.ext3_2, C.guarded_yes, C.guarded_tf, C.guarded_ft, C.guarded_undef, Bool.not_true, Bool.not_false, Nat.zero_add, eq_self, decide_true, decide_false]
    refine C.idx_int (ho.keep hf) jl' fun g oo cs e fz hg hv => C.load1_of hg hv ?_
    rw [natI_get jl jl']
    refine hM'.get hq fun g o2 cs e fz fv hg h0 h1 h2 hfv => ?_
    simp only [C.ite_true, C.ite_false, C.pick_true, C.pick_false, C.not_bool, C.field_ptr, C.nilCheck_ptr, C.add_mk, C.sub_mk, C.mul_mk, C.eql_mk, C.neq_mk, C.lss_mk, C.leq_mk, C.gtr_mk, C.geq_mk, C.conv_mk, C.len_mk, C.ext_0, C.ext_1, C.ext3_0, C.ext3_1, C.ext3_2, C.guarded_yes, C.guarded_tf, C.guarded_ft, C.guarded_undef, Bool.not_true, Bool.not_false, Nat.zero_add, eq_self, decide_true, decide_false]
    refine C.load1_of hg h2 (C.len_rd hfv ?_)
    rw [intC_len]
    simp only [C.ite_true, C.ite_false, C.pick_true, C.pick_false, C.not_bool, C.field_ptr, C.nilCheck_ptr, C.add_mk, C.sub_mk, C.mul_mk, C.eql_mk, C.neq_mk, C.lss_mk, C.leq_mk, C.gtr_mk, C.geq_mk, C.conv_mk, C.len_mk, C.ext_0, C.ext_1, C.ext3_0, C.ext3_1, C.ext3_2, C.guarded_yes, C.guarded_tf, C.guarded_ft, C.guarded_undef, Bool.not_true, Bool.not_false, Nat.zero_add, eq_self, decide_true, decide_false]
    refine F44.k11.to ?_
    simp only [C.ite_true, C.ite_false, C.pick_true, C.pick_false, C.not_bool, C.field_ptr, C.nilCheck_ptr, C.add_mk, C.sub_mk, C.mul_mk, C.eql_mk, C.neq_mk, C.lss_mk, C.leq_mk, C.gtr_mk, C.geq_mk, C.conv_mk, C.len_mk, C.ext_0, C.ext_1, C.ext3_0, C.ext3_1, C.ext3_2, C.guarded_yes, C.guarded_tf, C.guarded_ft, C.guarded_undef, Bool.not_true, Bool.not_false, Nat.zero_add, eq_self, decide_true, decide_false]
    rw [wrap64_id (n := (szS m (o.take j) : Int) + 1) (by omega), wrap64_id (n := (szS m (o.take j) : Int) + 1 + (m[o[j]].fs.length : Int)) (by omega), wrap64_id (n := (j : Int) + 1) (by omega), show (j : Int) + 1 = ((j + 1 : Nat) : Int) by omega, show (szS m (o.take j) : Int) + 1 + (m[o[j]].fs.length : Int) = (szS m (o.take (j + 1)) : Int) by omega]
    exact ih (j + 1) w (by omega) hf
theorem rmoved_loop {W0 : World} {mv ov wv : Value} {m : List Ob} {fs : List Value} {o : List Nat} {ws : List Int} (hM : ObsAt W0 mv m fs) (ho : RdS W0 ov 1 (intC (natI o))) (hP : Pls m o) (hsz : szS m o ≤ 2048) (hws : RdS W0 wv 1 (intC ws)) (hr : Rng ws) (hfw : fineL m ws) (hin : ∀ x ∈ ws, ∀ p, wPl m x = some p → p ∈ o) (hwl : ws.length ≤ 17592186044415)
    (h : ∀ nv w', Fr [] W0 w' → NewS W0 nv → OwnS w' nv 2 1 (intC (ws.map (movW m o))) → K nv w') :
    ∀ (d j : Nat) (w : World) (nv : Value), ws.length = j + d → Fr [] W0 w → NewS W0 nv → OwnS w nv 2 1 (intC ((ws.take j).map (movW m o))) → F44.l3 K mv ov wv nv (.int .i64 (j : Int)) w := by
  intro d
  induction d with
  | zero =>
    intro j w nv hj hf hn hnv
    refine F44.l3.to (C.len_rd hws ?_)
    rw [intC_len]
    simp only [C.ite_true, C.ite_false, C.pick_true, C.pick_false, C.not_bool, C.field_ptr, C.nilCheck_ptr, C.add_mk, C.sub_mk, C.mul_mk, C.eql_mk, C.neq_mk, C.lss_mk, C.leq_mk, C.gtr_mk, C.geq_mk, C.conv_mk, C.len_mk, C.ext_0, C.ext_1, C.ext3_0, C.ext3_1, C.ext3_2, C.guarded_yes, C.guarded_tf, C.guarded_ft, C.guarded_undef, Bool.not_true, Bool.not_false, Nat.zero_add, eq_self, decide_true, decide_false, show ¬ ((j : Int) < (ws.length : Int)) by omega]
    rw [List.take_of_length_le (by omega)] at hnv
    exact F44.k15.to (h nv w hf hn hnv)
  | succ d ih =>
    intro j w nv hj hf hn hnv
    have jl : j < ws.length := by omega
    have hinx := List.getElem_mem jl
    have hfx := hfw _ hinx
    refine F44.l3.to (C.len_rd hws ?_)
    rw [intC_len]
    simp only [C.ite_true, C.ite_false, C.pick_true, C.pick_false, C.not_bool, C.field_ptr, C.nilCheck_ptr, C.add_mk, C.sub_mk, C.mul_mk, C.eql_mk, C.neq_mk, C.lss_mk, C.leq_mk, C.gtr_mk, C.geq_mk, C.conv_mk, C.len_mk, C.ext_0, C.ext_1, C.ext3_0, C.ext3_1, C.ext3_2, C.guarded_yes, C.guarded_tf, C.guarded_ft, C.guarded_undef, Bool.not_true, Bool.not_false, Nat.zero_add, eq_self, decide_true, decide_false, show ((j : Int) < (ws.length : Int)) by omega]
    have fin : ∀ w', Fr [] w w' → F44.k14 K mv ov wv nv (.int .i64 (j : Int)) (.int .i64 (movW m o ws[j])) w' := fun w' hf' => by
      refine F44.k14.to (C.appW (hf.trans hf') hn (hnv.keep hf' (by simp)) (by simp; omega) fun nv' w1 hf1 hn1 ho1 _ _ => ?_)
      refine F44.k4.to ?_
      simp only [C.ite_true, C.ite_false, C.pick_true, C.pick_false, C.not_bool, C.field_ptr, C.nilCheck_ptr, C.add_mk, C.sub_mk, C.mul_mk, C.eql_mk, C.neq_mk, C.lss_mk, C.leq_mk, C.gtr_mk, C.geq_mk, C.conv_mk, C.len_mk, C.ext_0, C.ext_1, C.ext3_0, C.ext3_1, C.ext3_2, C.guarded_yes, C.guarded_tf, C.guarded_ft, C.guarded_undef, Bool.not_true, Bool.not_false, Nat.zero_add, eq_self, decide_true, decide_false]
      rw [wrap64_id (n := (j : Int) + 1) (by omega), show (j : Int) + 1 = ((j + 1 : Nat) : Int) by omega]
      refine ih (j + 1) w1 nv' (by omega) hf1 hn1 ?_
      rw [take_snoc jl, List.map_append]
      exact ho1
    refine F44.k5.to (C.idx_int (hws.keep hf) jl fun g oo cs e fz hg hv => C.load1_of hg hv (RefRead_c _ (hr _ hinx) (fun hc w1 hf1 => ?_) (fun hc w1 hf1 => absurd (of_decide_eq_true (fine_ok hfx)) hc)))
    simp only [C.ite_true, C.ite_false, C.pick_true, C.pick_false, C.not_bool, C.field_ptr, C.nilCheck_ptr, C.add_mk, C.sub_mk, C.mul_mk, C.eql_mk, C.neq_mk, C.lss_mk, C.leq_mk, C.gtr_mk, C.geq_mk, C.conv_mk, C.len_mk, C.ext_0, C.ext_1, C.ext3_0, C.ext3_1, C.ext3_2, C.guarded_yes, C.guarded_tf, C.guarded_ft, C.guarded_undef, Bool.not_true, Bool.not_false, Nat.zero_add, eq_self, decide_true, decide_false]
    refine readPut fun b w2 hf2 _ hb => ?_
    have f2 := hf1.trans hf2
    refine C.idx_int (hws.keep (hf.trans f2)) jl fun g oo cs e fz hg hv => C.load1_of hg hv ?_
    simp only [C.ite_true, C.ite_false, C.pick_true, C.pick_false, C.not_bool, C.field_ptr, C.nilCheck_ptr, C.add_mk, C.sub_mk, C.mul_mk, C.eql_mk, C.neq_mk, C.lss_mk, C.leq_mk, C.gtr_mk, C.geq_mk, C.conv_mk, C.len_mk, C.ext_0, C.ext_1, C.ext3_0, C.ext3_1, C.ext3_2, C.guarded_yes, C.guarded_tf, C.guarded_ft, C.guarded_undef, Bool.not_true, Bool.not_false, Nat.zero_add, eq_self, decide_true, decide_false]
    refine C.load1_of (v := .int .i64 (rdK ws[j])) hb rfl ?_
    by_cases k2 : rdK ws[j] = 2
    · have hw : wRef ws[j] = some (rdN ws[j]).toNat := by unfold wRef; rw [if_pos ⟨hc, k2⟩]
      have hn2 := (wRef_ok hw).2.2
      obtain ⟨p, hp, hwp⟩ := fine_pl hfx hw
      simp only [C.ite_true, C.ite_false, C.pick_true, C.pick_false, C.not_bool, C.field_ptr, C.nilCheck_ptr, C.add_mk, C.sub_mk, C.mul_mk, C.eql_mk, C.neq_mk, C.lss_mk, C.leq_mk, C.gtr_mk, C.geq_mk, C.conv_mk, C.len_mk, C.ext_0, C.ext_1, C.ext3_0, C.ext3_1, C.ext3_2, C.guarded_yes, C.guarded_tf, C.guarded_ft, C.guarded_undef, Bool.not_true, Bool.not_false, Nat.zero_add, eq_self, decide_true, decide_false, k2]
      refine C.load1_of (v := .int .i64 (rdN ws[j])) hb rfl ?_
      rw [hn2]
      refine Find_c (hM.keep (hf.trans f2)) ?_
      have e : plI m (rdN ws[j]).toNat = (p : Int) := by unfold plI; rw [hp]
      rw [e]
      have hpo := hin _ hinx p hwp
      have hpl := pos_lt (m := m) hpo
      have hsp : 1 ≤ szA m p := by unfold szA; omega
      refine pos_loop (W0 := w2) (hM.keep (hf.trans f2)) (ho.keep (hf.trans f2)) hP hpo hsz (fun w3 hf3 => ?_) (o.idxOf p) 0 w2 (by omega) (Fr.refl _ _)
      refine F44.k13.to (C.run_of (buildV _ _) (RefPut_c 2 _ (by unfold chk; rw [if_neg (by decide), if_neg (by decide), if_pos rfl, if_pos (by omega)]) fun w4 hf4 => ?_))
      have e2 : putW 2 (pos m o p : Int) = movW m o ws[j] := by
        rw [mov_some hwp]
        unfold putW
        rw [if_pos rfl]
      rw [e2]
      exact fin w4 ((f2.trans hf3).trans hf4)
    · have hw : wRef ws[j] = none := by unfold wRef; rw [if_neg fun c => k2 c.2]
      simp only [C.ite_true, C.ite_false, C.pick_true, C.pick_false, C.not_bool, C.field_ptr, C.nilCheck_ptr, C.add_mk, C.sub_mk, C.mul_mk, C.eql_mk, C.neq_mk, C.lss_mk, C.leq_mk, C.gtr_mk, C.geq_mk, C.conv_mk, C.len_mk, C.ext_0, C.ext_1, C.ext3_0, C.ext3_1, C.ext3_2, C.guarded_yes, C.guarded_tf, C.guarded_ft, C.guarded_undef, Bool.not_true, Bool.not_false, Nat.zero_add, eq_self, decide_true, decide_false, k2]
      have := fin w2 f2
      rwa [mov_none (wPl_none hw)] at this
theorem rmoved_c {mv ov wv : Value} {m : List Ob} {fs : List Value} {o : List Nat} {ws : List Int} (hM : ObsAt w mv m fs) (ho : RdS w ov 1 (intC (natI o))) (hP : Pls m o) (hsz : szS m o ≤ 2048) (hws : RdS w wv 1 (intC ws)) (hr : Rng ws) (hfw : fineL m ws) (hin : ∀ x ∈ ws, ∀ p, wPl m x = some p → p ∈ o) (hwl : ws.length ≤ 17592186044415)
    (h : ∀ nv w', Fr [] w w' → NewS w nv → OwnS w' nv 2 1 (intC (ws.map (movW m o))) → K nv w') : C.call Try.prog 44 #[mv, ov, wv] w K :=
  F44.sh (rmoved_loop hM ho hP hsz hws hr hfw hin hwl h ws.length 0 w (.slice none 0 0) (by omega) (Fr.refl _ _) (NewS.nil _) (OwnS.nil _ _ _))
theorem Lay_loop {W0 : World} {mv ov rv : Value} {l roots : List Int} {m : List Ob} {fs : List Value} {o : List Nat} (hM : ObsAt W0 mv m fs) (hL : Lyd l m roots o) (hr : Rng l) (hrr : Rng roots) (hrl : roots.length ≤ 17592186044415) (ho : RdS W0 ov 1 (intC (natI o))) (hrv : RdS W0 rv 1 (intC roots))
    (h : ∀ tv hv w', Fr [] W0 w' → OwnS w' tv 2 1 (intC (lay m o)) → OwnS w' hv 2 1 (intC (roots.map (movW m o))) → K (.tuple #[tv, hv]) w') :
    ∀ (d j : Nat) (w : World) (tv : Value), o.length = j + d → Fr [] W0 w → NewS W0 tv → OwnS w tv 2 1 (intC (layS m o (o.take j))) → F19.l3 K mv ov rv tv (.int .i64 (j : Int)) w := by
  have hsz := hL.pls.sz hL.spl
  have hfew := hL.few
  have hol := hL.pls.len
  have hml := hL.spl.len
  intro d
  induction d with
  | zero =>
    intro j w tv hj hf hn ht
    refine F19.l3.to (C.len_rd ho ?_)
    rw [intC_len, natI_len]
    simp only [C.ite_true, C.ite_false, C.pick_true, C.pick_false, C.not_bool, C.field_ptr, C.nilCheck_ptr, C.add_mk, C.sub_mk, C.mul_mk, C.eql_mk, C.neq_mk, C.lss_mk, C.leq_mk, C.gtr_mk, C.geq_mk, C.conv_mk, C.len_mk, C.ext_0, C.ext_1, C.ext3_0, C.ext3_1, C.ext3_2, C.guarded_yes, C.guarded_tf, C.guarded_ft, C.guarded_undef, Bool.not_true, Bool.not_false, Nat.zero_add, eq_self, decide_true, decide_false, show ¬ ((j : Int) < (o.length : Int)) by omega]
    rw [List.take_of_length_le (by omega)] at ht
    refine F19.k8.to (rmoved_c (hM.keep hf) (ho.keep hf) hL.pls (by omega) (hrv.keep hf) hrr hL.fr hL.root hrl fun hv w1 hf1 hn1 ho1 => ?_)
    exact h tv hv w1 (hf.trans hf1) (ht.keep hf1 (by simp)) ho1
  | succ d ih =>
    intro j w tv hj hf hn ht
    have jl : j < o.length := by omega
    have jl' : j < (natI o).length := by rw [natI_len]; exact jl
    have hq := hL.pls.2 _ (List.getElem_mem jl)
    have hM' := hM.keep hf
    obtain ⟨b1, b2, b3⟩ := hL.spl.fits m[o[j]] (List.getElem_mem hq)
    have htl : (layS m o (o.take j)).length ≤ 2048 := by
      rw [layS_len]
      have := (show Pls m (o.take j) from ⟨hL.pls.1.sublist (List.take_sublist _ _), fun p hp => hL.pls.2 p (List.mem_of_mem_take hp)⟩).sz hL.spl
      omega
    refine F19.l3.to (C.len_rd ho ?_)
    rw [intC_len, natI_len]
    simp only [C.ite_true, C.ite_false, C.pick_true, C.pick_false, C.not_bool, C.field_ptr, C.nilCheck_ptr, C.add_mk, C.sub_mk, C.mul_mk, C.eql_mk, C.neq_mk, C.lss_mk, C.leq_mk, C.gtr_mk, C.geq_mk, C.conv_mk, C.len_mk, C.ext_0, C.ext_1, C.ext3_0, C.ext3_1, C.ext3_2, C.guarded_yes, C.guarded_tf, C.guarded_ft, C.guarded_undef, Bool.not_true, Bool.not_false, Nat.zero_add, eq_self, decide_true, decide_false, show ((j : Int) < (o.length : Int)) by omega]
    refine F19.k5.to (C.idx_int (ho.keep hf) jl' fun g oo cs e fz hg hv => C.load1_of hg hv ?_)
    rw [natI_get jl jl']
    refine hM.get0 hf hq fun g o2 cs e fz fv hg h0 h1 h2 hfv => C.loadA_cells (x := [.int .i64 (m[o[j]].at_ : Int), .int .i64 m[o[j]].ser, fv]) hg rfl (by omega) (fun i hi => ?_) ?_
    · match i, hi with
      | 0, _ => simpa using h0
      | 1, _ => simpa using h1
      | 2, _ => simpa using h2
    have e3 : Value.cells (.agg #[.int .i64 (m[o[j]].at_ : Int), .int .i64 m[o[j]].ser, fv]) = #[.int .i64 (m[o[j]].at_ : Int), .int .i64 m[o[j]].ser, fv] := by simp [Value.cells, hfv.one.2]
    refine C.new_of fun b w1 hn1 => C.store_all (x := .agg #[.int .i64 (m[o[j]].at_ : Int), .int .i64 m[o[j]].ser, fv]) hn1.at_ (by rw [e3]; rfl) (by
      rw [e3]
      intro u hu
      simp only [List.mem_cons, List.not_mem_nil, or_false] at hu
      rcases hu with rfl | rfl | rfl
      · rfl
      · rfl
      · exact hfv.one.1) rfl fun w2 hu2 => ?_
    have hb := hu2.at_
    rw [e3] at hb
    have i1 := hn1.is
    have f02 : Fr [] w w2 := hn1.fr.then hu2.fr fun z hz => .inr (by simp only [List.mem_singleton] at hz; omega)
    simp only [C.ite_true, C.ite_false, C.pick_true, C.pick_false, C.not_bool, C.field_ptr, C.nilCheck_ptr, C.add_mk, C.sub_mk, C.mul_mk, C.eql_mk, C.neq_mk, C.lss_mk, C.leq_mk, C.gtr_mk, C.geq_mk, C.conv_mk, C.len_mk, C.ext_0, C.ext_1, C.ext3_0, C.ext3_1, C.ext3_2, C.guarded_yes, C.guarded_tf, C.guarded_ft, C.guarded_undef, Bool.not_true, Bool.not_false, Nat.zero_add, eq_self, decide_true, decide_false]
    refine C.load1_of (v := .int .i64 m[o[j]].ser) hb rfl ?_
    simp only [C.ite_true, C.ite_false, C.pick_true, C.pick_false, C.not_bool, C.field_ptr, C.nilCheck_ptr, C.add_mk, C.sub_mk, C.mul_mk, C.eql_mk, C.neq_mk, C.lss_mk, C.leq_mk, C.gtr_mk, C.geq_mk, C.conv_mk, C.len_mk, C.ext_0, C.ext_1, C.ext3_0, C.ext3_1, C.ext3_2, C.guarded_yes, C.guarded_tf, C.guarded_ft, C.guarded_undef, Bool.not_true, Bool.not_false, Nat.zero_add, eq_self, decide_true, decide_false]
    refine C.load1_of (v := fv) hb rfl (C.len_rd hfv ?_)
    rw [intC_len]
    simp only [C.ite_true, C.ite_false, C.pick_true, C.pick_false, C.not_bool, C.field_ptr, C.nilCheck_ptr, C.add_mk, C.sub_mk, C.mul_mk, C.eql_mk, C.neq_mk, C.lss_mk, C.leq_mk, C.gtr_mk, C.geq_mk, C.conv_mk, C.len_mk, C.ext_0, C.ext_1, C.ext3_0, C.ext3_1, C.ext3_2, C.guarded_yes, C.guarded_tf, C.guarded_ft, C.guarded_undef, Bool.not_true, Bool.not_false, Nat.zero_add, eq_self, decide_true, decide_false]
    rw [wrap64_id (n := m[o[j]].ser * 128) (by omega), wrap64_id (n := m[o[j]].ser * 128 + (m[o[j]].fs.length : Int)) (by omega)]
    refine C.appW (hf.trans f02) hn (ht.keep f02 (by simp)) (by omega) fun tv3 w3 hf3 hn3 ho3 hb3 hg3 => ?_
    have hb3' := hb3.at_ hb ((ht.keep f02 (by simp)).nb hb (by decide))
    try simp only [C.ite_true, C.ite_false, C.pick_true, C.pick_false, C.not_bool, C.field_ptr, C.nilCheck_ptr, C.add_mk, C.sub_mk, C.mul_mk, C.eql_mk, C.neq_mk, C.lss_mk, C.leq_mk, C.gtr_mk, C.geq_mk, C.conv_mk, C.len_mk, C.ext_0, C.ext_1, C.ext3_0, C.ext3_1, C.ext3_2, C.guarded_yes, C.guarded_tf, C.guarded_ft, C.guarded_undef, Bool.not_true, Bool.not_false, Nat.zero_add, eq_self, decide_true, decide_false]
    refine C.load1_of (v := fv) hb3' rfl ?_
    -- the fields, as they were ahead
    refine rmoved_c (hM.keep hf3) (ho.keep hf3) hL.pls (by omega) (ws := m[o[j]].fs) (hfv.keep hf3) (hr.fs hL.spl hq) (hL.fine _ (List.getElem_mem hq)) (fun x hx p hp => hL.closed _ (List.getElem_mem jl) x (by rw [fsA_get hq]; exact hx) p hp) (by omega) fun nv w4 hf4 hn4 ho4 => ?_
    refine C.appWs (hf3.trans hf4) hn3 (ho3.keep hf4 (by simp)) ho4.rd (by simp; omega) fun tv5 w5 hf5 hn5 ho5 _ _ => ?_
    refine F19.k4.to ?_
    simp only [C.ite_true, C.ite_false, C.pick_true, C.pick_false, C.not_bool, C.field_ptr, C.nilCheck_ptr, C.add_mk, C.sub_mk, C.mul_mk, C.eql_mk, C.neq_mk, C.lss_mk, C.leq_mk, C.gtr_mk, C.geq_mk, C.conv_mk, C.len_mk, C.ext_0, C.ext_1, C.ext3_0, C.ext3_1, C.ext3_2, C.guarded_yes, C.guarded_tf, C.guarded_ft, C.guarded_undef, Bool.not_true, Bool.not_false, Nat.zero_add, eq_self, decide_true, decide_false]
    rw [wrap64_id (n := (j : Int) + 1) (by omega), show (j : Int) + 1 = ((j + 1 : Nat) : Int) by omega]
    refine ih (j + 1) w5 tv5 (by omega) hf5 hn5 ?_
    have et : o.take (j + 1) = o.take j ++ [o[j]] := by rw [List.take_add_one, List.getElem?_eq_getElem jl]; rfl
    have e6 : hdA m o[j] = m[o[j]].ser * 128 + (m[o[j]].fs.length : Int) := by rw [hdA_get hq]; rfl
    rw [et]
    have e5 : layS m o (o.take j ++ [o[j]]) = layS m o (o.take j) ++ [m[o[j]].ser * 128 + (m[o[j]].fs.length : Int)] ++ m[o[j]].fs.map (movW m o) := by
      rw [layS_app, layS_one, e6, fsA_get hq, List.append_assoc]
      rfl
    rw [e5]
    exact ho5
theorem Lay_c {mv ov rv : Value} {l roots : List Int} {m : List Ob} {fs : List Value} {o : List Nat} (hM : ObsAt w mv m fs) (hL : Lyd l m roots o) (hr : Rng l) (hrr : Rng roots) (hrl : roots.length ≤ 17592186044415) (ho : RdS w ov 1 (intC (natI o))) (hrv : RdS w rv 1 (intC roots))
    (h : ∀ tv hv w', Fr [] w w' → OwnS w' tv 2 1 (intC (lay m o)) → OwnS w' hv 2 1 (intC (roots.map (movW m o))) → K (.tuple #[tv, hv]) w') : C.call Try.prog 19 #[mv, ov, rv] w K :=
  F19.sh (Lay_loop hM hL hr hrr hrl ho hrv h o.length 0 w (.slice none 0 0) (by omega) (Fr.refl _ _) (NewS.nil _) (OwnS.nil _ _ _))
end
end Go.Proofs.YtfjilngljnlkjaaV
