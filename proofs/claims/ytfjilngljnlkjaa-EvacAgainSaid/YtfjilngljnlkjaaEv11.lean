/- What an image shows, by the program: values. -/
import Derived.Test.YtfjilngljnlkjaaEv8
import Derived.Test.YtfjilngljnlkjaaVm
import Derived.Test.YtfjilngljnlkjaaEv9
namespace Go.Proofs.YtfjilngljnlkjaaV
open Go Go.Proofs Go.RowKit
set_option linter.unusedVariables false
set_option linter.unusedSimpArgs false
set_option maxRecDepth 10000
section
variable {K : VK} {w : World}
theorem val_V (m : List Ob) (x : Int) : V (val m x).1 (val m x).2 = .agg #[.int .i64 (val m x).1, .int .i64 (val m x).2] := rfl
theorem value_c {lv sv : Value} {l : List Int} {m : List Ob} {x : Int} (hl : RdS w lv 1 (intC l)) (h2 : sv.cells = #[sv]) (hr : Rng l) (hO : Spl 0 l m) (hx : -9223372036854775808 ≤ x ∧ x ≤ 9223372036854775807) (hf : fineW m x = true)
    (h : ∀ w', Fr [] w w' → K (V (val m x).1 (val m x).2) w') : C.call Try.prog 56 #[.agg #[lv, sv], .int .i64 x] w K := by
  have hc0 : Value.cells (.agg #[lv, sv]) = #[lv, sv] := by simp [Value.cells, hl.one.2, h2]
  refine F56.sh ?_
  rw [hc0]
  refine C.new_of fun b1 w1 hn1 => C.new_of fun b2 w2 hn2 => ?_
  have i1 := hn1.is; have i2 := hn2.is; have z1 := hn1.sz; have z2 := hn2.sz
  refine Read_c x hx (fun hc w3 hf3 => ?_) (fun hc => absurd (of_decide_eq_true (fine_ok hf)) hc)
  simp only [C.ite_true, C.ite_false, C.pick_true, C.pick_false, C.not_bool, C.field_ptr, C.nilCheck_ptr, C.add_mk, C.sub_mk, C.mul_mk, C.eql_mk, C.neq_mk, C.lss_mk, C.leq_mk, C.gtr_mk, C.geq_mk, C.conv_mk, C.len_mk, C.ext_0, C.ext_1, C.ext3_0, C.ext3_1, C.ext3_2, C.guarded_yes, C.guarded_tf, C.guarded_ft, C.guarded_undef, Bool.not_true, Bool.not_false, Nat.zero_add, eq_self, decide_true, decide_false]
  refine readPut fun b3 w4 hf4 lo4 hb3 => ?_
  have f24 := hf3.trans hf4
  have f04 : Fr [] w w4 := (hn1.fr.trans hn2.fr).trans f24
  have h1' : w4.heap[b1]? = some (.cells #[lv, sv] 61 (0, 0)) := (hn2.fr.trans f24).at_ hn1.at_ (by simp)
  have h2' : w4.heap[b2]? = some (.cells #[.int .i64 0, .int .i64 0] 75 (0, 0)) := f24.at_ hn2.at_ (by simp)
  have s3 := hf3.size
  have fin : ∀ (k n : Int) (w5 : World), Fr [b3] w4 w5 → w5.heap[b3]? = some (vB k n) → V k n = V (val m x).1 (val m x).2 → F56.k4 K (.pointer (some ⟨b2, 0, none⟩)) (.pointer (some ⟨b3, 0, none⟩)) w5 := by
    intro k n w5 hf5 hb5 he
    refine F56.k4.to (C.loadA_all hb5 rfl (C.store_all (x := V k n) (hf5.at_ h2' (by simp; omega)) rfl v2_cells rfl fun w6 hu6 => C.loadA_all hu6.at_ rfl ?_))
    show K (V k n) w6
    rw [he]
    exact h w6 ((f04.then hf5 fun z hz => .inr (by simp only [List.mem_singleton] at hz; omega)).then hu6.fr fun z hz => .inr (by simp only [List.mem_singleton] at hz; omega))
  simp only [C.ite_true, C.ite_false, C.pick_true, C.pick_false, C.not_bool, C.field_ptr, C.nilCheck_ptr, C.add_mk, C.sub_mk, C.mul_mk, C.eql_mk, C.neq_mk, C.lss_mk, C.leq_mk, C.gtr_mk, C.geq_mk, C.conv_mk, C.len_mk, C.ext_0, C.ext_1, C.ext3_0, C.ext3_1, C.ext3_2, C.guarded_yes, C.guarded_tf, C.guarded_ft, C.guarded_undef, Bool.not_true, Bool.not_false, Nat.zero_add, eq_self, decide_true, decide_false]
  refine C.load1_of (v := .int .i64 (rdK x)) hb3 rfl ?_
  by_cases k2 : rdK x = 2
  · have hw : wRef x = some (rdN x).toNat := by unfold wRef; rw [if_pos ⟨hc, k2⟩]
    have hn2' := (wRef_ok hw).2.2
    obtain ⟨p, hp, hwp⟩ := fine_pl hf hw
    obtain ⟨pm, pat, _⟩ := pl_some hp
    have hOb := (hO.get p pm).1
    have hal : m[p].at_ < l.length := by have := hOb.end_; omega
    have hhd : l[m[p].at_] = m[p].hd := by
      have := hOb.hd
      rw [Nat.sub_zero, List.getElem?_eq_getElem hal] at this
      exact Option.some.inj this
    obtain ⟨d1, d2⟩ := hd_div hOb.n
    have hhd' : m[p].hd = m[p].ser * 128 + (m[p].fs.length : Int) := rfl
    have := hOb.s0; have := hOb.s1; have := hOb.n
    simp only [C.ite_true, C.ite_false, C.pick_true, C.pick_false, C.not_bool, C.field_ptr, C.nilCheck_ptr, C.add_mk, C.sub_mk, C.mul_mk, C.eql_mk, C.neq_mk, C.lss_mk, C.leq_mk, C.gtr_mk, C.geq_mk, C.conv_mk, C.len_mk, C.ext_0, C.ext_1, C.ext3_0, C.ext3_1, C.ext3_2, C.guarded_yes, C.guarded_tf, C.guarded_ft, C.guarded_undef, Bool.not_true, Bool.not_false, Nat.zero_add, eq_self, decide_true, decide_false, k2]
    refine C.load1_of (v := lv) h1' rfl ?_
    try simp only [C.ite_true, C.ite_false, C.pick_true, C.pick_false, C.not_bool, C.field_ptr, C.nilCheck_ptr, C.add_mk, C.sub_mk, C.mul_mk, C.eql_mk, C.neq_mk, C.lss_mk, C.leq_mk, C.gtr_mk, C.geq_mk, C.conv_mk, C.len_mk, C.ext_0, C.ext_1, C.ext3_0, C.ext3_1, C.ext3_2, C.guarded_yes, C.guarded_tf, C.guarded_ft, C.guarded_undef, Bool.not_true, Bool.not_false, Nat.zero_add, eq_self, decide_true, decide_false]
    refine C.load1_of (v := .int .i64 (rdN x)) hb3 rfl ?_
    rw [hn2', ← pat]
    refine C.idx_int (hl.keep f04) hal fun g oo cs e fz hg hv => C.load1_of hg hv ?_
    rw [hhd]
    refine Split_c (by omega) (fun _ _ => ?_) (fun c => absurd ⟨by omega, by omega⟩ c)
    rw [d1, d2]
    simp only [C.ite_true, C.ite_false, C.pick_true, C.pick_false, C.not_bool, C.field_ptr, C.nilCheck_ptr, C.add_mk, C.sub_mk, C.mul_mk, C.eql_mk, C.neq_mk, C.lss_mk, C.leq_mk, C.gtr_mk, C.geq_mk, C.conv_mk, C.len_mk, C.ext_0, C.ext_1, C.ext3_0, C.ext3_1, C.ext3_2, C.guarded_yes, C.guarded_tf, C.guarded_ft, C.guarded_undef, Bool.not_true, Bool.not_false, Nat.zero_add, eq_self, decide_true, decide_false]
    refine C.store1_of hb3 rfl rfl (by simp) fun w5 hu5 => ?_
    refine fin 2 m[p].ser w5 hu5.fr (by have := hu5.at_; rw [k2] at this; exact this) ?_
    have : val m x = (2, m[p].ser) := by unfold val; rw [hwp]; simp only [serA_get pm]
    rw [this]
  · have hw : wRef x = none := by unfold wRef; rw [if_neg fun c => k2 c.2]
    simp only [C.ite_true, C.ite_false, C.pick_true, C.pick_false, C.not_bool, C.field_ptr, C.nilCheck_ptr, C.add_mk, C.sub_mk, C.mul_mk, C.eql_mk, C.neq_mk, C.lss_mk, C.leq_mk, C.gtr_mk, C.geq_mk, C.conv_mk, C.len_mk, C.ext_0, C.ext_1, C.ext3_0, C.ext3_1, C.ext3_2, C.guarded_yes, C.guarded_tf, C.guarded_ft, C.guarded_undef, Bool.not_true, Bool.not_false, Nat.zero_add, eq_self, decide_true, decide_false, k2]
    refine fin (rdK x) (rdN x) w4 (Fr.refl _ _) hb3 ?_
    have : val m x = (rdK x, rdN x) := by unfold val; rw [wPl_none hw]
    rw [this]
theorem bsV (a b : Int) : (Instr.buildSlice 57 1 #[(0, .agg #[.int .i64 a, .int .i64 b])]).run Try.prog w = .ok (.slice (some ⟨w.heap.size, 0, none⟩) 1 1) (w.alloc (.cells #[.int .i64 a, .int .i64 b] 75)) := by kernel_rfl
theorem C.appV {W0 : World} {v : Value} {l : List Va} {x : Va} (hf : Fr [] W0 w) (hn : NewS W0 v) (hv : OwnS w v 75 2 (valC l)) (hl : l.length ≤ 8796093022207)
    (hk : ∀ v' w', Fr [] W0 w' → NewS W0 v' → OwnS w' v' 75 2 (valC (l ++ [x])) → Fr (blkS v) w w' → (∀ g ∈ blkS v', g ∈ blkS v ∨ w.heap.size ≤ g) → K v' w') :
    C.run Try.prog (Instr.buildSlice 57 1 #[(0, .agg #[.int .i64 x.1, .int .i64 x.2])]) w fun y w1 => C.run Try.prog (Builtin.append_ #[57, 57] 57 #[v, y]) w1 K :=
  C.app1 (x := [.int .i64 x.1, .int .i64 x.2]) (e := 75) (sz := 2) (bytes := 16) (z := .agg #[.int .i64 0, .int .i64 0]) Try.underlying57 (by kernel_rfl) rfl (by decide) (bsV x.1 x.2) rfl (by simp [Value.oneCell']) hf hn hv (by rw [valC_len]; omega) (by rw [valC_len]; omega) fun v' w' a b c d e => hk v' w' a b (by rw [valC_app]; exact c) d e
theorem values_loop {W0 : World} {b : Nat} {lv sv wv : Value} {l ws : List Int} {m : List Ob} (hl : RdS W0 lv 1 (intC l)) (h2 : sv.cells = #[sv]) (hb : W0.heap[b]? = some (.cells #[lv, sv] 61 (0, 0))) (hr : Rng l) (hO : Spl 0 l m) (hws : RdS W0 wv 1 (intC ws)) (hrw : Rng ws) (hfw : fineL m ws) (hwl : ws.length ≤ 8796093022207)
    (h : ∀ nv w', Fr [] W0 w' → NewS W0 nv → OwnS w' nv 75 2 (valC (ws.map (val m))) → K nv w') :
    ∀ (d j : Nat) (w : World) (nv : Value), ws.length = j + d → Fr [] W0 w → NewS W0 nv → OwnS w nv 75 2 (valC ((ws.take j).map (val m))) → F38.l3 K (.pointer (some ⟨b, 0, none⟩)) nv wv (.int .i64 (ws.length : Int)) (.int .i64 (j : Int)) w := by
  intro d
  induction d with
  | zero =>
    intro j w nv hj hf hn ho
    refine F38.l3.to ?_
    simp only [C.ite_true, C.ite_false, C.pick_true, C.pick_false, C.not_bool, C.field_ptr, C.nilCheck_ptr, C.add_mk, C.sub_mk, C.mul_mk, C.eql_mk, C.neq_mk, C.lss_mk, C.leq_mk, C.gtr_mk, C.geq_mk, C.conv_mk, C.len_mk, C.ext_0, C.ext_1, C.ext3_0, C.ext3_1, C.ext3_2, C.guarded_yes, C.guarded_tf, C.guarded_ft, C.guarded_undef, Bool.not_true, Bool.not_false, Nat.zero_add, eq_self, decide_true, decide_false, show ¬ ((j : Int) < (ws.length : Int)) by omega]
    rw [List.take_of_length_le (by omega)] at ho
    exact F38.k7.to (h nv w hf hn ho)
  | succ d ih =>
    intro j w nv hj hf hn ho
    have jl : j < ws.length := by omega
    have hin := List.getElem_mem jl
    refine F38.l3.to ?_
    simp only [C.ite_true, C.ite_false, C.pick_true, C.pick_false, C.not_bool, C.field_ptr, C.nilCheck_ptr, C.add_mk, C.sub_mk, C.mul_mk, C.eql_mk, C.neq_mk, C.lss_mk, C.leq_mk, C.gtr_mk, C.geq_mk, C.conv_mk, C.len_mk, C.ext_0, C.ext_1, C.ext3_0, C.ext3_1, C.ext3_2, C.guarded_yes, C.guarded_tf, C.guarded_ft, C.guarded_undef, Bool.not_true, Bool.not_false, Nat.zero_add, eq_self, decide_true, decide_false, show ((j : Int) < (ws.length : Int)) by omega]
    refine F38.k4.to (C.idx_int (hws.keep hf) jl fun g oo cs e fz hg hv => C.load1_of hg hv (C.loadA_all (hf.at_ hb (by simp)) rfl (value_c (hl.keep hf) h2 hr hO (hrw _ hin) (hfw _ hin) fun w1 hf1 => ?_)))
    refine C.appV (x := val m ws[j]) (hf.trans hf1) hn (ho.keep hf1 (by simp)) (by simp; omega) fun nv' w2 hf2 hn2 ho2 _ _ => ?_
    refine F38.k6.to ?_
    simp only [C.ite_true, C.ite_false, C.pick_true, C.pick_false, C.not_bool, C.field_ptr, C.nilCheck_ptr, C.add_mk, C.sub_mk, C.mul_mk, C.eql_mk, C.neq_mk, C.lss_mk, C.leq_mk, C.gtr_mk, C.geq_mk, C.conv_mk, C.len_mk, C.ext_0, C.ext_1, C.ext3_0, C.ext3_1, C.ext3_2, C.guarded_yes, C.guarded_tf, C.guarded_ft, C.guarded_undef, Bool.not_true, Bool.not_false, Nat.zero_add, eq_self, decide_true, decide_false]
    rw [wrap64_id (n := (j : Int) + 1) (by omega), show (j : Int) + 1 = ((j + 1 : Nat) : Int) by omega]
    refine ih (j + 1) w2 nv' (by omega) hf2 hn2 ?_
    rw [take_snoc jl, List.map_append]
    exact ho2
theorem values_c {lv sv wv : Value} {l ws : List Int} {m : List Ob} (hl : RdS w lv 1 (intC l)) (h2 : sv.cells = #[sv]) (h2' : sv.oneCell' = true) (hr : Rng l) (hO : Spl 0 l m) (hws : RdS w wv 1 (intC ws)) (hrw : Rng ws) (hfw : fineL m ws) (hwl : ws.length ≤ 8796093022207)
    (h : ∀ nv w', Fr [] w w' → NewS w nv → OwnS w' nv 75 2 (valC (ws.map (val m))) → K nv w') : C.call Try.prog 38 #[.agg #[lv, sv], wv] w K := by
  have hc0 : Value.cells (.agg #[lv, sv]) = #[lv, sv] := by simp [Value.cells, hl.one.2, h2]
  refine F38.sh ?_
  rw [hc0]
  refine C.new_of fun b w1 hn1 => C.len_rd (hws.keep hn1.fr) ?_
  rw [intC_len]
  exact values_loop (hl.keep hn1.fr) h2 hn1.at_ hr hO (hws.keep hn1.fr) hrw hfw hwl (fun nv w' a b c => h nv w' (hn1.fr.trans a) (b.mono hn1.fr.size) c) ws.length 0 w1 (.slice none 0 0) (by omega) (Fr.refl _ _) (NewS.nil _) (OwnS.nil _ _ _)
end
end Go.Proofs.YtfjilngljnlkjaaV
