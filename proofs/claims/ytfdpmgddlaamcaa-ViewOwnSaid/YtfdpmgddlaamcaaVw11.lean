/- ViewTells: what the call comes to. -/
import Derived.Test.YtfdpmgddlaamcaaVw10
namespace Go.Proofs.YtfdpmgddlaamcaaV
open Go Go.Proofs Go.RowKit
set_option linter.unusedVariables false
set_option linter.unusedSimpArgs false
set_option maxRecDepth 10000
/-- What alive comes to. -/
def AliveOk : Prop := ∀ (K : VK) (w : World), (∀ w', Fr [] w w' → K (.bool true) w') → C.call Try.prog 25 #[] w K
section
variable {K : VK} {w : World}
theorem bneq (x y : Operand) (a b : Bool) : (do eqGuard .neq 4 x y (.bool a) (.bool b); binOp .neq 4 (.bool a) (.bool b) : Sem Value).run Try.prog w = .ok (.bool (!(a == b))) w := neq_bool x y a b Try.underlying4
/-- What is known of the node that was looked for. -/
def Found (V : Vw) (serial s : Int) (fl : List Va) (ok : Bool) : Prop :=
  (ok = false ∧ plcI V.2 serial = -1 ∧ s = 0 ∧ fl = []) ∨ (ok = true ∧ ∃ i : Nat, ∃ h : i < V.2.length, plcI V.2 serial = (i : Int) ∧ s = serial ∧ fl = V.2[i].2)
theorem tells_end {W : World} {b3 b7 : Nat} {rv nv f : Value} {V : Vw} {serial s : Int} {fl : List Va} {ok : Bool} (hV : IsV W rv nv V) (hb : VB W b3 rv nv) (h7 : W.heap[b7]? = some (.cells #[.int .i64 s, f] 61 (0, 0))) (hr : RdS W f 2 (valC fl)) (hFd : Found V serial s fl ok) (h : ∀ w', Fr [] W w' → K (.bool true) w') :
    F8.k11 K (.int .i64 serial) (.pointer (some ⟨b3, 0, none⟩)) (.pointer (some ⟨b7, 0, none⟩)) (.bool ok) (.int .i64 (plcI V.2 serial)) W := by
  refine F8.k11.to (C.draw_of (fun w' => Fr [] W w') fun w1 hf1 he1 => ⟨hf1, ?_⟩)
  rcases hFd with ⟨rfl, hp, rfl, rfl⟩ | ⟨rfl, i, hi, hp, rfl, rfl⟩
  · simp only [C.ite_true, C.ite_false, C.pick_true, C.pick_false, C.not_bool, C.field_ptr, C.nilCheck_ptr, C.add_mk, C.sub_mk, C.mul_mk, C.eql_mk, C.neq_mk, C.lss_mk, C.leq_mk, C.gtr_mk, C.geq_mk, C.conv_mk, C.len_mk, C.ext_0, C.ext_1, C.ext3_0, C.ext3_1, C.ext3_2, C.guarded_yes, C.guarded_tf, C.guarded_ft, C.guarded_undef, Bool.not_true, Bool.not_false, Nat.zero_add, eq_self, decide_true, decide_false]
    refine C.load1S_of (v := .int .i64 0) (fun w' hw => ⟨_, _, _, hw.at_ h7 (by simp), rfl⟩) ?_
    simp only [C.ite_true, C.ite_false, C.pick_true, C.pick_false, C.not_bool, C.field_ptr, C.nilCheck_ptr, C.add_mk, C.sub_mk, C.mul_mk, C.eql_mk, C.neq_mk, C.lss_mk, C.leq_mk, C.gtr_mk, C.geq_mk, C.conv_mk, C.len_mk, C.ext_0, C.ext_1, C.ext3_0, C.ext3_1, C.ext3_2, C.guarded_yes, C.guarded_tf, C.guarded_ft, C.guarded_undef, Bool.not_true, Bool.not_false, Nat.zero_add, eq_self, decide_true, decide_false]
    refine C.load1S_of (v := f) (fun w' hw => ⟨_, _, _, hw.at_ h7 (by simp), rfl⟩) (C.len_rd hr ?_)
    simp only [valC, List.map_nil, List.length_nil, C.ite_true, C.ite_false, C.pick_true, C.pick_false, C.not_bool, C.field_ptr, C.nilCheck_ptr, C.add_mk, C.sub_mk, C.mul_mk, C.eql_mk, C.neq_mk, C.lss_mk, C.leq_mk, C.gtr_mk, C.geq_mk, C.conv_mk, C.len_mk, C.ext_0, C.ext_1, C.ext3_0, C.ext3_1, C.ext3_2, C.guarded_yes, C.guarded_tf, C.guarded_ft, C.guarded_undef, Bool.not_true, Bool.not_false, Nat.zero_add, eq_self, decide_true, decide_false, Int.natCast_zero]
    exact ⟨⟨hf1, h w1 hf1⟩, trivial⟩
  · simp only [C.ite_true, C.ite_false, C.pick_true, C.pick_false, C.not_bool, C.field_ptr, C.nilCheck_ptr, C.add_mk, C.sub_mk, C.mul_mk, C.eql_mk, C.neq_mk, C.lss_mk, C.leq_mk, C.gtr_mk, C.geq_mk, C.conv_mk, C.len_mk, C.ext_0, C.ext_1, C.ext3_0, C.ext3_1, C.ext3_2, C.guarded_yes, C.guarded_tf, C.guarded_ft, C.guarded_undef, Bool.not_true, Bool.not_false, Nat.zero_add, eq_self, decide_true, decide_false]
    refine C.load1S_of (v := .int .i64 s) (fun w' hw => ⟨_, _, _, hw.at_ h7 (by simp), rfl⟩) ?_
    simp only [C.ite_true, C.ite_false, C.pick_true, C.pick_false, C.not_bool, C.field_ptr, C.nilCheck_ptr, C.add_mk, C.sub_mk, C.mul_mk, C.eql_mk, C.neq_mk, C.lss_mk, C.leq_mk, C.gtr_mk, C.geq_mk, C.conv_mk, C.len_mk, C.ext_0, C.ext_1, C.ext3_0, C.ext3_1, C.ext3_2, C.guarded_yes, C.guarded_tf, C.guarded_ft, C.guarded_undef, Bool.not_true, Bool.not_false, Nat.zero_add, eq_self, decide_true, decide_false]
    refine C.load1S_of (v := f) (fun w' hw => ⟨_, _, _, hw.at_ h7 (by simp), rfl⟩) ?_
    rw [hp]
    refine hb.s rfl (hV.nodes.getS hf1 hi fun g o f' hr' hs0 hs1 => ?_)
    simp only [C.ite_true, C.ite_false, C.pick_true, C.pick_false, C.not_bool, C.field_ptr, C.nilCheck_ptr, C.add_mk, C.sub_mk, C.mul_mk, C.eql_mk, C.neq_mk, C.lss_mk, C.leq_mk, C.gtr_mk, C.geq_mk, C.conv_mk, C.len_mk, C.ext_0, C.ext_1, C.ext3_0, C.ext3_1, C.ext3_2, C.guarded_yes, C.guarded_tf, C.guarded_ft, C.guarded_undef, Bool.not_true, Bool.not_false, Nat.zero_add, eq_self, decide_true, decide_false]
    refine C.load1S_of hs1 ⟨Values_c (hr.keep hf1) (hr'.keep hf1) fun w2 hf2 => ⟨hf1.trans hf2, ?_⟩, trivial⟩
    rw [decide_eq_true rfl]
    try simp only [C.ite_true, C.ite_false, C.pick_true, C.pick_false, C.not_bool, C.field_ptr, C.nilCheck_ptr, C.add_mk, C.sub_mk, C.mul_mk, C.eql_mk, C.neq_mk, C.lss_mk, C.leq_mk, C.gtr_mk, C.geq_mk, C.conv_mk, C.len_mk, C.ext_0, C.ext_1, C.ext3_0, C.ext3_1, C.ext3_2, C.guarded_yes, C.guarded_tf, C.guarded_ft, C.guarded_undef, Bool.not_true, Bool.not_false, Nat.zero_add, eq_self, decide_true, decide_false]
    exact h w2 (hf1.trans hf2)
theorem tells_mid {W : World} {b3 b4 b7 : Nat} {rv nv rv' nv' f : Value} {V V' : Vw} {serial s : Int} {fl : List Va} {ok : Bool} (hV : IsV W rv nv V) (hV' : IsV W rv' nv' V') (hb : VB W b3 rv nv) (hb' : VB W b4 rv' nv') (h7 : W.heap[b7]? = some (.cells #[.int .i64 s, f] 61 (0, 0))) (hr : RdS W f 2 (valC fl)) (hFd : Found V serial s fl ok) (h : ∀ w', Fr [] W w' → K (.bool true) w') :
    F8.k9 K (.int .i64 serial) (.pointer (some ⟨b3, 0, none⟩)) (.pointer (some ⟨b4, 0, none⟩)) (.pointer (some ⟨b7, 0, none⟩)) (.bool ok) (.int .i64 (plcI V.2 serial)) (.int .i64 (IntKind.i64.wrap (wdN V.2 V.2.length))) W := by
  refine F8.k9.to (C.draw_of (fun w' => Fr [] W w') fun w1 hf1 he1 => ⟨hf1, ?_⟩)
  have la : ∀ {w1 : World} {F : VK}, F (.agg #[rv, nv]) w1 → C.loadAS (fun w' => Fr [] W w') 2 (.pointer (some ⟨b3, 0, none⟩)) w1 F := fun hk => C.loadAS_of (vs := [rv, nv]) (fun w' hw => ⟨_, _, _, hb.keep hw (by simp), by simp, by simp⟩) hk
  have lb : ∀ {w1 : World} {F : VK}, F (.agg #[rv', nv']) w1 → C.loadAS (fun w' => Fr [] W w') 2 (.pointer (some ⟨b4, 0, none⟩)) w1 F := fun hk => C.loadAS_of (vs := [rv', nv']) (fun w' hw => ⟨_, _, _, hb'.keep hw (by simp), by simp, by simp⟩) hk
  refine la (lb (la (lb ⟨Same_c (hV.keep hf1) (hV'.keep hf1) fun w2 hf2 => ⟨hf1.trans hf2, ?_⟩, trivial⟩)))
  have f2 := hf1.trans hf2
  refine ⟨View_c (hV.keep f2) (hV'.keep f2) fun w3 hf3 => ⟨f2.trans hf3, _, fun w' _ => bneq _ _ _ _, ?_⟩, trivial⟩
  have f3 := f2.trans hf3
  rw [beq_self_eq_true]
  simp only [C.ite_true, C.ite_false, C.pick_true, C.pick_false, C.not_bool, C.field_ptr, C.nilCheck_ptr, C.add_mk, C.sub_mk, C.mul_mk, C.eql_mk, C.neq_mk, C.lss_mk, C.leq_mk, C.gtr_mk, C.geq_mk, C.conv_mk, C.len_mk, C.ext_0, C.ext_1, C.ext3_0, C.ext3_1, C.ext3_2, C.guarded_yes, C.guarded_tf, C.guarded_ft, C.guarded_undef, Bool.not_true, Bool.not_false, Nat.zero_add, eq_self, decide_true, decide_false]
  refine la (la ⟨Same_c (hV.keep f3) (hV.keep f3) fun w4 hf4 => ⟨f3.trans hf4, ?_⟩, trivial⟩)
  have f4 := f3.trans hf4
  rw [decide_eq_true rfl]
  simp only [C.ite_true, C.ite_false, C.pick_true, C.pick_false, C.not_bool, C.field_ptr, C.nilCheck_ptr, C.add_mk, C.sub_mk, C.mul_mk, C.eql_mk, C.neq_mk, C.lss_mk, C.leq_mk, C.gtr_mk, C.geq_mk, C.conv_mk, C.len_mk, C.ext_0, C.ext_1, C.ext3_0, C.ext3_1, C.ext3_2, C.guarded_yes, C.guarded_tf, C.guarded_ft, C.guarded_undef, Bool.not_true, Bool.not_false, Nat.zero_add, eq_self, decide_true, decide_false]
  refine la ⟨Words_c (hV.keep f4) fun w5 hf5 => ⟨f4.trans hf5, ?_⟩, trivial⟩
  have f5 := f4.trans hf5
  have nn : ¬ (IntKind.i64.wrap (wdN V.2 V.2.length) ≠ IntKind.i64.wrap (wdN V.2 V.2.length)) := fun c => c rfl
  rw [C.neq_mk, decide_eq_false nn]
  simp only [C.ite_true, C.ite_false, C.pick_true, C.pick_false, C.not_bool, C.field_ptr, C.nilCheck_ptr, C.add_mk, C.sub_mk, C.mul_mk, C.eql_mk, C.neq_mk, C.lss_mk, C.leq_mk, C.gtr_mk, C.geq_mk, C.conv_mk, C.len_mk, C.ext_0, C.ext_1, C.ext3_0, C.ext3_1, C.ext3_2, C.guarded_yes, C.guarded_tf, C.guarded_ft, C.guarded_undef, Bool.not_true, Bool.not_false, Nat.zero_add, eq_self, decide_true, decide_false]
  have hok : decide (plcI V.2 serial ≥ 0) = ok := by
    rcases hFd with ⟨rfl, hp, _⟩ | ⟨rfl, i, hi, hp, _⟩
    · rw [hp]; decide
    · rw [hp]; exact decide_eq_true (by omega)
  rw [hok]
  refine ⟨_, fun w' _ => bneq _ _ _ _, ?_⟩
  rw [beq_self_eq_true]
  simp only [C.ite_true, C.ite_false, C.pick_true, C.pick_false, C.not_bool, C.field_ptr, C.nilCheck_ptr, C.add_mk, C.sub_mk, C.mul_mk, C.eql_mk, C.neq_mk, C.lss_mk, C.leq_mk, C.gtr_mk, C.geq_mk, C.conv_mk, C.len_mk, C.ext_0, C.ext_1, C.ext3_0, C.ext3_1, C.ext3_2, C.guarded_yes, C.guarded_tf, C.guarded_ft, C.guarded_undef, Bool.not_true, Bool.not_false, Nat.zero_add, eq_self, decide_true, decide_false]
  exact tells_end (hV.keep f5) (hb.keep f5 (by simp)) (f5.at_ h7 (by simp)) (hr.keep f5) hFd fun w' hw => h w' (f5.trans hw)
theorem tells_words {W : World} {b3 b4 : Nat} {rv nv y7 y8 y9 s : Value} {V : Vw} (hV : IsV W rv nv V) (h : ∀ w', Fr [] W w' → F8.k9 K s (.pointer (some ⟨b3, 0, none⟩)) (.pointer (some ⟨b4, 0, none⟩)) y7 y8 y9 (.int .i64 (IntKind.i64.wrap (wdN V.2 V.2.length))) w') (hb : VB W b3 rv nv) :
    ∀ (d j : Nat) (w : World), V.2.length = j + d → Fr [] W w → F8.l6 K s (.pointer (some ⟨b3, 0, none⟩)) (.pointer (some ⟨b4, 0, none⟩)) y7 y8 y9 (.int .i64 (IntKind.i64.wrap (wdN V.2 j))) (.int .i64 (j : Int)) w := by
  have hle := hV.nodes.le
  intro d
  induction d with
  | zero =>
    intro j w hj hf
    obtain rfl : j = V.2.length := by omega
    refine F8.l6.to ((hb.keep hf (by simp)).f1 (hV.nodes.len ?_))
    simp only [C.ite_true, C.ite_false, C.pick_true, C.pick_false, C.not_bool, C.field_ptr, C.nilCheck_ptr, C.add_mk, C.sub_mk, C.mul_mk, C.eql_mk, C.neq_mk, C.lss_mk, C.leq_mk, C.gtr_mk, C.geq_mk, C.conv_mk, C.len_mk, C.ext_0, C.ext_1, C.ext3_0, C.ext3_1, C.ext3_2, C.guarded_yes, C.guarded_tf, C.guarded_ft, C.guarded_undef, Bool.not_true, Bool.not_false, Nat.zero_add, eq_self, decide_true, decide_false, show ¬ ((V.2.length : Int) < (V.2.length : Int)) by omega]
    exact h w hf
  | succ d ih =>
    intro j w hj hf
    have jl : j < V.2.length := by omega
    refine F8.l6.to ((hb.keep hf (by simp)).f1 (hV.nodes.len ?_))
    simp only [C.ite_true, C.ite_false, C.pick_true, C.pick_false, C.not_bool, C.field_ptr, C.nilCheck_ptr, C.add_mk, C.sub_mk, C.mul_mk, C.eql_mk, C.neq_mk, C.lss_mk, C.leq_mk, C.gtr_mk, C.geq_mk, C.conv_mk, C.len_mk, C.ext_0, C.ext_1, C.ext3_0, C.ext3_1, C.ext3_2, C.guarded_yes, C.guarded_tf, C.guarded_ft, C.guarded_undef, Bool.not_true, Bool.not_false, Nat.zero_add, eq_self, decide_true, decide_false, show ((j : Int) < (V.2.length : Int)) by omega]
    refine F8.k8.to ?_
    simp only [C.ite_true, C.ite_false, C.pick_true, C.pick_false, C.not_bool, C.field_ptr, C.nilCheck_ptr, C.add_mk, C.sub_mk, C.mul_mk, C.eql_mk, C.neq_mk, C.lss_mk, C.leq_mk, C.gtr_mk, C.geq_mk, C.conv_mk, C.len_mk, C.ext_0, C.ext_1, C.ext3_0, C.ext3_1, C.ext3_2, C.guarded_yes, C.guarded_tf, C.guarded_ft, C.guarded_undef, Bool.not_true, Bool.not_false, Nat.zero_add, eq_self, decide_true, decide_false]
    refine C.load1_of (v := nv) (hb.keep hf (by simp)) rfl ((hV.keep hf).nodes.get jl fun g o cs e fz f hg h0 h1 hr => ?_)
    simp only [C.ite_true, C.ite_false, C.pick_true, C.pick_false, C.not_bool, C.field_ptr, C.nilCheck_ptr, C.add_mk, C.sub_mk, C.mul_mk, C.eql_mk, C.neq_mk, C.lss_mk, C.leq_mk, C.gtr_mk, C.geq_mk, C.conv_mk, C.len_mk, C.ext_0, C.ext_1, C.ext3_0, C.ext3_1, C.ext3_2, C.guarded_yes, C.guarded_tf, C.guarded_ft, C.guarded_undef, Bool.not_true, Bool.not_false, Nat.zero_add, eq_self, decide_true, decide_false]
    refine C.load1_of hg h1 (C.len_rd hr ?_)
    rw [valC_len]
    simp only [C.ite_true, C.ite_false, C.pick_true, C.pick_false, C.not_bool, C.field_ptr, C.nilCheck_ptr, C.add_mk, C.sub_mk, C.mul_mk, C.eql_mk, C.neq_mk, C.lss_mk, C.leq_mk, C.gtr_mk, C.geq_mk, C.conv_mk, C.len_mk, C.ext_0, C.ext_1, C.ext3_0, C.ext3_1, C.ext3_2, C.guarded_yes, C.guarded_tf, C.guarded_ft, C.guarded_undef, Bool.not_true, Bool.not_false, Nat.zero_add, eq_self, decide_true, decide_false]
    refine F8.k7.to ?_
    simp only [C.ite_true, C.ite_false, C.pick_true, C.pick_false, C.not_bool, C.field_ptr, C.nilCheck_ptr, C.add_mk, C.sub_mk, C.mul_mk, C.eql_mk, C.neq_mk, C.lss_mk, C.leq_mk, C.gtr_mk, C.geq_mk, C.conv_mk, C.len_mk, C.ext_0, C.ext_1, C.ext3_0, C.ext3_1, C.ext3_2, C.guarded_yes, C.guarded_tf, C.guarded_ft, C.guarded_undef, Bool.not_true, Bool.not_false, Nat.zero_add, eq_self, decide_true, decide_false]
    rw [wrap64_id (n := (j : Int) + 1) (by omega), show (j : Int) + 1 = ((j + 1 : Nat) : Int) by omega]
    have := ih (j + 1) w (by omega) hf
    rw [wdN_succ jl] at this
    have e : IntKind.i64.wrap (IntKind.i64.wrap (IntKind.i64.wrap (wdN V.2 j) + 1) + (V.2[j].2.length : Int)) = IntKind.i64.wrap (wdN V.2 j + 1 + (V.2[j].2.length : Int)) := by
      simp only [IntKind.wrap_i64]
      omega
    rw [e]
    exact this
theorem ViewTells_c (hA : AliveOk) {rv nv rv' nv' : Value} {V V' : Vw} {serial : Int} (hV : IsV w rv nv V) (hV' : IsV w rv' nv' V') (hF : FitV V) (h : ∀ w', Fr [] w w' → K (.bool true) w') : C.call Try.prog 8 #[.agg #[rv, nv], .agg #[rv', nv'], .int .i64 serial] w K := by
  refine F8.sh (VB.new hV fun b1 w1 hf1 _ hb1 hV1 => VB.new (hV'.keep hf1) fun b2 w2 hf2 _ hb2 hV2' => hA _ _ fun w3 hf3 => ?_)
  have f3 := (hf1.trans hf2).trans hf3
  have hb13 := (hb1.keep hf2 (by simp)).keep hf3 (by simp)
  have hb23 := hb2.keep hf3 (by simp)
  have hV3 := (hV1.keep hf2).keep hf3
  have hV3' := hV2'.keep hf3
  simp only [C.ite_true, C.ite_false, C.pick_true, C.pick_false, C.not_bool, C.field_ptr, C.nilCheck_ptr, C.add_mk, C.sub_mk, C.mul_mk, C.eql_mk, C.neq_mk, C.lss_mk, C.leq_mk, C.gtr_mk, C.geq_mk, C.conv_mk, C.len_mk, C.ext_0, C.ext_1, C.ext3_0, C.ext3_1, C.ext3_2, C.guarded_yes, C.guarded_tf, C.guarded_ft, C.guarded_undef, Bool.not_true, Bool.not_false, Nat.zero_add, eq_self, decide_true, decide_false]
  have tl : ∀ (s : Int) (f : Value) (fl : List Va) (ok : Bool) (w4 : World), Fr [] w3 w4 → RdS w4 f 2 (valC fl) → Found V serial s fl ok →
      C.new (.cells #[.int .i64 0, .slice none 0 0] 61) w4 fun x7 w5 => C.store 2 x7 (.agg #[.int .i64 s, f]) w5 fun w6 => C.loadA 2 (.pointer (some ⟨b1, 0, none⟩)) w6 fun x20 w7 => C.call Try.prog 31 #[x20, .int .i64 serial] w7 fun x22 w8 => F8.l6 K (.int .i64 serial) (.pointer (some ⟨b1, 0, none⟩)) (.pointer (some ⟨b2, 0, none⟩)) x7 (.bool ok) x22 (.int .i64 0) (.int .i64 0) w8 := fun s f fl ok w4 hf4 hr hFd => by
    refine C.putNd hr fun b7 w5 hf5 _ hb7 => ?_
    have f5 := hf4.trans hf5
    refine (hb13.keep f5 (by simp)).all (find_c (hV3.keep f5) fun w6 hf6 => ?_)
    have f6 := f5.trans hf6
    have := tells_words (K := K) (b4 := b2) (s := .int .i64 serial) (y7 := .pointer (some ⟨b7, 0, none⟩)) (y8 := .bool ok) (y9 := .int .i64 (plcI V.2 serial)) (hV3.keep f6) (fun w' hw => tells_mid ((hV3.keep f6).keep hw) ((hV3'.keep f6).keep hw) ((hb13.keep f6 (by simp)).keep hw (by simp)) ((hb23.keep f6 (by simp)).keep hw (by simp)) (hw.at_ (hf6.at_ hb7 (by simp)) (by simp)) (((hr.keep hf5).keep hf6).keep hw) hFd fun w'' hw'' => h w'' (((f3.trans f6).trans hw).trans hw'')) (hb13.keep f6 (by simp)) V.2.length 0 w6 (by omega) (Fr.refl _ _)
    rwa [show IntKind.i64.wrap (wdN V.2 0) = 0 from by simp [wdN, IntKind.wrap_i64]] at this
  refine F8.k3.to (hb13.all (Find_c hV3 hF (fun w4 hf4 hp => ?_) fun i f w4 hf4 hi hp ho hlo => ?_))
  · simp only [C.ite_true, C.ite_false, C.pick_true, C.pick_false, C.not_bool, C.field_ptr, C.nilCheck_ptr, C.add_mk, C.sub_mk, C.mul_mk, C.eql_mk, C.neq_mk, C.lss_mk, C.leq_mk, C.gtr_mk, C.geq_mk, C.conv_mk, C.len_mk, C.ext_0, C.ext_1, C.ext3_0, C.ext3_1, C.ext3_2, C.guarded_yes, C.guarded_tf, C.guarded_ft, C.guarded_undef, Bool.not_true, Bool.not_false, Nat.zero_add, eq_self, decide_true, decide_false]
    exact tl 0 _ [] false w4 hf4 (OwnS.nil _ 71 2).rd (.inl ⟨rfl, hp, rfl, rfl⟩)
  · simp only [C.ite_true, C.ite_false, C.pick_true, C.pick_false, C.not_bool, C.field_ptr, C.nilCheck_ptr, C.add_mk, C.sub_mk, C.mul_mk, C.eql_mk, C.neq_mk, C.lss_mk, C.leq_mk, C.gtr_mk, C.geq_mk, C.conv_mk, C.len_mk, C.ext_0, C.ext_1, C.ext3_0, C.ext3_1, C.ext3_2, C.guarded_yes, C.guarded_tf, C.guarded_ft, C.guarded_undef, Bool.not_true, Bool.not_false, Nat.zero_add, eq_self, decide_true, decide_false]
    have hs : V.2[i].1 = serial := by
      unfold plcI at hp
      cases hq : plc V.2 serial with
      | none => rw [hq] at hp; simp at hp
      | some k =>
        rw [hq] at hp
        simp only at hp
        obtain rfl : k = i := by omega
        exact (plc_some hq).2.1
    exact tl _ _ _ true w4 hf4 ho.rd (.inr ⟨rfl, i, hi, hp, hs, rfl⟩)
theorem ViewChecks_c (hA : AliveOk) {rv nv : Value} {V : Vw} (hV : IsV w rv nv V) (hF : FitT V) (h : ∀ w', Fr [] w w' → K (.bool true) w') : C.call Try.prog 6 #[.agg #[rv, nv]] w K := by
  refine F6.sh (VB.new hV fun b w1 hf1 _ hb hV1 => C.draw_of (fun w' => Fr [] w1 w') fun w2 hf2 he2 => ⟨hf2, ⟨hA _ _ fun w3 hf3 => ⟨hf2.trans hf3, ?_⟩, ?_⟩⟩)
  · have f3 := hf2.trans hf3
    simp only [C.ite_true, C.ite_false, C.pick_true, C.pick_false, C.not_bool, C.field_ptr, C.nilCheck_ptr, C.add_mk, C.sub_mk, C.mul_mk, C.eql_mk, C.neq_mk, C.lss_mk, C.leq_mk, C.gtr_mk, C.geq_mk, C.conv_mk, C.len_mk, C.ext_0, C.ext_1, C.ext3_0, C.ext3_1, C.ext3_2, C.guarded_yes, C.guarded_tf, C.guarded_ft, C.guarded_undef, Bool.not_true, Bool.not_false, Nat.zero_add, eq_self, decide_true, decide_false]
    refine C.loadAS_of (vs := [rv, nv]) (fun w' hw => ⟨_, _, _, hb.keep hw (by simp), by simp, by simp⟩) (C.loadAS_of (vs := [rv, nv]) (fun w' hw => ⟨_, _, _, hb.keep hw (by simp), by simp, by simp⟩) ?_)
    refine ⟨Check_c (hV1.keep f3) hF fun w4 hf4 => ⟨f3.trans hf4, ⟨check_c ((hV1.keep f3).keep hf4) hF fun w5 hf5 => ⟨(f3.trans hf4).trans hf5, ?_⟩, trivial⟩⟩, trivial⟩
    simp only [C.ite_true, C.ite_false, C.pick_true, C.pick_false, C.not_bool, C.field_ptr, C.nilCheck_ptr, C.add_mk, C.sub_mk, C.mul_mk, C.eql_mk, C.neq_mk, C.lss_mk, C.leq_mk, C.gtr_mk, C.geq_mk, C.conv_mk, C.len_mk, C.ext_0, C.ext_1, C.ext3_0, C.ext3_1, C.ext3_2, C.guarded_yes, C.guarded_tf, C.guarded_ft, C.guarded_undef, Bool.not_true, Bool.not_false, Nat.zero_add, eq_self, decide_true, decide_false]
    exact h w5 (hf1.trans ((f3.trans hf4).trans hf5))
  · trivial
end
end Go.Proofs.YtfdpmgddlaamcaaV
