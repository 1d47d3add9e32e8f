/- Who holds whom: what the calls come to. -/
import Derived.Test.YtfhgjncbhjjbfaaGr7
namespace Go.Proofs.YtfhgjncbhjjbfaaV
open Go Go.Proofs Go.RowKit
set_option linter.unusedVariables false
set_option linter.unusedSimpArgs false
set_option maxRecDepth 10000
def Gr.hd (G : Gr) (i j : Int) : Bool := decide (0 ≤ i ∧ 0 ≤ j) && G.hold i.toNat j.toNat
def Gr.hl (G : Gr) (i : Int) : List Nat := if 0 ≤ i ∧ i < (G.n : Int) then G.heldN i.toNat else []
theorem dec_bool {p : Prop} [Decidable p] {b : Bool} (h : p ↔ b = true) : decide p = b := by cases b <;> simp_all
section
variable {K : VK} {w : World}
theorem bodied93 : bodied Try.prog 93 = true := by kernel_rfl
theorem held_eq {G : Gr} {i : Nat} (hi : i < G.n) : (natC G.nodes).filter (fun n => !decide (n ∈ natC (G.wo i).nodes)) = natC (G.heldN i) := by
  have h1 : ∀ l : List Nat, (natC l).filter (fun n => !decide (n ∈ natC (G.wo i).nodes)) = natC (l.filter fun j => !decide ((j : Int) ∈ natC (G.wo i).nodes)) := fun l => by
    simp only [natC, List.filter_map]; rfl
  rw [h1]
  congr 1
  unfold Gr.nodes Gr.heldN
  rw [List.filter_filter]
  refine List.filter_congr fun j hj => ?_
  have hj' := List.mem_range.1 hj
  have : decide ((j : Int) ∈ natC (List.filter (fun i_1 => (G.wo i).rch i_1) (List.range (G.wo i).n))) = (G.wo i).rch j := by
    refine dec_bool ?_
    rw [natC_mem]
    constructor
    · rintro ⟨r, hr, e⟩
      obtain rfl : j = r := by omega
      exact (List.mem_filter.1 hr).2
    · intro h
      exact ⟨j, List.mem_filter.2 ⟨List.mem_range.2 (by rw [wo_n]; exact hj'), h⟩, rfl⟩
  rw [this]
  unfold Gr.hold
  rw [decide_eq_true hi, Bool.true_and, Bool.and_comm]
theorem held_fin {W1 : World} {G : Gr} {i b6 : Nat} {av uv : Value} (hi : i < G.n) (hf : Fr [] W1 w) (hn : NewS W1 av) (ho : OwnS w av 3 1 (intC (natC G.nodes))) (hb : w.heap[b6]? = some (.cells #[uv] 44 (0, 0))) (hu : RdS w uv 1 (intC (natC (G.wo i).nodes)))
    (hd : ∀ g ∈ blkS av, g ≠ b6 ∧ g ∉ blkS uv) (h : ∀ v w', Fr [] W1 w' → NewS W1 v → OwnS w' v 3 1 (intC (natC (G.heldN i))) → K v w') : F64.k4 K av (.pointer (some ⟨b6, 0, none⟩)) w := by
  refine F64.k4.to (DeleteFunc_c (p := fun n => decide (n ∈ natC (G.wo i).nodes)) ho (fun w' n K' hf' _ hk => ?_) fun v' w' hf' ho' hblk => h v' w' (hf.then hf' fun x hx => .inr (hn.blk x hx)) (fun g hg => hn g (by rw [← hblk]; exact hg)) ?_)
  · refine vcCall_of bodied93 (F93.sh (C.load1_of (v := uv) (hf'.at_ hb fun c => (hd _ c).1 rfl) rfl (Contains_c (hu.keep' hf' fun g hg c => (hd g c).2 hg) (hk w' (Fr.refl _ _)))))
  · rw [held_eq hi] at ho'
    exact ho'
theorem held_c {nv rv : Value} {G : Gr} {i : Int} (hG : IsG w nv rv G) (h : ∀ v w', Fr [] w w' → NewS w v → OwnS w' v 3 1 (intC (natC (G.hl i))) → K v w') : C.call Try.prog 64 #[.agg #[nv, rv], .int .i64 i] w K := by
  refine F64.sh (GBlk.new hG fun b w1 hf1 hb1 hb hG1 => ?_)
  have none_ : ¬ (0 ≤ i ∧ i < (G.n : Int)) → K (.slice none 0 0) w1 := fun hc => h _ w1 hf1 (NewS.nil _) (by unfold Gr.hl; rw [if_neg hc]; exact OwnS.nil _ _ _)
  have some_ : 0 ≤ i ∧ i < (G.n : Int) → F64.k3 K (.int .i64 i) (.pointer (some ⟨b, 0, none⟩)) w1 := fun hc => by
    obtain ⟨m, rfl⟩ : ∃ m : Nat, i = (m : Int) := ⟨i.toNat, by omega⟩
    have hm : m < G.n := by omega
    have fin : ∀ v w', Fr [] w1 w' → NewS w1 v → OwnS w' v 3 1 (intC (natC (G.heldN m))) → K v w' := fun v w' a c d => h v w' (hf1.trans a) (c.mono hf1.size) (by unfold Gr.hl; rw [if_pos hc, Int.toNat_natCast]; exact d)
    refine F64.k3.to (C.draw_of (fun w' => Fr [] w1 w') fun w2 hf2 he2 => ⟨hf2, ?_⟩)
    simp only [and_true]
    refine C.loadAS_of (vs := [nv, rv]) (fun w' hw => ⟨_, _, _, hb.keep hw (by simp), by simp, by simp⟩) ?_
    refine C.loadAS_of (vs := [nv, rv]) (fun w' hw => ⟨_, _, _, hb.keep hw (by simp), by simp, by simp⟩) ?_
    have store : ∀ {w3 w4 w5 : World} {b6 : Nat} {av uv : Value}, Fr [] w1 w3 → New w3 b6 (.cells #[.slice none 0 0] 44) w4 → Fr [] w4 w5 → NewS w1 av → OwnS w5 av 3 1 (intC (natC G.nodes)) → (∀ g ∈ blkS av, g ≠ b6) → OwnS w5 uv 3 1 (intC (natC (G.wo m).nodes)) → (∀ g ∈ blkS uv, g ≠ b6) → (∀ g ∈ blkS av, g ∉ blkS uv) →
        C.store 1 (.pointer (some ⟨b6, 0, none⟩)) uv w5 fun w6 => Fr [] w1 w6 ∧ F64.k4 K av (.pointer (some ⟨b6, 0, none⟩)) w6 := by
      intro w3 w4 w5 b6 av uv f13 hw4 f45 hna hoa hda hou hdu hdd
      refine C.store1_of (f45.at_ hw4.at_ (by simp)) hou.one.2 hou.one.1 (by simp) fun w6 hu => ?_
      have fr : Fr [] w1 w6 := ((f13.trans hw4.fr).trans f45).then hu.fr fun x hx => .inr (by simp only [List.mem_singleton] at hx; have := hw4.is; have := f13.size; omega)
      exact ⟨fr, held_fin hm fr hna (hoa.keep' hu.fr fun g hg c => hda g hg (by simpa using c)) hu.at_ (hou.keep' hu.fr fun g hg c => hdu g hg (by simpa using c)).rd (fun g hg => ⟨hda g hg, hdd g hg⟩) fin⟩
    refine ⟨?_, ?_⟩
    · refine Nodes_c (hG1.keep hf2) fun av w3 hf3 hn3 ho3 => ⟨hf2.trans hf3, ?_⟩
      have f13 := hf2.trans hf3
      have l3 := ho3.mem_lt
      refine ⟨?_, ?_⟩
      · refine Without_c (hG1.keep f13) fun nv' rv' w4 hf4 hG4 => ⟨f13.trans hf4, ?_, ?_⟩
        · refine Nodes_c hG4 fun uv w5 hf5 hn5 ho5 => ⟨(f13.trans hf4).trans hf5, C.new_of fun b6 w6 hw6 => ⟨((f13.trans hf4).trans hf5).trans hw6.fr, ?_⟩⟩
          have s4 := hf4.size
          have l5 := ho5.mem_lt
          have e6 := hw6.is
          have s5 := hf5.size
          refine store ((f13.trans hf4).trans hf5) hw6 (Fr.refl _ _) (hn3.mono hf2.size) (((ho3.keep hf4 (by simp)).keep hf5 (by simp)).keep hw6.fr (by simp)) (fun g hg => by have := l3 g hg; omega) (ho5.keep hw6.fr (by simp)) (fun g hg => by have := l5 g hg; omega) (fun g hg c => by have := l3 g hg; have := hn5.blk g c; omega)
        · refine C.new_of fun b6 w6 hw6 => ⟨(f13.trans hf4).trans hw6.fr, Nodes_c (hG4.keep hw6.fr) fun uv w5 hf5 hn5 ho5 => ⟨((f13.trans hf4).trans hw6.fr).trans hf5, ?_⟩⟩
          have s4 := hf4.size
          have l5 := ho5.mem_lt
          have e6 := hw6.is
          have e6' := hw6.sz
          refine store (f13.trans hf4) hw6 hf5 (hn3.mono hf2.size) (((ho3.keep hf4 (by simp)).keep hw6.fr (by simp)).keep hf5 (by simp)) (fun g hg => by have := l3 g hg; omega) ho5 (fun g hg => by have := hn5.blk g hg; omega) (fun g hg c => by have := l3 g hg; have := hn5.blk g c; omega)
      · refine C.new_of fun b6 w6 hw6 => ⟨f13.trans hw6.fr, Without_c (hG1.keep (f13.trans hw6.fr)) fun nv' rv' w4 hf4 hG4 => ⟨(f13.trans hw6.fr).trans hf4, Nodes_c hG4 fun uv w5 hf5 hn5 ho5 => ⟨((f13.trans hw6.fr).trans hf4).trans hf5, ?_⟩⟩⟩
        have s4 := hf4.size
        have l5 := ho5.mem_lt
        have e6 := hw6.is
        have e6' := hw6.sz
        refine store f13 hw6 (hf4.trans hf5) (hn3.mono hf2.size) (((ho3.keep hw6.fr (by simp)).keep hf4 (by simp)).keep hf5 (by simp)) (fun g hg => by have := l3 g hg; omega) ho5 (fun g hg => by have := hn5.blk g hg; omega) (fun g hg c => by have := l3 g hg; have := hn5.blk g c; omega)
    · refine C.new_of fun b6 w6 hw6 => ⟨hf2.trans hw6.fr, Nodes_c (hG1.keep (hf2.trans hw6.fr)) fun av w3 hf3 hn3 ho3 => ⟨(hf2.trans hw6.fr).trans hf3, Without_c (hG1.keep ((hf2.trans hw6.fr).trans hf3)) fun nv' rv' w4 hf4 hG4 => ⟨((hf2.trans hw6.fr).trans hf3).trans hf4, Nodes_c hG4 fun uv w5 hf5 hn5 ho5 => ⟨(((hf2.trans hw6.fr).trans hf3).trans hf4).trans hf5, ?_⟩⟩⟩⟩
      have s4 := hf4.size
      have s3 := hf3.size
      have l3 := ho3.mem_lt
      have l5 := ho5.mem_lt
      have e6 := hw6.is
      have e6' := hw6.sz
      refine store hf2 hw6 ((hf3.trans hf4).trans hf5) ((hn3.mono hw6.fr.size).mono hf2.size) ((ho3.keep hf4 (by simp)).keep hf5 (by simp)) (fun g hg => by have := hn3.blk g hg; omega) ho5 (fun g hg => by have := hn5.blk g hg; omega) (fun g hg c => by have := l3 g hg; have := hn5.blk g c; omega)
  by_cases h0 : i < 0
  · simp only [C.ite_true, C.ite_false, C.pick_true, C.pick_false, C.not_bool, C.field_ptr, C.nilCheck_ptr, C.add_mk, C.sub_mk, C.mul_mk, C.eql_mk, C.neq_mk, C.lss_mk, C.leq_mk, C.gtr_mk, C.geq_mk, C.conv_mk, C.len_mk, C.ext_0, C.ext_1, C.ext3_0, C.ext3_1, C.ext3_2, C.guarded_yes, C.guarded_tf, C.guarded_ft, C.guarded_undef, Bool.not_true, Bool.not_false, Nat.zero_add, eq_self, decide_true, decide_false, h0]
    exact none_ (by omega)
  · simp only [C.ite_true, C.ite_false, C.pick_true, C.pick_false, C.not_bool, C.field_ptr, C.nilCheck_ptr, C.add_mk, C.sub_mk, C.mul_mk, C.eql_mk, C.neq_mk, C.lss_mk, C.leq_mk, C.gtr_mk, C.geq_mk, C.conv_mk, C.len_mk, C.ext_0, C.ext_1, C.ext3_0, C.ext3_1, C.ext3_2, C.guarded_yes, C.guarded_tf, C.guarded_ft, C.guarded_undef, Bool.not_true, Bool.not_false, Nat.zero_add, eq_self, decide_true, decide_false, h0]
    refine C.load1_of (v := nv) hb rfl (hG1.len_next ?_)
    simp only [C.ite_true, C.ite_false, C.pick_true, C.pick_false, C.not_bool, C.field_ptr, C.nilCheck_ptr, C.add_mk, C.sub_mk, C.mul_mk, C.eql_mk, C.neq_mk, C.lss_mk, C.leq_mk, C.gtr_mk, C.geq_mk, C.conv_mk, C.len_mk, C.ext_0, C.ext_1, C.ext3_0, C.ext3_1, C.ext3_2, C.guarded_yes, C.guarded_tf, C.guarded_ft, C.guarded_undef, Bool.not_true, Bool.not_false, Nat.zero_add, eq_self, decide_true, decide_false, ge_iff_le]
    by_cases h1 : (G.n : Int) ≤ i
    · simp only [C.ite_true, C.ite_false, C.pick_true, C.pick_false, C.not_bool, C.field_ptr, C.nilCheck_ptr, C.add_mk, C.sub_mk, C.mul_mk, C.eql_mk, C.neq_mk, C.lss_mk, C.leq_mk, C.gtr_mk, C.geq_mk, C.conv_mk, C.len_mk, C.ext_0, C.ext_1, C.ext3_0, C.ext3_1, C.ext3_2, C.guarded_yes, C.guarded_tf, C.guarded_ft, C.guarded_undef, Bool.not_true, Bool.not_false, Nat.zero_add, eq_self, decide_true, decide_false, h1]
      exact none_ (by omega)
    · simp only [C.ite_true, C.ite_false, C.pick_true, C.pick_false, C.not_bool, C.field_ptr, C.nilCheck_ptr, C.add_mk, C.sub_mk, C.mul_mk, C.eql_mk, C.neq_mk, C.lss_mk, C.leq_mk, C.gtr_mk, C.geq_mk, C.conv_mk, C.len_mk, C.ext_0, C.ext_1, C.ext3_0, C.ext3_1, C.ext3_2, C.guarded_yes, C.guarded_tf, C.guarded_ft, C.guarded_undef, Bool.not_true, Bool.not_false, Nat.zero_add, eq_self, decide_true, decide_false, h1]
      exact some_ (by omega)
theorem hl_mem {G : Gr} {i j : Int} : j ∈ natC (G.hl i) ↔ G.hd i j = true := by
  unfold Gr.hl Gr.hd
  rw [natC_mem]
  by_cases c : 0 ≤ i ∧ i < (G.n : Int)
  · rw [if_pos c]
    simp only [heldN_mem, Bool.and_eq_true, decide_eq_true_eq]
    constructor
    · rintro ⟨r, h, rfl⟩; exact ⟨⟨c.1, by omega⟩, by simpa using h⟩
    · rintro ⟨h1, h2⟩; exact ⟨j.toNat, h2, by omega⟩
  · rw [if_neg c]
    simp only [List.not_mem_nil, false_and, exists_false, false_iff, Bool.and_eq_true, decide_eq_true_eq, not_and]
    intro h1 h2
    have := (hold_iff.1 h2).1
    omega
theorem Holds_c {nv rv : Value} {G : Gr} {i j : Int} (hG : IsG w nv rv G) (h : ∀ w', Fr [] w w' → K (.bool (G.hd i j)) w') : C.call Try.prog 26 #[.agg #[nv, rv], .int .i64 i, .int .i64 j] w K := by
  refine F26.sh (GBlk.new hG fun b w1 hf1 hb1 hb hG1 => hb.all (held_c hG1 fun v w2 hf2 hn2 ho2 => Contains_c ho2.rd ?_))
  rw [show decide (j ∈ natC (G.hl i)) = G.hd i j from dec_bool hl_mem]
  exact h w2 (hf1.trans hf2)
theorem Kept_c {nv rv : Value} {G : Gr} {i : Int} (hG : IsG w nv rv G) (h : ∀ w', Fr [] w w' → K (.int .i64 ((G.hl i).length : Int)) w') : C.call Try.prog 27 #[.agg #[nv, rv], .int .i64 i] w K := by
  refine F27.sh (GBlk.new hG fun b w1 hf1 hb1 hb hG1 => hb.all (held_c hG1 fun v w2 hf2 hn2 ho2 => C.len_rd ho2.rd ?_))
  rw [intC_len, natC_len]
  exact h w2 (hf1.trans hf2)
theorem build33 (A B : Option Addr) (n c m d : Nat) : (Instr.build 52 #[(0, .slice A n c), (1, .slice B m d)]).run Try.prog w = .ok (.agg #[.slice A n c, .slice B m d]) w := by kernel_rfl
theorem plain36_c {nv rv : Value} {G : Gr} (hG : IsG w nv rv G) (h : ∀ w', Fr [] w w' → IsG w' nv rv G → K (.agg #[nv, rv]) w') : C.call Try.prog 30 #[.agg #[nv, rv]] w K := by
  refine F30.sh (GBlk.new hG fun b w1 hf1 hb1 hb hG1 => C.new_of fun b2 w2 hw2 => ?_)
  have hb2 := hb.keep hw2.fr (by simp)
  have hG2 := hG1.keep hw2.fr
  simp only [C.ite_true, C.ite_false, C.pick_true, C.pick_false, C.not_bool, C.field_ptr, C.nilCheck_ptr, C.add_mk, C.sub_mk, C.mul_mk, C.eql_mk, C.neq_mk, C.lss_mk, C.leq_mk, C.gtr_mk, C.geq_mk, C.conv_mk, C.len_mk, C.ext_0, C.ext_1, C.ext3_0, C.ext3_1, C.ext3_2, C.guarded_yes, C.guarded_tf, C.guarded_ft, C.guarded_undef, Bool.not_true, Bool.not_false, Nat.zero_add, eq_self, decide_true, decide_false]
  refine C.load1_of (v := nv) hb2 rfl (C.load1_of (v := rv) hb2 rfl ?_)
  have hcells := hG2.cells
  obtain ⟨A, c, B, d, rfl, rfl⟩ := hG.slices
  refine C.run_of (build33 _ _ _ _ _ _) (C.store_all hw2.at_ rfl hG2.ones rfl fun w3 hu => C.loadA_all hu.at_ rfl ?_)
  have fr : Fr [] w w3 := (hf1.trans hw2.fr).then hu.fr fun x hx => .inr (by simp only [List.mem_singleton] at hx; have := hw2.is; have := hf1.size; omega)
  exact h w3 fr (hG.keep fr)
def Gr.holdR (G : Gr) (i j : Int) : Bool := decide (0 ≤ i ∧ i < (G.n : Int) ∧ 0 ≤ j ∧ j < (G.n : Int)) && (decide (0 ≤ G.dst j.toNat) && (decide ((G.wo i).dst j.toNat < 0) && decide (0 ≤ G.dst i.toNat)))
theorem holdR_eq (G : Gr) (i j : Int) : G.holdR i j = G.hd i j := by
  unfold Gr.holdR Gr.hd
  by_cases hi : 0 ≤ i ∧ 0 ≤ j
  · rw [decide_eq_true hi, Bool.true_and, Bool.eq_iff_iff]
    obtain ⟨a, rfl⟩ : ∃ a : Nat, i = (a : Int) := ⟨i.toNat, by omega⟩
    obtain ⟨b, rfl⟩ : ∃ b : Nat, j = (b : Int) := ⟨j.toNat, by omega⟩
    simp only [Int.toNat_natCast, Bool.and_eq_true, decide_eq_true_eq]
    constructor
    · rintro ⟨⟨_, h1, _, h2⟩, h3, h4, h5⟩
      refine hold_iff.2 ⟨by omega, rch_iff.2 h3, ?_⟩
      cases c : (G.wo a).rch b with
      | false => rfl
      | true => have := rch_iff.1 c; omega
    · intro h
      have hr := rch_iff.1 (hold_rch h)
      obtain ⟨h1, h2, h3⟩ := hold_iff.1 h
      have h2' := rch_iff.1 h2
      have := dst_node h2'
      refine ⟨⟨by omega, by omega, by omega, by omega⟩, h2', ?_, hr⟩
      rcases Int.lt_or_le ((G.wo a).dst b) 0 with c | c
      · exact c
      · rw [rch_iff.2 c] at h3; cases h3
  · rw [decide_eq_false hi, decide_eq_false (by omega)]
    rfl
theorem holds36_c {nv rv : Value} {G : Gr} {i j : Int} (hG : IsG w nv rv G) (h : ∀ w', Fr [] w w' → K (.bool (G.hd i j)) w') : C.call Try.prog 25 #[.agg #[nv, rv], .int .i64 i, .int .i64 j] w K := by
  rw [← holdR_eq] at h
  refine F25.sh (GBlk.new hG fun b w1 hf1 hb1 hb hG1 => ?_)
  simp only [C.ite_true, C.ite_false, C.pick_true, C.pick_false, C.not_bool, C.field_ptr, C.nilCheck_ptr, C.add_mk, C.sub_mk, C.mul_mk, C.eql_mk, C.neq_mk, C.lss_mk, C.leq_mk, C.gtr_mk, C.geq_mk, C.conv_mk, C.len_mk, C.ext_0, C.ext_1, C.ext3_0, C.ext3_1, C.ext3_2, C.guarded_yes, C.guarded_tf, C.guarded_ft, C.guarded_undef, Bool.not_true, Bool.not_false, Nat.zero_add, eq_self, decide_true, decide_false]
  refine C.load1_of (v := nv) hb rfl (hG1.len_next ?_)
  have no : ¬ (0 ≤ i ∧ i < (G.n : Int) ∧ 0 ≤ j ∧ j < (G.n : Int)) → K (.bool false) w1 := fun hc => by
    have := h w1 hf1
    unfold Gr.holdR at this
    rw [decide_eq_false hc] at this
    exact this
  by_cases h0 : i < 0
  · simp only [C.ite_true, C.ite_false, C.pick_true, C.pick_false, C.not_bool, C.field_ptr, C.nilCheck_ptr, C.add_mk, C.sub_mk, C.mul_mk, C.eql_mk, C.neq_mk, C.lss_mk, C.leq_mk, C.gtr_mk, C.geq_mk, C.conv_mk, C.len_mk, C.ext_0, C.ext_1, C.ext3_0, C.ext3_1, C.ext3_2, C.guarded_yes, C.guarded_tf, C.guarded_ft, C.guarded_undef, Bool.not_true, Bool.not_false, Nat.zero_add, eq_self, decide_true, decide_false, h0]
    exact no (by omega)
  by_cases h1 : j < 0
  · simp only [C.ite_true, C.ite_false, C.pick_true, C.pick_false, C.not_bool, C.field_ptr, C.nilCheck_ptr, C.add_mk, C.sub_mk, C.mul_mk, C.eql_mk, C.neq_mk, C.lss_mk, C.leq_mk, C.gtr_mk, C.geq_mk, C.conv_mk, C.len_mk, C.ext_0, C.ext_1, C.ext3_0, C.ext3_1, C.ext3_2, C.guarded_yes, C.guarded_tf, C.guarded_ft, C.guarded_undef, Bool.not_true, Bool.not_false, Nat.zero_add, eq_self, decide_true, decide_false, h0, h1]
    exact no (by omega)
  by_cases h2 : (G.n : Int) ≤ i
  · simp only [C.ite_true, C.ite_false, C.pick_true, C.pick_false, C.not_bool, C.field_ptr, C.nilCheck_ptr, C.add_mk, C.sub_mk, C.mul_mk, C.eql_mk, C.neq_mk, C.lss_mk, C.leq_mk, C.gtr_mk, C.geq_mk, C.conv_mk, C.len_mk, C.ext_0, C.ext_1, C.ext3_0, C.ext3_1, C.ext3_2, C.guarded_yes, C.guarded_tf, C.guarded_ft, C.guarded_undef, Bool.not_true, Bool.not_false, Nat.zero_add, eq_self, decide_true, decide_false, h0, h1, ge_iff_le, h2]
    exact no (by omega)
  by_cases h3 : (G.n : Int) ≤ j
  · simp only [C.ite_true, C.ite_false, C.pick_true, C.pick_false, C.not_bool, C.field_ptr, C.nilCheck_ptr, C.add_mk, C.sub_mk, C.mul_mk, C.eql_mk, C.neq_mk, C.lss_mk, C.leq_mk, C.gtr_mk, C.geq_mk, C.conv_mk, C.len_mk, C.ext_0, C.ext_1, C.ext3_0, C.ext3_1, C.ext3_2, C.guarded_yes, C.guarded_tf, C.guarded_ft, C.guarded_undef, Bool.not_true, Bool.not_false, Nat.zero_add, eq_self, decide_true, decide_false, h0, h1, ge_iff_le, h2, h3]
    exact no (by omega)
  have hc : 0 ≤ i ∧ i < (G.n : Int) ∧ 0 ≤ j ∧ j < (G.n : Int) := by omega
  obtain ⟨a, rfl⟩ : ∃ a : Nat, i = (a : Int) := ⟨i.toNat, by omega⟩
  obtain ⟨c, rfl⟩ : ∃ c : Nat, j = (c : Int) := ⟨j.toNat, by omega⟩
  unfold Gr.holdR at h
  rw [decide_eq_true hc] at h
  simp only [Int.toNat_natCast, Bool.true_and] at h
  simp only [C.ite_true, C.ite_false, C.pick_true, C.pick_false, C.not_bool, C.field_ptr, C.nilCheck_ptr, C.add_mk, C.sub_mk, C.mul_mk, C.eql_mk, C.neq_mk, C.lss_mk, C.leq_mk, C.gtr_mk, C.geq_mk, C.conv_mk, C.len_mk, C.ext_0, C.ext_1, C.ext3_0, C.ext3_1, C.ext3_2, C.guarded_yes, C.guarded_tf, C.guarded_ft, C.guarded_undef, Bool.not_true, Bool.not_false, Nat.zero_add, eq_self, decide_true, decide_false, h0, h1, ge_iff_le, h2, h3]
  refine hb.all (plain36_c hG1 fun w2 hf2 hG2 => refDist_c hG2 fun dv w3 hf3 hn3 ho3 => C.idx_int ho3.rd (by rw [distL_len]; omega) fun g o cs e fz hg hcell => C.load1_of hg hcell ?_)
  rw [distL_get]
  have f13 := hf2.trans hf3
  by_cases h4 : G.dst c < 0
  · simp only [C.ite_true, C.ite_false, C.pick_true, C.pick_false, C.not_bool, C.field_ptr, C.nilCheck_ptr, C.add_mk, C.sub_mk, C.mul_mk, C.eql_mk, C.neq_mk, C.lss_mk, C.leq_mk, C.gtr_mk, C.geq_mk, C.conv_mk, C.len_mk, C.ext_0, C.ext_1, C.ext3_0, C.ext3_1, C.ext3_2, C.guarded_yes, C.guarded_tf, C.guarded_ft, C.guarded_undef, Bool.not_true, Bool.not_false, Nat.zero_add, eq_self, decide_true, decide_false, h4]
    have := h w3 (hf1.trans f13)
    rw [decide_eq_false (show ¬ 0 ≤ G.dst c by omega)] at this
    exact this
  · simp only [C.ite_true, C.ite_false, C.pick_true, C.pick_false, C.not_bool, C.field_ptr, C.nilCheck_ptr, C.add_mk, C.sub_mk, C.mul_mk, C.eql_mk, C.neq_mk, C.lss_mk, C.leq_mk, C.gtr_mk, C.geq_mk, C.conv_mk, C.len_mk, C.ext_0, C.ext_1, C.ext3_0, C.ext3_1, C.ext3_2, C.guarded_yes, C.guarded_tf, C.guarded_ft, C.guarded_undef, Bool.not_true, Bool.not_false, Nat.zero_add, eq_self, decide_true, decide_false, h4]
    rw [decide_eq_true (show 0 ≤ G.dst c by omega)] at h
    simp only [Bool.true_and] at h
    refine F25.k4.to ((hb.keep f13 (by simp)).all (plain36_c (hG1.keep f13) fun w4 hf4 hG4 => refWithout_c hG4 fun nv' rv' w5 hf5 hG5 => refDist_c hG5 fun ev w6 hf6 hn6 ho6 => C.idx_int ho6.rd (by rw [distL_len, wo_n]; omega) fun g o cs e fz hg hcell => C.load1_of hg hcell ?_))
    rw [distL_get]
    have f16 := ((f13.trans hf4).trans hf5).trans hf6
    by_cases h5 : (G.wo a).dst c < 0
    · rw [decide_eq_true h5] at h
      simp only [Bool.true_and] at h
      simp only [C.ite_true, C.ite_false, C.pick_true, C.pick_false, C.not_bool, C.field_ptr, C.nilCheck_ptr, C.add_mk, C.sub_mk, C.mul_mk, C.eql_mk, C.neq_mk, C.lss_mk, C.leq_mk, C.gtr_mk, C.geq_mk, C.conv_mk, C.len_mk, C.ext_0, C.ext_1, C.ext3_0, C.ext3_1, C.ext3_2, C.guarded_yes, C.guarded_tf, C.guarded_ft, C.guarded_undef, Bool.not_true, Bool.not_false, Nat.zero_add, eq_self, decide_true, decide_false, h5]
      refine (hb.keep f16 (by simp)).all (plain36_c (hG1.keep f16) fun w7 hf7 hG7 => refDist_c hG7 fun dv w8 hf8 hn8 ho8 => ?_)
      try simp only [C.ite_true, C.ite_false, C.pick_true, C.pick_false, C.not_bool, C.field_ptr, C.nilCheck_ptr, C.add_mk, C.sub_mk, C.mul_mk, C.eql_mk, C.neq_mk, C.lss_mk, C.leq_mk, C.gtr_mk, C.geq_mk, C.conv_mk, C.len_mk, C.ext_0, C.ext_1, C.ext3_0, C.ext3_1, C.ext3_2, C.guarded_yes, C.guarded_tf, C.guarded_ft, C.guarded_undef, Bool.not_true, Bool.not_false, Nat.zero_add, eq_self, decide_true, decide_false]
      refine C.idx_int ho8.rd (by rw [distL_len]; omega) fun g o cs e fz hg hcell => C.load1_of hg hcell ?_
      rw [distL_get]
      simp only [C.ite_true, C.ite_false, C.pick_true, C.pick_false, C.not_bool, C.field_ptr, C.nilCheck_ptr, C.add_mk, C.sub_mk, C.mul_mk, C.eql_mk, C.neq_mk, C.lss_mk, C.leq_mk, C.gtr_mk, C.geq_mk, C.conv_mk, C.len_mk, C.ext_0, C.ext_1, C.ext3_0, C.ext3_1, C.ext3_2, C.guarded_yes, C.guarded_tf, C.guarded_ft, C.guarded_undef, Bool.not_true, Bool.not_false, Nat.zero_add, eq_self, decide_true, decide_false, ge_iff_le]
      exact h w8 (((hf1.trans f16).trans hf7).trans hf8)
    · rw [decide_eq_false h5] at h
      simp only [C.ite_true, C.ite_false, C.pick_true, C.pick_false, C.not_bool, C.field_ptr, C.nilCheck_ptr, C.add_mk, C.sub_mk, C.mul_mk, C.eql_mk, C.neq_mk, C.lss_mk, C.leq_mk, C.gtr_mk, C.geq_mk, C.conv_mk, C.len_mk, C.ext_0, C.ext_1, C.ext3_0, C.ext3_1, C.ext3_2, C.guarded_yes, C.guarded_tf, C.guarded_ft, C.guarded_undef, Bool.not_true, Bool.not_false, Nat.zero_add, eq_self, decide_true, decide_false, h5]
      exact h w6 (hf1.trans f16)
end
end Go.Proofs.YtfhgjncbhjjbfaaV
