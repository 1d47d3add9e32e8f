/- The cache of pages: whose a page is. -/
import Derived.Test.YtfdpmgddlaamcaaCa2
import Derived.Maps.RangeRun
namespace Go.Proofs.YtfdpmgddlaamcaaV
open Go Go.Proofs Go.RowKit
open Go.ChangeMaps (setBlock)
set_option linter.unusedVariables false
set_option linter.unusedSimpArgs false
set_option maxRecDepth 10000
def isPg (p : Int) : Value → Bool
  | .int .i64 q => decide (q = p)
  | _ => false
theorem isPg_iff {p : Int} {v : Value} : isPg p v = true ↔ v = .int .i64 p := by
  unfold isPg
  split
  · simp
  · rename_i h
    simp only [Bool.false_eq_true, false_iff]
    exact fun e => h p e
def ownerOf (l : List ((Int × Int) × Value × Nat)) (p : Int) : Int × Int := match l.find? (fun x => isPg p x.2.1) with
  | some x => x.1
  | none => (-1, 0)
theorem ownerOf_none {l : List ((Int × Int) × Value × Nat)} {p : Int} (h : ∀ x ∈ l, x.2.1 ≠ .int .i64 p) : ownerOf l p = (-1, 0) := by
  unfold ownerOf
  rw [List.find?_eq_none.2 fun x hx => fun e => h x hx (isPg_iff.1 e)]
theorem ownerOf_some {l : List ((Int × Int) × Value × Nat)} {p : Int} {x : (Int × Int) × Value × Nat} (hx : x ∈ l) (hp : x.2.1 = .int .i64 p) (hu : ∀ x ∈ l, ∀ y ∈ l, x.2.1 = y.2.1 → x = y) : ownerOf l p = x.1 := by
  unfold ownerOf
  cases e : l.find? (fun x => isPg p x.2.1) with
  | none => exact absurd (isPg_iff.2 hp) (List.find?_eq_none.1 e x hx)
  | some y =>
    have h1 := List.mem_of_find?_eq_some e
    have h2 : y.2.1 = .int .i64 p := isPg_iff.1 (by have := List.find?_some e; exact this)
    rw [hu x hx y h1 (by rw [hp, h2])]
/-- What a cache's map keeps. -/
structure Good (l : List ((Int × Int) × Value × Nat)) (c : Nat) : Prop where
  born : ∀ x ∈ l, x.2.2 < c
  once : (l.map fun x => x.2.2).Nodup
  uni : ∀ x ∈ l, ∀ y ∈ l, x.2.1 = y.2.1 → x = y
section
variable {K : VK} {w : World}
theorem upd_setBlock {r : Nat} {o o' : Obj} (hr : w.heap[r]? = some o) : Upd w r o' (setBlock w r o') := upd_putObj hr o'
theorem owner_loop {W : World} {b m c r : Nat} {n p : Int} {l : List ((Int × Int) × Value × Nat)} (hC : IsC W b m n l c) (hg : Good l c) (hr0 : W.heap.size ≤ r)
    (h : ∀ w', Fr [] W w' → K (.tuple #[.int .i64 (ownerOf l p).1, .int .i64 (ownerOf l p).2]) w') :
    ∀ (d : Nat) (seen : Array Nat) (w : World), (leftOf (l.map (ent seatV)).toArray seen).size ≤ d → Fr [] W w → w.heap[r]? = some (.mapIter (some m) c seen c) → (∀ x ∈ l, seen.contains x.2.2 = true → x.2.1 ≠ .int .i64 p) →
      F20.l4 K (.int .i64 p) (.pointer (some ⟨r, 0, none⟩)) w := by
  have hmW := lt_of_at hC.map
  intro d
  induction d with
  | zero =>
    intro seen w hd hf hr hs
    have hm := hC.map.keep hf (by simp)
    rcases run_next_at (P := Try.prog) w 0 r m c c seen _ c hr hm (fun x hx => by
      simp only [List.mem_map] at hx
      obtain ⟨y, hy, rfl⟩ := hx
      exact hg.born y hy) (Nat.le_refl _) with ⟨h0, hrun⟩ | ⟨e, he, w1, hal, hrun⟩
    · refine F20.l4.to (C.run_of hrun ⟨#[.bool false], .bool false, rfl, rfl, ?_⟩)
      simp only [C.ite_true, C.ite_false, C.pick_true, C.pick_false, C.not_bool, C.field_ptr, C.nilCheck_ptr, C.add_mk, C.sub_mk, C.mul_mk, C.eql_mk, C.neq_mk, C.lss_mk, C.leq_mk, C.gtr_mk, C.geq_mk, C.conv_mk, C.len_mk, C.ext_0, C.ext_1, C.ext3_0, C.ext3_1, C.ext3_2, C.guarded_yes, C.guarded_tf, C.guarded_ft, C.guarded_undef, Bool.not_true, Bool.not_false, Nat.zero_add, eq_self, decide_true, decide_false]
      refine F20.k8.to ?_
      have := h w hf
      rwa [ownerOf_none fun x hx => hs x hx (all_seen _ _ h0 _ (List.mem_map.2 ⟨x, hx, rfl⟩))] at this
    · have := Array.size_pos_of_mem (Array.mem_toList_iff.1 he)
      omega
  | succ d ih =>
    intro seen w hd hf hr hs
    have hm := hC.map.keep hf (by simp)
    rcases run_next_at (P := Try.prog) w 0 r m c c seen _ c hr hm (fun x hx => by
      simp only [List.mem_map] at hx
      obtain ⟨y, hy, rfl⟩ := hx
      exact hg.born y hy) (Nat.le_refl _) with ⟨h0, hrun⟩ | ⟨e, he, w1, hal, hrun⟩
    · refine F20.l4.to (C.run_of hrun ⟨#[.bool false], .bool false, rfl, rfl, ?_⟩)
      simp only [C.ite_true, C.ite_false, C.pick_true, C.pick_false, C.not_bool, C.field_ptr, C.nilCheck_ptr, C.add_mk, C.sub_mk, C.mul_mk, C.eql_mk, C.neq_mk, C.lss_mk, C.leq_mk, C.gtr_mk, C.geq_mk, C.conv_mk, C.len_mk, C.ext_0, C.ext_1, C.ext3_0, C.ext3_1, C.ext3_2, C.guarded_yes, C.guarded_tf, C.guarded_ft, C.guarded_undef, Bool.not_true, Bool.not_false, Nat.zero_add, eq_self, decide_true, decide_false]
      refine F20.k8.to ?_
      have := h w hf
      rwa [ownerOf_none fun x hx => hs x hx (all_seen _ _ h0 _ (List.mem_map.2 ⟨x, hx, rfl⟩))] at this
    · have hsh := left_shrinks _ _ _ he
      obtain ⟨hem, hes⟩ := mem_left he
      obtain ⟨x, hx, rfl⟩ := List.mem_map.1 hem
      have f1 : Fr [] w w1 ∧ w1.heap = w.heap := by
        rcases hal with rfl | rfl
        · exact ⟨Fr.refl _ _, rfl⟩
        · exact ⟨Fr.drew w, rfl⟩
      have hr1 : w1.heap[r]? = some (.mapIter (some m) c seen c) := by rw [f1.2]; exact hr
      have hu := upd_setBlock (o' := .mapIter (some m) c (seen.push x.2.2) c) hr1
      have ff : Fr [] W (setBlock w1 r (.mapIter (some m) c (seen.push x.2.2) c)) := (hf.trans f1.1).then hu.fr fun z hz => .inr (by simp only [List.mem_singleton] at hz; omega)
      refine F20.l4.to (C.run_of hrun ?_)
      simp only [C.ite_true, C.ite_false, C.pick_true, C.pick_false, C.not_bool, C.field_ptr, C.nilCheck_ptr, C.add_mk, C.sub_mk, C.mul_mk, C.eql_mk, C.neq_mk, C.lss_mk, C.leq_mk, C.gtr_mk, C.geq_mk, C.conv_mk, C.len_mk, C.ext_0, C.ext_1, C.ext3_0, C.ext3_1, C.ext3_2, C.guarded_yes, C.guarded_tf, C.guarded_ft, C.guarded_undef, Bool.not_true, Bool.not_false, Nat.zero_add, eq_self, decide_true, decide_false]
      have hrun2 := run_entry_at (P := Try.prog) _ r m c seen _ c (ent seatV x) hu.at_ (hC.map.keep ff (by simp)) hem (by simpa [ent, Function.comp_def] using hg.once)
      refine F20.k5.to (C.run_of hrun2 ?_)
      obtain ⟨q, hq⟩ := hC.int x hx
      simp only [C.ite_true, C.ite_false, C.pick_true, C.pick_false, C.not_bool, C.field_ptr, C.nilCheck_ptr, C.add_mk, C.sub_mk, C.mul_mk, C.eql_mk, C.neq_mk, C.lss_mk, C.leq_mk, C.gtr_mk, C.geq_mk, C.conv_mk, C.len_mk, C.ext_0, C.ext_1, C.ext3_0, C.ext3_1, C.ext3_2, C.guarded_yes, C.guarded_tf, C.guarded_ft, C.guarded_undef, Bool.not_true, Bool.not_false, Nat.zero_add, eq_self, decide_true, decide_false, ent, hq]
      refine C.new_of fun g w2 hn2 => C.store_all (x := seatV x.1) hn2.at_ rfl (by simp [seatV, Value.cells, Value.oneCell']) rfl fun w3 hu3 => ?_
      have i2 := hn2.is
      have s2 := ff.size
      have f2 : Fr [] W w3 := (ff.trans hn2.fr).then hu3.fr fun z hz => .inr (by simp only [List.mem_singleton] at hz; omega)
      by_cases c1 : q = p
      · subst c1
        simp only [C.ite_true, C.ite_false, C.pick_true, C.pick_false, C.not_bool, C.field_ptr, C.nilCheck_ptr, C.add_mk, C.sub_mk, C.mul_mk, C.eql_mk, C.neq_mk, C.lss_mk, C.leq_mk, C.gtr_mk, C.geq_mk, C.conv_mk, C.len_mk, C.ext_0, C.ext_1, C.ext3_0, C.ext3_1, C.ext3_2, C.guarded_yes, C.guarded_tf, C.guarded_ft, C.guarded_undef, Bool.not_true, Bool.not_false, Nat.zero_add, eq_self, decide_true, decide_false]
        refine C.draw_of (fun w' => Fr [] w3 w') fun w4 hf4 _ => ⟨hf4, ?_⟩
        try simp only [C.ite_true, C.ite_false, C.pick_true, C.pick_false, C.not_bool, C.field_ptr, C.nilCheck_ptr, C.add_mk, C.sub_mk, C.mul_mk, C.eql_mk, C.neq_mk, C.lss_mk, C.leq_mk, C.gtr_mk, C.geq_mk, C.conv_mk, C.len_mk, C.ext_0, C.ext_1, C.ext3_0, C.ext3_1, C.ext3_2, C.guarded_yes, C.guarded_tf, C.guarded_ft, C.guarded_undef, Bool.not_true, Bool.not_false, Nat.zero_add, eq_self, decide_true, decide_false]
        refine C.load1S_of (v := .int .i64 x.1.1) (fun w' hw => ⟨_, _, _, hw.at_ hu3.at_ (by simp), rfl⟩) ?_
        refine C.load1S_of (v := .int .i64 x.1.2) (fun w' hw => ⟨_, _, _, hw.at_ hu3.at_ (by simp), rfl⟩) ?_
        have := h w4 (f2.trans hf4)
        rwa [ownerOf_some hx hq hg.uni] at this
      · simp only [C.ite_true, C.ite_false, C.pick_true, C.pick_false, C.not_bool, C.field_ptr, C.nilCheck_ptr, C.add_mk, C.sub_mk, C.mul_mk, C.eql_mk, C.neq_mk, C.lss_mk, C.leq_mk, C.gtr_mk, C.geq_mk, C.conv_mk, C.len_mk, C.ext_0, C.ext_1, C.ext3_0, C.ext3_1, C.ext3_2, C.guarded_yes, C.guarded_tf, C.guarded_ft, C.guarded_undef, Bool.not_true, Bool.not_false, Nat.zero_add, eq_self, decide_true, decide_false, c1]
        refine ih (seen.push x.2.2) w3 (by have : (ent seatV x).born = x.2.2 := rfl; rw [this] at hsh; omega) f2 ?_ fun y hy hc => ?_
        · refine hu3.fr.at_ (hn2.fr.at_ hu.at_ (by simp)) ?_
          have := lt_of_at hu.at_
          simp only [List.mem_singleton]
          omega
        · rw [Array.contains_push, Bool.or_eq_true] at hc
          rcases hc with hc | hc
          · exact hs y hy hc
          · have e2 : y.2.2 = x.2.2 := by simpa using hc
            intro hyp
            have : x = y := by
              obtain ⟨i, hi, rfl⟩ := List.getElem_of_mem hx
              obtain ⟨j, hj, rfl⟩ := List.getElem_of_mem hy
              by_cases eij : i = j
              · subst eij; rfl
              · rcases Nat.lt_or_gt_of_ne eij with hlt | hlt
                · have q := List.pairwise_iff_getElem.1 hg.once i j (by simpa using hi) (by simpa using hj) hlt; simp only [List.getElem_map] at q; exact absurd e2.symm q
                · have q := List.pairwise_iff_getElem.1 hg.once j i (by simpa using hj) (by simpa using hi) hlt; simp only [List.getElem_map] at q; exact absurd e2 q
            subst this
            rw [hq] at hyp
            simp only [Value.int.injEq, true_and] at hyp
            exact c1 hyp
theorem Owner_c {b m c : Nat} {n p : Int} {l : List ((Int × Int) × Value × Nat)} (hC : IsC w b m n l c) (hg : Good l c)
    (h : ∀ w', Fr [] w w' → K (.tuple #[.int .i64 (ownerOf l p).1, .int .i64 (ownerOf l p).2]) w') : C.call Try.prog 20 #[.pointer (some ⟨b, 0, none⟩), .int .i64 p] w K := by
  refine F20.sh ⟨_, eq_ptr_nil _ _ _ Try.underlying27, ?_⟩
  simp only [C.ite_true, C.ite_false, C.pick_true, C.pick_false, C.not_bool, C.field_ptr, C.nilCheck_ptr, C.add_mk, C.sub_mk, C.mul_mk, C.eql_mk, C.neq_mk, C.lss_mk, C.leq_mk, C.gtr_mk, C.geq_mk, C.conv_mk, C.len_mk, C.ext_0, C.ext_1, C.ext3_0, C.ext3_1, C.ext3_2, C.guarded_yes, C.guarded_tf, C.guarded_ft, C.guarded_undef, Bool.not_true, Bool.not_false, Nat.zero_add, eq_self, decide_true, decide_false]
  refine F20.k3.to ?_
  simp only [C.ite_true, C.ite_false, C.pick_true, C.pick_false, C.not_bool, C.field_ptr, C.nilCheck_ptr, C.add_mk, C.sub_mk, C.mul_mk, C.eql_mk, C.neq_mk, C.lss_mk, C.leq_mk, C.gtr_mk, C.geq_mk, C.conv_mk, C.len_mk, C.ext_0, C.ext_1, C.ext3_0, C.ext3_1, C.ext3_2, C.guarded_yes, C.guarded_tf, C.guarded_ft, C.guarded_undef, Bool.not_true, Bool.not_false, Nat.zero_add, eq_self, decide_true, decide_false]
  refine C.load1_of (v := .map (some m)) hC.blk rfl (C.run_of (run_range_map w 44 104 3 m _ c Try.underlying44 hC.map) ?_)
  have hn := New.mk' w (.mapIter (some m) c #[] c)
  exact owner_loop hC hg (Nat.le_refl _) h _ #[] _ (Nat.le_refl _) hn.fr hn.at_ fun x _ hx => by simp at hx
end
end Go.Proofs.YtfdpmgddlaamcaaV
