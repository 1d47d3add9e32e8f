/- The cache of pages: a new one; a thread's page. -/
import Derived.Test.YtfdpmgddlaamcaaCa1
namespace Go.Proofs.YtfdpmgddlaamcaaV
open Go Go.Proofs Go.RowKit
set_option linter.unusedVariables false
set_option linter.unusedSimpArgs false
set_option maxRecDepth 10000
/-- A cache: its block b, its map's block m, its threads n, what is in the map. -/
structure IsC (w : World) (b m : Nat) (n : Int) (l : List ((Int × Int) × Value × Nat)) (c : Nat) : Prop where
  blk : w.heap[b]? = some (.cells #[.int .i64 n, .map (some m)] 46 (0, 0))
  map : MapAt seatV w m l c
  int : ∀ x ∈ l, ∃ p : Int, x.2.1 = .int .i64 p
theorem IsC.keep {S : List Nat} {w w' : World} {b m c : Nat} {n : Int} {l : List ((Int × Int) × Value × Nat)} (h : IsC w b m n l c) (hf : Fr S w w') (hb : b ∉ S) (hm : m ∉ S) : IsC w' b m n l c :=
  ⟨hf.at_ h.blk hb, h.map.keep hf hm, h.int⟩
def valI : Value → Int
  | .int _ p => p
  | _ => -1
def pageOf (l : List ((Int × Int) × Value × Nat)) (a : Int × Int) : Int := match fnd a l 0 with
  | some (_, v) => valI v
  | none => -1
section
variable {K : VK} {w : World}
theorem bCache (n : Int) (m : Nat) : (Instr.build 46 #[(0, .int .i64 n), (1, .map (some m))]).run Try.prog w = .ok (.agg #[.int .i64 n, .map (some m)]) w := by kernel_rfl
theorem bSeat (t k : Int) : (Instr.build 104 #[(0, .int .i64 t), (1, .int .i64 k)]).run Try.prog w = .ok (seatV (t, k)) w := by kernel_rfl
theorem New_c {t : Int} (h : ∀ b m w', Fr [] w w' → w.heap.size ≤ b → w.heap.size ≤ m → b ≠ m → IsC w' b m (if t < 0 then 0 else if t > 9 then 9 else t) [] 0 → K (.pointer (some ⟨b, 0, none⟩)) w') : C.call Try.prog 15 #[.int .i64 t] w K := by
  refine F15.sh (Clamp_c ?_)
  generalize (if t < 0 then 0 else if t > 9 then 9 else t) = n at h ⊢
  refine C.makeMap_of (kv := seatV) fun w1 hf1 hm1 hs1 => C.run_of (bCache n _) ?_
  refine C.new_of fun b w2 hn2 => ?_
  have hi := hn2.is
  exact h b w.heap.size w2 (hf1.trans hn2.fr) (by have := hf1.size; omega) (Nat.le_refl _) (by omega) ⟨hn2.at_, hm1.keep hn2.fr (by simp), by simp⟩
theorem Page_c {b m c : Nat} {n t k : Int} {l : List ((Int × Int) × Value × Nat)} (hC : IsC w b m n l c) (h : K (.int .i64 (pageOf l (t, k))) w) : C.call Try.prog 21 #[.pointer (some ⟨b, 0, none⟩), .int .i64 t, .int .i64 k] w K := by
  refine F21.sh ⟨_, eq_ptr_nil _ _ _ Try.underlying27, ?_⟩
  simp only [C.ite_true, C.ite_false, C.pick_true, C.pick_false, C.not_bool, C.field_ptr, C.nilCheck_ptr, C.add_mk, C.sub_mk, C.mul_mk, C.eql_mk, C.neq_mk, C.lss_mk, C.leq_mk, C.gtr_mk, C.geq_mk, C.conv_mk, C.len_mk, C.ext_0, C.ext_1, C.ext3_0, C.ext3_1, C.ext3_2, C.guarded_yes, C.guarded_tf, C.guarded_ft, C.guarded_undef, Bool.not_true, Bool.not_false, Nat.zero_add, eq_self, decide_true, decide_false]
  refine F21.k3.to ?_
  simp only [C.ite_true, C.ite_false, C.pick_true, C.pick_false, C.not_bool, C.field_ptr, C.nilCheck_ptr, C.add_mk, C.sub_mk, C.mul_mk, C.eql_mk, C.neq_mk, C.lss_mk, C.leq_mk, C.gtr_mk, C.geq_mk, C.conv_mk, C.len_mk, C.ext_0, C.ext_1, C.ext3_0, C.ext3_1, C.ext3_2, C.guarded_yes, C.guarded_tf, C.guarded_ft, C.guarded_undef, Bool.not_true, Bool.not_false, Nat.zero_add, eq_self, decide_true, decide_false]
  refine C.load1_of (v := .map (some m)) hC.blk rfl (C.run_of (bSeat t k) ?_)
  have hx : ∀ {j : Nat} {v : Value}, fnd (t, k) l 0 = some (j, v) → ∃ p : Int, v = .int .i64 p := fun {j v} e => by
    have hex : ∃ x ∈ l, x.1 = (t, k) := by
      apply Classical.byContradiction
      intro hc
      rw [fnd_none fun x hx he => hc ⟨x, hx, he⟩] at e
      cases e
    obtain ⟨j', x, h1, _, _, h4⟩ := fnd_at (i := 0) hex
    rw [e] at h4
    simp only [Option.some.injEq, Prod.mk.injEq] at h4
    obtain ⟨p, hp⟩ := hC.int x (List.mem_of_getElem? h1)
    exact ⟨p, by rw [h4.2, hp]⟩
  cases e : fnd (t, k) l 0 with
  | none =>
    refine C.lookup_of keySeat Try.underlying44 (z := .int .i64 0) (by kernel_rfl) hC.map (t, k) (.inl ⟨e, rfl, rfl⟩) ?_
    simp only [C.ite_true, C.ite_false, C.pick_true, C.pick_false, C.not_bool, C.field_ptr, C.nilCheck_ptr, C.add_mk, C.sub_mk, C.mul_mk, C.eql_mk, C.neq_mk, C.lss_mk, C.leq_mk, C.gtr_mk, C.geq_mk, C.conv_mk, C.len_mk, C.ext_0, C.ext_1, C.ext3_0, C.ext3_1, C.ext3_2, C.guarded_yes, C.guarded_tf, C.guarded_ft, C.guarded_undef, Bool.not_true, Bool.not_false, Nat.zero_add, eq_self, decide_true, decide_false, if_true]
    refine F21.k6.to ?_
    simpa [pageOf, e] using h
  | some p =>
    obtain ⟨j, v⟩ := p
    obtain ⟨p, rfl⟩ := hx e
    refine C.lookup_of keySeat Try.underlying44 (z := .int .i64 0) (by kernel_rfl) hC.map (t, k) (.inr ⟨j, e, rfl⟩) ?_
    simp only [C.ite_true, C.ite_false, C.pick_true, C.pick_false, C.not_bool, C.field_ptr, C.nilCheck_ptr, C.add_mk, C.sub_mk, C.mul_mk, C.eql_mk, C.neq_mk, C.lss_mk, C.leq_mk, C.gtr_mk, C.geq_mk, C.conv_mk, C.len_mk, C.ext_0, C.ext_1, C.ext3_0, C.ext3_1, C.ext3_2, C.guarded_yes, C.guarded_tf, C.guarded_ft, C.guarded_undef, Bool.not_true, Bool.not_false, Nat.zero_add, eq_self, decide_true, decide_false, if_true]
    simpa [pageOf, e, valI] using h
end
end Go.Proofs.YtfdpmgddlaamcaaV
