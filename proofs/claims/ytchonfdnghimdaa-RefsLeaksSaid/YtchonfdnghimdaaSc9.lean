/- The parts of a graph, by the program: Parts. -/
import Derived.Test.YtchonfdnghimdaaSc8
import Derived.Test.YtchonfdnghimdaaSortF
namespace Go.Proofs.YtchonfdnghimdaaV
open Go Go.Proofs Go.RowKit
set_option linter.unusedVariables false
set_option linter.unusedSimpArgs false
set_option maxRecDepth 10000
section
variable {K : VK} {w : World}
theorem bodied43 : bodied Try.prog 43 = true := by kernel_rfl
theorem backward_loop {G B : Gr} {W : World} {rvb : Value} {l D b6 b7 bw x1 : Nat} {av mv ov : Value} {ord : List Nat} (hG : G.n ≤ 1000) (hB : ∀ w', Fr [b6] W w' → IsG w' av rvb B)
    (hn : B.n = G.n) (hD : Dp G ord []) (hall : ∀ v, v < G.n → v ∈ ord) (hT : Turned G B)
    (h : ∀ S Q w', PM .ready B.n W w' l D b6 b7 bw x1 av mv ov ord S Q → PP G B ord 0 S Q → K (.tuple #[]) w') :
    ∀ (j : Nat) (w : World) (S : List Nat) (Q : List (List Nat)), j ≤ ord.length → PM .ready B.n W w l D b6 b7 bw x1 av mv ov ord S Q → PP G B ord j S Q →
      F43.l1 K (.func (.yield l) #[] #[]) (.pointer (some ⟨x1, 0, none⟩)) (.int .i64 ((j : Int) - 1)) w := by
  have hol : ord.length ≤ G.n := by have := hD.len; simpa using this
  intro j
  induction j with
  | zero =>
    intro w S Q hj hM hP
    refine F43.l1.to ?_
    simp only [C.ite_true, C.ite_false, C.pick_true, C.pick_false, C.not_bool, C.field_ptr, C.nilCheck_ptr, C.add_mk, C.sub_mk, C.mul_mk, C.eql_mk, C.neq_mk, C.lss_mk, C.leq_mk, C.gtr_mk, C.geq_mk, C.conv_mk, C.len_mk, C.ext_0, C.ext_1, C.ext3_0, C.ext3_1, C.ext3_2, C.guarded_yes, C.guarded_tf, C.guarded_ft, C.guarded_undef, Bool.not_true, Bool.not_false, Nat.zero_add, eq_self, decide_true, decide_false, show ¬ (((0 : Nat) : Int) - 1 ≥ 0) by omega]
    exact h S Q w hM hP
  | succ j ih =>
    intro w S Q hj hM hP
    have jl : j < ord.length := by omega
    have jl' : j < (natI ord).length := by rw [natI_len]; exact jl
    refine F43.l1.to ?_
    rw [show ((j + 1 : Nat) : Int) - 1 = (j : Int) by omega]
    simp only [C.ite_true, C.ite_false, C.pick_true, C.pick_false, C.not_bool, C.field_ptr, C.nilCheck_ptr, C.add_mk, C.sub_mk, C.mul_mk, C.eql_mk, C.neq_mk, C.lss_mk, C.leq_mk, C.gtr_mk, C.geq_mk, C.conv_mk, C.len_mk, C.ext_0, C.ext_1, C.ext3_0, C.ext3_1, C.ext3_2, C.guarded_yes, C.guarded_tf, C.guarded_ft, C.guarded_undef, Bool.not_true, Bool.not_false, Nat.zero_add, eq_self, decide_true, decide_false, show ((j : Int) ≥ 0) by omega]
    refine F43.k3.to (C.load1_of (v := ov) hM.hx.1 rfl (C.idx_int hM.oo.rd jl' fun g o cs e fz hg hc => C.load1_of hg hc ?_))
    rw [natI_get jl jl']
    refine round_c (a39 := .int .i64 (j : Int)) hG hB hn hD hall hT jl hM hP fun S' Q' w' M' P' => ?_
    simp only [C.ite_true, C.ite_false, C.pick_true, C.pick_false, C.not_bool, C.field_ptr, C.nilCheck_ptr, C.add_mk, C.sub_mk, C.mul_mk, C.eql_mk, C.neq_mk, C.lss_mk, C.leq_mk, C.gtr_mk, C.geq_mk, C.conv_mk, C.len_mk, C.ext_0, C.ext_1, C.ext3_0, C.ext3_1, C.ext3_2, C.guarded_yes, C.guarded_tf, C.guarded_ft, C.guarded_undef, Bool.not_true, Bool.not_false, Nat.zero_add, eq_self, decide_true, decide_false]
    refine F43.k2.to ?_
    simp only [C.ite_true, C.ite_false, C.pick_true, C.pick_false, C.not_bool, C.field_ptr, C.nilCheck_ptr, C.add_mk, C.sub_mk, C.mul_mk, C.eql_mk, C.neq_mk, C.lss_mk, C.leq_mk, C.gtr_mk, C.geq_mk, C.conv_mk, C.len_mk, C.ext_0, C.ext_1, C.ext3_0, C.ext3_1, C.ext3_2, C.guarded_yes, C.guarded_tf, C.guarded_ft, C.guarded_undef, Bool.not_true, Bool.not_false, Nat.zero_add, eq_self, decide_true, decide_false]
    rw [wrap64_id (n := (j : Int) - 1) (by omega)]
    exact ih w' S' Q' (by omega) M' P'
theorem getD_map {α β : Type} {f : α → β} {l : List α} {i : Nat} {d : α} {e : β} (h : i < l.length) : (l.map f).getD i e = f (l.getD i d) := by
  simp [List.getD_eq_getElem?_getD, List.getElem?_eq_getElem h]
/-- What the parts come to, sorted. -/
theorem parts_end {G : Gr} {B : Gr} {W : World} {l D b6 b7 bw x1 : Nat} {av mv ov : Value} {ord S : List Nat} {Q : List (List Nat)} (hG : G.n ≤ 1000) (hall : ∀ v, v < G.n → v ∈ ord) (hM : PM .ready B.n W w l D b6 b7 bw x1 av mv ov ord S Q) (hP : PP G B ord 0 S Q)
    (h : ∀ pv w', Fr [b6] W w' → RowsAt w' pv (G.parts.map natI) → K pv w') : ∃ rec, w.heap[l]? = some (.loop rec) ∧ rec.state ≠ .busy ∧ C.left rec.pending (F11.k17 K (.pointer (some ⟨b6, 0, none⟩)) (.int .i64 (D : Int)) (w.putObj l (.loop { rec with state := .exhausted }))) (C.leave (.int .i64 (D : Int)) (w.putObj l (.loop { rec with state := .exhausted })) fun _ => False) (fun id => cond (Nat.beq id 2) (F11.k17 K (.pointer (some ⟨b6, 0, none⟩)) (.int .i64 (D : Int)) (w.putObj l (.loop { rec with state := .exhausted }))) False) := by
  obtain ⟨r, hr, hok⟩ := hM.rec_
  refine ⟨r, hr, by rw [hok.st]; simp, ?_⟩
  have hu := upd_put (o := .loop { r with state := .exhausted }) hr
  have M1 := hM.put (st' := .exhausted) (r' := { r with state := .exhausted }) hr ⟨rfl, hok.pe, hok.sz, hok.ps, hok.as_, hok.bd, hok.t6, hok.t7⟩ hu
  generalize w.putObj l (.loop { r with state := .exhausted }) = w1 at *
  rw [hok.pe]
  obtain ⟨pv, vs, c1, c2, c3, c4, c6, c5⟩ := M1.h6
  have hQl := hP.few
  have hin : ∀ p ∈ Q, ∃ k t, p = k :: t ∧ k < G.n := fun p hp => by
    obtain ⟨i, hi, rfl⟩ := hP.parts p hp
    obtain ⟨k, t, e, hk, _⟩ := scc_head hi
    exact ⟨k, t, e, ld_node hk.1⟩
  show F11.k17 K (.pointer (some ⟨b6, 0, none⟩)) (.int .i64 (D : Int)) w1
  refine F11.k17.to (C.load1_of (v := pv) c1 rfl (SortF_c (L := Q.map natI) c3 (by simp [c2]) (by simp; omega) (fun i a b => ?_) (fun r hr => ?_) fun A w2 hf2 hA hs ho2 => ?_))
  · have a' : i < Q.length := by simpa using a
    rw [List.getElem_map]
    exact c5 i a' b
  · obtain ⟨p, hp, rfl⟩ := List.mem_map.1 hr
    obtain ⟨k, t, rfl, hk⟩ := hin p hp
    simp only [natI, List.map_cons, fst0, List.headD_cons]
    exact ⟨by simp, by omega, by omega⟩
  · rw [List.length_map] at hA
    have n6 := c3.nb c1 (by decide)
    have c1' := hf2.at_ c1 n6
    have hD2 : w2.heap[D]? = some (.deferred (some [])) := hf2.at_ M1.df fun hg => by
      obtain ⟨⟨_, hx⟩, _⟩ := c3
      rcases hx with ⟨e, _⟩ | ⟨k, cap, cur, e, _, hh, _⟩
      · rw [e] at hg; simp [blkS, Value.ownBlock] at hg
      · rw [e] at hg
        simp [blkS, Value.ownBlock] at hg
        subst hg
        rw [M1.df] at hh
        cases hh
    refine C.load1_of (v := pv) c1' rfl ⟨by rw [Int.toNat_natCast]; exact hD2, ?_⟩
    rw [Int.toNat_natCast]
    have hu3 := upd_put (o := .deferred none) hD2
    generalize w2.putObj D (.deferred none) = w3 at *
    have no : ∀ {v : Value} {e : TypeId} {sz : Nat} {xs : List (List Value)}, OwnS w2 v e sz xs → OwnS w3 v e sz xs := fun ho => ho.keep' hu3.fr fun g hg c => by
      obtain ⟨⟨_, hx⟩, _⟩ := ho
      rcases hx with ⟨e, _⟩ | ⟨k, cap, cur, e, _, hh, _⟩
      · rw [e] at hg; simp [blkS, Value.ownBlock] at hg
      · rw [e] at hg
        simp [blkS, Value.ownBlock] at hg
        subst hg
        simp only [List.mem_singleton] at c
        subst c
        rw [hD2] at hh
        cases hh
    have hAl : ∀ i ∈ A, i < Q.length := fun i hi => List.mem_range.1 (hA.mem_iff.1 hi)
    have eQ : A.map (fun i => Q.getD i []) = G.parts := by
      have hperm : (A.map fun i => Q.getD i []).Perm Q := by
        refine (hA.map _).trans ?_
        have : (List.range Q.length).map (fun i => Q.getD i []) = Q := by
          apply List.ext_getElem
          · simp
          · intro i h1 h2
            simp [List.getD_eq_getElem?_getD, List.getElem?_eq_getElem h2]
        rw [this]
      refine parts_is (fun p hp => hP.parts p (hperm.mem_iff.1 hp)) (fun i hi => hperm.mem_iff.2 ?_) ?_ (hperm.nodup_iff.2 hP.nd)
      · have hiS := hP.done i (by rw [List.drop_zero]; exact hall i hi)
        obtain ⟨p, hp, hip⟩ := (hP.cov i).1 hiS
        obtain ⟨k, hk, rfl⟩ := hP.parts p hp
        rw [← scc_eq (scc_mem.1 hip)]
        exact hp
      · rw [List.pairwise_map]
        refine List.Pairwise.imp_of_mem (fun {a b} ha hb hab => ?_) hs
        have la := hAl a ha
        have lb := hAl b hb
        rw [getD_map (d := []) la, getD_map (d := []) lb] at hab
        obtain ⟨k, t, e1, _⟩ := hin (Q.getD a []) (by simp [List.getD_eq_getElem?_getD, List.getElem?_eq_getElem la])
        obtain ⟨k', t', e2, _⟩ := hin (Q.getD b []) (by simp [List.getD_eq_getElem?_getD, List.getElem?_eq_getElem lb])
        rw [e1, e2] at hab ⊢
        simp only [natI, List.map_cons, fst0, List.headD_cons] at hab
        simp only [hd0, List.headD_cons]
        omega
    refine h pv w3 ((M1.fr.then hf2 fun z hz => .inr (c4.blk z hz)).then hu3.fr fun z hz => .inr (by simp only [List.mem_singleton] at hz; have := M1.lo; omega)) ⟨_, (no ho2).rd, by rw [← eQ]; simp, fun i a b => ?_⟩
    · have a' : i < A.length := by have := b; simpa using this
      have la := hAl _ (List.getElem_mem a')
      have lv : A[i] < vs.length := by omega
      have e1 : (G.parts.map natI)[i]'a = natI Q[A[i]] := by
        rw [List.getElem_map]
        have : G.parts[i]'(by simpa using a) = Q[A[i]] := by
          have e3 : G.parts = A.map (fun i => Q.getD i []) := eQ.symm
          simp only [e3, List.getElem_map, List.getD_eq_getElem?_getD, List.getElem?_eq_getElem la, Option.getD_some]
        rw [this]
      have e2 : (A.map fun i => vs.getD i (.slice none 0 0))[i]'b = vs[A[i]] := by
        rw [List.getElem_map]
        simp [List.getD_eq_getElem?_getD, List.getElem?_eq_getElem lv]
      rw [e1, e2]
      have o1 := c5 A[i] la lv
      exact (no (o1.keep' hf2 fun g hg c => (c3.ne o1 (by decide)) g c hg)).rd
end
end Go.Proofs.YtchonfdnghimdaaV
