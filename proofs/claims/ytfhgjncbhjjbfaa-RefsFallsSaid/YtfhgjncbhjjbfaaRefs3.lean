/- Counting references: what two ways to count, and to free, keep true. -/
import Derived.Test.YtfhgjncbhjjbfaaRefs2
namespace Go.Proofs.YtfhgjncbhjjbfaaV
open Go Go.Proofs Go.RowKit
set_option linter.unusedVariables false
set_option linter.unusedSimpArgs false
set_option maxRecDepth 10000
/-! ### 1. Counts -/
def Gr.cntR (G : Gr) (P : Nat → Bool) (j : Int) : Nat → Nat
  | 0 => 0
  | m + 1 => G.cntR P j m + cond (P m) 0 ((G.row m).count j)
def Gr.cnt (G : Gr) (P : Nat → Bool) (j : Int) : Nat := G.roots.count j + G.cntR P j G.n
theorem cntR_mono {G : Gr} {P Q : Nat → Bool} {j : Int} (h : ∀ k, P k = true → Q k = true) : ∀ m, G.cntR Q j m ≤ G.cntR P j m
  | 0 => Nat.le_refl _
  | m + 1 => by
    have ih := cntR_mono (G := G) (j := j) h m
    simp only [Gr.cntR]
    cases hp : P m with
    | true => rw [h m hp]; simpa using ih
    | false => cases hq : Q m <;> simp only [cond_true, cond_false] <;> omega
theorem cnt_mono {G : Gr} {P Q : Nat → Bool} {j : Int} (h : ∀ k, P k = true → Q k = true) : G.cnt Q j ≤ G.cnt P j := Nat.add_le_add_left (cntR_mono h _) _
theorem cntR_congr {G : Gr} {P Q : Nat → Bool} {j : Int} : ∀ m, (∀ k, k < m → P k = Q k) → G.cntR P j m = G.cntR Q j m
  | 0, _ => rfl
  | m + 1, h => by simp only [Gr.cntR]; rw [cntR_congr m (fun k hk => h k (by omega)), h m (by omega)]
theorem cnt_congr {G : Gr} {P Q : Nat → Bool} {j : Int} (h : ∀ k, k < G.n → P k = Q k) : G.cnt P j = G.cnt Q j := by unfold Gr.cnt; rw [cntR_congr _ h]
theorem cntR_ins {G : Gr} {P : Nat → Bool} {j : Int} {i : Nat} (hi : P i = false) : ∀ m, G.cntR (upd P i true) j m + (if i < m then (G.row i).count j else 0) = G.cntR P j m
  | 0 => by simp [Gr.cntR]
  | m + 1 => by
    have ih := cntR_ins (G := G) (j := j) hi m
    simp only [Gr.cntR, upd_ap]
    by_cases c : m = i
    · subst c
      rw [if_pos rfl, if_pos (by omega), hi]
      rw [if_neg (by omega)] at ih
      simp only [cond_true, cond_false]
      omega
    · rw [if_neg c]
      by_cases c' : i < m
      · rw [if_pos c'] at ih
        rw [if_pos (by omega)]
        omega
      · rw [if_neg c'] at ih
        rw [if_neg (by omega)]
        omega
theorem cnt_ins {G : Gr} {P : Nat → Bool} {j : Int} {i : Nat} (hi : P i = false) (hn : i < G.n) : G.cnt (upd P i true) j + (G.row i).count j = G.cnt P j := by
  have := cntR_ins (G := G) (j := j) hi G.n
  rw [if_pos hn] at this
  unfold Gr.cnt
  omega
theorem cntR_row {G : Gr} {P : Nat → Bool} {j : Int} {i : Nat} (hi : P i = false) : ∀ m, i < m → (G.row i).count j ≤ G.cntR P j m
  | 0, h => by omega
  | m + 1, h => by
    simp only [Gr.cntR]
    by_cases c : i = m
    · subst c; rw [hi, cond_false]; omega
    · have := cntR_row (G := G) (j := j) hi m (by omega); omega
theorem cnt_row {G : Gr} {P : Nat → Bool} {j : Int} {i : Nat} (hi : P i = false) (hn : i < G.n) : (G.row i).count j ≤ G.cnt P j := by
  have := cntR_row (G := G) (j := j) hi G.n hn
  unfold Gr.cnt
  omega
theorem nod_count {G : Gr} {l : List Int} {j : Nat} (hj : j < G.n) : (G.nod l).count (j : Int) = l.count (j : Int) := by
  unfold Gr.nod
  exact List.count_filter (by simp; omega)
theorem cntR_flat {G : Gr} {j : Int} : ∀ m, m ≤ G.n → G.cntR (fun _ => false) j m = ((G.next.take m).flatten).count j
  | 0, _ => by simp [Gr.cntR]
  | m + 1, h => by
    have ih := cntR_flat (G := G) (j := j) m (by omega)
    simp only [Gr.cntR]
    rw [ih, List.take_succ_eq_append_getElem (show m < G.next.length from h), List.flatten_append, List.count_append, row_get (show m < G.n from h)]
    simp
    rfl
theorem flat_count {G : Gr} {j : Nat} (hj : j < G.n) : G.flat.count (j : Int) = G.cnt (fun _ => false) (j : Int) := by
  unfold Gr.flat Gr.cnt
  rw [nod_count hj, List.flatten_cons, List.count_append, cntR_flat G.n (Nat.le_refl _), show G.next.take G.n = G.next from List.take_of_length_le (Nat.le_refl _)]
theorem flatten_le {B : Nat} : ∀ (L : List (List Int)), (∀ r ∈ L, r.length ≤ B) → L.flatten.length ≤ L.length * B
  | [], _ => by simp
  | a :: L, h => by
    have := flatten_le L fun r hr => h r (by simp [hr])
    have := h a (by simp)
    rw [List.flatten_cons, List.length_append, List.length_cons, Nat.add_mul]
    omega
theorem flat_le {w : World} {nv rv : Value} {G : Gr} (hG : IsG w nv rv G) : G.flat.length ≤ 17609778230460416 := by
  have h1 := flatten_le (B := 17592186044416) (G.roots :: G.next) fun r hr => by
    rcases List.mem_cons.1 hr with rfl | hr
    · exact hG.rlen
    · exact hG.nlen r hr
  have h2 := hG.few
  have h3 : (G.roots :: G.next).length = G.n + 1 := rfl
  rw [h3] at h1
  unfold Gr.flat Gr.nod
  have := List.length_filter_le (fun k => decide (0 ≤ k ∧ k < (G.n : Int))) (G.roots :: G.next).flatten
  omega
theorem cntR_le {G : Gr} {P : Nat → Bool} {j : Int} {B : Nat} (hB : ∀ k, (G.row k).length ≤ B) : ∀ m, G.cntR P j m ≤ m * B
  | 0 => Nat.zero_le _
  | m + 1 => by
    have ih := cntR_le (P := P) (j := j) hB m
    simp only [Gr.cntR]
    have h1 := hB m
    have h2 : (G.row m).count j ≤ (G.row m).length := List.count_le_length
    rw [Nat.add_mul]
    cases P m <;> simp only [cond_true, cond_false] <;> omega
theorem cnt_le {w : World} {nv rv : Value} {G : Gr} {P : Nat → Bool} {j : Int} (hG : IsG w nv rv G) : G.cnt P j ≤ 17609778230460416 := by
  have h1 := cntR_le (P := P) (j := j) (row_len hG) G.n
  have h2 : G.roots.count j ≤ G.roots.length := List.count_le_length
  have h3 := hG.rlen
  have h4 := hG.few
  unfold Gr.cnt
  omega
/-! ### 2. What counting frees, by rounds -/
def Gr.fr (G : Gr) : Nat → Nat → Bool
  | 0, _ => false
  | r + 1, j => G.fr r j || decide (G.cnt (G.fr r) (j : Int) = 0)
def Gr.free (G : Gr) (j : Nat) : Bool := G.fr G.n j
theorem fr_mono {G : Gr} {j : Nat} : ∀ {r s : Nat}, r ≤ s → G.fr r j = true → G.fr s j = true
  | r, 0, h, hf => by obtain rfl : r = 0 := by omega
                      exact hf
  | r, s + 1, h, hf => by
    by_cases c : r = s + 1
    · subst c; exact hf
    · have := fr_mono (G := G) (j := j) (show r ≤ s by omega) hf
      simp [Gr.fr, this]
/-! ### 3. By a row of those that are free -/
structure WI (G : Gr) (at_ : Nat) (pre : List Int) (C : List Int) (q : List Nat) : Prop where
  len : C.length = G.n
  nd : q.Nodup
  lt : ∀ x ∈ q, x < G.n
  val : ∀ j (h : j < C.length), C[j] + (pre.count (j : Int) : Int) = (G.cnt (fun k => decide (k ∈ q.take at_)) (j : Int) : Int)
  zero : ∀ j (h : j < C.length), j ∈ q ↔ C[j] = 0
  just : ∀ p (h : p < q.length), G.cnt (fun k => decide (k ∈ q.take p)) (q[p] : Int) = 0
theorem WI.qlen {G : Gr} {at_ : Nat} {pre C : List Int} {q : List Nat} (h : WI G at_ pre C q) : q.length ≤ G.n := nodup_lt_length _ q h.nd h.lt
theorem WI.nonneg {G : Gr} {at_ : Nat} {pre C : List Int} {q : List Nat} (h : WI G at_ pre C q) {suf : List Int} (hs : ∃ hq : at_ < q.length, G.nod (G.row q[at_]) = pre ++ suf) : ∀ j (hj : j < C.length), (suf.count (j : Int) : Int) ≤ C[j] := by
  intro j hj
  obtain ⟨hq, he⟩ := hs
  have h1 := h.val j hj
  have h2 : (decide (q[at_] ∈ q.take at_)) = false := by
    refine decide_eq_false fun c => ?_
    obtain ⟨i, hi, e⟩ := List.getElem_of_mem c
    rw [List.getElem_take] at e
    rw [List.length_take] at hi
    exact absurd e (List.pairwise_iff_getElem.1 h.nd i at_ (by omega) hq (by omega))
  have h3 := cnt_row (G := G) (P := fun k => decide (k ∈ q.take at_)) (j := (j : Int)) (i := q[at_]) h2 (h.lt _ (List.getElem_mem _))
  have h4 : (G.row q[at_]).count (j : Int) = pre.count (j : Int) + suf.count (j : Int) := by
    rw [← nod_count (G := G) (by rw [← h.len]; exact hj), he, List.count_append]
  omega
/-- An edge taken away. -/
theorem WI.step {G : Gr} {at_ k : Nat} {pre C suf : List Int} {q : List Nat} (h : WI G at_ pre C q) (hs : ∃ hq : at_ < q.length, G.nod (G.row q[at_]) = pre ++ (k : Int) :: suf) (hk : k < C.length) :
    (C[k] - 1 ≠ 0 → WI G at_ (pre ++ [(k : Int)]) (C.set k (C[k] - 1)) q) ∧ (C[k] - 1 = 0 → WI G at_ (pre ++ [(k : Int)]) (C.set k (C[k] - 1)) (q ++ [k])) := by
  have hpos := h.nonneg hs k hk
  rw [List.count_cons_self] at hpos
  have hge : 1 ≤ C[k] := by omega
  obtain ⟨hq, he⟩ := hs
  have hcnt : ∀ j : Nat, ((pre ++ [(k : Int)]).count (j : Int) : Int) = (pre.count (j : Int) : Int) + if k = j then 1 else 0 := fun j => by
    rw [List.count_append, List.count_singleton]
    by_cases c : k = j
    · subst c; simp
    · have : ¬ ((k : Int) = (j : Int)) := by omega
      simp [c, this]
  have hval : ∀ j (hj : j < (C.set k (C[k] - 1)).length), (C.set k (C[k] - 1))[j] + ((pre ++ [(k : Int)]).count (j : Int) : Int) = (G.cnt (fun k => decide (k ∈ q.take at_)) (j : Int) : Int) := fun j hj => by
    simp only [List.length_set] at hj
    have := h.val j hj
    rw [hcnt, List.getElem_set]
    by_cases c : k = j
    · subst c; rw [if_pos rfl, if_pos rfl]; omega
    · rw [if_neg c, if_neg c]; omega
  refine ⟨fun hne => ⟨by simpa using h.len, h.nd, h.lt, hval, fun j hj => ?_, h.just⟩, fun hz => ?_⟩
  · simp only [List.length_set] at hj
    rw [List.getElem_set]
    by_cases c : k = j
    · subst c
      rw [if_pos rfl, h.zero k hk]
      omega
    · rw [if_neg c]; exact h.zero j hj
  · have hkq : k ∉ q := fun c => by have := (h.zero k hk).1 c; omega
    have htk : (q ++ [k]).take at_ = q.take at_ := List.take_append_of_le_length (by omega)
    refine ⟨by simpa using h.len, List.nodup_append.2 ⟨h.nd, by simp, by simp; exact fun x hx e => hkq (e ▸ hx)⟩, fun x hx => ?_, fun j hj => by rw [htk]; exact hval j hj, fun j hj => ?_, fun p hp => ?_⟩
    · rcases List.mem_append.1 hx with hx | hx
      · exact h.lt x hx
      · simp only [List.mem_singleton] at hx; subst hx; rw [← h.len]; exact hk
    · simp only [List.length_set] at hj
      rw [List.getElem_set]
      by_cases c : k = j
      · subst c
        rw [if_pos rfl]
        simp [hz]
      · rw [if_neg c, ← h.zero j hj]
        simp only [List.mem_append, List.mem_singleton]
        constructor
        · rintro (x | x)
          · exact x
          · exact absurd x.symm c
        · exact .inl
    · simp only [List.length_append, List.length_singleton] at hp
      by_cases c : p < q.length
      · rw [List.getElem_append_left c, List.take_append_of_le_length (by omega)]
        exact h.just p c
      · have ep : p = q.length := by omega
        subst ep
        have e1 : (q ++ [k])[q.length] = k := by simp
        rw [e1, List.take_left' rfl]
        have h2 : (decide (q[at_] ∈ q.take at_)) = false := by
          refine decide_eq_false fun c => ?_
          obtain ⟨i, hi, e⟩ := List.getElem_of_mem c
          rw [List.getElem_take] at e
          rw [List.length_take] at hi
          exact absurd e (List.pairwise_iff_getElem.1 h.nd i at_ (by omega) hq (by omega))
        have h3 := cnt_ins (G := G) (P := fun k => decide (k ∈ q.take at_)) (j := (k : Int)) (i := q[at_]) h2 (h.lt _ (List.getElem_mem _))
        have h4 : (G.row q[at_]).count (k : Int) = pre.count (k : Int) + ((k : Int) :: suf).count (k : Int) := by
          rw [← nod_count (G := G) (by rw [← h.len]; exact hk), he, List.count_append]
        rw [List.count_cons_self] at h4
        have h5 := h.val k hk
        have h6 : G.cnt (fun x => decide (x ∈ q)) (k : Int) ≤ G.cnt (upd (fun k => decide (k ∈ q.take at_)) q[at_] true) (k : Int) := by
          refine cnt_mono fun x hx => ?_
          rw [upd_ap] at hx
          split at hx
          · rename_i e; subst e; exact decide_eq_true (List.getElem_mem _)
          · exact decide_eq_true (List.mem_of_mem_take (of_decide_eq_true hx))
        omega
theorem WI.next {G : Gr} {at_ : Nat} {C : List Int} {q : List Nat} (hq : at_ < q.length) (h : WI G at_ (G.nod (G.row q[at_])) C q) : WI G (at_ + 1) [] C q := by
  refine ⟨h.len, h.nd, h.lt, fun j hj => ?_, h.zero, h.just⟩
  have h1 := h.val j hj
  have h2 : (decide (q[at_] ∈ q.take at_)) = false := by
    refine decide_eq_false fun c => ?_
    obtain ⟨i, hi, e⟩ := List.getElem_of_mem c
    rw [List.getElem_take] at e
    rw [List.length_take] at hi
    exact absurd e (List.pairwise_iff_getElem.1 h.nd i at_ (by omega) hq (by omega))
  have h3 := cnt_ins (G := G) (P := fun k => decide (k ∈ q.take at_)) (j := (j : Int)) (i := q[at_]) h2 (h.lt _ (List.getElem_mem _))
  rw [nod_count (by rw [← h.len]; exact hj)] at h1
  have h4 : G.cnt (fun k => decide (k ∈ q.take (at_ + 1))) (j : Int) = G.cnt (upd (fun k => decide (k ∈ q.take at_)) q[at_] true) (j : Int) := by
    refine cnt_congr fun k _ => ?_
    rw [upd_ap, List.take_succ_eq_append_getElem hq]
    by_cases c : k = q[at_]
    · rw [if_pos c]
      exact decide_eq_true (by rw [c]; exact List.mem_append_right _ (List.mem_singleton.2 rfl))
    · rw [if_neg c]
      refine decide_eq_decide.2 ?_
      simp only [List.mem_append, List.mem_singleton, c, or_false]
  rw [h4]
  simp only [List.count_nil]
  omega
/-- When all are gone through: just those that are free by rounds. -/
theorem WI.fin {G : Gr} {at_ : Nat} {C : List Int} {q : List Nat} (h : WI G at_ [] C q) (ha : q.length ≤ at_) {j : Nat} (hj : j < G.n) : decide (j ∈ q) = G.free j := by
  have htk : q.take at_ = q := List.take_of_length_le ha
  have hj' : j < C.length := by rw [h.len]; exact hj
  refine dec_bool ⟨fun hm => ?_, fun hf => ?_⟩
  · have key : ∀ p (hp : p < q.length), G.fr (p + 1) q[p] = true := by
      intro p
      induction p using Nat.strongRecOn with
      | _ p ih =>
        intro hp
        have hz := h.just p hp
        have hle : G.cnt (G.fr p) (q[p] : Int) ≤ G.cnt (fun k => decide (k ∈ q.take p)) (q[p] : Int) := by
          refine cnt_mono fun k hk => ?_
          obtain ⟨i, hi, e⟩ := List.getElem_of_mem (of_decide_eq_true hk)
          rw [List.getElem_take] at e
          rw [List.length_take] at hi
          rw [← e]
          exact fr_mono (show i + 1 ≤ p by omega) (ih i (by omega) (by omega))
        have : G.cnt (G.fr p) (q[p] : Int) = 0 := by omega
        simp [Gr.fr, this]
    obtain ⟨p, hp, rfl⟩ := List.getElem_of_mem hm
    exact fr_mono (show p + 1 ≤ G.n by have := h.qlen; omega) (key p hp)
  · have key : ∀ r j, j < G.n → G.fr r j = true → j ∈ q := by
      intro r
      induction r with
      | zero => intro j _ hf; cases hf
      | succ r ih =>
        intro j hj hf
        simp only [Gr.fr, Bool.or_eq_true, decide_eq_true_eq] at hf
        rcases hf with hf | hf
        · exact ih j hj hf
        · have hj' : j < C.length := by rw [h.len]; exact hj
          have h1 := h.val j hj'
          rw [htk] at h1
          have h2 : G.cnt (fun k => decide (k ∈ q)) (j : Int) ≤ G.cnt (fun k => decide (k < G.n) && G.fr r k) (j : Int) := by
            refine cnt_mono fun k hk => ?_
            simp only [Bool.and_eq_true, decide_eq_true_eq] at hk
            exact decide_eq_true (ih k hk.1 hk.2)
          have h3 : G.cnt (fun k => decide (k < G.n) && G.fr r k) (j : Int) = G.cnt (G.fr r) (j : Int) := cnt_congr fun k hk => by rw [decide_eq_true hk, Bool.true_and]
          refine (h.zero j hj').2 ?_
          simp only [List.count_nil] at h1
          omega
    exact key G.n j hj hf
/-- What counting frees can't be reached. -/
theorem free_dead {G : Gr} {j : Nat} (hf : G.free j = true) : G.rch j = false := by
  cases hr : G.rch j with
  | false => rfl
  | true =>
    have key : ∀ r j, G.rch j = true → G.fr r j = false := by
      intro r
      induction r with
      | zero => intro j _; rfl
      | succ r ih =>
        intro j hr
        have h1 := ih j hr
        have h2 : G.cnt (G.fr r) (j : Int) ≠ 0 := by
          refine rch_ind (G := G) (p := fun j => G.cnt (G.fr r) (j : Int) ≠ 0) (fun j hj hroot => ?_) (fun a b ha _ he hb => ?_) hr
          · have : 0 < G.roots.count (j : Int) := List.count_pos_iff.2 hroot
            unfold Gr.cnt
            omega
          · have hab : (b : Int) ∈ G.row a := by simpa [Gr.edge] using he
            have h3 : 0 < (G.row a).count (b : Int) := List.count_pos_iff.2 hab
            have := cnt_row (G := G) (P := G.fr r) (j := (b : Int)) (i := a) (ih a ha) (rch_node ha)
            omega
        simp [Gr.fr, h1, h2]
    rw [Gr.free, key _ _ hr] at hf
    cases hf
end Go.Proofs.YtfhgjncbhjjbfaaV
