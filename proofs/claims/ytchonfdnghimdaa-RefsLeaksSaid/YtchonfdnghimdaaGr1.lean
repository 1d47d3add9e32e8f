/- Plain graphs: walks, how far a node is; what two ways to find it keep true. -/
import Derived.Test.YtchonfdnghimdaaLib2
namespace Go.Proofs.YtchonfdnghimdaaV
open Go Go.Proofs Go.RowKit
set_option linter.unusedVariables false
set_option linter.unusedSimpArgs false
/-! ### 1. Lists -/
theorem nodup_lt_length : ∀ (n : Nat) (l : List Nat), l.Nodup → (∀ x ∈ l, x < n) → l.length ≤ n
  | 0, l, _, h => by
    cases l with
    | nil => simp
    | cons x l => have := h x (by simp); omega
  | n + 1, l, hd, h => by
    by_cases hn : n ∈ l
    · have ih := nodup_lt_length n (l.erase n) (hd.erase n) fun x hx => by
        have h1 := (List.Nodup.mem_erase_iff hd).1 hx
        have := h x h1.2
        have := h1.1
        omega
      rw [List.length_erase_of_mem hn] at ih
      omega
    · have ih := nodup_lt_length n l hd fun x hx => by
        have := h x hx
        have : x ≠ n := fun e => hn (e ▸ hx)
        omega
      omega
/-! ### 2. Graphs -/
structure Gr where
  next : List (List Int)
  roots : List Int
def Gr.n (G : Gr) : Nat := G.next.length
def Gr.row (G : Gr) (i : Nat) : List Int := G.next[i]?.getD []
def Gr.edge (G : Gr) (i j : Nat) : Bool := (G.row i).contains (j : Int)
def Gr.wk (G : Gr) : Nat → Nat → Bool
  | 0, j => decide (j < G.n) && G.roots.contains (j : Int)
  | k + 1, j => decide (j < G.n) && (List.range G.n).any fun i => G.wk k i && G.edge i j
def Gr.dst (G : Gr) (j : Nat) : Int := match (List.range G.n).find? (fun k => G.wk k j) with
  | some k => (k : Int)
  | none => -1
def Gr.distL (G : Gr) : List Int := (List.range G.n).map G.dst
def Gr.rch (G : Gr) (j : Nat) : Bool := decide (0 ≤ G.dst j)
variable {G : Gr}
theorem edge_row {i j : Nat} (h : i < G.n) : G.edge i j = true ↔ (j : Int) ∈ G.next[i] := by
  unfold Gr.edge Gr.row
  rw [List.getElem?_eq_getElem h]
  simp
theorem wk_lt : ∀ {k j : Nat}, G.wk k j = true → j < G.n
  | 0, j, h => by simp only [Gr.wk, Bool.and_eq_true, decide_eq_true_eq] at h; exact h.1
  | k + 1, j, h => by simp only [Gr.wk, Bool.and_eq_true, decide_eq_true_eq] at h; exact h.1
theorem wk_zero {j : Nat} : G.wk 0 j = true ↔ j < G.n ∧ (j : Int) ∈ G.roots := by simp [Gr.wk]
theorem wk_succ {k j : Nat} : G.wk (k + 1) j = true ↔ j < G.n ∧ ∃ i, G.wk k i = true ∧ G.edge i j = true := by
  simp only [Gr.wk, Bool.and_eq_true, decide_eq_true_eq, List.any_eq_true, List.mem_range]
  constructor
  · rintro ⟨h, i, _, h1, h2⟩; exact ⟨h, i, h1, h2⟩
  · rintro ⟨h, i, h1, h2⟩; exact ⟨h, i, wk_lt h1, h1, h2⟩
/-- A shortest walk's length. -/
def Gr.lv (G : Gr) (k j : Nat) : Prop := G.wk k j = true ∧ ∀ m, m < k → G.wk m j = false
theorem lv_of_wk {k j : Nat} (h : G.wk k j = true) : ∃ m, m ≤ k ∧ G.lv m j := by
  induction k using Nat.strongRecOn with
  | _ k ih =>
    by_cases hm : ∃ m, m < k ∧ G.wk m j = true
    · obtain ⟨m, hm, hw⟩ := hm
      obtain ⟨m', h1, h2⟩ := ih m hm hw
      exact ⟨m', by omega, h2⟩
    · exact ⟨k, Nat.le_refl _, h, fun m hm' => by
        cases hw : G.wk m j with
        | false => rfl
        | true => exact absurd ⟨m, hm', hw⟩ hm⟩
theorem lv_pred {k j : Nat} (h : G.lv (k + 1) j) : ∃ i, G.lv k i ∧ G.edge i j = true := by
  obtain ⟨hj, i, hi, he⟩ := wk_succ.1 h.1
  refine ⟨i, ⟨hi, fun m hm => ?_⟩, he⟩
  cases hw : G.wk m i with
  | false => rfl
  | true =>
    have := h.2 (m + 1) (by omega)
    rw [wk_succ.2 ⟨hj, i, hw, he⟩] at this
    cases this
theorem lv_uniq {k m j : Nat} (h : G.lv k j) (h' : G.lv m j) : k = m := by
  rcases Nat.lt_trichotomy k m with c | c | c
  · have := h'.2 k c; rw [h.1] at this; cases this
  · exact c
  · have := h.2 m c; rw [h'.1] at this; cases this
theorem lv_chain : ∀ {k j : Nat}, G.lv k j → ∃ l : List Nat, l.length = k + 1 ∧ l.Nodup ∧ (∀ x ∈ l, x < G.n) ∧ ∀ x ∈ l, ∃ m, m ≤ k ∧ G.lv m x
  | 0, j, h => ⟨[j], rfl, by simp, by simp; exact wk_lt h.1, by simp; exact h⟩
  | k + 1, j, h => by
    obtain ⟨i, hi, he⟩ := lv_pred h
    obtain ⟨l, h1, h2, h3, h4⟩ := lv_chain hi
    refine ⟨j :: l, by simp [h1], List.nodup_cons.2 ⟨fun hj => ?_, h2⟩, fun x hx => ?_, fun x hx => ?_⟩
    · obtain ⟨m, hm, hl⟩ := h4 j hj
      have := lv_uniq h hl
      omega
    · rcases List.mem_cons.1 hx with rfl | hx
      · exact wk_lt h.1
      · exact h3 x hx
    · rcases List.mem_cons.1 hx with rfl | hx
      · exact ⟨k + 1, Nat.le_refl _, h⟩
      · obtain ⟨m, hm, hl⟩ := h4 x hx
        exact ⟨m, by omega, hl⟩
theorem lv_lt {k j : Nat} (h : G.lv k j) : k < G.n := by
  obtain ⟨l, h1, h2, h3, _⟩ := lv_chain h
  have := nodup_lt_length _ l h2 h3
  omega
theorem find_range {p : Nat → Bool} : ∀ {n k : Nat}, (List.range n).find? p = some k → p k = true ∧ ∀ m, m < k → p m = false := by
  intro n k h
  rw [List.find?_range_eq_some] at h
  exact ⟨h.1, fun m hm => by have := h.2.2 m hm; simpa using this⟩
theorem dst_lv {j k : Nat} : G.dst j = (k : Int) ↔ G.lv k j := by
  unfold Gr.dst
  cases hf : (List.range G.n).find? (fun k => G.wk k j) with
  | none =>
    constructor
    · intro h; have : (-1 : Int) = k := h; omega
    · intro h
      have := List.find?_eq_none.1 hf k (List.mem_range.2 (lv_lt h))
      rw [h.1] at this
      simp at this
  | some m =>
    have hm := find_range hf
    constructor
    · intro h
      have : (m : Int) = k := h
      obtain rfl : m = k := by omega
      exact hm
    · intro h
      rw [lv_uniq h hm]
theorem dst_ge (j : Nat) : -1 ≤ G.dst j := by
  unfold Gr.dst
  split <;> omega
theorem dst_lt (j : Nat) : G.dst j < G.n ∨ G.dst j = -1 := by
  rcases Int.lt_or_le (G.dst j) 0 with h | h
  · have := dst_ge (G := G) j; omega
  · have := lv_lt (dst_lv.1 (show G.dst j = ((G.dst j).toNat : Int) by omega))
    omega
theorem dst_le {j k : Nat} (h : G.wk k j = true) : 0 ≤ G.dst j ∧ G.dst j ≤ k := by
  obtain ⟨m, h1, h2⟩ := lv_of_wk h
  rw [dst_lv.2 h2]
  omega
theorem dst_wk {j : Nat} (h : 0 ≤ G.dst j) : G.wk (G.dst j).toNat j = true := (dst_lv.1 (show G.dst j = ((G.dst j).toNat : Int) by omega)).1
theorem dst_node {j : Nat} (h : 0 ≤ G.dst j) : j < G.n := wk_lt (dst_wk h)
theorem dst_edge {i j : Nat} (h : 0 ≤ G.dst i) (he : G.edge i j = true) (hj : j < G.n) : 0 ≤ G.dst j ∧ G.dst j ≤ G.dst i + 1 := by
  have := dst_le (wk_succ.2 ⟨hj, i, dst_wk h, he⟩)
  omega
theorem dst_root {j : Nat} (hj : j < G.n) (hr : (j : Int) ∈ G.roots) : G.dst j = 0 := by
  have := dst_le (wk_zero.2 ⟨hj, hr⟩)
  omega
theorem dst_zero {j : Nat} (h : G.dst j = 0) : j < G.n ∧ (j : Int) ∈ G.roots := wk_zero.1 ((dst_lv (G := G) (j := j) (k := 0)).1 h).1
theorem dst_pred {j : Nat} {k : Nat} (h : G.dst j = (k : Int) + 1) : ∃ i, G.dst i = (k : Int) ∧ G.edge i j = true := by
  obtain ⟨i, hi, he⟩ := lv_pred (k := k) (j := j) ((dst_lv (G := G) (j := j) (k := k + 1)).1 (by omega))
  exact ⟨i, dst_lv.2 hi, he⟩
theorem rch_iff {j : Nat} : G.rch j = true ↔ 0 ≤ G.dst j := by simp [Gr.rch]
theorem rch_root {j : Nat} (hj : j < G.n) (hr : (j : Int) ∈ G.roots) : G.rch j = true := by rw [rch_iff, dst_root hj hr]; omega
theorem rch_edge {i j : Nat} (h : G.rch i = true) (he : G.edge i j = true) (hj : j < G.n) : G.rch j = true := rch_iff.2 (dst_edge (rch_iff.1 h) he hj).1
theorem rch_node {j : Nat} (h : G.rch j = true) : j < G.n := dst_node (rch_iff.1 h)
/-- What holds of roots, and goes on by edges, holds of all that can be reached. -/
theorem rch_ind {p : Nat → Prop} (h0 : ∀ j, j < G.n → (j : Int) ∈ G.roots → p j) (h1 : ∀ i j, G.rch i = true → p i → G.edge i j = true → j < G.n → p j) {j : Nat} (hj : G.rch j = true) : p j := by
  have key : ∀ (k j : Nat), G.dst j = (k : Int) → p j := by
    intro k
    induction k with
    | zero => intro j h; obtain ⟨a, b⟩ := dst_zero h; exact h0 j a b
    | succ k ih =>
      intro j h
      obtain ⟨i, hi, he⟩ := dst_pred (G := G) (k := k) (j := j) (by omega)
      exact h1 i j (rch_iff.2 (by omega)) (ih i hi) he (dst_node (by omega))
  have := rch_iff.1 hj
  exact key (G.dst j).toNat j (by omega)
/-! ### 3. By rounds -/
structure DI (G : Gr) (far : Nat) (S : Nat → Prop) (out : List Int) : Prop where
  len : out.length = G.n
  ok : ∀ j (h : j < out.length), out[j] = -1 ∨ out[j] = G.dst j
  old : ∀ j (h : j < out.length), 0 ≤ G.dst j → G.dst j ≤ far → out[j] = G.dst j
  top : ∀ j (h : j < out.length), out[j] ≤ (far : Int) + 1
  new : ∀ j (h : j < out.length), S j → G.dst j = (far : Int) + 1 → out[j] = G.dst j
theorem DI.set {far i j : Nat} {S : Nat → Prop} {out : List Int} (h : DI G far S out) (hi : G.dst i = far) (he : G.edge i j = true) (hj : j < out.length) (hn : out[j] < 0) : DI G far (fun x => S x ∨ x = j) (out.set j ((far : Int) + 1)) := by
  have hd := dst_edge (G := G) (i := i) (j := j) (by omega) he (by rw [← h.len]; exact hj)
  have hd2 : G.dst j = (far : Int) + 1 := by
    rcases Int.lt_or_le (far : Int) (G.dst j) with c | c
    · omega
    · have := h.old j hj hd.1 c; omega
  refine ⟨by simpa using h.len, fun x hx => ?_, fun x hx a b => ?_, fun x hx => ?_, fun x hx a b => ?_⟩ <;> simp only [List.length_set] at hx <;> rw [List.getElem_set] <;> by_cases c : j = x
  · subst c; rw [if_pos rfl]; omega
  · rw [if_neg c]; exact h.ok x hx
  · subst c; omega
  · rw [if_neg c]; exact h.old x hx a b
  · rw [if_pos c]; exact Int.le_refl _
  · rw [if_neg c]; exact h.top x hx
  · subst c; rw [if_pos rfl]; omega
  · rw [if_neg c]; exact h.new x hx (a.resolve_right fun e => c e.symm) b
theorem DI.skip {far j : Nat} {S : Nat → Prop} {out : List Int} (h : DI G far S out) (hn : ∀ hj : j < out.length, 0 ≤ out[j]) : DI G far (fun x => S x ∨ x = j) out := by
  refine ⟨h.len, h.ok, h.old, h.top, fun x hx a b => ?_⟩
  rcases a with a | rfl
  · exact h.new x hx a b
  · have := hn hx
    have := h.ok x hx
    omega
theorem DI.weak {far : Nat} {S T : Nat → Prop} {out : List Int} (h : DI G far S out) (hT : ∀ j, j < G.n → G.dst j = (far : Int) + 1 → T j → S j) : DI G far T out :=
  ⟨h.len, h.ok, h.old, h.top, fun x hx a b => h.new x hx (hT x (by rw [← h.len]; exact hx) b a) b⟩
theorem DI.next {far : Nat} {S : Nat → Prop} {out : List Int} (h : DI G far S out) (hS : ∀ i j, i < G.n → G.dst i = far → G.edge i j = true → S j) : DI G (far + 1) (fun _ => False) out := by
  refine ⟨h.len, h.ok, fun j hj a b => ?_, fun j hj => ?_, fun _ _ a => a.elim⟩
  · rcases Int.lt_or_le (far : Int) (G.dst j) with c | c
    · obtain ⟨i, hi, he⟩ := dst_pred (G := G) (k := far) (j := j) (by omega)
      exact h.new j hj (hS i j (dst_node (by omega)) hi he) (by omega)
    · exact h.old j hj a c
  · have := h.top j hj; omega
theorem DI.done {S : Nat → Prop} {out : List Int} (h : DI G G.n S out) : out = G.distL := by
  refine list_eq_of_get (by rw [h.len]; simp [Gr.distL]) fun j h1 h2 => ?_
  simp only [Gr.distL, List.getElem_map, List.getElem_range]
  have h3 := h.ok j h1
  rcases dst_lt (G := G) j with c | c
  · have := dst_ge (G := G) j
    rcases Int.lt_or_le (G.dst j) 0 with c' | c'
    · omega
    · exact h.old j h1 c' (by omega)
  · omega
/-! ### 4. By a row of nodes met -/
structure BI (G : Gr) (f : Int) (D : Nat → Int → Prop) (out : List Int) (q : List Nat) : Prop where
  len : out.length = G.n
  nd : q.Nodup
  lt : ∀ x ∈ q, x < G.n
  iff : ∀ j (h : j < out.length), (out[j] = -1 ∧ j ∉ q) ∨ (0 ≤ out[j] ∧ j ∈ q ∧ G.wk out[j].toNat j = true ∧ out[j] ≤ f)
  sorted : ∀ a b (ha : a < q.length) (hb : b < q.length) (h1 : q[a] < out.length) (h2 : q[b] < out.length), a ≤ b → out[q[a]] ≤ out[q[b]]
  done : ∀ j b, D j b → ∃ h : j < out.length, 0 ≤ out[j] ∧ out[j] ≤ b
  pos : ∀ p (hp : p < q.length) (h : q[p] < out.length), out[q[p]] ≤ (p : Int)
theorem BI.qlen {f : Int} {D : Nat → Int → Prop} {out : List Int} {q : List Nat} (h : BI G f D out q) : q.length ≤ G.n := nodup_lt_length _ q h.nd h.lt
theorem BI.push {f : Int} {D : Nat → Int → Prop} {out : List Int} {q : List Nat} (h : BI G f D out q) {j : Nat} (hj : j < out.length) (ho : out[j] = -1) (hf : 0 ≤ f) (hfq : f ≤ (q.length : Int)) (hw : G.wk f.toNat j = true) :
    BI G f (fun x b => D x b ∨ (x = j ∧ b = f)) (out.set j f) (q ++ [j]) := by
  have hnq : j ∉ q := by rcases h.iff j hj with c | c; exact c.2; omega
  have hle : ∀ x ∈ q, ∀ hx : x < out.length, out[x] ≤ f := fun x hx hl => by
    rcases h.iff x hl with c | c
    · exact absurd hx c.2
    · exact c.2.2.2
  refine ⟨by simpa using h.len, List.nodup_append.2 ⟨h.nd, by simp, by simp; exact fun x hx e => hnq (e ▸ hx)⟩, fun x hx => ?_, fun x hx => ?_, fun a b ha hb h1 h2 hab => ?_, fun x b hD => ?_, fun p hp h1 => ?_⟩
  · rcases List.mem_append.1 hx with hx | hx
    · exact h.lt x hx
    · simp only [List.mem_singleton] at hx; subst hx; rw [← h.len]; exact hj
  · simp only [List.length_set] at hx
    rw [List.getElem_set]
    by_cases c : j = x
    · subst c
      rw [if_pos rfl]
      exact .inr ⟨hf, by simp, hw, Int.le_refl _⟩
    · rw [if_neg c]
      rcases h.iff x hx with c' | c'
      · exact .inl ⟨c'.1, by simp [c'.2]; omega⟩
      · exact .inr ⟨c'.1, by simp [c'.2.1], c'.2.2⟩
  · simp only [List.length_append, List.length_singleton] at ha hb
    simp only [List.length_set] at h1 h2
    rw [List.getElem_set, List.getElem_set]
    by_cases cb : b < q.length
    · have ca : a < q.length := by omega
      have ea : (q ++ [j])[a] = q[a] := List.getElem_append_left ca
      have eb : (q ++ [j])[b] = q[b] := List.getElem_append_left cb
      have na : j ≠ q[a] := fun e => hnq (e ▸ List.getElem_mem _)
      have nb : j ≠ q[b] := fun e => hnq (e ▸ List.getElem_mem _)
      simp only [ea, eb] at h1 h2 ⊢
      rw [if_neg na, if_neg nb]
      exact h.sorted a b ca cb h1 h2 hab
    · have eb : (q ++ [j])[b] = j := by rw [List.getElem_append_right (by omega)]; simp
      rw [if_pos eb.symm]
      by_cases ca : a < q.length
      · have ea : (q ++ [j])[a] = q[a] := List.getElem_append_left ca
        have na : j ≠ q[a] := fun e => hnq (e ▸ List.getElem_mem _)
        simp only [ea] at h1 ⊢
        rw [if_neg na]
        exact hle _ (List.getElem_mem _) _
      · have ea : (q ++ [j])[a] = j := by rw [List.getElem_append_right (by omega)]; simp
        rw [if_pos ea.symm]
        exact Int.le_refl _
  · rcases hD with hD | ⟨rfl, rfl⟩
    · obtain ⟨hx, h1, h2⟩ := h.done x b hD
      refine ⟨by simpa using hx, ?_⟩
      rw [List.getElem_set, if_neg (by rintro rfl; omega)]
      exact ⟨h1, h2⟩
    · refine ⟨by simpa using hj, ?_⟩
      rw [List.getElem_set, if_pos rfl]
      exact ⟨hf, Int.le_refl _⟩
  · simp only [List.length_append, List.length_singleton] at hp
    simp only [List.length_set] at h1
    rw [List.getElem_set]
    by_cases cb : p < q.length
    · have eb : (q ++ [j])[p] = q[p] := List.getElem_append_left cb
      have nb : j ≠ q[p] := fun e => hnq (e ▸ List.getElem_mem _)
      simp only [eb] at h1 ⊢
      rw [if_neg nb]
      exact h.pos p cb h1
    · have eb : (q ++ [j])[p] = j := by rw [List.getElem_append_right (by omega)]; simp
      rw [if_pos eb.symm]
      omega
theorem BI.skip {f : Int} {D : Nat → Int → Prop} {out : List Int} {q : List Nat} (h : BI G f D out q) {j : Nat} (hn : ∀ hj : j < out.length, out[j] ≠ -1) :
    BI G f (fun x b => D x b ∨ (x = j ∧ b = f ∧ j < out.length)) out q := by
  refine ⟨h.len, h.nd, h.lt, h.iff, h.sorted, fun x b hD => ?_, h.pos⟩
  rcases hD with hD | ⟨rfl, rfl, hx⟩
  · exact h.done x b hD
  · refine ⟨hx, ?_⟩
    rcases h.iff x hx with c | c
    · exact absurd c.1 (hn hx)
    · exact ⟨c.1, c.2.2.2⟩
theorem BI.weak {f : Int} {D E : Nat → Int → Prop} {out : List Int} {q : List Nat} (h : BI G f D out q) (hE : ∀ j b, E j b → D j b) : BI G f E out q := ⟨h.len, h.nd, h.lt, h.iff, h.sorted, fun j b e => h.done j b (hE j b e), h.pos⟩
theorem BI.raise {f f' : Int} {D : Nat → Int → Prop} {out : List Int} {q : List Nat} (h : BI G f D out q) (hf : ∀ x ∈ q, ∀ hx : x < out.length, out[x] ≤ f') : BI G f' D out q :=
  ⟨h.len, h.nd, h.lt, fun j hj => (h.iff j hj).imp id fun c => ⟨c.1, c.2.1, c.2.2.1, hf j c.2.1 hj⟩, h.sorted, h.done, h.pos⟩
/-- What has been asked of all that were gone through: a node's next ones are known, and no farther than one more. -/
def Asked (G : Gr) (out : List Int) (q : List Nat) (n : Nat) : Prop := ∀ p (hp : p < q.length), p < n → ∀ j, G.edge q[p] j = true → j < G.n → ∃ (h1 : j < out.length) (h2 : q[p] < out.length), 0 ≤ out[j] ∧ out[j] ≤ out[q[p]] + 1
theorem BI.fin {f : Int} {D : Nat → Int → Prop} {out : List Int} {q : List Nat} (h : BI G f D out q) (hr : ∀ j, j < G.n → (j : Int) ∈ G.roots → D j 0) (ha : Asked G out q q.length) : out = G.distL := by
  have key : ∀ (k j : Nat), G.dst j = (k : Int) → ∃ hj : j < out.length, 0 ≤ out[j] ∧ out[j] ≤ k := by
    intro k
    induction k with
    | zero => intro j hj; obtain ⟨a, b⟩ := dst_zero hj; exact h.done j 0 (hr j a b)
    | succ k ih =>
      intro j hj
      obtain ⟨i, hi, he⟩ := dst_pred (G := G) (k := k) (j := j) (by omega)
      obtain ⟨h1, h2, h3⟩ := ih i hi
      have hq : i ∈ q := by
        rcases h.iff i h1 with c | c
        · omega
        · exact c.2.1
      obtain ⟨p, hp, rfl⟩ := List.getElem_of_mem hq
      obtain ⟨x1, x2, x3, x4⟩ := ha p hp hp j he (dst_node (by omega))
      exact ⟨x1, x3, by omega⟩
  refine list_eq_of_get (by rw [h.len]; simp [Gr.distL]) fun j h1 h2 => ?_
  simp only [Gr.distL, List.getElem_map, List.getElem_range]
  rcases h.iff j h1 with c | c
  · have := dst_ge (G := G) j
    rcases Int.lt_or_le (G.dst j) 0 with c' | c'
    · omega
    · obtain ⟨_, h3, _⟩ := key (G.dst j).toNat j (by omega)
      omega
  · have hd := dst_le c.2.2.1
    obtain ⟨_, h3, h4⟩ := key (G.dst j).toNat j (by omega)
    omega
end Go.Proofs.YtchonfdnghimdaaV
