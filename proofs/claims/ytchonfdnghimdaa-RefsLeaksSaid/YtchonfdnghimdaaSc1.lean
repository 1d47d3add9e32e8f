/- Rings: what leads to what; going through a graph in depth, and the parts that come of it. Plain Lean. -/
import Derived.Test.YtchonfdnghimdaaGr1
namespace Go.Proofs.YtchonfdnghimdaaV
open Go Go.Proofs Go.RowKit
set_option linter.unusedVariables false
set_option linter.unusedSimpArgs false
/-! ### 1. What leads to what -/
def Gr.at_ (G : Gr) (i : Nat) : Gr := ⟨G.next, [(i : Int)]⟩
def Gr.ld (G : Gr) (i j : Nat) : Bool := (G.at_ i).rch j
variable {G : Gr}
theorem at_n (i : Nat) : (G.at_ i).n = G.n := rfl
theorem at_edge (i a b : Nat) : (G.at_ i).edge a b = G.edge a b := rfl
theorem ld_node {i j : Nat} (h : G.ld i j = true) : j < G.n := rch_node (G := G.at_ i) h
theorem ld_refl {i : Nat} (h : i < G.n) : G.ld i i = true := rch_root (G := G.at_ i) h (by simp [Gr.at_])
theorem ld_edge {i j k : Nat} (h : G.ld i j = true) (he : G.edge j k = true) (hk : k < G.n) : G.ld i k = true := rch_edge (G := G.at_ i) h he hk
theorem ld_ind {i : Nat} {p : Nat → Prop} (h0 : i < G.n → p i) (h1 : ∀ a b, G.ld i a = true → p a → G.edge a b = true → b < G.n → p b) {j : Nat} (h : G.ld i j = true) : p j :=
  rch_ind (G := G.at_ i) (fun j hj hr => by
    have : j = i := by simp [Gr.at_] at hr; omega
    subst this
    exact h0 hj) (fun a b ha hp he hb => h1 a b ha hp he hb) h
theorem ld_start {i j : Nat} (h : G.ld i j = true) : i < G.n := ld_ind (p := fun _ => i < G.n) (fun h => h) (fun _ _ _ h _ _ => h) h
theorem ld_trans {i j k : Nat} (h : G.ld i j = true) (h' : G.ld j k = true) : G.ld i k = true := ld_ind (p := fun x => G.ld i x = true) (fun _ => h) (fun a b _ hp he hb => ld_edge hp he hb) h'
theorem ld_one {i j : Nat} (hi : i < G.n) (he : G.edge i j = true) (hj : j < G.n) : G.ld i j = true := ld_edge (ld_refl hi) he hj
/-- Both ways. -/
def Gr.eqv (G : Gr) (i j : Nat) : Prop := G.ld i j = true ∧ G.ld j i = true
theorem eqv_symm {i j : Nat} (h : G.eqv i j) : G.eqv j i := ⟨h.2, h.1⟩
theorem eqv_trans {i j k : Nat} (h : G.eqv i j) (h' : G.eqv j k) : G.eqv i k := ⟨ld_trans h.1 h'.1, ld_trans h'.2 h.2⟩
theorem eqv_refl {i : Nat} (h : i < G.n) : G.eqv i i := ⟨ld_refl h, ld_refl h⟩
/-! ### 2. In depth -/
/-- Nodes that were left, in their order; 'way': those that are on the way. -/
structure Dp (G : Gr) (ord way : List Nat) : Prop where
  nd : (ord ++ way).Nodup
  lt : ∀ u ∈ ord ++ way, u < G.n
  chain : ∀ k (h : k + 1 < way.length), G.edge way[k] way[k + 1] = true
  closed : ∀ u ∈ ord, ∀ v, G.edge u v = true → v < G.n → v ∈ ord ++ way
  late : ∀ A u C, ord = A ++ u :: C → (∀ v, G.ld u v = true → v ∈ A ∨ v = u) ∨ ∃ z, (z ∈ C ∨ z ∈ way) ∧ G.eqv u z
theorem Dp.nil : Dp G [] [] := ⟨by simp, by simp, fun k h => by simp at h, by simp, fun A u C h => by simp at h⟩
theorem Dp.len {ord way : List Nat} (h : Dp G ord way) : (ord ++ way).length ≤ G.n := nodup_lt_length _ _ h.nd h.lt
theorem Dp.up {ord way : List Nat} (h : Dp G ord way) : ∀ (d k : Nat) (hk : k + d < way.length), G.ld way[k] way[k + d] = true
  | 0, k, hk => ld_refl (h.lt _ (by simp))
  | d + 1, k, hk => ld_edge (h.up d k (by omega)) (h.chain (k + d) (by omega)) (h.lt _ (by simp))
theorem Dp.top {ord way : List Nat} {t z : Nat} (h : Dp G ord (way ++ [t])) (hz : z ∈ way) : G.ld z t = true := by
  obtain ⟨k, hk, rfl⟩ := List.getElem_of_mem hz
  have := h.up (way.length - k) k (by simp; omega)
  rw [List.getElem_append_left hk, List.getElem_append_right (by omega)] at this
  simpa using this
/-- A first node. -/
theorem Dp.start {ord : List Nat} {i : Nat} (h : Dp G ord []) (hi : i < G.n) (hn : i ∉ ord) : Dp G ord [i] := by
  refine ⟨?_, fun u hu => ?_, fun k hk => by simp at hk, fun u hu v he hv => ?_, fun A u C ho => ?_⟩
  · rw [List.nodup_append]
    exact ⟨by simpa using h.nd, by simp, fun a ha b hb => by simp at hb; subst hb; exact fun e => hn (e ▸ ha)⟩
  · rcases List.mem_append.1 hu with c | c
    · exact h.lt u (by simpa using c)
    · simp at c; omega
  · have := h.closed u hu v he hv
    simp only [List.append_nil] at this
    exact List.mem_append.2 (.inl this)
  · rcases h.late A u C ho with c | ⟨z, c, d⟩
    · exact .inl c
    · refine .inr ⟨z, .inl ?_, d⟩
      rcases c with c | c
      · exact c
      · simp at c
/-- One further. -/
theorem Dp.push {ord way : List Nat} {t k : Nat} (h : Dp G ord (way ++ [t])) (he : G.edge t k = true) (hk : k < G.n) (hn : k ∉ ord) (hw : k ∉ way ++ [t]) : Dp G ord (way ++ [t] ++ [k]) := by
  refine ⟨?_, fun u hu => ?_, fun j hj => ?_, fun u hu v he hv => ?_, fun A u C ho => ?_⟩
  · rw [← List.append_assoc, List.nodup_append]
    refine ⟨h.nd, by simp, fun a ha b hb => ?_⟩
    simp only [List.mem_singleton] at hb
    subst hb
    intro e
    subst e
    rcases List.mem_append.1 ha with c | c
    · exact hn c
    · exact hw c
  · rw [← List.append_assoc] at hu
    rcases List.mem_append.1 hu with c | c
    · exact h.lt u c
    · simp at c; omega
  · by_cases c : j + 1 < (way ++ [t]).length
    · rw [List.getElem_append_left (by omega), List.getElem_append_left c]
      exact h.chain j c
    · have ej : j = way.length := by simp at hj c; omega
      subst ej
      rw [List.getElem_append_left (by simp), List.getElem_append_right (by simp)]
      simpa using he
  · rw [← List.append_assoc]
    exact List.mem_append.2 (.inl (h.closed u hu v he hv))
  · rcases h.late A u C ho with c | ⟨z, c, d⟩
    · exact .inl c
    · refine .inr ⟨z, ?_, d⟩
      rcases c with c | c
      · exact .inl c
      · exact .inr (List.mem_append.2 (.inl c))
/-- The last one is left: all that it leads to was met. -/
theorem Dp.pop {ord way : List Nat} {t : Nat} (h : Dp G ord (way ++ [t])) (hm : ∀ v, G.edge t v = true → v < G.n → v ∈ ord ++ (way ++ [t])) : Dp G (ord ++ [t]) way := by
  have hp : (ord ++ [t] ++ way).Perm (ord ++ (way ++ [t])) := by
    rw [List.append_assoc]
    exact List.Perm.append_left _ List.perm_append_comm
  have hmem : ∀ v, v ∈ ord ++ (way ++ [t]) → v ∈ ord ++ [t] ++ way := fun v hv => hp.mem_iff.2 hv
  have ht : t < G.n := h.lt t (by simp)
  refine ⟨hp.nodup_iff.2 h.nd, fun u hu => h.lt u (hp.mem_iff.1 hu), fun k hk => ?_, fun u hu v he hv => ?_, fun A u C ho => ?_⟩
  · have := h.chain k (by simp; omega)
    rwa [List.getElem_append_left (by omega), List.getElem_append_left (by omega)] at this
  · rcases List.mem_append.1 hu with c | c
    · exact hmem v (h.closed u c v he hv)
    · simp at c
      subst c
      exact hmem v (hm v he hv)
  · rcases List.eq_nil_or_concat C with rfl | ⟨C', x, rfl⟩
    · obtain ⟨rfl, e⟩ := List.append_inj' ho rfl
      simp only [List.cons.injEq, and_true] at e
      subst e
      by_cases hex : ∃ z ∈ way, G.ld t z = true
      · obtain ⟨z, hz, hl⟩ := hex
        exact .inr ⟨z, .inr hz, hl, h.top hz⟩
      · left
        have step : ∀ a b, (a ∈ ord ∨ a = t) → G.ld t a = true → G.edge a b = true → b < G.n → b ∈ ord ∨ b = t := fun a b ha hl he hb => by
          have hin : b ∈ ord ++ (way ++ [t]) := by
            rcases ha with c | c
            · exact h.closed a c b he hb
            · subst c; exact hm b he hb
          rcases List.mem_append.1 hin with c | c
          · exact .inl c
          · rcases List.mem_append.1 c with c | c
            · exact absurd ⟨b, c, ld_edge hl he hb⟩ hex
            · simp at c; exact .inr c
        exact fun v hv => ld_ind (p := fun v => v ∈ ord ∨ v = t) (fun _ => .inr rfl) (fun a b hl hp he hb => step a b hp hl he hb) hv
    · have ho' : ord ++ [t] = (A ++ u :: C') ++ [x] := by rw [ho]; simp
      obtain ⟨rfl, e⟩ := List.append_inj' ho' rfl
      simp only [List.cons.injEq, and_true] at e
      subst e
      rcases h.late A u C' rfl with c | ⟨z, c, d⟩
      · exact .inl c
      · refine .inr ⟨z, ?_, d⟩
        rcases c with c | c
        · exact .inl (by simp [c])
        · rcases List.mem_append.1 c with c | c
          · exact .inr c
          · exact .inl (by simp at c; simp [c])
/-! ### 3. The parts -/
/-- Nodes that were collected: all of any part, or none. -/
def Whole (G : Gr) (S : List Nat) : Prop := ∀ v ∈ S, ∀ w, G.eqv v w → w ∈ S
/-- What leads to the last one that is not collected is of its part. -/
theorem part_back {A C S : List Nat} {u : Nat} (h : Dp G (A ++ u :: C) []) (hS : Whole G S) (hC : ∀ v ∈ C, v ∈ S) : ∀ (d : Nat) (A1 C1 : List Nat) (v : Nat), C1.length ≤ d → A = A1 ++ v :: C1 → v ∉ S → G.ld v u = true → G.ld u v = true := by
  intro d
  induction d with
  | zero =>
    intro A1 C1 v hd hA hv hl
    have hnd := h.nd
    rw [List.append_nil] at hnd
    have e : A ++ u :: C = A1 ++ v :: (C1 ++ u :: C) := by rw [hA]; simp
    rcases h.late A1 v (C1 ++ u :: C) e with c | ⟨z, c, d1, d2⟩
    · exfalso
      rw [e] at hnd
      obtain ⟨n1, n2, n3⟩ := List.nodup_append.1 hnd
      rcases c u hl with q | q
      · exact n3 u q u (by simp) rfl
      · subst q
        exact (List.nodup_cons.1 n2).1 (by simp)
    · have : C1 = [] := List.eq_nil_of_length_eq_zero (by omega)
      subst this
      simp only [List.nil_append, List.mem_cons, List.not_mem_nil, or_false] at c
      rcases c with c | c
      · subst c; exact d2
      · exact absurd (hS z (hC z c) v ⟨d2, d1⟩) hv
  | succ d ih =>
    intro A1 C1 v hd hA hv hl
    have hnd := h.nd
    rw [List.append_nil] at hnd
    have e : A ++ u :: C = A1 ++ v :: (C1 ++ u :: C) := by rw [hA]; simp
    rcases h.late A1 v (C1 ++ u :: C) e with c | ⟨z, c, d1, d2⟩
    · exfalso
      rw [e] at hnd
      obtain ⟨n1, n2, n3⟩ := List.nodup_append.1 hnd
      rcases c u hl with q | q
      · exact n3 u q u (by simp) rfl
      · subst q
        exact (List.nodup_cons.1 n2).1 (by simp)
    · have hz : z ∉ S := fun hz => hv (hS z hz v ⟨d2, d1⟩)
      rcases c with c | c
      · rcases List.mem_append.1 c with c | c
        · obtain ⟨P, Q, rfl⟩ := List.append_of_mem c
          have := ih (A1 ++ v :: P) Q z (by simp at hd; omega) (by rw [hA]; simp) hz (ld_trans d2 hl)
          exact ld_trans this d2
        · rcases List.mem_cons.1 c with c | c
          · subst c; exact d2
          · exact absurd (hC z c) hz
      · simp at c
/-- The graph with all edges turned. -/
structure Turned (G B : Gr) : Prop where
  n : B.n = G.n
  edge : ∀ i j, i < G.n → j < G.n → (B.edge j i = true ↔ G.edge i j = true)
  in_ : ∀ i j, j < G.n → B.edge j i = true → i < G.n
theorem Turned.ld {B : Gr} (h : Turned G B) {i j : Nat} : B.ld j i = true ↔ G.ld i j = true := by
  have key : ∀ j i, B.ld j i = true → G.ld i j = true := fun j i hl => ld_ind (G := B) (p := fun x => G.ld x j = true) (fun hj => ld_refl (by rw [← h.n]; exact hj)) (fun a b ha hp he hb => by
    have hb' : b < G.n := by rw [← h.n]; exact hb
    have ha' : a < G.n := ld_start hp
    exact ld_trans (ld_one hb' ((h.edge b a hb' ha').1 he) ha') hp) hl
  have key2 : ∀ i j, G.ld i j = true → B.ld j i = true := fun i j hl => ld_ind (G := G) (p := fun x => B.ld x i = true) (fun hi => ld_refl (by rw [h.n]; exact hi)) (fun a b ha hp he hb => by
    have ha' : a < G.n := ld_node ha
    exact ld_trans (ld_one (by rw [h.n]; exact hb) ((h.edge a b ha' hb).2 he) (by rw [h.n]; exact ha')) hp) hl
  exact ⟨key j i, key2 i j⟩
/-- One that was collected: what the turned graph has from the last one on, but for what was collected ahead, is its part. -/
theorem part_is {B : Gr} {A C S out : List Nat} {u : Nat} (h : Dp G (A ++ u :: C) []) (hall : ∀ v, v < G.n → v ∈ A ++ u :: C) (hT : Turned G B) (hS : Whole G S) (hC : ∀ v ∈ C, v ∈ S) (hu : u ∉ S)
    (ho : ∀ v ∈ out, v ∉ S ∧ B.ld u v = true) (hu' : u ∈ out) (hcl : ∀ a ∈ out, ∀ b, B.edge a b = true → b < B.n → b ∈ S ∨ b ∈ out) : ∀ v, v ∈ out ↔ G.eqv u v := by
  intro v
  constructor
  · intro hv
    obtain ⟨h1, h2⟩ := ho v hv
    have hl : G.ld v u = true := hT.ld.1 h2
    have hvn := ld_start hl
    refine ⟨?_, hl⟩
    rcases List.mem_append.1 (hall v hvn) with c | c
    · obtain ⟨P, Q, e⟩ := List.append_of_mem c
      exact part_back h hS hC Q.length P Q v (Nat.le_refl _) e h1 hl
    · rcases List.mem_cons.1 c with c | c
      · subst c; exact ld_refl hvn
      · exact absurd (hC v c) h1
  · intro hv
    have hb : B.ld u v = true := hT.ld.2 hv.2
    have hun := ld_start hv.1
    -- all on the way from u to v leads back to u
    have key : ∀ x, B.ld u x = true → G.ld u x = true → x ∈ out := by
      intro x hx
      exact ld_ind (G := B) (p := fun x => G.ld u x = true → x ∈ out) (fun _ _ => hu') (fun a b ha hp he hb hub => by
        have hb' : b < G.n := by rw [← hT.n]; exact hb
        have han : a < G.n := by rw [← hT.n]; exact ld_node ha
        have hba : G.edge b a = true := (hT.edge b a hb' han).1 he
        have hua : G.ld u a = true := ld_edge hub hba han
        rcases hcl a (hp hua) b he hb with c | c
        · exact absurd (hS b c u ⟨ld_trans (ld_one hb' hba han) (hT.ld.1 ha), hub⟩) hu
        · exact c) hx
    exact key v hb hv.1
theorem whole_app {S out : List Nat} {u : Nat} (hS : Whole G S) (ho : ∀ v, v ∈ out ↔ G.eqv u v) : Whole G (S ++ out) := fun v hv w hw => by
  rcases List.mem_append.1 hv with c | c
  · exact List.mem_append.2 (.inl (hS v c w hw))
  · exact List.mem_append.2 (.inr ((ho w).2 (eqv_trans ((ho v).1 c) hw)))
end Go.Proofs.YtchonfdnghimdaaV
