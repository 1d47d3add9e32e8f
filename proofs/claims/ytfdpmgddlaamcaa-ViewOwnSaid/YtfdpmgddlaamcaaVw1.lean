/- Views: what can be reached, in plain Lean. -/
import Derived.Test.YtfdpmgddlaamcaaVc5
namespace Go.Proofs.YtfdpmgddlaamcaaV
open Go Go.Proofs
set_option linter.unusedVariables false
set_option linter.unusedSimpArgs false
/-- A value: its kind and its number. -/
abbrev Va := Int × Int
/-- A node: its serial and its fields. -/
abbrev Nd := Int × List Va
/-- A view: roots and nodes. -/
abbrev Vw := List (List Va) × List Nd
def refsOf (l : List Va) : List Int := (l.filter fun x => x.1 == 2).map Prod.snd
def plc (N : List Nd) (s : Int) : Option Nat := N.findIdx? fun x => x.1 == s
def plcI (N : List Nd) (s : Int) : Int := match plc N s with
  | some i => (i : Int)
  | none => -1
theorem plc_some {N : List Nd} {s : Int} {i : Nat} (h : plc N s = some i) : ∃ h' : i < N.length, N[i].1 = s ∧ ∀ j (hj : j < N.length), j < i → N[j].1 ≠ s := by
  unfold plc at h
  rw [List.findIdx?_eq_some_iff_getElem] at h
  obtain ⟨h1, h2, h3⟩ := h
  exact ⟨h1, by simpa using h2, fun j hj hji => by simpa using h3 j hji⟩
theorem plc_mk {N : List Nd} {s : Int} {i : Nat} (h : i < N.length) (h1 : N[i].1 = s) (h2 : ∀ j (hj : j < N.length), j < i → N[j].1 ≠ s) : plc N s = some i := by
  unfold plc
  rw [List.findIdx?_eq_some_iff_getElem]
  exact ⟨h, by simpa using h1, fun j hj => by simpa using h2 j (by omega) hj⟩
theorem plc_none {N : List Nd} {s : Int} (h : ∀ x ∈ N, x.1 ≠ s) : plc N s = none := by
  unfold plc
  rw [List.findIdx?_eq_none_iff]
  exact fun x hx => by simpa using h x hx
theorem plc_lt {N : List Nd} {s : Int} {i : Nat} (h : plc N s = some i) : i < N.length := (plc_some h).1
theorem plc_self {N : List Nd} {s : Int} {i : Nat} (h : plc N s = some i) : ∃ h' : i < N.length, plc N N[i].1 = some i := by
  obtain ⟨h1, h2, _⟩ := plc_some h
  exact ⟨h1, by rw [h2]; exact h⟩
def seeds (V : Vw) : List Int := 0 :: V.1.flatMap refsOf
inductive Rch (V : Vw) : Nat → Prop where
  | seed {s : Int} {i : Nat} : s ∈ seeds V → plc V.2 s = some i → Rch V i
  | step {j i : Nat} {nd : Nd} {s : Int} : Rch V j → V.2[j]? = some nd → s ∈ refsOf nd.2 → plc V.2 s = some i → Rch V i
theorem Rch.has {V : Vw} {i : Nat} (h : Rch V i) : ∃ s, plc V.2 s = some i := by
  cases h with
  | seed _ h => exact ⟨_, h⟩
  | step _ _ _ h => exact ⟨_, h⟩
theorem Rch.lt {V : Vw} {i : Nat} (h : Rch V i) : i < V.2.length := by
  obtain ⟨s, hs⟩ := h.has
  exact plc_lt hs
theorem Rch.first {V : Vw} {i : Nat} (h : Rch V i) (hi : i < V.2.length) : plc V.2 V.2[i].1 = some i := by
  obtain ⟨s, hs⟩ := h.has
  obtain ⟨_, h2⟩ := plc_self hs
  exact h2
/-- Two nodes that can be reached have two serials. -/
theorem Rch.inj {V : Vw} {i j : Nat} (hi : Rch V i) (hj : Rch V j) (li : i < V.2.length) (lj : j < V.2.length) (h : V.2[i].1 = V.2[j].1) : i = j := by
  have h1 := hi.first li
  have h2 := hj.first lj
  rw [h, h2] at h1
  exact (Option.some.inj h1).symm
open Classical in
noncomputable def metL (V : Vw) : List Bool := (List.range V.2.length).map fun i => decide (Rch V i)
theorem metL_len (V : Vw) : (metL V).length = V.2.length := by simp [metL]
theorem metL_get {V : Vw} {i : Nat} : (metL V)[i]? = some true ↔ Rch V i := by
  unfold metL
  rw [List.getElem?_map]
  constructor
  · intro h
    rcases Nat.lt_or_ge i V.2.length with c | c
    · rw [List.getElem?_range c] at h
      simpa using h
    · rw [List.getElem?_eq_none (by simpa using c)] at h
      simp at h
  · intro h
    rw [List.getElem?_range h.lt]
    simpa using h
theorem bools_eq {a b : List Bool} (hl : a.length = b.length) (h : ∀ i : Nat, a[i]? = some true ↔ b[i]? = some true) : a = b := by
  apply List.ext_getElem hl
  intro i h1 h2
  have := h i
  rw [List.getElem?_eq_getElem h1, List.getElem?_eq_getElem h2] at this
  simp only [Option.some.injEq] at this
  cases ha : a[i] <;> cases hb : b[i] <;> simp_all
theorem metL_eq {V : Vw} {m : List Bool} (hl : m.length = V.2.length) (h1 : ∀ i : Nat, m[i]? = some true → Rch V i) (h2 : ∀ i : Nat, Rch V i → m[i]? = some true) : m = metL V :=
  bools_eq (by rw [hl, metL_len]) fun i => ⟨fun h => metL_get.2 (h1 i h), fun h => h2 i (metL_get.1 h)⟩
/-- What is closed, and holds the seeds, holds all that can be reached. -/
theorem rch_in {V : Vw} {m : List Bool} (h0 : ∀ s ∈ seeds V, ∀ i, plc V.2 s = some i → m[i]? = some true)
    (hc : ∀ j : Nat, m[j]? = some true → ∀ nd, V.2[j]? = some nd → ∀ s ∈ refsOf nd.2, ∀ i, plc V.2 s = some i → m[i]? = some true) : ∀ i, Rch V i → m[i]? = some true := by
  intro i h
  induction h with
  | seed h1 h2 => exact h0 _ h1 _ h2
  | step _ h1 h2 h3 ih => exact hc _ ih _ h1 _ h2 _ h3
theorem set_true {m : List Bool} {i j : Nat} (hi : i < m.length) : (m.set i true)[j]? = some true ↔ i = j ∨ m[j]? = some true := by
  rw [List.getElem?_set]
  by_cases e : i = j
  · subst e; simp [hi]
  · simp [e]
/-! ### 1. The program's way: what was met, and what is to be looked at -/
def cntF : List Bool → Nat
  | [] => 0
  | b :: m => (if b then 0 else 1) + cntF m
theorem cntF_set : ∀ {m : List Bool} {i : Nat}, m[i]? = some false → cntF (m.set i true) + 1 = cntF m
  | [], i, h => by simp at h
  | b :: m, 0, h => by
    simp only [List.getElem?_cons_zero, Option.some.injEq] at h
    subst h
    simp [cntF]; omega
  | b :: m, i + 1, h => by
    have := cntF_set (m := m) (i := i) (by simpa using h)
    simp only [List.set_cons_succ, cntF]
    omega
theorem cntF_le : ∀ (m : List Bool), cntF m ≤ m.length
  | [] => by simp [cntF]
  | b :: m => by
    have := cntF_le m
    simp only [cntF, List.length_cons]
    split <;> omega
def meetS (N : List Nd) (s : Int) (mq : List Bool × List Nat) : List Bool × List Nat := match plc N s with
  | some i => if mq.1[i]? = some true then mq else (mq.1.set i true, mq.2 ++ [i])
  | none => mq
def meetsS (N : List Nd) (l : List Int) (mq : List Bool × List Nat) : List Bool × List Nat := l.foldl (fun z s => meetS N s z) mq
theorem meetS_at {N : List Nd} {s : Int} {i : Nat} {m : List Bool} {q : List Nat} (h : plc N s = some i) (hm : m[i]? = some true) : meetS N s (m, q) = (m, q) := by
  unfold meetS; simp only [h]; rw [if_pos hm]
theorem meetS_new {N : List Nd} {s : Int} {i : Nat} {m : List Bool} {q : List Nat} (h : plc N s = some i) (hm : m[i]? = some false) : meetS N s (m, q) = (m.set i true, q ++ [i]) := by
  unfold meetS; simp only [h]; rw [if_neg (by rw [hm]; simp)]
theorem meetS_no {N : List Nd} {s : Int} {mq : List Bool × List Nat} (h : plc N s = none) : meetS N s mq = mq := by
  unfold meetS; simp only [h]
theorem get_cases {m : List Bool} {i : Nat} (h : i < m.length) : m[i]? = some true ∨ m[i]? = some false := by
  rw [List.getElem?_eq_getElem h]
  cases m[i] <;> simp
/-- What holds on the way. -/
structure Wy (V : Vw) (m : List Bool) (q : List Nat) : Prop where
  len : m.length = V.2.length
  snd : ∀ i : Nat, m[i]? = some true → Rch V i
  qm : ∀ i ∈ q, m[i]? = some true
  cl : ∀ j : Nat, m[j]? = some true → j ∉ q → ∀ nd, V.2[j]? = some nd → ∀ s ∈ refsOf nd.2, ∀ i, plc V.2 s = some i → m[i]? = some true
theorem meetS_wy {V : Vw} {s : Int} {m : List Bool} {q : List Nat} (h : Wy V m q) (hs : ∀ i, plc V.2 s = some i → Rch V i) :
    Wy V (meetS V.2 s (m, q)).1 (meetS V.2 s (m, q)).2 ∧ cntF (meetS V.2 s (m, q)).1 + (meetS V.2 s (m, q)).2.length = cntF m + q.length ∧ (∀ i : Nat, m[i]? = some true → (meetS V.2 s (m, q)).1[i]? = some true) ∧ (∀ i, plc V.2 s = some i → (meetS V.2 s (m, q)).1[i]? = some true) := by
  cases hp : plc V.2 s with
  | none =>
    rw [meetS_no hp]
    exact ⟨h, rfl, fun i hi => hi, fun i hi => by cases hi⟩
  | some i =>
    have li : i < m.length := by rw [h.len]; exact plc_lt hp
    rcases get_cases li with c | c
    · rw [meetS_at hp c]
      exact ⟨h, rfl, fun i hi => hi, fun k hk => by obtain rfl := Option.some.inj hk; exact c⟩
    · rw [meetS_new hp c]
      refine ⟨⟨by simpa using h.len, fun k hk => ?_, fun k hk => ?_, fun j hj hq nd hnd s' hs' k hk => ?_⟩, ?_, fun k hk => (set_true li).2 (.inr hk), fun k hk => (set_true li).2 (.inl (Option.some.inj hk))⟩
      · rcases (set_true li).1 hk with rfl | hk
        · exact hs _ hp
        · exact h.snd k hk
      · rcases List.mem_append.1 hk with hk | hk
        · exact (set_true li).2 (.inr (h.qm k hk))
        · exact (set_true li).2 (.inl (List.mem_singleton.1 hk).symm)
      · rcases (set_true li).1 hj with rfl | hj
        · exact absurd (List.mem_append.2 (.inr (by simp))) hq
        · exact (set_true li).2 (.inr (h.cl j hj (fun c => hq (List.mem_append.2 (.inl c))) nd hnd s' hs' k hk))
      · have := cntF_set c
        simp only [List.length_append, List.length_cons, List.length_nil]
        omega
theorem meetsS_wy {V : Vw} : ∀ {l : List Int} {m : List Bool} {q : List Nat}, Wy V m q → (∀ s ∈ l, ∀ i, plc V.2 s = some i → Rch V i) →
    Wy V (meetsS V.2 l (m, q)).1 (meetsS V.2 l (m, q)).2 ∧ cntF (meetsS V.2 l (m, q)).1 + (meetsS V.2 l (m, q)).2.length = cntF m + q.length ∧ (∀ i : Nat, m[i]? = some true → (meetsS V.2 l (m, q)).1[i]? = some true) ∧ (∀ s ∈ l, ∀ i, plc V.2 s = some i → (meetsS V.2 l (m, q)).1[i]? = some true)
  | [], m, q, h, _ => ⟨h, rfl, fun i hi => hi, fun s hs => by simp at hs⟩
  | s :: l, m, q, h, hs => by
    obtain ⟨a1, a2, a3, a4⟩ := meetS_wy h (hs s (by simp))
    obtain ⟨b1, b2, b3, b4⟩ := meetsS_wy (l := l) a1 fun s' h' => hs s' (by simp [h'])
    refine ⟨b1, by rw [← a2]; exact b2, fun i hi => b3 i (a3 i hi), fun s' h' i hi => ?_⟩
    rcases List.mem_cons.1 h' with rfl | h'
    · exact b3 i (a4 i hi)
    · exact b4 s' h' i hi
theorem meetsS_app (N : List Nd) (a b : List Int) (mq : List Bool × List Nat) : meetsS N (a ++ b) mq = meetsS N b (meetsS N a mq) := by simp [meetsS, List.foldl_append]
theorem wy_0 (V : Vw) : Wy V (List.replicate V.2.length false) [] := by
  refine ⟨by simp, fun i hi => ?_, fun i hi => by simp at hi, fun j hj => ?_⟩
  · rw [List.getElem?_replicate] at hi; split at hi <;> simp at hi
  · rw [List.getElem?_replicate] at hj; split at hj <;> simp at hj
/-- What holds while node i's references are gone through. -/
structure Mid (V : Vw) (i : Nat) (m : List Bool) (q : List Nat) : Prop where
  len : m.length = V.2.length
  snd : ∀ k : Nat, m[k]? = some true → Rch V k
  qm : ∀ k ∈ q, m[k]? = some true
  cl : ∀ j : Nat, m[j]? = some true → j ∉ q → j ≠ i → ∀ nd, V.2[j]? = some nd → ∀ s ∈ refsOf nd.2, ∀ k, plc V.2 s = some k → m[k]? = some true
structure Tgt (V : Vw) (i : Nat) (l : List Int) (m : List Bool) (q : List Nat) (r : List Bool × List Nat) : Prop where
  mid : Mid V i r.1 r.2
  cnt : cntF r.1 + r.2.length = cntF m + q.length
  mono : ∀ k : Nat, m[k]? = some true → r.1[k]? = some true
  all : ∀ s ∈ l, ∀ k, plc V.2 s = some k → r.1[k]? = some true
theorem mid_meet {V : Vw} {i : Nat} {s : Int} {m : List Bool} {q : List Nat} (h : Mid V i m q) (hsr : ∀ k, plc V.2 s = some k → Rch V k) : Tgt V i [s] m q (meetS V.2 s (m, q)) := by
  cases hp : plc V.2 s with
  | none =>
    rw [meetS_no hp]
    exact ⟨h, rfl, fun k hk => hk, fun s' h' k hk => by rw [List.mem_singleton.1 h', hp] at hk; cases hk⟩
  | some k0 =>
    have lk : k0 < m.length := by rw [h.len]; exact plc_lt hp
    rcases get_cases lk with cc | cc
    · rw [meetS_at hp cc]
      exact ⟨h, rfl, fun k hk => hk, fun s' h' k hk => by rw [List.mem_singleton.1 h', hp] at hk; obtain rfl := Option.some.inj hk; exact cc⟩
    · rw [meetS_new hp cc]
      refine ⟨⟨by simpa using h.len, fun k hk => ?_, fun k hk => ?_, fun j hj hq hji nd' hnd' s' hs' k hk => ?_⟩, ?_, fun k hk => (set_true lk).2 (.inr hk), fun s' h' k hk => ?_⟩
      · rcases (set_true lk).1 hk with rfl | hk
        · exact hsr _ hp
        · exact h.snd k hk
      · rcases List.mem_append.1 hk with hk | hk
        · exact (set_true lk).2 (.inr (h.qm k hk))
        · exact (set_true lk).2 (.inl (List.mem_singleton.1 hk).symm)
      · rcases (set_true lk).1 hj with rfl | hj
        · exact absurd (List.mem_append.2 (.inr (by simp))) hq
        · exact (set_true lk).2 (.inr (h.cl j hj (fun c => hq (List.mem_append.2 (.inl c))) hji nd' hnd' s' hs' k hk))
      · have := cntF_set cc
        simp only [List.length_append, List.length_cons, List.length_nil]
        omega
      · rw [List.mem_singleton.1 h', hp] at hk
        exact (set_true lk).2 (.inl (Option.some.inj hk))
theorem mid_meets {V : Vw} {i : Nat} : ∀ {l : List Int} {m : List Bool} {q : List Nat}, Mid V i m q → (∀ s ∈ l, ∀ k, plc V.2 s = some k → Rch V k) → Tgt V i l m q (meetsS V.2 l (m, q))
  | [], m, q, h, _ => ⟨h, rfl, fun k hk => hk, fun s hs => by simp at hs⟩
  | s :: l, m, q, h, hs => by
    have a := mid_meet h (hs s (by simp))
    have b := mid_meets (l := l) (m := (meetS V.2 s (m, q)).1) (q := (meetS V.2 s (m, q)).2) a.mid fun s' h' => hs s' (by simp [h'])
    refine ⟨b.mid, by rw [← a.cnt]; exact b.cnt, fun k hk => b.mono k (a.mono k hk), fun s' h' k hk => ?_⟩
    rcases List.mem_cons.1 h' with rfl | h'
    · exact b.mono k (a.all s' (by simp) k hk)
    · exact b.all s' h' k hk
/-- One that is to be looked at, looked at. -/
theorem wy_pop {V : Vw} {m : List Bool} {i : Nat} {q : List Nat} {nd : Nd} (h : Wy V m (i :: q)) (hn : V.2[i]? = some nd) :
    Wy V (meetsS V.2 (refsOf nd.2) (m, q)).1 (meetsS V.2 (refsOf nd.2) (m, q)).2 ∧ cntF (meetsS V.2 (refsOf nd.2) (m, q)).1 + (meetsS V.2 (refsOf nd.2) (m, q)).2.length = cntF m + q.length ∧ (∀ k : Nat, m[k]? = some true → (meetsS V.2 (refsOf nd.2) (m, q)).1[k]? = some true) := by
  have hri := h.snd i (h.qm i (by simp))
  have t := mid_meets (V := V) (i := i) (l := refsOf nd.2) (m := m) (q := q) ⟨h.len, h.snd, fun k hk => h.qm k (by simp [hk]), fun j hj hq hji => h.cl j hj (by simp [hji, hq])⟩ fun s hs k hk => .step hri hn hs hk
  refine ⟨⟨t.mid.len, t.mid.snd, t.mid.qm, fun j hj hq nd' hnd' s' hs' k hk => ?_⟩, t.cnt, t.mono⟩
  by_cases hji : j = i
  · subst hji
    rw [hn] at hnd'
    obtain rfl := Option.some.inj hnd'
    exact t.all s' hs' k hk
  · exact t.mid.cl j hj hq hji nd' hnd' s' hs' k hk
theorem wy_end {V : Vw} {m : List Bool} (h : Wy V m []) (h0 : ∀ s ∈ seeds V, ∀ i, plc V.2 s = some i → m[i]? = some true) : m = metL V :=
  metL_eq h.len h.snd (rch_in h0 fun j hj nd hnd s hs i hi => h.cl j hj (by simp) nd hnd s hs i hi)
/-! ### 2. The statement's way: serials, one behind the other -/
def wsum : List Bool → List Nd → Nat
  | b :: m, nd :: N => (if b then 0 else (refsOf nd.2).length) + wsum m N
  | _, _ => 0
theorem wsum_set : ∀ {m : List Bool} {N : List Nd} {i : Nat} {nd : Nd}, m[i]? = some false → N[i]? = some nd → wsum (m.set i true) N + (refsOf nd.2).length = wsum m N
  | [], N, i, nd, h, _ => by simp at h
  | b :: m, [], i, nd, _, h => by simp at h
  | b :: m, x :: N, 0, nd, h, h' => by
    simp only [List.getElem?_cons_zero, Option.some.injEq] at h h'
    subst h; subst h'
    simp [wsum]; omega
  | b :: m, x :: N, i + 1, nd, h, h' => by
    have := wsum_set (m := m) (N := N) (i := i) (nd := nd) (by simpa using h) (by simpa using h')
    simp only [List.set_cons_succ, wsum]
    omega
structure Wz (V : Vw) (m : List Bool) (q : List Int) (a : Nat) : Prop where
  len : m.length = V.2.length
  snd : ∀ i : Nat, m[i]? = some true → Rch V i
  src : ∀ s ∈ q, ∀ i, plc V.2 s = some i → Rch V i
  sd : ∀ s ∈ seeds V, s ∈ q
  done : ∀ k, k < a → ∀ s, q[k]? = some s → ∀ i, plc V.2 s = some i → m[i]? = some true
  cl : ∀ j : Nat, m[j]? = some true → ∀ nd, V.2[j]? = some nd → ∀ s ∈ refsOf nd.2, s ∈ q
theorem wz_0 (V : Vw) : Wz V (List.replicate V.2.length false) (seeds V) 0 := by
  refine ⟨by simp, fun i hi => ?_, fun s hs i hi => .seed hs hi, fun s hs => hs, fun k hk => by omega, fun j hj => ?_⟩
  · rw [List.getElem?_replicate] at hi; split at hi <;> simp at hi
  · rw [List.getElem?_replicate] at hj; split at hj <;> simp at hj
theorem wz_skip {V : Vw} {m : List Bool} {q : List Int} {a : Nat} {s : Int} (h : Wz V m q a) (hs : q[a]? = some s) (hm : ∀ i, plc V.2 s = some i → m[i]? = some true) : Wz V m q (a + 1) := by
  refine ⟨h.len, h.snd, h.src, h.sd, fun k hk s' hs' => ?_, h.cl⟩
  by_cases e : k = a
  · subst e
    rw [hs] at hs'
    obtain rfl := Option.some.inj hs'
    exact hm
  · exact h.done k (by omega) s' hs'
theorem wz_meet {V : Vw} {m : List Bool} {q : List Int} {a i : Nat} {s : Int} {nd : Nd} (h : Wz V m q a) (hs : q[a]? = some s) (hp : plc V.2 s = some i) (hn : V.2[i]? = some nd) : Wz V (m.set i true) (q ++ refsOf nd.2) (a + 1) := by
  have li : i < m.length := by rw [h.len]; exact plc_lt hp
  have la : a < q.length := (List.getElem?_eq_some_iff.1 hs).1
  have hr : Rch V i := h.src s (List.mem_of_getElem? hs) i hp
  refine ⟨by simpa using h.len, fun k hk => ?_, fun s' hs' k hk => ?_, fun s' hs' => List.mem_append.2 (.inl (h.sd s' hs')), fun k hk s' hs' j hj => ?_, fun j hj nd' hnd' s' hs' => ?_⟩
  · rcases (set_true li).1 hk with rfl | hk
    · exact hr
    · exact h.snd k hk
  · rcases List.mem_append.1 hs' with c | c
    · exact h.src s' c k hk
    · exact .step hr hn c hk
  · rw [List.getElem?_append_left (by omega)] at hs'
    by_cases e : k = a
    · subst e
      rw [hs] at hs'
      obtain rfl := Option.some.inj hs'
      rw [hp] at hj
      exact (set_true li).2 (.inl (Option.some.inj hj))
    · exact (set_true li).2 (.inr (h.done k (by omega) s' hs' j hj))
  · rcases (set_true li).1 hj with rfl | hj
    · rw [hn] at hnd'
      obtain rfl := Option.some.inj hnd'
      exact List.mem_append.2 (.inr hs')
    · exact List.mem_append.2 (.inl (h.cl j hj nd' hnd' s' hs'))
theorem wz_end {V : Vw} {m : List Bool} {q : List Int} (h : Wz V m q q.length) : m = metL V := by
  have hd : ∀ s ∈ q, ∀ i, plc V.2 s = some i → m[i]? = some true := fun s hs i hi => by
    obtain ⟨k, hk, rfl⟩ := List.getElem_of_mem hs
    exact h.done k hk _ (List.getElem?_eq_getElem hk) i hi
  exact metL_eq h.len h.snd (rch_in (fun s hs i hi => hd s (h.sd s hs) i hi) fun j hj nd hnd s hs i hi => hd s (h.cl j hj nd hnd s hs) i hi)
end Go.Proofs.YtfdpmgddlaamcaaV
