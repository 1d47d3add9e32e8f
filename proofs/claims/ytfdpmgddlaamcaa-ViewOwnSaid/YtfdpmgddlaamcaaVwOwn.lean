/- ViewOwn: a clone is apart. -/
import Derived.Test.YtfdpmgddlaamcaaVw12
namespace Go.Proofs.YtfdpmgddlaamcaaV
open Go Go.Proofs Go.RowKit
set_option linter.unusedVariables false
set_option linter.unusedSimpArgs false
set_option maxRecDepth 10000
/-! ### 1. The same shape -/
def Sm (w w' : World) : Prop := ∀ (g : Nat) (cs : Array Value) (e : TypeId), w.heap[g]? = some (.cells cs e (0, 0)) → ∃ cs' : Array Value, w'.heap[g]? = some (.cells cs' e (0, 0)) ∧ cs'.size = cs.size
theorem Sm.refl (w : World) : Sm w w := fun _ cs _ h => ⟨cs, h, rfl⟩
theorem Sm.trans {a b c : World} (h : Sm a b) (k : Sm b c) : Sm a c := fun g cs e x => by
  obtain ⟨cs', y, s⟩ := h g cs e x
  obtain ⟨cs'', z, s'⟩ := k g cs' e y
  exact ⟨cs'', z, s'.trans s⟩
theorem Upd.sm {w w' : World} {g : Nat} {cs cs' : Array Value} {e : TypeId} (hg : w.heap[g]? = some (.cells cs e (0, 0))) (hs : cs'.size = cs.size) (h : Upd w g (.cells cs' e (0, 0)) w') : Sm w w' := fun k c e' hk => by
  by_cases c1 : k = g
  · subst c1
    rw [hg] at hk
    simp only [Option.some.injEq, Obj.cells.injEq] at hk
    obtain ⟨rfl, rfl, _⟩ := hk
    exact ⟨cs', h.at_, hs⟩
  · exact ⟨c, h.fr.at_ hk (by simpa using c1), rfl⟩
theorem Fr.sm {w w' : World} (h : Fr [] w w') : Sm w w' := fun g cs e x => ⟨cs, h.at_ x (by simp), rfl⟩
section
variable {K : VK} {w : World}
/-- A value put into a list of one's own, whatever was put into it ahead. -/
theorem put_c {W : World} {v x : Value} {e : TypeId} {xs : List (List Value)} {k : IntKind} {j : Nat} {F : World → Prop} (ho : OwnS W v e 2 xs) (hs : Sm W w) (hj : j < xs.length) (hx : x.cells.size = 2) (h1 : ∀ u ∈ x.cells.toList, u.oneCell' = true)
    (hk : ∀ w', Fr (blkS v) w w' → Sm w w' → F w') : C.idx 2 v (.int k (j : Int)) w fun p w1 => C.store 2 p x w1 F := by
  obtain ⟨⟨h2, h3⟩, h4⟩ := ho
  rcases h3 with ⟨rfl, h3⟩ | ⟨g, cap, cur, rfl, hb, hh, h5, h6, h7, h8⟩
  · omega
  · obtain ⟨cs', hc, hz⟩ := hs g cur e hh
    simp only [C.idx_mk]
    refine ⟨⟨by omega, by omega⟩, C.store_of hc hx h1 (by omega) fun w' hu => hk w' (hu.fr.mono (by simp [blkS, Value.ownBlock])) (Upd.sm hc ?_ hu)⟩
    have hxl : x.cells.toList.length = 2 := by simpa using hx
    rw [List.size_toArray, setAt_length (by rw [hxl]; simp; omega)]
    simp
def cb (r : Value) (vs : List Value) (x : Value) (fs : List Value) : List Nat := blkS r ++ vs.flatMap blkS ++ (blkS x ++ fs.flatMap blkS)
/-- What is written on. -/
def cw (x : Value) (vs fs : List Value) : List Nat := blkS x ++ fs.flatMap blkS ++ vs.flatMap blkS
theorem cw_cb {r x : Value} {vs fs : List Value} : ∀ g ∈ cw x vs fs, g ∈ cb r vs x fs := fun g hg => by
  unfold cw at hg
  unfold cb
  simp only [List.mem_append] at hg ⊢
  rcases hg with (h | h) | h
  · exact .inr (.inl h)
  · exact .inr (.inr h)
  · exact .inl (.inr h)
theorem rows_all {lo : Nat} {r : Value} {L : List (List Va)} {vs : List Value} (h : OwnRows lo w r L vs) {s : Value} (hs : s ∈ vs) : ∃ i, ∃ h1 : i < L.length, OwnS w s 71 2 (valC L[i]) ∧ ∀ g ∈ blkS s, lo ≤ g := by
  obtain ⟨i, hi, rfl⟩ := List.getElem_of_mem hs
  have hi' : i < L.length := by rw [← h.len]; exact hi
  exact ⟨i, hi', h.row i hi' hi⟩
theorem nodes_all {lo : Nat} {x : Value} {N : List Nd} {fs : List Value} (h : OwnNodes lo w x N fs) {s : Value} (hs : s ∈ fs) : ∃ i, ∃ h1 : i < N.length, OwnS w s 71 2 (valC N[i].2) ∧ ∀ g ∈ blkS s, lo ≤ g := by
  obtain ⟨i, hi, rfl⟩ := List.getElem_of_mem hs
  have hi' : i < N.length := by rw [← h.len]; exact hi
  exact ⟨i, hi', h.row i hi' hi⟩
theorem cb_lt {lo : Nat} {r x : Value} {V : Vw} {vs fs : List Value} (O : OwnRows lo w r V.1 vs) (N : OwnNodes lo w x V.2 fs) : ∀ g ∈ cb r vs x fs, g < w.heap.size := fun g hg => by
  unfold cb at hg
  simp only [List.mem_append, List.mem_flatMap] at hg
  rcases hg with (h | ⟨s, hs, h⟩) | h | ⟨s, hs, h⟩
  · exact O.sp.mem_lt g h
  · obtain ⟨i, h1, h2, _⟩ := rows_all O hs
    exact h2.mem_lt g h
  · exact N.sp.mem_lt g h
  · obtain ⟨i, h1, h2, _⟩ := nodes_all N hs
    exact h2.mem_lt g h
theorem cb_ge {lo : Nat} {r x : Value} {V : Vw} {vs fs : List Value} (O : OwnRows lo w r V.1 vs) (N : OwnNodes lo w x V.2 fs) : ∀ g ∈ cb r vs x fs, lo ≤ g := fun g hg => by
  unfold cb at hg
  simp only [List.mem_append, List.mem_flatMap] at hg
  rcases hg with (h | ⟨s, hs, h⟩) | h | ⟨s, hs, h⟩
  · exact O.ge g h
  · obtain ⟨i, h1, _, h2⟩ := rows_all O hs
    exact h2 g h
  · exact N.ge g h
  · obtain ⟨i, h1, _, h2⟩ := nodes_all N hs
    exact h2 g h
theorem cw_off {lo : Nat} {r x : Value} {V : Vw} {vs fs : List Value} (O : OwnRows lo w r V.1 vs) (N : OwnNodes lo w x V.2 fs) {b : Nat} {cs : Array Value} {e : TypeId} {fz : Nat × Nat} (hb : w.heap[b]? = some (.cells cs e fz)) (h1 : e ≠ 71) (h2 : e ≠ 61) : b ∉ cw x vs fs := fun hg => by
  unfold cw at hg
  simp only [List.mem_append, List.mem_flatMap] at hg
  rcases hg with (h | ⟨s, hs, h⟩) | ⟨s, hs, h⟩
  · exact N.sp.nb hb (Ne.symm h2) h
  · obtain ⟨i, _, h3, _⟩ := nodes_all N hs
    exact h3.nb hb (Ne.symm h1) h
  · obtain ⟨i, _, h3, _⟩ := rows_all O hs
    exact h3.nb hb (Ne.symm h1) h
/-! ### 2. The clone written on -/
theorem b71 : (Instr.build 71 #[(0, .int .i64 9)]).run Try.prog w = .ok (.agg #[.int .i64 9, .int .i64 0]) w := by kernel_rfl
theorem own_ty {W : World} {s : Value} {e : TypeId} {sz : Nat} {xs : List (List Value)} (ho : OwnS W s e sz xs) (hs : Sm W w) {g : Nat} (hg : g ∈ blkS s) : ∃ cs, w.heap[g]? = some (.cells cs e (0, 0)) := by
  obtain ⟨⟨_, hx⟩, _⟩ := ho
  rcases hx with ⟨e, _⟩ | ⟨k, cap, cur, e, _, hh, _⟩
  · rw [e] at hg; simp [blkS, Value.ownBlock] at hg
  · rw [e] at hg
    simp [blkS, Value.ownBlock] at hg
    subst hg
    obtain ⟨cs', h1, _⟩ := hs _ _ _ hh
    exact ⟨cs', h1⟩
/-- The nodes' block. -/
def ND (w : World) (x : Value) (fs : List Value) : Prop := ∃ g cap cs, x = .slice (some ⟨g, 0, none⟩) fs.length cap ∧ w.heap[g]? = some (.cells cs 61 (0, 0)) ∧ cap * 2 = cs.size ∧ fs.length ≤ cap ∧ ∀ i (h : i < fs.length), cs[i * 2 + 1]? = some fs[i]
/-- What is known while the clone is written on. -/
structure OW (W5 w : World) (b5 : Nat) (r x : Value) (vs fs : List Value) : Prop where
  fr : Fr (cw x vs fs) W5 w
  sm : Sm W5 w
  h5 : VB w b5 r x
  nd : fs ≠ [] → ND w x fs
theorem ND.of {lo : Nat} {x : Value} {N : List Nd} {fs : List Value} (h : OwnNodes lo w x N fs) (hne : fs ≠ []) : ND w x fs := by
  have hr := h.sp.rd
  have hl := ndC_len h.len
  obtain ⟨⟨_, hx⟩, _⟩ := h.sp
  obtain ⟨A, c, e1, _, _, h3⟩ := hr
  have hn : ndC N fs ≠ [] := fun c => by
    have := congrArg List.length c
    rw [hl, ← h.len] at this
    exact hne (List.eq_nil_of_length_eq_zero this)
  obtain ⟨g, o, cs, e', fz, rfl, hg, hc⟩ := h3 hn
  rcases hx with ⟨e, e0⟩ | ⟨k, cap, cur, e, _, hh, h5, _, h7, _⟩
  · exact absurd (List.eq_nil_of_length_eq_zero e0) hn
  · have e2 := e1.symm.trans e
    simp only [Value.slice.injEq, Option.some.injEq, Addr.mk.injEq] at e2
    obtain ⟨⟨rfl, rfl, _⟩, _, rfl⟩ := e2
    rw [hh] at hg
    simp only [Option.some.injEq, Obj.cells.injEq] at hg
    obtain ⟨rfl, rfl, _⟩ := hg
    refine ⟨g, c, cur, ?_, hh, h7.symm, by rw [h.len, ← hl]; exact h5, fun i hi => ?_⟩
    · rw [e, hl, h.len]
    · have hi' : i < N.length := by rw [← h.len]; exact hi
      have := (hc i _ (ndC_get hi' hi)).2 1 (by omega)
      rw [Nat.zero_add] at this
      simpa using this
section
variable {W5 : World} {b5 : Nat} {lo : Nat} {r x : Value} {V : Vw} {vs fs : List Value}
theorem OW.keep {w' : World} (h : OW W5 w b5 r x vs fs) (hf : Fr [] w w') : OW W5 w' b5 r x vs fs :=
  ⟨h.fr.trans hf.w, h.sm.trans hf.sm, h.h5.keep hf (by simp), fun hne => by
    obtain ⟨g, cap, cs, a, b, c, d, e⟩ := h.nd hne
    exact ⟨g, cap, cs, a, hf.at_ b (by simp), c, d, e⟩⟩
/-- A list of values written on. -/
theorem OW.wr {w' : World} {s : Value} {l : List Va} (h : OW W5 w b5 r x vs fs) (hs : s ∈ fs ∨ s ∈ vs) (ho : OwnS W5 s 71 2 (valC l)) (hf : Fr (blkS s) w w') (hm : Sm w w') : OW W5 w' b5 r x vs fs := by
  have off : ∀ {b : Nat} {cs : Array Value} {e : TypeId} {fz : Nat × Nat}, w.heap[b]? = some (.cells cs e fz) → e ≠ 71 → b ∉ blkS s := fun hb he hg => by
    obtain ⟨cs', h1⟩ := own_ty ho h.sm hg
    rw [hb] at h1
    simp only [Option.some.injEq, Obj.cells.injEq] at h1
    exact he h1.2.1
  refine ⟨h.fr.trans (hf.mono fun g hg => ?_), h.sm.trans hm, h.h5.keep hf (off h.h5 (by decide)), fun hne => ?_⟩
  · unfold cw
    simp only [List.mem_append, List.mem_flatMap]
    rcases hs with c | c
    · exact .inl (.inr ⟨s, c, hg⟩)
    · exact .inr ⟨s, c, hg⟩
  · obtain ⟨g, cap, cs, a, b, c, d, e⟩ := h.nd hne
    exact ⟨g, cap, cs, a, hf.at_ b (off b (by decide)), c, d, e⟩
/-- A serial written on. -/
theorem OW.ser {i : Nat} {n : Int} {F : World → Prop} (h : OW W5 w b5 r x vs fs) (hi : i < fs.length) (hk : ∀ w', OW W5 w' b5 r x vs fs → F w') :
    C.field 1 (.pointer (some ⟨b5, 0, none⟩)) w fun p w1 => C.load1 p w1 fun y w2 => C.idx 2 y (.int .i64 (i : Int)) w2 fun q w3 => C.field 0 q w3 fun q2 w4 => C.store 1 q2 (.int .i64 n) w4 F := by
  obtain ⟨g, cap, cs, rfl, b, c, d, e⟩ := h.nd (fun c => by subst c; simp at hi)
  refine h.h5.f1 ?_
  simp only [C.idx_mk]
  refine ⟨⟨by omega, by omega⟩, ?_⟩
  simp only [C.ite_true, C.ite_false, C.pick_true, C.pick_false, C.not_bool, C.field_ptr, C.nilCheck_ptr, C.add_mk, C.sub_mk, C.mul_mk, C.eql_mk, C.neq_mk, C.lss_mk, C.leq_mk, C.gtr_mk, C.geq_mk, C.conv_mk, C.len_mk, C.ext_0, C.ext_1, C.ext3_0, C.ext3_1, C.ext3_2, C.guarded_yes, C.guarded_tf, C.guarded_ft, C.guarded_undef, Bool.not_true, Bool.not_false, Nat.zero_add, eq_self, decide_true, decide_false]
  refine C.store1_of b rfl rfl (by omega) fun w' hu => hk w' ⟨h.fr.trans (hu.fr.mono fun z hz => ?_), h.sm.trans (Upd.sm b (by simp) hu), h.h5.keep hu.fr ?_, fun _ => ⟨g, cap, _, rfl, hu.at_, by simpa using c, d, fun k hk' => ?_⟩⟩
  · simp only [List.mem_singleton] at hz
    subst hz
    simp [cw, blkS, Value.ownBlock]
  · simp only [List.mem_singleton]
    intro e1
    subst e1
    have := h.h5
    unfold VB at this
    rw [this] at b
    simp only [Option.some.injEq, Obj.cells.injEq] at b
    exact absurd b.2.1 (by decide)
  · rw [Array.getElem?_setIfInBounds_ne (by omega)]
    exact e k hk'
/-- A node's list. -/
theorem OW.fld {i : Nat} (h : OW W5 w b5 r x vs fs) (hi : i < fs.length) (hk : K fs[i] w) :
    C.field 1 (.pointer (some ⟨b5, 0, none⟩)) w fun p w1 => C.load1 p w1 fun y w2 => C.idx 2 y (.int .i64 (i : Int)) w2 fun q w3 => C.field 1 q w3 fun q2 w4 => C.load1 q2 w4 K := by
  obtain ⟨g, cap, cs, rfl, b, c, d, e⟩ := h.nd (fun c => by subst c; simp at hi)
  refine h.h5.f1 ?_
  simp only [C.idx_mk]
  refine ⟨⟨by omega, by omega⟩, ?_⟩
  simp only [C.ite_true, C.ite_false, C.pick_true, C.pick_false, C.not_bool, C.field_ptr, C.nilCheck_ptr, C.add_mk, C.sub_mk, C.mul_mk, C.eql_mk, C.neq_mk, C.lss_mk, C.leq_mk, C.gtr_mk, C.geq_mk, C.conv_mk, C.len_mk, C.ext_0, C.ext_1, C.ext3_0, C.ext3_1, C.ext3_2, C.guarded_yes, C.guarded_tf, C.guarded_ft, C.guarded_undef, Bool.not_true, Bool.not_false, Nat.zero_add, eq_self, decide_true, decide_false]
  exact C.load1_of b (by simpa using e i hi) hk
theorem OW.row {i : Nat} (O : OwnRows lo W5 r V.1 vs) (N : OwnNodes lo W5 x V.2 fs) (h : OW W5 w b5 r x vs fs) (hi : i < vs.length) (hk : K vs[i] w) :
    C.field 0 (.pointer (some ⟨b5, 0, none⟩)) w fun p w1 => C.load1 p w1 fun y w2 => C.idx 1 y (.int .i64 (i : Int)) w2 fun q w3 => C.load1 q w3 K := by
  have hr := (O.sp.keep' h.fr fun g hg c => by
    obtain ⟨cs, hc⟩ := own_ty O.sp (Sm.refl W5) hg
    exact cw_off O N hc (by decide) (by decide) c).rd
  refine h.h5.f0 (C.idx_rd hr (by omega) (by rw [Int.toNat_natCast]; exact slC_get hi) fun g o cs e fz hg _ hc => C.load1_of hg (v := vs[i]) ?_ hk)
  have := hc 0 (by omega)
  simpa using this
/-! ### 3. The loops -/
theorem own_rowsIn {y2 y6 : Value} {i : Nat} (O : OwnRows lo W5 r V.1 vs) (N : OwnNodes lo W5 x V.2 fs) (hi : i < vs.length)
    (h : ∀ w', OW W5 w' b5 r x vs fs → F9.k21 K y2 (.pointer (some ⟨b5, 0, none⟩)) y6 (.int .i64 (i : Int)) w') :
    ∀ (d j : Nat) (w : World), (V.1[i]'(by rw [← O.len]; exact hi)).length = j + d → OW W5 w b5 r x vs fs → F9.l23 K y2 (.pointer (some ⟨b5, 0, none⟩)) y6 (.int .i64 (i : Int)) (.int .i64 (j : Int)) w := by
  have hi' : i < V.1.length := by rw [← O.len]; exact hi
  obtain ⟨hs, _⟩ := O.row i hi' hi
  have hsl := hs.rd.le
  rw [valC_len] at hsl
  intro d
  induction d with
  | zero =>
    intro j w hj hI
    refine F9.l23.to (hI.row O N hi ?_)
    obtain ⟨A, c, e⟩ := hs.len
    rw [e, valC_len]
    simp only [C.ite_true, C.ite_false, C.pick_true, C.pick_false, C.not_bool, C.field_ptr, C.nilCheck_ptr, C.add_mk, C.sub_mk, C.mul_mk, C.eql_mk, C.neq_mk, C.lss_mk, C.leq_mk, C.gtr_mk, C.geq_mk, C.conv_mk, C.len_mk, C.ext_0, C.ext_1, C.ext3_0, C.ext3_1, C.ext3_2, C.guarded_yes, C.guarded_tf, C.guarded_ft, C.guarded_undef, Bool.not_true, Bool.not_false, Nat.zero_add, eq_self, decide_true, decide_false, show ¬ ((j : Int) < (V.1[i].length : Int)) by omega]
    exact h w hI
  | succ d ih =>
    intro j w hj hI
    have jl : j < V.1[i].length := by omega
    refine F9.l23.to (hI.row O N hi ?_)
    obtain ⟨A, c, e⟩ := hs.len
    rw [e, valC_len]
    simp only [C.ite_true, C.ite_false, C.pick_true, C.pick_false, C.not_bool, C.field_ptr, C.nilCheck_ptr, C.add_mk, C.sub_mk, C.mul_mk, C.eql_mk, C.neq_mk, C.lss_mk, C.leq_mk, C.gtr_mk, C.geq_mk, C.conv_mk, C.len_mk, C.ext_0, C.ext_1, C.ext3_0, C.ext3_1, C.ext3_2, C.guarded_yes, C.guarded_tf, C.guarded_ft, C.guarded_undef, Bool.not_true, Bool.not_false, Nat.zero_add, eq_self, decide_true, decide_false, show ((j : Int) < (V.1[i].length : Int)) by omega]
    refine F9.k25.to (hI.row O N hi (C.run_of b71 (put_c hs hI.sm (by rw [valC_len]; exact jl) rfl (by simp [Value.cells, Value.oneCell']) fun w1 hf1 hm1 => ?_)))
    refine F9.k24.to ?_
    simp only [C.ite_true, C.ite_false, C.pick_true, C.pick_false, C.not_bool, C.field_ptr, C.nilCheck_ptr, C.add_mk, C.sub_mk, C.mul_mk, C.eql_mk, C.neq_mk, C.lss_mk, C.leq_mk, C.gtr_mk, C.geq_mk, C.conv_mk, C.len_mk, C.ext_0, C.ext_1, C.ext3_0, C.ext3_1, C.ext3_2, C.guarded_yes, C.guarded_tf, C.guarded_ft, C.guarded_undef, Bool.not_true, Bool.not_false, Nat.zero_add, eq_self, decide_true, decide_false]
    rw [wrap64_id (n := (j : Int) + 1) (by omega), show (j : Int) + 1 = ((j + 1 : Nat) : Int) by omega]
    exact ih (j + 1) w1 (by omega) (hI.wr (.inr (List.getElem_mem hi)) hs hf1 hm1)
theorem own_rows {y2 y6 : Value} (O : OwnRows lo W5 r V.1 vs) (N : OwnNodes lo W5 x V.2 fs)
    (h : ∀ w', OW W5 w' b5 r x vs fs → F9.k26 K y2 y6 w') :
    ∀ (d i : Nat) (w : World), V.1.length = i + d → OW W5 w b5 r x vs fs → F9.l20 K y2 (.pointer (some ⟨b5, 0, none⟩)) y6 (.int .i64 (i : Int)) w := by
  have hrl : ∀ {w1 : World} {G : VK}, G (.int .i64 (V.1.length : Int)) w1 → C.len r w1 G := fun hG => by
    obtain ⟨A, c, e⟩ := O.sp.len
    rw [e, slC_len, O.len]
    simpa only [C.len_mk] using hG
  have hle := O.rd.le
  intro d
  induction d with
  | zero =>
    intro i w hi hI
    refine F9.l20.to (hI.h5.f0 (hrl ?_))
    simp only [C.ite_true, C.ite_false, C.pick_true, C.pick_false, C.not_bool, C.field_ptr, C.nilCheck_ptr, C.add_mk, C.sub_mk, C.mul_mk, C.eql_mk, C.neq_mk, C.lss_mk, C.leq_mk, C.gtr_mk, C.geq_mk, C.conv_mk, C.len_mk, C.ext_0, C.ext_1, C.ext3_0, C.ext3_1, C.ext3_2, C.guarded_yes, C.guarded_tf, C.guarded_ft, C.guarded_undef, Bool.not_true, Bool.not_false, Nat.zero_add, eq_self, decide_true, decide_false, show ¬ ((i : Int) < (V.1.length : Int)) by omega]
    exact h w hI
  | succ d ih =>
    intro i w hi hI
    have il : i < V.1.length := by omega
    refine F9.l20.to (hI.h5.f0 (hrl ?_))
    simp only [C.ite_true, C.ite_false, C.pick_true, C.pick_false, C.not_bool, C.field_ptr, C.nilCheck_ptr, C.add_mk, C.sub_mk, C.mul_mk, C.eql_mk, C.neq_mk, C.lss_mk, C.leq_mk, C.gtr_mk, C.geq_mk, C.conv_mk, C.len_mk, C.ext_0, C.ext_1, C.ext3_0, C.ext3_1, C.ext3_2, C.guarded_yes, C.guarded_tf, C.guarded_ft, C.guarded_undef, Bool.not_true, Bool.not_false, Nat.zero_add, eq_self, decide_true, decide_false, show ((i : Int) < (V.1.length : Int)) by omega]
    refine F9.k22.to (own_rowsIn O N (by rw [O.len]; exact il) (fun w1 hI1 => ?_) V.1[i].length 0 w (by omega) hI)
    refine F9.k21.to ?_
    simp only [C.ite_true, C.ite_false, C.pick_true, C.pick_false, C.not_bool, C.field_ptr, C.nilCheck_ptr, C.add_mk, C.sub_mk, C.mul_mk, C.eql_mk, C.neq_mk, C.lss_mk, C.leq_mk, C.gtr_mk, C.geq_mk, C.conv_mk, C.len_mk, C.ext_0, C.ext_1, C.ext3_0, C.ext3_1, C.ext3_2, C.guarded_yes, C.guarded_tf, C.guarded_ft, C.guarded_undef, Bool.not_true, Bool.not_false, Nat.zero_add, eq_self, decide_true, decide_false]
    rw [wrap64_id (n := (i : Int) + 1) (by omega), show (i : Int) + 1 = ((i + 1 : Nat) : Int) by omega]
    exact ih (i + 1) w1 (by omega) hI1
theorem own_fields {y2 y6 : Value} {i : Nat} (O : OwnRows lo W5 r V.1 vs) (N : OwnNodes lo W5 x V.2 fs) (hi : i < fs.length)
    (h : ∀ w', OW W5 w' b5 r x vs fs → F9.k13 K y2 (.pointer (some ⟨b5, 0, none⟩)) y6 (.int .i64 (i : Int)) w') :
    ∀ (d j : Nat) (w : World), (V.2[i]'(by rw [← N.len]; exact hi)).2.length = j + d → OW W5 w b5 r x vs fs → F9.l16 K y2 (.pointer (some ⟨b5, 0, none⟩)) y6 (.int .i64 (i : Int)) (.int .i64 (j : Int)) w := by
  have hi' : i < V.2.length := by rw [← N.len]; exact hi
  obtain ⟨hs, _⟩ := N.row i hi' hi
  have hsl := hs.rd.le
  rw [valC_len] at hsl
  intro d
  induction d with
  | zero =>
    intro j w hj hI
    refine F9.l16.to (hI.fld hi ?_)
    obtain ⟨A, c, e⟩ := hs.len
    rw [e, valC_len]
    simp only [C.ite_true, C.ite_false, C.pick_true, C.pick_false, C.not_bool, C.field_ptr, C.nilCheck_ptr, C.add_mk, C.sub_mk, C.mul_mk, C.eql_mk, C.neq_mk, C.lss_mk, C.leq_mk, C.gtr_mk, C.geq_mk, C.conv_mk, C.len_mk, C.ext_0, C.ext_1, C.ext3_0, C.ext3_1, C.ext3_2, C.guarded_yes, C.guarded_tf, C.guarded_ft, C.guarded_undef, Bool.not_true, Bool.not_false, Nat.zero_add, eq_self, decide_true, decide_false, show ¬ ((j : Int) < (V.2[i].2.length : Int)) by omega]
    exact h w hI
  | succ d ih =>
    intro j w hj hI
    have jl : j < V.2[i].2.length := by omega
    refine F9.l16.to (hI.fld hi ?_)
    obtain ⟨A, c, e⟩ := hs.len
    rw [e, valC_len]
    simp only [C.ite_true, C.ite_false, C.pick_true, C.pick_false, C.not_bool, C.field_ptr, C.nilCheck_ptr, C.add_mk, C.sub_mk, C.mul_mk, C.eql_mk, C.neq_mk, C.lss_mk, C.leq_mk, C.gtr_mk, C.geq_mk, C.conv_mk, C.len_mk, C.ext_0, C.ext_1, C.ext3_0, C.ext3_1, C.ext3_2, C.guarded_yes, C.guarded_tf, C.guarded_ft, C.guarded_undef, Bool.not_true, Bool.not_false, Nat.zero_add, eq_self, decide_true, decide_false, show ((j : Int) < (V.2[i].2.length : Int)) by omega]
    refine F9.k18.to (hI.fld hi (C.run_of b71 (put_c hs hI.sm (by rw [valC_len]; exact jl) rfl (by simp [Value.cells, Value.oneCell']) fun w1 hf1 hm1 => ?_)))
    refine F9.k17.to ?_
    simp only [C.ite_true, C.ite_false, C.pick_true, C.pick_false, C.not_bool, C.field_ptr, C.nilCheck_ptr, C.add_mk, C.sub_mk, C.mul_mk, C.eql_mk, C.neq_mk, C.lss_mk, C.leq_mk, C.gtr_mk, C.geq_mk, C.conv_mk, C.len_mk, C.ext_0, C.ext_1, C.ext3_0, C.ext3_1, C.ext3_2, C.guarded_yes, C.guarded_tf, C.guarded_ft, C.guarded_undef, Bool.not_true, Bool.not_false, Nat.zero_add, eq_self, decide_true, decide_false]
    rw [wrap64_id (n := (j : Int) + 1) (by omega), show (j : Int) + 1 = ((j + 1 : Nat) : Int) by omega]
    exact ih (j + 1) w1 (by omega) (hI.wr (.inl (List.getElem_mem hi)) hs hf1 hm1)
theorem own_nodes {y2 y6 : Value} (O : OwnRows lo W5 r V.1 vs) (N : OwnNodes lo W5 x V.2 fs)
    (h : ∀ w', OW W5 w' b5 r x vs fs → F9.k19 K y2 (.pointer (some ⟨b5, 0, none⟩)) y6 w') :
    ∀ (d i : Nat) (w : World), V.2.length = i + d → OW W5 w b5 r x vs fs → F9.l12 K y2 (.pointer (some ⟨b5, 0, none⟩)) y6 (.int .i64 (i : Int)) w := by
  have hxl : ∀ {w1 : World} {G : VK}, G (.int .i64 (V.2.length : Int)) w1 → C.len x w1 G := fun hG => by
    obtain ⟨A, c, e⟩ := N.sp.len
    rw [e, ndC_len N.len]
    simpa only [C.len_mk] using hG
  have hle := N.rd.le
  intro d
  induction d with
  | zero =>
    intro i w hi hI
    refine F9.l12.to (hI.h5.f1 (hxl ?_))
    simp only [C.ite_true, C.ite_false, C.pick_true, C.pick_false, C.not_bool, C.field_ptr, C.nilCheck_ptr, C.add_mk, C.sub_mk, C.mul_mk, C.eql_mk, C.neq_mk, C.lss_mk, C.leq_mk, C.gtr_mk, C.geq_mk, C.conv_mk, C.len_mk, C.ext_0, C.ext_1, C.ext3_0, C.ext3_1, C.ext3_2, C.guarded_yes, C.guarded_tf, C.guarded_ft, C.guarded_undef, Bool.not_true, Bool.not_false, Nat.zero_add, eq_self, decide_true, decide_false, show ¬ ((i : Int) < (V.2.length : Int)) by omega]
    exact h w hI
  | succ d ih =>
    intro i w hi hI
    have il : i < V.2.length := by omega
    have ilf : i < fs.length := by rw [N.len]; exact il
    refine F9.l12.to (hI.h5.f1 (hxl ?_))
    simp only [C.ite_true, C.ite_false, C.pick_true, C.pick_false, C.not_bool, C.field_ptr, C.nilCheck_ptr, C.add_mk, C.sub_mk, C.mul_mk, C.eql_mk, C.neq_mk, C.lss_mk, C.leq_mk, C.gtr_mk, C.geq_mk, C.conv_mk, C.len_mk, C.ext_0, C.ext_1, C.ext3_0, C.ext3_1, C.ext3_2, C.guarded_yes, C.guarded_tf, C.guarded_ft, C.guarded_undef, Bool.not_true, Bool.not_false, Nat.zero_add, eq_self, decide_true, decide_false, show ((i : Int) < (V.2.length : Int)) by omega]
    refine F9.k14.to (hI.ser ilf fun w1 hI1 => own_fields O N ilf (fun w2 hI2 => ?_) V.2[i].2.length 0 w1 (by omega) hI1)
    refine F9.k13.to ?_
    simp only [C.ite_true, C.ite_false, C.pick_true, C.pick_false, C.not_bool, C.field_ptr, C.nilCheck_ptr, C.add_mk, C.sub_mk, C.mul_mk, C.eql_mk, C.neq_mk, C.lss_mk, C.leq_mk, C.gtr_mk, C.geq_mk, C.conv_mk, C.len_mk, C.ext_0, C.ext_1, C.ext3_0, C.ext3_1, C.ext3_2, C.guarded_yes, C.guarded_tf, C.guarded_ft, C.guarded_undef, Bool.not_true, Bool.not_false, Nat.zero_add, eq_self, decide_true, decide_false]
    rw [wrap64_id (n := (i : Int) + 1) (by omega), show (i : Int) + 1 = ((i + 1 : Nat) : Int) by omega]
    exact ih (i + 1) w2 (by omega) hI2
/-- What was found, written on. -/
theorem own_found {y2 y5 y6 f : Value} {b7 : Nat} {s : Int} {l : List Va} (ho : OwnS W5 f 71 2 (valC l)) (hb : W5.heap[b7]? = some (.cells #[.int .i64 s, f] 61 (0, 0)))
    (h : ∀ w', Fr (blkS f) W5 w' → Sm W5 w' → F9.k11 K y2 y5 y6 w') :
    ∀ (d j : Nat) (w : World), l.length = j + d → Fr (blkS f) W5 w → Sm W5 w → F9.l8 K y2 y5 y6 (.pointer (some ⟨b7, 0, none⟩)) (.int .i64 (j : Int)) w := by
  have hle := ho.rd.le
  rw [valC_len] at hle
  have n7 := ho.nb hb (by decide)
  have hlen : ∀ {w1 : World} {G : VK}, G (.int .i64 (l.length : Int)) w1 → C.len f w1 G := fun hG => by
    obtain ⟨A, c, e⟩ := ho.len
    rw [e, valC_len]
    simpa only [C.len_mk] using hG
  intro d
  induction d with
  | zero =>
    intro j w hj hf hs
    refine F9.l8.to ?_
    simp only [C.ite_true, C.ite_false, C.pick_true, C.pick_false, C.not_bool, C.field_ptr, C.nilCheck_ptr, C.add_mk, C.sub_mk, C.mul_mk, C.eql_mk, C.neq_mk, C.lss_mk, C.leq_mk, C.gtr_mk, C.geq_mk, C.conv_mk, C.len_mk, C.ext_0, C.ext_1, C.ext3_0, C.ext3_1, C.ext3_2, C.guarded_yes, C.guarded_tf, C.guarded_ft, C.guarded_undef, Bool.not_true, Bool.not_false, Nat.zero_add, eq_self, decide_true, decide_false]
    refine C.load1_of (v := f) (hf.at_ hb n7) rfl (hlen ?_)
    simp only [C.ite_true, C.ite_false, C.pick_true, C.pick_false, C.not_bool, C.field_ptr, C.nilCheck_ptr, C.add_mk, C.sub_mk, C.mul_mk, C.eql_mk, C.neq_mk, C.lss_mk, C.leq_mk, C.gtr_mk, C.geq_mk, C.conv_mk, C.len_mk, C.ext_0, C.ext_1, C.ext3_0, C.ext3_1, C.ext3_2, C.guarded_yes, C.guarded_tf, C.guarded_ft, C.guarded_undef, Bool.not_true, Bool.not_false, Nat.zero_add, eq_self, decide_true, decide_false, show ¬ ((j : Int) < (l.length : Int)) by omega]
    exact h w hf hs
  | succ d ih =>
    intro j w hj hf hs
    refine F9.l8.to ?_
    simp only [C.ite_true, C.ite_false, C.pick_true, C.pick_false, C.not_bool, C.field_ptr, C.nilCheck_ptr, C.add_mk, C.sub_mk, C.mul_mk, C.eql_mk, C.neq_mk, C.lss_mk, C.leq_mk, C.gtr_mk, C.geq_mk, C.conv_mk, C.len_mk, C.ext_0, C.ext_1, C.ext3_0, C.ext3_1, C.ext3_2, C.guarded_yes, C.guarded_tf, C.guarded_ft, C.guarded_undef, Bool.not_true, Bool.not_false, Nat.zero_add, eq_self, decide_true, decide_false]
    refine C.load1_of (v := f) (hf.at_ hb n7) rfl (hlen ?_)
    simp only [C.ite_true, C.ite_false, C.pick_true, C.pick_false, C.not_bool, C.field_ptr, C.nilCheck_ptr, C.add_mk, C.sub_mk, C.mul_mk, C.eql_mk, C.neq_mk, C.lss_mk, C.leq_mk, C.gtr_mk, C.geq_mk, C.conv_mk, C.len_mk, C.ext_0, C.ext_1, C.ext3_0, C.ext3_1, C.ext3_2, C.guarded_yes, C.guarded_tf, C.guarded_ft, C.guarded_undef, Bool.not_true, Bool.not_false, Nat.zero_add, eq_self, decide_true, decide_false, show ((j : Int) < (l.length : Int)) by omega]
    refine F9.k10.to ?_
    simp only [C.ite_true, C.ite_false, C.pick_true, C.pick_false, C.not_bool, C.field_ptr, C.nilCheck_ptr, C.add_mk, C.sub_mk, C.mul_mk, C.eql_mk, C.neq_mk, C.lss_mk, C.leq_mk, C.gtr_mk, C.geq_mk, C.conv_mk, C.len_mk, C.ext_0, C.ext_1, C.ext3_0, C.ext3_1, C.ext3_2, C.guarded_yes, C.guarded_tf, C.guarded_ft, C.guarded_undef, Bool.not_true, Bool.not_false, Nat.zero_add, eq_self, decide_true, decide_false]
    refine C.load1_of (v := f) (hf.at_ hb n7) rfl (C.run_of b71 (put_c ho hs (by rw [valC_len]; omega) rfl (by simp [Value.cells, Value.oneCell']) fun w1 hf1 hm1 => ?_))
    refine F9.k9.to ?_
    simp only [C.ite_true, C.ite_false, C.pick_true, C.pick_false, C.not_bool, C.field_ptr, C.nilCheck_ptr, C.add_mk, C.sub_mk, C.mul_mk, C.eql_mk, C.neq_mk, C.lss_mk, C.leq_mk, C.gtr_mk, C.geq_mk, C.conv_mk, C.len_mk, C.ext_0, C.ext_1, C.ext3_0, C.ext3_1, C.ext3_2, C.guarded_yes, C.guarded_tf, C.guarded_ft, C.guarded_undef, Bool.not_true, Bool.not_false, Nat.zero_add, eq_self, decide_true, decide_false]
    rw [wrap64_id (n := (j : Int) + 1) (by omega), show (j : Int) + 1 = ((j + 1 : Nat) : Int) by omega]
    exact ih (j + 1) w1 (by omega) (hf.trans hf1) (hs.trans hm1)
end
end
end Go.Proofs.YtfdpmgddlaamcaaV
