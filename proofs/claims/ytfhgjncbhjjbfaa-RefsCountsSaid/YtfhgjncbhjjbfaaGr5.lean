/- A graph without a node: what the calls come to. -/
import Derived.Test.YtfhgjncbhjjbfaaGr4
namespace Go.Proofs.YtfhgjncbhjjbfaaV
open Go Go.Proofs Go.RowKit
set_option linter.unusedVariables false
set_option linter.unusedSimpArgs false
set_option maxRecDepth 10000
def Gr.keepL (G : Gr) (i : Int) (l : List Int) : List Int := l.filter fun k => !decide (k = i ∧ 0 ≤ i ∧ i < (G.n : Int))
def Gr.wo (G : Gr) (i : Int) : Gr := ⟨G.next.mapIdx fun k l => if (k : Int) = i then [] else G.keepL i l, G.keepL i G.roots⟩
theorem wo_n (G : Gr) (i : Int) : (G.wo i).n = G.n := by simp [Gr.wo, Gr.n]
theorem keepL_len (G : Gr) (i : Int) (l : List Int) : (G.keepL i l).length ≤ l.length := List.length_filter_le _ _
theorem wo_get {G : Gr} {i : Int} {k : Nat} (h : k < (G.wo i).next.length) : (G.wo i).next[k] = if (k : Int) = i then [] else G.keepL i (G.next[k]'(by simpa [Gr.wo] using h)) := by simp [Gr.wo]
theorem wo_row (G : Gr) (i : Int) {k : Nat} (hk : k < G.n) : (G.wo i).row k = if (k : Int) = i then [] else G.keepL i (G.row k) := by
  rw [row_get (by rw [wo_n]; exact hk), row_get hk]
  exact wo_get _
/-- A graph that is being built. -/
structure GB (W1 w : World) (bo : Nat) (e : TypeId) (nxt rts : Value) (vs : List Value) (L : List (List Int)) (R : List Int) : Prop where
  fr : Fr [] W1 w
  l1 : W1.heap.size ≤ bo
  hb : w.heap[bo]? = some (.cells #[nxt, rts] e (0, 0))
  hn : OwnS w nxt 44 1 (slC vs)
  nn : NewS W1 nxt
  hr : OwnS w rts 3 1 (intC R)
  nr : NewS W1 rts
  len : vs.length = L.length
  d1 : ∀ g ∈ blkS nxt, g ≠ bo ∧ g ∉ blkS rts
  d2 : ∀ g ∈ blkS rts, g ≠ bo
  rows : ∀ k (h : k < vs.length) (h' : k < L.length), RdS w vs[k] 1 (intC L[k]) ∧ ∀ g ∈ blkS vs[k], (W1.heap.size ≤ g ∧ g < w.heap.size) ∧ g ≠ bo ∧ g ∉ blkS nxt ∧ g ∉ blkS rts
theorem GB.keep {W1 w w' : World} {bo : Nat} {e : TypeId} {nxt rts : Value} {vs : List Value} {L : List (List Int)} {R : List Int} (h : GB W1 w bo e nxt rts vs L R) (hf : Fr [] w w') : GB W1 w' bo e nxt rts vs L R :=
  ⟨h.fr.trans hf, h.l1, hf.at_ h.hb (by simp), h.hn.keep hf (by simp), h.nn, h.hr.keep hf (by simp), h.nr, h.len, h.d1, h.d2, fun k a b => ⟨(h.rows k a b).1.keep hf, fun g hg => ⟨⟨((h.rows k a b).2 g hg).1.1, Nat.lt_of_lt_of_le ((h.rows k a b).2 g hg).1.2 hf.size⟩, ((h.rows k a b).2 g hg).2⟩⟩⟩
theorem RdS.lt' {w : World} {v : Value} {sz : Nat} {xs : List (List Value)} (h : RdS w v sz xs) (hx : xs ≠ []) : ∀ g ∈ blkS v, g < w.heap.size := by
  obtain ⟨A, c, rfl, h1, h2, h3⟩ := h
  obtain ⟨g, o, cs, e, fz, rfl, hg, hc⟩ := h3 hx
  intro x hx
  rw [mem_blkS] at hx
  simp only [Value.ownBlock, Option.some.injEq] at hx
  have := lt_of_at hg
  omega
section
variable {K : VK} {w : World}
theorem bsS (A : Option Addr) (n c : Nat) : (Instr.buildSlice 43 1 #[(0, .slice A n c)]).run Try.prog w = .ok (.slice (some ⟨w.heap.size, 0, none⟩) 1 1) (w.alloc (.cells #[.slice A n c] 44)) := by kernel_rfl
theorem slC_one {vs : List Value} (h : ∀ v ∈ vs, v.oneCell' = true) : ∀ y ∈ slC vs, ∀ u ∈ y, u.oneCell' = true := by
  intro y hy u hu
  simp only [slC, List.mem_map] at hy
  obtain ⟨x, hx, rfl⟩ := hy
  simp only [List.mem_cons, List.not_mem_nil, or_false] at hu
  subst hu
  exact h _ hx
/-- append(out.Next, v), stored. -/
theorem C.gbRow {W1 : World} {bo : Nat} {e : TypeId} {nxt rts v : Value} {vs : List Value} {L : List (List Int)} {R l : List Int} {F : World → Prop} (hB : GB W1 w bo e nxt rts vs L R) (hv : RdS w v 1 (intC l)) (hd : ∀ g ∈ blkS v, (W1.heap.size ≤ g ∧ g < w.heap.size) ∧ g ≠ bo ∧ g ∉ blkS nxt ∧ g ∉ blkS rts) (hL : L.length ≤ 1000)
    (hk : ∀ nxt' w', GB W1 w' bo e nxt' rts (vs ++ [v]) (L ++ [l]) R → F w') :
    C.run Try.prog (Builtin.append_ #[43, 43] 43 #[nxt, .slice (some ⟨w.heap.size, 0, none⟩) 1 1]) (w.alloc (.cells #[v] 44)) fun x w2 => C.store 1 (.pointer (some ⟨bo, 0, none⟩)) x w2 F := by
  have hw := New.mk' w (.cells #[v] 44)
  have hvs : vs.length ≤ 1000 := by rw [hB.len]; exact hL
  have hB1 := hB.keep hw.fr
  refine C.append_of (xs := slC vs) (ys := slC [v]) (e := 44) (sz := 1) (bytes := 24) (z := .slice none 0 0) Try.underlying43 (by kernel_rfl) rfl (by decide) hB1.hn (RdS.of_block hw.at_ rfl (by simp) (by simp) (by simp [slC]) (by simp [slC])) (slC_one (by simp; exact hv.one.1))
    (by rw [slC_len, slC_len]; simp; omega) (by rw [slC_len, slC_len]; simp; omega) fun nxt' w2 ho hf2 hblk _ => ?_
  have hlb : bo < w.heap.size := lt_of_at hB.hb
  have hw1 := hw.sz
  have nb : ∀ g ∈ blkS nxt', g ∈ blkS nxt ∨ w.heap.size < g := fun g hg => by
    rw [mem_blkS] at hg
    rcases hblk with c | ⟨g', c, d⟩
    · exact .inl (mem_blkS.2 (by rw [← c]; exact hg))
    · rw [hg] at c
      simp only [Option.some.injEq] at c
      exact .inr (by omega)
  have hb2 := hf2.at_ hB1.hb (fun c => (hB.d1 bo c).1 rfl)
  refine C.store1_of hb2 ho.one.2 ho.one.1 (by simp) fun w3 hu => hk nxt' w3 ?_
  have f12 : Fr [] W1 w2 := hB1.fr.then hf2 fun g hg => .inr (hB.nn.blk g hg)
  have hlr := hB.hr.mem_lt
  have hln := hB.hn.mem_lt
  refine ⟨f12.then hu.fr fun g hg => .inr (by simp only [List.mem_singleton] at hg; have := hB.l1; omega), hB.l1, hu.at_, ?_, fun g hg => ?_, ?_, hB.nr, by simp [hB.len], fun g hg => ?_, hB.d2, fun k h h' => ?_⟩
  · rw [slC_app]
    exact ho.keep' hu.fr fun g hg c => by
      simp only [List.mem_singleton] at c
      subst c
      rcases nb g hg with d | d
      · exact (hB.d1 g d).1 rfl
      · omega
  · rcases nb g (mem_blkS.2 hg) with d | d
    · exact hB.nn.blk g d
    · have := hB.fr.size; omega
  · refine (hB1.hr.keep' hf2 fun g hg c => (hB.d1 g c).2 hg).keep' hu.fr fun g hg c => ?_
    simp only [List.mem_singleton] at c
    exact hB.d2 g hg c
  · rcases nb g hg with d | d
    · exact hB.d1 g d
    · exact ⟨by omega, fun c => by have := hlr g c; omega⟩
  · have hs2 := hf2.size
    have hs3 := hu.sz
    rcases Nat.lt_or_ge k vs.length with c | c
    · have hkL : k < L.length := by rw [← hB.len]; exact c
      rw [List.getElem_append_left c, List.getElem_append_left hkL]
      have hrow := hB.rows k c hkL
      refine ⟨((hrow.1.keep hw.fr).keep' hf2 fun g hg => (hrow.2 g hg).2.2.1).keep' hu.fr fun g hg d => ?_, fun g hg => ⟨by have := (hrow.2 g hg).1; omega, (hrow.2 g hg).2.1, fun d => ?_, (hrow.2 g hg).2.2.2⟩⟩
      · simp only [List.mem_singleton] at d
        exact (hrow.2 g hg).2.1 d
      · rcases nb g d with d | d
        · exact (hrow.2 g hg).2.2.1 d
        · have := (hrow.2 g hg).1; omega
    · have ek : k = vs.length := by simp at h; omega
      subst ek
      have e1 : (vs ++ [v])[vs.length] = v := by simp
      have e2 : (L ++ [l])[vs.length]'h' = l := by simp [hB.len]
      rw [e1, e2]
      refine ⟨((hv.keep hw.fr).keep' hf2 fun g hg => (hd g hg).2.2.1).keep' hu.fr fun g hg d => ?_, fun g hg => ⟨by have := (hd g hg).1; omega, (hd g hg).2.1, fun d => ?_, (hd g hg).2.2.2⟩⟩
      · simp only [List.mem_singleton] at d
        exact (hd g hg).2.1 d
      · rcases nb g d with d | d
        · exact (hd g hg).2.2.1 d
        · have := (hd g hg).1; omega
/-- append(out.Roots, n), stored, ahead of all rows. -/
theorem C.gbRoot {W1 : World} {bo : Nat} {e : TypeId} {nxt rts : Value} {R : List Int} {n : Int} {F S : World → Prop} (hS : ∀ w', Fr [] W1 w' → S w') (hB : GB W1 w bo e nxt rts [] [] R) (hR : R.length ≤ 17592186044415)
    (hk : ∀ rts' w', GB W1 w' bo e nxt rts' [] [] (R ++ [n]) → F w') :
    C.run Try.prog (Builtin.append_ #[44, 44] 44 #[rts, .slice (some ⟨w.heap.size, 0, none⟩) 1 1]) (w.alloc (.cells #[.int .i64 n] 3)) fun x w2 => S w2 ∧ C.store 1 (.pointer (some ⟨bo, 1, none⟩)) x w2 F := by
  have hw := New.mk' w (.cells #[.int .i64 n] 3)
  have hB1 := hB.keep hw.fr
  refine C.append_of (xs := intC R) (ys := intC [n]) (e := 3) (sz := 1) (bytes := 8) (z := .int .i64 0) Try.underlying44 (by kernel_rfl) rfl (by decide) hB1.hr (RdS.of_block hw.at_ rfl (by simp) (by simp) (by simp [intC]) (by simp [intC])) intC_one
    (by rw [intC_len, intC_len]; simp; omega) (by rw [intC_len, intC_len]; simp; omega) fun rts' w2 ho hf2 hblk _ => ?_
  have hlb : bo < w.heap.size := lt_of_at hB.hb
  have hw1 := hw.sz
  have nb : ∀ g ∈ blkS rts', g ∈ blkS rts ∨ w.heap.size < g := fun g hg => by
    rw [mem_blkS] at hg
    rcases hblk with c | ⟨g', c, d⟩
    · exact .inl (mem_blkS.2 (by rw [← c]; exact hg))
    · rw [hg] at c
      simp only [Option.some.injEq] at c
      exact .inr (by omega)
  have hb2 := hf2.at_ hB1.hb (fun c => hB.d2 bo c rfl)
  refine ⟨hS w2 (hB1.fr.then hf2 fun g hg => .inr (hB.nr.blk g hg)), ?_⟩
  refine C.store1_of hb2 ho.one.2 ho.one.1 (by simp) fun w3 hu => hk rts' w3 ?_
  have f12 : Fr [] W1 w2 := hB1.fr.then hf2 fun g hg => .inr (hB.nr.blk g hg)
  have hln := hB.hn.mem_lt
  have hd : ∀ g ∈ blkS rts', g ≠ bo := fun g hg => by
    rcases nb g hg with d | d
    · exact hB.d2 g d
    · omega
  refine ⟨f12.then hu.fr fun g hg => .inr (by simp only [List.mem_singleton] at hg; have := hB.l1; omega), hB.l1, hu.at_, ?_, hB.nn, ?_, fun g hg => ?_, rfl, fun g hg => ⟨(hB.d1 g hg).1, fun c => ?_⟩, hd, fun k h => by simp at h⟩
  · refine (hB1.hn.keep' hf2 fun g hg => (hB.d1 g hg).2).keep' hu.fr fun g hg c => ?_
    simp only [List.mem_singleton] at c
    exact (hB.d1 g hg).1 c
  · rw [intC_app]
    exact ho.keep' hu.fr fun g hg c => by
      simp only [List.mem_singleton] at c
      exact hd g hg c
  · rcases nb g (mem_blkS.2 hg) with d | d
    · exact hB.nr.blk g d
    · have := hB.fr.size; omega
  · rcases nb g c with d | d
    · exact (hB.d1 g hg).2 d
    · have := hln g hg; omega
theorem GB.start {W1 : World} {bo : Nat} {e : TypeId} (hf : Fr [] W1 w) (hl : W1.heap.size ≤ bo) (hb : w.heap[bo]? = some (.cells #[.slice none 0 0, .slice none 0 0] e (0, 0))) : GB W1 w bo e (.slice none 0 0) (.slice none 0 0) [] [] [] :=
  ⟨hf, hl, hb, OwnS.nil _ _ _, NewS.nil _, OwnS.nil _ _ _, NewS.nil _, rfl, fun g hg => by simp [blkS, Value.ownBlock] at hg, fun g hg => by simp [blkS, Value.ownBlock] at hg, fun k h => by simp at h⟩
theorem GB.isG {W1 : World} {bo : Nat} {e : TypeId} {nxt rts : Value} {vs : List Value} {G : Gr} (h : GB W1 w bo e nxt rts vs G.next G.roots) (h1 : G.n ≤ 1000) (h2 : G.roots.length ≤ 17592186044416) (h3 : ∀ r ∈ G.next, r.length ≤ 17592186044416) : IsG w nxt rts G :=
  ⟨⟨vs, h.hn.rd, h.len, fun i a b => (h.rows i b a).1⟩, h.hr.rd, h1, h2, h3⟩
theorem wo_ok {nv rv : Value} {G : Gr} {i : Int} (hG : IsG w nv rv G) : (G.wo i).n ≤ 1000 ∧ (G.wo i).roots.length ≤ 17592186044416 ∧ ∀ r ∈ (G.wo i).next, r.length ≤ 17592186044416 := by
  refine ⟨by rw [wo_n]; exact hG.few, Nat.le_trans (keepL_len _ _ _) hG.rlen, fun r hr => ?_⟩
  obtain ⟨k, hk, rfl⟩ := List.getElem_of_mem hr
  have e := wo_get (G := G) (i := i) hk
  rw [e]
  by_cases c : (k : Int) = i
  · rw [if_pos c]; exact Nat.zero_le _
  · rw [if_neg c]; exact Nat.le_trans (keepL_len _ _ _) (hG.nlen _ (List.getElem_mem _))
theorem bodied94 : bodied Try.prog 94 = true := by kernel_rfl
theorem bodied96 : bodied Try.prog 96 = true := by kernel_rfl
theorem keep_c {W1 : World} {G : Gr} {bg bi : Nat} {nv rv v : Value} {i : Int} {l : List Int} (hG : IsG W1 nv rv G) (hf : Fr [] W1 w) (hb : GBlk W1 bg 46 nv rv) (hi : W1.heap[bi]? = some (.cells #[.int .i64 i] 3 (0, 0))) (hv : RdS w v 1 (intC l)) (hl : l.length ≤ 17592186044416)
    (h : ∀ v' w', Fr [] w w' → NewS w v' → OwnS w' v' 3 1 (intC (G.keepL i l)) → K v' w') : C.call Try.prog 94 #[v, .pointer (some ⟨bi, 0, none⟩), .pointer (some ⟨bg, 0, none⟩)] w K := by
  refine F94.sh (CloneI_c hv hl fun cv w1 hf1 ho1 hn1 => DeleteFunc_c (p := fun k => decide (k = i ∧ 0 ≤ i ∧ i < (G.n : Int))) ho1 (fun w' n K' hf' _ hk => ?_) fun v' w' hf' ho' hblk => h v' w' (hf1.then hf' fun x hx => .inr (hn1.blk x hx)) (fun g hg => hn1 g (by rw [← hblk]; exact hg)) ho')
  have hfa : Fr [] W1 w' := hf.trans (hf1.then hf' fun x hx => .inr (hn1.blk x hx))
  refine vcCall_of bodied96 (F96.sh (C.load1_of (v := .int .i64 i) (hfa.at_ hi (by simp)) rfl ?_))
  by_cases hc : n = i
  · simp only [C.ite_true, C.ite_false, C.pick_true, C.pick_false, C.not_bool, C.field_ptr, C.nilCheck_ptr, C.add_mk, C.sub_mk, C.mul_mk, C.eql_mk, C.neq_mk, C.lss_mk, C.leq_mk, C.gtr_mk, C.geq_mk, C.conv_mk, C.len_mk, C.ext_0, C.ext_1, C.ext3_0, C.ext3_1, C.ext3_2, C.guarded_yes, C.guarded_tf, C.guarded_ft, C.guarded_undef, Bool.not_true, Bool.not_false, Nat.zero_add, eq_self, decide_true, decide_false, hc]
    refine (hb.keep hfa (by simp)).all (C.load1_of (v := .int .i64 i) (hfa.at_ hi (by simp)) rfl (is_c (hG.keep hfa) fun w'' hf'' => ?_))
    have := hk w'' hf''
    rw [show decide (n = i ∧ 0 ≤ i ∧ i < (G.n : Int)) = decide (0 ≤ i ∧ i < (G.n : Int)) from decide_eq_decide.2 (by omega)] at this
    try simp only [C.ite_true, C.ite_false, C.pick_true, C.pick_false, C.not_bool, C.field_ptr, C.nilCheck_ptr, C.add_mk, C.sub_mk, C.mul_mk, C.eql_mk, C.neq_mk, C.lss_mk, C.leq_mk, C.gtr_mk, C.geq_mk, C.conv_mk, C.len_mk, C.ext_0, C.ext_1, C.ext3_0, C.ext3_1, C.ext3_2, C.guarded_yes, C.guarded_tf, C.guarded_ft, C.guarded_undef, Bool.not_true, Bool.not_false, Nat.zero_add, eq_self, decide_true, decide_false]
    exact this
  · simp only [C.ite_true, C.ite_false, C.pick_true, C.pick_false, C.not_bool, C.field_ptr, C.nilCheck_ptr, C.add_mk, C.sub_mk, C.mul_mk, C.eql_mk, C.neq_mk, C.lss_mk, C.leq_mk, C.gtr_mk, C.geq_mk, C.conv_mk, C.len_mk, C.ext_0, C.ext_1, C.ext3_0, C.ext3_1, C.ext3_2, C.guarded_yes, C.guarded_tf, C.guarded_ft, C.guarded_undef, Bool.not_true, Bool.not_false, Nat.zero_add, eq_self, decide_true, decide_false, hc]
    have := hk w' (Fr.refl _ _)
    rw [show decide (n = i ∧ 0 ≤ i ∧ i < (G.n : Int)) = false from decide_eq_false (by omega)] at this
    exact this
theorem wo_rows {W1 : World} {G : Gr} {bg bi b4 bo : Nat} {nv rv rts : Value} {i : Int} (hG : IsG W1 nv rv G) (hb : GBlk W1 bg 46 nv rv) (hi : W1.heap[bi]? = some (.cells #[.int .i64 i] 3 (0, 0)))
    (h : ∀ w nxt vs, GB W1 w bo 46 nxt rts vs (G.wo i).next (G.wo i).roots → F67.k11 K (.pointer (some ⟨b4, 0, none⟩)) (.pointer (some ⟨bo, 0, none⟩)) w) :
    ∀ (d k : Nat) (nxt : Value) (vs : List Value) (w : World), G.n = k + d → GB W1 w bo 46 nxt rts vs ((G.wo i).next.take k) (G.wo i).roots →
      F67.l5 K (.pointer (some ⟨bi, 0, none⟩)) (.pointer (some ⟨b4, 0, none⟩)) (.pointer (some ⟨bo, 0, none⟩)) (.func (.func 94) #[] #[.pointer (some ⟨bi, 0, none⟩), .pointer (some ⟨bg, 0, none⟩)]) nv (.int .i64 (G.n : Int)) (.int .i64 (k : Int)) w := by
  have hfew := hG.few
  intro d
  induction d with
  | zero =>
    intro k nxt vs w hk hB
    refine F67.l5.to ?_
    simp only [C.ite_true, C.ite_false, C.pick_true, C.pick_false, C.not_bool, C.field_ptr, C.nilCheck_ptr, C.add_mk, C.sub_mk, C.mul_mk, C.eql_mk, C.neq_mk, C.lss_mk, C.leq_mk, C.gtr_mk, C.geq_mk, C.conv_mk, C.len_mk, C.ext_0, C.ext_1, C.ext3_0, C.ext3_1, C.ext3_2, C.guarded_yes, C.guarded_tf, C.guarded_ft, C.guarded_undef, Bool.not_true, Bool.not_false, Nat.zero_add, eq_self, decide_true, decide_false, show ¬ ((k : Int) < (G.n : Int)) by omega]
    rw [List.take_of_length_le (by have : (G.wo i).next.length = G.n := wo_n G i; omega)] at hB
    exact h w nxt vs hB
  | succ d ih =>
    intro k nxt vs w hk hB
    have hkn : k < G.n := by omega
    have hkw : k < (G.wo i).next.length := by have : (G.wo i).next.length = G.n := wo_n G i; omega
    refine F67.l5.to ?_
    simp only [C.ite_true, C.ite_false, C.pick_true, C.pick_false, C.not_bool, C.field_ptr, C.nilCheck_ptr, C.add_mk, C.sub_mk, C.mul_mk, C.eql_mk, C.neq_mk, C.lss_mk, C.leq_mk, C.gtr_mk, C.geq_mk, C.conv_mk, C.len_mk, C.ext_0, C.ext_1, C.ext3_0, C.ext3_1, C.ext3_2, C.guarded_yes, C.guarded_tf, C.guarded_ft, C.guarded_undef, Bool.not_true, Bool.not_false, Nat.zero_add, eq_self, decide_true, decide_false, show ((k : Int) < (G.n : Int)) by omega]
    refine F67.k6.to ((hG.keep hB.fr).next.get hkn fun rw_ hrw => C.load1_of (v := .int .i64 i) (hB.fr.at_ hi (by simp)) rfl ?_)
    have nx : ∀ nxt' vs' w', GB W1 w' bo 46 nxt' rts vs' ((G.wo i).next.take k ++ [(G.wo i).next[k]]) (G.wo i).roots → F67.k10 K (.pointer (some ⟨bi, 0, none⟩)) (.pointer (some ⟨b4, 0, none⟩)) (.pointer (some ⟨bo, 0, none⟩)) (.func (.func 94) #[] #[.pointer (some ⟨bi, 0, none⟩), .pointer (some ⟨bg, 0, none⟩)]) nv (.int .i64 (G.n : Int)) (.int .i64 (k : Int)) w' := by
      intro nxt' vs' w' a
      refine F67.k10.to ?_
      simp only [C.ite_true, C.ite_false, C.pick_true, C.pick_false, C.not_bool, C.field_ptr, C.nilCheck_ptr, C.add_mk, C.sub_mk, C.mul_mk, C.eql_mk, C.neq_mk, C.lss_mk, C.leq_mk, C.gtr_mk, C.geq_mk, C.conv_mk, C.len_mk, C.ext_0, C.ext_1, C.ext3_0, C.ext3_1, C.ext3_2, C.guarded_yes, C.guarded_tf, C.guarded_ft, C.guarded_undef, Bool.not_true, Bool.not_false, Nat.zero_add, eq_self, decide_true, decide_false]
      rw [wrap64_id (n := (k : Int) + 1) (by omega), show (k : Int) + 1 = ((k + 1 : Nat) : Int) by omega]
      refine ih (k + 1) nxt' vs' w' (by omega) ?_
      rw [List.take_succ_eq_append_getElem hkw]
      exact a
    have go : ∀ (v : Value) (l : List Int), RdS w v 1 (intC l) → l.length ≤ 17592186044416 → G.keepL i l = (G.wo i).next[k] →
        F67.k9 K (.pointer (some ⟨bi, 0, none⟩)) (.pointer (some ⟨b4, 0, none⟩)) (.pointer (some ⟨bo, 0, none⟩)) (.func (.func 94) #[] #[.pointer (some ⟨bi, 0, none⟩), .pointer (some ⟨bg, 0, none⟩)]) v nv (.int .i64 (G.n : Int)) (.int .i64 (k : Int)) w := by
      intro v l hv hl he
      refine F67.k9.to (C.draw_of (fun _ => True) fun w1 hf1 he1 => ⟨trivial, ?_⟩)
      have hB1 := hB.keep hf1
      simp only [C.ite_true, C.ite_false, C.pick_true, C.pick_false, C.not_bool, C.field_ptr, C.nilCheck_ptr, C.add_mk, C.sub_mk, C.mul_mk, C.eql_mk, C.neq_mk, C.lss_mk, C.leq_mk, C.gtr_mk, C.geq_mk, C.conv_mk, C.len_mk, C.ext_0, C.ext_1, C.ext3_0, C.ext3_1, C.ext3_2, C.guarded_yes, C.guarded_tf, C.guarded_ft, C.guarded_undef, Bool.not_true, Bool.not_false, Nat.zero_add, eq_self, decide_true, decide_false, and_true, true_and]
      have hvs : vs.length ≤ 1000 := by rw [hB.len, List.length_take]; omega
      have tail : ∀ (u : Value) (w2 : World), Fr [] w1 w2 → NewS w1 u → OwnS w2 u 3 1 (intC (G.keepL i l)) →
          C.run Try.prog (Builtin.append_ #[43, 43] 43 #[nxt, .slice (some ⟨w2.heap.size, 0, none⟩) 1 1]) (w2.alloc (.cells #[u] 44)) fun x w3 => C.store 1 (.pointer (some ⟨bo, 0, none⟩)) x w3 fun w4 => F67.k10 K (.pointer (some ⟨bi, 0, none⟩)) (.pointer (some ⟨b4, 0, none⟩)) (.pointer (some ⟨bo, 0, none⟩)) (.func (.func 94) #[] #[.pointer (some ⟨bi, 0, none⟩), .pointer (some ⟨bg, 0, none⟩)]) nv (.int .i64 (G.n : Int)) (.int .i64 (k : Int)) w4 := by
        intro u w2 hf2 hn2 ho2
        have b1 := lt_of_at hB1.hb
        have b2 := hB1.hn.mem_lt
        have b3 := hB1.hr.mem_lt
        refine C.gbRow (hB1.keep hf2) ho2.rd (fun g hg => ?_) (by rw [List.length_take]; omega) fun nxt' w' hB' => nx nxt' _ w' (by rw [← he]; exact hB')
        have h1 := ho2.mem_lt g hg
        have h2 := hn2.blk g hg
        have hs := hB1.fr.size
        exact ⟨⟨by omega, h1⟩, by omega, fun c => by have := b2 g c; omega, fun c => by have := b3 g c; omega⟩
      have call : ∀ (K' : VK), (∀ u w2, Fr [] w1 w2 → NewS w1 u → OwnS w2 u 3 1 (intC (G.keepL i l)) → K' u w2) → C.plainFn (.func (.func 94) #[] #[.pointer (some ⟨bi, 0, none⟩), .pointer (some ⟨bg, 0, none⟩)]) (vcCall Try.prog (.func (.func 94) #[] #[.pointer (some ⟨bi, 0, none⟩), .pointer (some ⟨bg, 0, none⟩)]) [v] w1 K') := fun K' hk =>
        ⟨fun _ _ _ c => (by cases c), vcCall_of bodied94 (keep_c hG hB1.fr hb hi (hv.keep hf1) hl hk)⟩
      refine ⟨C.load1_of (v := nxt) hB1.hb rfl ?_, ?_⟩
      · refine call _ fun u w2 hf2 hn2 ho2 => ?_
        obtain ⟨A, c, hu⟩ := ho2.len
        rw [intC_len] at hu
        subst hu
        exact C.run_of (bsS _ _ _) (tail _ w2 hf2 hn2 ho2)
      · refine call _ fun u w2 hf2 hn2 ho2 => ?_
        obtain ⟨A, c, hu⟩ := ho2.len
        rw [intC_len] at hu
        subst hu
        have hB2 := hB1.keep hf2
        refine ⟨C.load1_of (v := nxt) hB2.hb rfl (C.run_of (bsS _ _ _) (tail _ w2 hf2 hn2 ho2)), C.run_of (bsS _ _ _) ?_⟩
        refine C.load1_of (v := nxt) ((New.mk' w2 _).fr.at_ hB2.hb (by simp)) rfl (tail _ w2 hf2 hn2 ho2)
    have hwg := wo_get (G := G) (i := i) hkw
    by_cases hki : (k : Int) = i
    · simp only [C.ite_true, C.ite_false, C.pick_true, C.pick_false, C.not_bool, C.field_ptr, C.nilCheck_ptr, C.add_mk, C.sub_mk, C.mul_mk, C.eql_mk, C.neq_mk, C.lss_mk, C.leq_mk, C.gtr_mk, C.geq_mk, C.conv_mk, C.len_mk, C.ext_0, C.ext_1, C.ext3_0, C.ext3_1, C.ext3_2, C.guarded_yes, C.guarded_tf, C.guarded_ft, C.guarded_undef, Bool.not_true, Bool.not_false, Nat.zero_add, eq_self, decide_true, decide_false, hki]
      rw [if_pos hki] at hwg
      have := go (.slice none 0 0) [] (OwnS.nil w 3 1).rd (by simp) (by rw [hwg]; rfl)
      rw [hki] at this
      exact this
    · simp only [C.ite_true, C.ite_false, C.pick_true, C.pick_false, C.not_bool, C.field_ptr, C.nilCheck_ptr, C.add_mk, C.sub_mk, C.mul_mk, C.eql_mk, C.neq_mk, C.lss_mk, C.leq_mk, C.gtr_mk, C.geq_mk, C.conv_mk, C.len_mk, C.ext_0, C.ext_1, C.ext3_0, C.ext3_1, C.ext3_2, C.guarded_yes, C.guarded_tf, C.guarded_ft, C.guarded_undef, Bool.not_true, Bool.not_false, Nat.zero_add, eq_self, decide_true, decide_false, hki]
      rw [if_neg hki] at hwg
      exact go rw_ _ hrw (hG.nlen _ (List.getElem_mem _)) hwg.symm
theorem GB.isG' {S : List Nat} {w' : World} {W1 : World} {bo : Nat} {e : TypeId} {nxt rts : Value} {vs : List Value} {G : Gr} (h : GB W1 w bo e nxt rts vs G.next G.roots) (hf : Fr S w w') (hS : ∀ x ∈ S, x < W1.heap.size) (h1 : G.n ≤ 1000) (h2 : G.roots.length ≤ 17592186044416) (h3 : ∀ r ∈ G.next, r.length ≤ 17592186044416) : IsG w' nxt rts G :=
  ⟨⟨vs, (h.hn.keep' hf fun g hg c => by have := hS g c; have := h.nn.blk g hg; omega).rd, h.len, fun i a b => (h.rows i b a).1.keep' hf fun g hg c => by have := hS g c; have := ((h.rows i b a).2 g hg).1; omega⟩,
    (h.hr.keep' hf fun g hg c => by have := hS g c; have := h.nr.blk g hg; omega).rd, h1, h2, h3⟩
theorem Without_c {nv rv : Value} {G : Gr} {i : Int} (hG : IsG w nv rv G) (h : ∀ nv' rv' w', Fr [] w w' → IsG w' nv' rv' (G.wo i) → K (.agg #[nv', rv']) w') : C.call Try.prog 67 #[.agg #[nv, rv], .int .i64 i] w K := by
  refine F67.sh (GBlk.new hG fun bg w1 hf1 hb1 hb hG1 => C.new_of fun bi w2 hw2 => C.new_of fun b4 w3 hw3 => C.new_of fun bo w4 hw4 => ?_)
  have f13 := hw2.fr.trans hw3.fr
  have f14 := f13.trans hw4.fr
  have hG3 := hG1.keep f13
  have hbg3 := hb.keep f13 (by simp)
  have hbi2 := hw2.at_
  have hi2 : w2.heap[bi]? = some (.cells #[.int .i64 i] 3 (0, 0)) := hbi2
  have hi3 := hw3.fr.at_ hi2 (by simp)
  refine GBlk.roots (hb.keep f14 (by simp)) (keep_c hG3 hw4.fr hbg3 hi3 (hG1.roots.keep f14) hG.rlen fun rts w5 hf5 hn5 ho5 => ?_)
  have b4' := hw4.is
  have b4'' := hw4.sz
  have b3' := hw3.is
  have b3'' := hw3.sz
  have b2' := hw2.sz
  have s1 := hf1.size
  try simp only [C.ite_true, C.ite_false, C.pick_true, C.pick_false, C.not_bool, C.field_ptr, C.nilCheck_ptr, C.add_mk, C.sub_mk, C.mul_mk, C.eql_mk, C.neq_mk, C.lss_mk, C.leq_mk, C.gtr_mk, C.geq_mk, C.conv_mk, C.len_mk, C.ext_0, C.ext_1, C.ext3_0, C.ext3_1, C.ext3_2, C.guarded_yes, C.guarded_tf, C.guarded_ft, C.guarded_undef, Bool.not_true, Bool.not_false, Nat.zero_add, eq_self, decide_true, decide_false]
  refine C.store1_of (hf5.at_ hw4.at_ (by simp)) ho5.one.2 ho5.one.1 (by simp) fun w6 hu => ?_
  have hlt := ho5.mem_lt
  have hB : GB w3 w6 bo 46 (.slice none 0 0) rts [] ((G.wo i).next.take 0) (G.wo i).roots := by
    refine ⟨((hw4.fr.trans hf5).then hu.fr fun x hx => .inr (by simp only [List.mem_singleton] at hx; omega)), by omega, hu.at_, OwnS.nil _ _ _, NewS.nil _, ho5.keep' hu.fr fun g hg c => ?_, fun g hg => ?_, rfl, fun g hg => by simp [blkS, Value.ownBlock] at hg, fun g hg => ?_, fun k h => by simp at h⟩
    · simp only [List.mem_singleton] at c
      have := hn5.blk g hg
      omega
    · have := hn5 g hg; omega
    · have := hn5.blk g hg; omega
  refine C.load1_of (v := nv) (hb.keep (f13.trans hB.fr) (by simp)) rfl (IsG.len_next (hG3.keep hB.fr) ?_)
  refine wo_rows hG3 hbg3 hi3 (fun w7 nxt vs hB7 => F67.k11.to (C.loadA_all hB7.hb rfl ?_)) G.n 0 _ _ w6 (by omega) hB
  obtain ⟨o1, o2, o3⟩ := wo_ok (i := i) hG
  have hI := hB7.isG o1 o2 o3
  refine C.store_all (hB7.fr.at_ hw3.at_ (by simp)) (by rw [hI.cells]; rfl) hI.ones (by rfl) fun w8 hu8 => ?_
  have hat := hu8.at_
  rw [hI.cells] at hat
  refine C.loadA_all hat rfl (h nxt rts w8 ?_ (hB7.isG' hu8.fr (by simp; omega) o1 o2 o3))
  exact ((hf1.trans f13).trans hB7.fr).then hu8.fr fun x hx => .inr (by simp only [List.mem_singleton] at hx; omega)
end
end Go.Proofs.YtfhgjncbhjjbfaaV
