/- Going through a graph in depth, by the program: from. -/
import Derived.Test.YtchonfdnghimdaaSc4
namespace Go.Proofs.YtchonfdnghimdaaV
open Go Go.Proofs Go.RowKit
set_option linter.unusedVariables false
set_option linter.unusedSimpArgs false
set_option maxRecDepth 10000
/-! ### 1. Plain -/
theorem cand_mono {G : Gr} {S T : List Nat} {i q : Nat} (h : ∀ x ∈ S, x ∈ T) (hn : ¬ cand G S i q) : ¬ cand G T i q := fun ⟨k, a, b, c⟩ => hn ⟨k, a, fun d => b (h k d), c⟩
structure FS (G : Gr) (i : Nat) (S0 O way : List Nat) (t : Nat) (A : List Nat) (a : Nat) : Prop where
  dp : Dp G (S0 ++ O) (way ++ [t])
  al : A.length = way.length
  seen : ∀ k (h : k < way.length) (h' : k < A.length), A[k] ≤ (G.row way[k]).length ∧ ∀ q, q < A[k] → ¬ cand G (S0 ++ O ++ (way ++ [t])) way[k] q
  seent : a ≤ (G.row t).length ∧ ∀ q, q < a → ¬ cand G (S0 ++ O ++ (way ++ [t])) t q
  led : ∀ v ∈ O ++ (way ++ [t]), G.ld i v = true
  mem : i ∈ O ++ (way ++ [t])
section
variable {G : Gr} {i : Nat} {S0 O way : List Nat} {t : Nat} {A : List Nat} {a : Nat}
theorem FS.tn (h : FS G i S0 O way t A a) : t < G.n := h.dp.lt t (by simp)
theorem FS.push (h : FS G i S0 O way t A a) {q k : Nat} (hq : q < (G.row t).length) (he : (G.row t)[q] = (k : Int)) (hk : k < G.n) (hn : k ∉ S0 ++ O ++ (way ++ [t])) (hs : ∀ p, p < q → ¬ cand G (S0 ++ O ++ (way ++ [t])) t p) :
    FS G i S0 O (way ++ [t]) k (A ++ [q + 1]) 0 := by
  have hed : G.edge t k = true := by
    rw [edge_row h.tn, ← row_get h.tn, ← he]
    exact List.getElem_mem hq
  have hsub : ∀ x ∈ S0 ++ O ++ (way ++ [t]), x ∈ S0 ++ O ++ (way ++ [t] ++ [k]) := fun x hx => by
    simp only [List.mem_append] at hx ⊢
    rcases hx with c | c
    · exact .inl c
    · exact .inr (.inl c)
  refine ⟨h.dp.push hed hk (fun c => hn (List.mem_append.2 (.inl c))) (fun c => hn (List.mem_append.2 (.inr c))), by simp [h.al], fun j hj hj' => ?_, ⟨by omega, fun q hq => by omega⟩, fun v hv => ?_, ?_⟩
  · by_cases c : j < way.length
    · have c' : j < A.length := by rw [h.al]; exact c
      rw [List.getElem_append_left c', List.getElem_append_left c]
      obtain ⟨p1, p2⟩ := h.seen j c c'
      exact ⟨p1, fun q hq => cand_mono hsub (p2 q hq)⟩
    · have ej : j = way.length := by simp at hj; omega
      subst ej
      have eA : (A ++ [q + 1])[way.length]'hj' = q + 1 := by
        rw [List.getElem_append_right (by rw [h.al]; exact Nat.le_refl _)]
        simp
      have eW : (way ++ [t])[way.length]'hj = t := by simp
      rw [eA, eW]
      refine ⟨by omega, fun p hp => ?_⟩
      by_cases e : p = q
      · subst e
        rintro ⟨x, _, hx, e2⟩
        rw [List.getElem?_eq_getElem hq, he] at e2
        have e3 : (k : Int) = (x : Int) := by simpa using e2
        have : x = k := by omega
        subst this
        exact hx (by simp)
      · exact cand_mono hsub (hs p (by omega))
  · rcases List.mem_append.1 hv with c | c
    · exact h.led v (List.mem_append.2 (.inl c))
    · rcases List.mem_append.1 c with c | c
      · exact h.led v (List.mem_append.2 (.inr c))
      · rw [List.mem_singleton.1 c]
        exact ld_edge (h.led t (by simp)) hed hk
  · have := h.mem
    simp only [List.mem_append] at this ⊢
    rcases this with c | c
    · exact .inl c
    · exact .inr (.inl c)
theorem FS.dpop (h : FS G i S0 O way t A a) (hs : ∀ p, ¬ cand G (S0 ++ O ++ (way ++ [t])) t p) : Dp G (S0 ++ (O ++ [t])) way := by
  have := h.dp.pop fun v he hv => by
    by_cases c : v ∈ S0 ++ O ++ (way ++ [t])
    · exact c
    · exfalso
      have hm := (edge_row h.tn).1 he
      rw [← row_get h.tn] at hm
      obtain ⟨p, hp, e⟩ := List.getElem_of_mem hm
      exact hs p ⟨v, hv, c, by rw [List.getElem?_eq_getElem hp, e]⟩
  rwa [List.append_assoc] at this
theorem FS.pop {t' a' : Nat} (h : FS G i S0 O (way ++ [t']) t (A ++ [a']) a) (hs : ∀ p, ¬ cand G (S0 ++ O ++ (way ++ [t'] ++ [t])) t p) : FS G i S0 (O ++ [t]) way t' A a' := by
  have hal : A.length = way.length := by have := h.al; simpa using this
  have hmem : ∀ x, x ∈ S0 ++ O ++ (way ++ [t'] ++ [t]) → x ∈ S0 ++ (O ++ [t]) ++ (way ++ [t']) := fun x hx => by
    simp only [List.mem_append] at hx ⊢
    rcases hx with (c | c) | (c | c) | c
    · exact .inl (.inl c)
    · exact .inl (.inr (.inl c))
    · exact .inr (.inl c)
    · exact .inr (.inr c)
    · exact .inl (.inr (.inr c))
  refine ⟨h.dpop hs, hal, fun k hk hk' => ?_, ?_, fun v hv => ?_, ?_⟩
  · have := h.seen k (by simp; omega) (by simp; omega)
    rw [List.getElem_append_left hk', List.getElem_append_left hk] at this
    exact ⟨this.1, fun q hq => cand_mono hmem (this.2 q hq)⟩
  · have := h.seen way.length (by simp) (by simp [hal])
    have eA : (A ++ [a'])[way.length]'(by simp [hal]) = a' := by
      rw [List.getElem_append_right (by rw [hal]; exact Nat.le_refl _)]
      simp
    have eW : (way ++ [t'])[way.length]'(by simp) = t' := by simp
    rw [eA, eW] at this
    exact ⟨this.1, fun q hq => cand_mono hmem (this.2 q hq)⟩
  · refine h.led v ?_
    simp only [List.mem_append] at hv ⊢
    rcases hv with (c | c) | c | c
    · exact .inl c
    · exact .inr (.inr c)
    · exact .inr (.inl (.inl c))
    · exact .inr (.inl (.inr c))
  · have := h.mem
    simp only [List.mem_append] at this ⊢
    rcases this with c | (c | c) | c
    · exact .inl (.inl c)
    · exact .inr (.inl c)
    · exact .inr (.inr c)
    · exact .inl (.inr c)
theorem FS.room (h : FS G i S0 O way t A a) : (S0 ++ O ++ (way ++ [t])).length ≤ G.n := h.dp.len
end
/-! ### 2. In memory -/
structure FM (G : Gr) (W0 w : World) (b : Nat) (nv mv ov wv av : Value) (S0 O way : List Nat) (t : Nat) (A : List Nat) (a : Nat) : Prop where
  wk : WK W0 w b nv mv (metL G.n (S0 ++ O ++ (way ++ [t])))
  no : NewS W0 ov
  nw : NewS W0 wv
  na : NewS W0 av
  oo : OwnS w ov 3 1 (intC (natI O))
  ow : OwnS w wv 3 1 (intC (natI (way ++ [t])))
  oa : OwnS w av 3 1 (intC (natI (A ++ [a])))
  dow : ∀ g ∈ blkS ov, g ∉ blkS wv
  doa : ∀ g ∈ blkS ov, g ∉ blkS av
  dwa : ∀ g ∈ blkS wv, g ∉ blkS av
/-- A world without memory: nothing is asked of what went ahead. -/
def bare (w : World) : World := { w with heap := #[] }
theorem fr_bare (w : World) : Fr [] (bare w) w := ⟨rfl, rfl, rfl, by simp [bare], fun i hi => by simp [bare] at hi⟩
theorem new_bare (w : World) (v : Value) : NewS (bare w) v := fun g _ => by simp [bare]
theorem C.appI' {K : VK} {w : World} {v : Value} {l : List Int} {n : Int} (hv : OwnS w v 3 1 (intC l)) (hl : l.length ≤ 17592186044415)
    (hk : ∀ v' w', OwnS w' v' 3 1 (intC (l ++ [n])) → Fr (blkS v) w w' → (∀ g ∈ blkS v', g ∈ blkS v ∨ w.heap.size ≤ g) → K v' w') :
    C.run Try.prog (Instr.buildSlice 23 1 #[(0, .int .i64 n)]) w fun x w1 => C.run Try.prog (Builtin.append_ #[23, 23] 23 #[v, x]) w1 K :=
  C.appI (fr_bare w) (new_bare w v) hv hl fun v' w' _ _ a b c => hk v' w' a b c
theorem new_app {W0 w : World} {v v' : Value} (h : NewS W0 v) (hs : W0.heap.size ≤ w.heap.size) (hg : ∀ g ∈ blkS v', g ∈ blkS v ∨ w.heap.size ≤ g) : NewS W0 v' := fun g hx => by
  rcases hg g (mem_blkS.2 hx) with c | c
  · exact h.blk g c
  · omega
theorem intC_setN (l : List Int) (j : Nat) (n : Int) : (intC l).set j [.int .i64 n] = intC (l.set j n) := by simp [intC, List.map_set]
section
variable {K : VK} {w : World} {G : Gr} {W0 : World} {b : Nat} {nv mv ov wv av : Value} {S0 O way : List Nat} {t : Nat} {A : List Nat} {a : Nat}
theorem FM.keep {w' : World} (h : FM G W0 w b nv mv ov wv av S0 O way t A a) (hf : Fr [] w w') : FM G W0 w' b nv mv ov wv av S0 O way t A a :=
  ⟨h.wk.keep hf, h.no, h.nw, h.na, h.oo.keep hf (by simp), h.ow.keep hf (by simp), h.oa.keep hf (by simp), h.dow, h.doa, h.dwa⟩
theorem push_c {Again : Value → Value → World → Prop} {q k : Nat} (h : FM G W0 w b nv mv ov wv av S0 O way t A a) (hal : A.length = way.length) (hk : k < G.n) (hfew : way.length ≤ 1000000)
    (hg : ∀ wv' av' w', FM G W0 w' b nv mv ov wv' av' S0 O (way ++ [t]) k (A ++ [q + 1]) 0 → Again wv' av' w') :
    C.idx 1 av (.int .i64 (way.length : Int)) w fun x42 w12 => C.store 1 x42 (.int .i64 ((q + 1 : Nat) : Int)) w12 fun w13 => C.load1 (.pointer (some ⟨b, 1, none⟩)) w13 fun x46 w16 =>
      C.idx 1 x46 (.int .i64 (k : Int)) w16 fun x48 w17 => C.store 1 x48 (.bool true) w17 fun w18 => C.run Try.prog (Instr.buildSlice 23 1 #[(0, .int .i64 (k : Int))]) w18 fun x51 w19 => C.run Try.prog (Builtin.append_ #[23, 23] 23 #[wv, x51]) w19 fun x52 w20 =>
      C.run Try.prog (Instr.buildSlice 23 1 #[(0, .int .i64 0)]) w20 fun x54 w21 => C.run Try.prog (Builtin.append_ #[23, 23] 23 #[av, x54]) w21 fun x55 w22 => Again x52 x55 w22 := by
  refine C.storeAt_own h.oa (by omega) (by rw [intC_len, natI_len, Int.toNat_natCast]; simp [hal]) rfl (by intro u hu; simp [Value.cells] at hu; subst hu; rfl) fun w1 oa1 hf1 _ => ?_
  have eset : (natI (A ++ [a])).set way.length ((q + 1 : Nat) : Int) = natI (A ++ [q + 1]) := by
    rw [natI_app, natI_app, List.set_append_right _ _ (by rw [natI_len, hal]; exact Nat.le_refl _)]
    simp [natI_len, hal, natI]
  rw [Int.toNat_natCast, show (Value.cells (.int .i64 ((q + 1 : Nat) : Int))).toList = [.int .i64 ((q + 1 : Nat) : Int)] from rfl, intC_setN, eset] at oa1
  have nb1 : b ∉ blkS av := h.oa.nb h.wk.hb (by decide)
  have fl1 := h.wk.fl.keep' hf1 (h.wk.fl.ne h.oa (by decide))
  have fr1 : Fr (blkS mv) W0 w1 := h.wk.fr.then hf1 fun z hz => .inr (h.na z (mem_blkS.1 hz))
  have hb1 := hf1.at_ h.wk.hb nb1
  have ow1 := h.ow.keep' hf1 h.dwa
  have oo1 := h.oo.keep' hf1 h.doa
  refine C.load1_of (v := mv) hb1 rfl (flag_set (fr_bare w1) (new_bare w1 mv) fl1 (by rw [metL_len]; exact hk) fun w2 _ fl2 hf2 => ?_)
  have fr2 := fr1.trans hf2
  have hb2 := hf2.at_ hb1 (fl1.nb hb1 (by decide))
  have ow2 := ow1.keep' hf2 (fun g hg c => (fl1.ne ow1 (by decide)) g c hg)
  have oo2 := oo1.keep' hf2 (fun g hg c => (fl1.ne oo1 (by decide)) g c hg)
  have oa2 := oa1.keep' hf2 (fun g hg c => (fl1.ne oa1 (by decide)) g c hg)
  rw [metL_set (T := S0 ++ O ++ (way ++ [t] ++ [k])) hk (fun x => by simp only [List.mem_append, List.mem_singleton]; constructor <;> intro c <;> rcases c with c | c <;> first | (rcases c with c | c <;> simp_all) | simp_all)] at fl2
  refine C.appI' ow2 (by rw [natI_len]; simp; omega) fun wv' w3 ow3 hf3 hg3 => ?_
  have fr3 : Fr (blkS mv) W0 w3 := fr2.then hf3 fun z hz => .inr (h.nw z (mem_blkS.1 hz))
  have nw3 := new_app h.nw fr2.size hg3
  have hb3 := hf3.at_ hb2 (ow2.nb hb2 (by decide))
  have fl3 := fl2.keep' hf3 (fl2.ne ow2 (by decide))
  have oo3 := oo2.keep' hf3 h.dow
  have oa3 := oa2.keep' hf3 (fun g hg c => h.dwa g c hg)
  have dow3 : ∀ g ∈ blkS ov, g ∉ blkS wv' := fun g hg c => by
    rcases hg3 g c with d | d
    · exact h.dow g hg d
    · have := oo2.mem_lt g hg; omega
  have dwa3 : ∀ g ∈ blkS wv', g ∉ blkS av := fun g hg c => by
    rcases hg3 g hg with d | d
    · exact h.dwa g d c
    · have := oa2.mem_lt g c; omega
  refine C.appI' oa3 (by rw [natI_len]; simp; omega) fun av' w4 oa4 hf4 hg4 => ?_
  have fr4 : Fr (blkS mv) W0 w4 := fr3.then hf4 fun z hz => .inr (h.na z (mem_blkS.1 hz))
  have na4 := new_app h.na fr3.size hg4
  have hb4 := hf4.at_ hb3 (oa3.nb hb3 (by decide))
  have fl4 := fl3.keep' hf4 (fl3.ne oa3 (by decide))
  have oo4 := oo3.keep' hf4 h.doa
  have ow4 := ow3.keep' hf4 dwa3
  refine hg wv' av' w4 ⟨⟨fr4, hb4, fl4⟩, h.no, nw3, na4, oo4, ?_, ?_, dow3, fun g hg c => ?_, fun g hg c => ?_⟩
  · rw [natI_app]
    exact ow4
  · rw [natI_app]
    exact oa4
  · rcases hg4 g c with d | d
    · exact h.doa g hg d
    · have := oo3.mem_lt g hg; omega
  · rcases hg4 g c with d | d
    · exact dwa3 g hg d
    · have := ow3.mem_lt g hg; omega
theorem pop_c {Again : Value → Value → Value → World → Prop} (h : FM G W0 w b nv mv ov wv av S0 O way t A a) (hal : A.length = way.length) (hO : O.length ≤ 1000000) (hfew : way.length ≤ 1000000)
    (hg : ∀ ov' wv' av' w' way' t' A' a', way = way' ++ [t'] → A = A' ++ [a'] → FM G W0 w' b nv mv ov' wv' av' S0 (O ++ [t]) way' t' A' a' → Again ov' wv' av' w')
    (hk : way = [] → ∀ ov' w', WK W0 w' b nv mv (metL G.n (S0 ++ (O ++ [t]))) → NewS W0 ov' → OwnS w' ov' 3 1 (intC (natI (O ++ [t]))) → K ov' w') :
    C.idx 1 wv (.int .i64 (way.length : Int)) w fun x59 w1 => C.load1 x59 w1 fun x60 w2 => C.run Try.prog (Instr.buildSlice 23 1 #[(0, x60)]) w2 fun x61 w3 => C.run Try.prog (Builtin.append_ #[23, 23] 23 #[ov, x61]) w3 fun x62 w4 =>
      C.draw w4 fun S w5 => ∃ x65, (∀ w', S w' → (Instr.sliceAt 23 wv none (some (.int .i64 (way.length : Int))) none).run Try.prog w' = .ok x65 w') ∧ (∃ x68, (∀ w', S w' → (Instr.sliceAt 23 av none (some (.int .i64 (way.length : Int))) none).run Try.prog w' = .ok x68 w') ∧
        (C.ite (.bool (decide ((way.length : Int) > 0))) (Again x62 x65 x68 w5) (K x62 w5))) := by
  have wl : way.length < (natI (way ++ [t])).length := by rw [natI_len]; simp
  refine C.idx_int h.ow.rd wl fun g o cs e fz hg1 hc => C.load1_of hg1 hc ?_
  have et : (natI (way ++ [t]))[way.length] = (t : Int) := by rw [natI_get (by simp) wl]; simp
  rw [et]
  refine C.appI' h.oo (by rw [natI_len]; omega) fun ov' w1 oo1 hf1 hg2 => ?_
  have fr1 : Fr (blkS mv) W0 w1 := h.wk.fr.then hf1 fun z hz => .inr (h.no z (mem_blkS.1 hz))
  have no1 := new_app h.no h.wk.fr.size hg2
  have hb1 := hf1.at_ h.wk.hb (h.oo.nb h.wk.hb (by decide))
  have fl1 := h.wk.fl.keep' hf1 (h.wk.fl.ne h.oo (by decide))
  have ow1 := h.ow.keep' hf1 (fun g hg c => h.dow g c hg)
  have oa1 := h.oa.keep' hf1 (fun g hg c => h.doa g c hg)
  have dow1 : ∀ g ∈ blkS ov', g ∉ blkS wv := fun g hg c => by
    rcases hg2 g hg with d | d
    · exact h.dow g d c
    · have := h.ow.mem_lt g c; omega
  have doa1 : ∀ g ∈ blkS ov', g ∉ blkS av := fun g hg c => by
    rcases hg2 g hg with d | d
    · exact h.doa g d c
    · have := h.oa.mem_lt g c; omega
  refine C.draw_of (fun _ => True) fun w2 hf2 _ => ⟨trivial, ?_⟩
  have ow2 := ow1.keep hf2 (by simp)
  have oa2 := oa1.keep hf2 (by simp)
  obtain ⟨A1, c1, ew, hc1, hA1⟩ := ow2.cap
  obtain ⟨A2, c2, ea, hc2, hA2⟩ := oa2.cap
  rw [intC_len, natI_len] at ew ea hc1 hc2
  have hl1 : (way ++ [t]).length = way.length + 1 := by simp
  have hl2 : (A ++ [a]).length = way.length + 1 := by simp [hal]
  rw [hl1] at ew hc1
  rw [hl2] at ea hc2
  subst ew ea
  have r1 := fun w' => sliceTo_run (P := Try.prog) (w := w') (t := 23) (e := 3) (sz := 1) A1 (way.length + 1) c1 .i64 (way.length : Int) Try.underlying23 (by kernel_rfl) (by omega) (by omega)
  have r2 := fun w' => sliceTo_run (P := Try.prog) (w := w') (t := 23) (e := 3) (sz := 1) A2 (way.length + 1) c2 .i64 (way.length : Int) Try.underlying23 (by kernel_rfl) (by omega) (by omega)
  simp only [Int.toNat_natCast] at r1 r2
  refine ⟨_, fun w' _ => r1 w', _, fun w' _ => r2 w', ?_⟩
  have natT : ∀ x, metL G.n (S0 ++ O ++ (x ++ [t])) = metL G.n (S0 ++ (O ++ [t]) ++ x) := fun x => metL_perm fun y => by
    simp only [List.mem_append, List.mem_singleton]
    constructor
    · rintro ((c | c) | c | c)
      · exact .inl (.inl c)
      · exact .inl (.inr (.inl c))
      · exact .inr c
      · exact .inl (.inr (.inr c))
    · rintro ((c | c | c) | c)
      · exact .inl (.inl c)
      · exact .inl (.inr c)
      · exact .inr (.inr c)
      · exact .inr (.inl c)
  by_cases hz : way = []
  · subst hz
    simp only [List.length_nil, C.ite_true, C.ite_false, C.pick_true, C.pick_false, C.not_bool, C.field_ptr, C.nilCheck_ptr, C.add_mk, C.sub_mk, C.mul_mk, C.eql_mk, C.neq_mk, C.lss_mk, C.leq_mk, C.gtr_mk, C.geq_mk, C.conv_mk, C.len_mk, C.ext_0, C.ext_1, C.ext3_0, C.ext3_1, C.ext3_2, C.guarded_yes, C.guarded_tf, C.guarded_ft, C.guarded_undef, Bool.not_true, Bool.not_false, Nat.zero_add, eq_self, decide_true, decide_false, show ¬ (((0 : Nat) : Int) > 0) by omega]
    refine hk rfl ov' w2 ⟨fr1.trans hf2.w, hf2.at_ hb1 (by simp), ?_⟩ no1 (by rw [natI_app]; exact oo1.keep hf2 (by simp))
    have := fl1.keep hf2 (by simp)
    rwa [natT [], List.append_nil] at this
  · have hlen : 0 < way.length := by
      cases way with
      | nil => exact absurd rfl hz
      | cons x y => simp
    simp only [C.ite_true, C.ite_false, C.pick_true, C.pick_false, C.not_bool, C.field_ptr, C.nilCheck_ptr, C.add_mk, C.sub_mk, C.mul_mk, C.eql_mk, C.neq_mk, C.lss_mk, C.leq_mk, C.gtr_mk, C.geq_mk, C.conv_mk, C.len_mk, C.ext_0, C.ext_1, C.ext3_0, C.ext3_1, C.ext3_2, C.guarded_yes, C.guarded_tf, C.guarded_ft, C.guarded_undef, Bool.not_true, Bool.not_false, Nat.zero_add, eq_self, decide_true, decide_false, show ((way.length : Int) > 0) by omega]
    obtain ⟨way', t', e0⟩ := List.eq_nil_or_concat way |>.resolve_left hz
    rw [List.concat_eq_append] at e0
    subst e0
    have hzA : A ≠ [] := fun c => by subst c; simp at hal
    obtain ⟨A', a', e0⟩ := List.eq_nil_or_concat A |>.resolve_left hzA
    rw [List.concat_eq_append] at e0
    subst e0
    have hn1 : A1 ≠ none := fun c => by
      have := congrArg List.length (hA1 c)
      rw [intC_len, natI_len] at this
      simp at this
    have hn2 : A2 ≠ none := fun c => by
      have := congrArg List.length (hA2 c)
      rw [intC_len, natI_len] at this
      simp at this
    have ow3 := ow2.take (way' ++ [t']).length (by omega) fun c => absurd c hn1
    have oa3 := oa2.take (way' ++ [t']).length (by omega) fun c => absurd c hn2
    have e1 : (intC (natI (way' ++ [t'] ++ [t]))).take (way' ++ [t']).length = intC (natI (way' ++ [t'])) := by
      simp only [intC, natI, ← List.map_take]
      rw [List.take_left' rfl]
    have e2 : (intC (natI (A' ++ [a'] ++ [a]))).take (way' ++ [t']).length = intC (natI (A' ++ [a'])) := by
      simp only [intC, natI, ← List.map_take]
      rw [List.take_left' hal]
    rw [e1] at ow3
    rw [e2] at oa3
    have fl2 := fl1.keep hf2 (by simp)
    rw [natT] at fl2
    have eo : ∀ (B : Option Addr) (x y d : Nat), (Value.slice B x d).ownBlock = (Value.slice B y d).ownBlock := fun B x y d => by cases B <;> rfl
    have eb : ∀ (B : Option Addr) (x y d : Nat), blkS (Value.slice B x d) = blkS (Value.slice B y d) := fun B x y d => by unfold blkS; rw [eo B x y d]
    refine hg ov' _ _ w2 way' t' A' a' rfl rfl ⟨⟨fr1.trans hf2.w, hf2.at_ hb1 (by simp), fl2⟩, no1, ?_, ?_, by rw [natI_app]; exact oo1.keep hf2 (by simp), ow3, oa3, ?_, ?_, ?_⟩
    · intro g hg; rw [eo A1 _ ((way' ++ [t']).length + 1) c1] at hg; exact h.nw g hg
    · intro g hg; rw [eo A2 _ ((way' ++ [t']).length + 1) c2] at hg; exact h.na g hg
    · intro g hg; rw [eb A1 _ ((way' ++ [t']).length + 1) c1]; exact dow1 g hg
    · intro g hg; rw [eb A2 _ ((way' ++ [t']).length + 1) c2]; exact doa1 g hg
    · intro g hg; rw [eb A1 _ ((way' ++ [t']).length + 1) c1] at hg; rw [eb A2 _ ((way' ++ [t']).length + 1) c2]; exact h.dwa g hg
end
end Go.Proofs.YtchonfdnghimdaaV
