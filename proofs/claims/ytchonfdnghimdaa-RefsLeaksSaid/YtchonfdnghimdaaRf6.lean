/- Which nodes counting frees, and which leak; the statements' own counts: what the calls come to. -/
import Derived.Test.YtchonfdnghimdaaRf5
namespace Go.Proofs.YtchonfdnghimdaaV
open Go Go.Proofs Go.RowKit
set_option linter.unusedVariables false
set_option linter.unusedSimpArgs false
set_option maxRecDepth 10000
def Gr.freeL (G : Gr) : List Nat := (List.range G.n).filter fun j => G.fre j
def Gr.leakL (G : Gr) : List Nat := (List.range G.n).filter fun j => !G.rch j && !G.fre j
section
variable {K : VK} {w : World}
theorem C.makeB {n : Nat} (hn : n ≤ 1000) (hk : ∀ v w', Fr [] w w' → NewS w v → w'.heap.size = w.heap.size + 1 → OwnS w' v 4 1 (boolC (tab n fun _ => false)) → K v w') : C.run Try.prog (Instr.makeSlice 28 (.int .i64 (n : Int)) (.int .i64 (n : Int))) w K := by
  refine C.make_of (e := 4) (sz := 1) (bytes := 1) (z := .bool false) n Try.underlying28 (by kernel_rfl) rfl (by decide) (by intro u hu; simp [Value.cells] at hu; subst hu; rfl) (by omega) (by omega) fun ga w2 hw2 ha2 => hk _ w2 hw2.fr (fun g hg => ?_) hw2.sz ?_
  · simp only [Value.ownBlock, Option.some.injEq] at hg
    have := hw2.is
    omega
  · have e : boolC (tab n fun _ => false) = List.replicate n [.bool false] := by simp [tab, boolC, List.map_const']
    rw [e]
    exact ha2
theorem pfalls_c {nv rv : Value} {G : Gr} (hG : IsG w nv rv G) (h : ∀ v w', Fr [] w w' → NewS w v → OwnS w' v 4 1 (boolC (tab G.n G.fre)) → K v w') : C.call Try.prog 36 #[.agg #[nv, rv]] w K := by
  have hfew := hG.few
  refine F36.sh (GBlk.new hG fun bg w1 hf1 hb1 hb hG1 => C.draw_of (fun w' => Fr [] w1 w') fun w2 hf2 he2 => ⟨hf2, ?_⟩)
  simp only [C.ite_true, C.ite_false, C.pick_true, C.pick_false, C.not_bool, C.field_ptr, C.nilCheck_ptr, C.add_mk, C.sub_mk, C.mul_mk, C.eql_mk, C.neq_mk, C.lss_mk, C.leq_mk, C.gtr_mk, C.geq_mk, C.conv_mk, C.len_mk, C.ext_0, C.ext_1, C.ext3_0, C.ext3_1, C.ext3_2, C.guarded_yes, C.guarded_tf, C.guarded_ft, C.guarded_undef, Bool.not_true, Bool.not_false, Nat.zero_add, eq_self, decide_true, decide_false, and_true]
  refine C.loadAS_of (vs := [nv, rv]) (fun w' hw => ⟨_, _, _, hb.keep hw (by simp), by simp, by simp⟩) (C.load1S_of (v := nv) (fun w' hw => ⟨_, _, _, hb.keep hw (by simp), rfl⟩) ((hG1.keep hf2).len_next ?_))
  -- what comes when all three are there, the count stored
  have fin : ∀ {w' : World} {ov fv : Value} {bo : Nat}, Fr [] w1 w' → w'.heap[bo]? = some (.cells #[ov] 23 (0, 0)) → w1.heap.size ≤ bo → OwnS w' ov 3 1 (intC G.countsL) → NewS w1 ov → OwnS w' fv 4 1 (boolC (tab G.n fun _ => false)) → NewS w1 fv → (∀ g ∈ blkS ov, g ≠ bo) → (∀ g ∈ blkS fv, g ≠ bo ∧ g ∉ blkS ov) → F36.k2 K (.pointer (some ⟨bg, 0, none⟩)) (.pointer (some ⟨bo, 0, none⟩)) fv w' := by
    intro w' ov fv bo a1 a2 a3 a4 a5 a6 a7 a8 a9
    exact fall_k2 hG1 hb a1 a2 a3 a4 a5 a6 a7 a8 a9 fun w'' hf'' hn'' ho'' => h _ w'' (hf1.trans hf'') (hn''.mono hf1.size) ho''
  have store : ∀ {w' : World} {ov : Value} {bo : Nat} {F : World → Prop}, Fr [] w1 w' → w'.heap[bo]? = some (.cells #[.slice none 0 0] 23 (0, 0)) → w1.heap.size ≤ bo → OwnS w' ov 3 1 (intC G.countsL) → (∀ w'', Fr [bo] w' w'' → Fr [] w1 w'' → w''.heap[bo]? = some (.cells #[ov] 23 (0, 0)) → F w'') → C.store 1 (.pointer (some ⟨bo, 0, none⟩)) ov w' F := by
    intro w' ov bo F a1 a2 a3 a4 hF
    exact C.store1_of a2 a4.one.2 a4.one.1 (by simp) fun w'' hu => hF w'' hu.fr (a1.then hu.fr fun x hx => .inr (by simp only [List.mem_singleton] at hx; omega)) hu.at_
  have s2 := hf2.size
  refine ⟨Counts_c (hG1.keep hf2) fun ov w3 hf3 hn3 ho3 => ⟨hf2.trans hf3, ?_, ?_⟩, ?_, ?_⟩
  · -- counts, make, new, store
    refine C.makeB hfew fun fv w4 hf4 hn4 hs4 ho4 => ⟨(hf2.trans hf3).trans hf4, C.new_of fun bo w5 hw5 => ⟨((hf2.trans hf3).trans hf4).trans hw5.fr, ?_⟩⟩
    have e5 := hw5.is
    have l3 := ho3.mem_lt
    have l4 := ho4.mem_lt
    have q3 := hf3.size
    have f5 := ((hf2.trans hf3).trans hf4).trans hw5.fr
    refine store f5 hw5.at_ (by omega) ((ho3.keep hf4 (by simp)).keep hw5.fr (by simp)) fun w6 hu6 f6 h6 => ⟨f6, fin f6 h6 (by omega) (((ho3.keep hf4 (by simp)).keep hw5.fr (by simp)).keep' hu6 fun g hg c => ?_) (hn3.mono s2) ((ho4.keep hw5.fr (by simp)).keep' hu6 fun g hg c => ?_) (hn4.mono (hf2.trans hf3).size) (fun g hg => ?_) fun g hg => ⟨?_, fun c => ?_⟩⟩
    · simp only [List.mem_singleton] at c; have := l3 g hg; omega
    · simp only [List.mem_singleton] at c; have := l4 g hg; omega
    · have := l3 g hg; omega
    · have := l4 g hg; omega
    · have := l3 g c; have := hn4.blk g hg; omega
  · refine C.new_of fun bo w4 hw4 => ⟨(hf2.trans hf3).trans hw4.fr, ?_, ?_⟩
    · refine C.makeB hfew fun fv w5 hf5 hn5 hs5 ho5 => ⟨((hf2.trans hf3).trans hw4.fr).trans hf5, ?_⟩
      have e4 := hw4.is
      have e4' := hw4.sz
      have l3 := ho3.mem_lt
      have q3 := hf3.size
      have f5 := ((hf2.trans hf3).trans hw4.fr).trans hf5
      refine store f5 (hf5.at_ hw4.at_ (by simp)) (by omega) ((ho3.keep hw4.fr (by simp)).keep hf5 (by simp)) fun w6 hu6 f6 h6 => ⟨f6, fin f6 h6 (by omega) (((ho3.keep hw4.fr (by simp)).keep hf5 (by simp)).keep' hu6 fun g hg c => ?_) (hn3.mono s2) (ho5.keep' hu6 fun g hg c => ?_) (hn5.mono ((hf2.trans hf3).trans hw4.fr).size) (fun g hg => ?_) fun g hg => ⟨?_, fun c => ?_⟩⟩
      · simp only [List.mem_singleton] at c; have := l3 g hg; omega
      · simp only [List.mem_singleton] at c; have := hn5.blk g hg; omega
      · have := l3 g hg; omega
      · have := hn5.blk g hg; omega
      · have := l3 g c; have := hn5.blk g hg; omega
    · have e4 := hw4.is
      have e4' := hw4.sz
      have l3 := ho3.mem_lt
      have q3 := hf3.size
      refine store ((hf2.trans hf3).trans hw4.fr) hw4.at_ (by omega) (ho3.keep hw4.fr (by simp)) fun w5 hu5 f5 h5 => ⟨f5, C.makeB hfew fun fv w6 hf6 hn6 hs6 ho6 => ⟨f5.trans hf6, fin (f5.trans hf6) (hf6.at_ h5 (by simp)) (by omega) (((ho3.keep hw4.fr (by simp)).keep' hu5 fun g hg c => ?_).keep hf6 (by simp)) (hn3.mono s2) ho6 (hn6.mono f5.size) (fun g hg => ?_) fun g hg => ⟨?_, fun c => ?_⟩⟩⟩
      · simp only [List.mem_singleton] at c; have := l3 g hg; omega
      · have := l3 g hg; omega
      · have := hn6.blk g hg; have := hu5.size; omega
      · have := l3 g c; have := hn6.blk g hg; have := hu5.size; omega
  · refine C.makeB hfew fun fv w4 hf4 hn4 hs4 ho4 => ⟨hf2.trans hf4, ?_, ?_⟩
    · refine Counts_c (hG1.keep (hf2.trans hf4)) fun ov w3 hf3 hn3 ho3 => ⟨(hf2.trans hf4).trans hf3, C.new_of fun bo w5 hw5 => ⟨((hf2.trans hf4).trans hf3).trans hw5.fr, ?_⟩⟩
      have e5 := hw5.is
      have l3 := ho3.mem_lt
      have l4 := ho4.mem_lt
      have q3 := hf3.size
      have q4 := hf4.size
      have f5 := ((hf2.trans hf4).trans hf3).trans hw5.fr
      refine store f5 hw5.at_ (by omega) (ho3.keep hw5.fr (by simp)) fun w6 hu6 f6 h6 => ⟨f6, fin f6 h6 (by omega) ((ho3.keep hw5.fr (by simp)).keep' hu6 fun g hg c => ?_) (hn3.mono (hf2.trans hf4).size) (((ho4.keep hf3 (by simp)).keep hw5.fr (by simp)).keep' hu6 fun g hg c => ?_) (hn4.mono s2) (fun g hg => ?_) fun g hg => ⟨?_, fun c => ?_⟩⟩
      · simp only [List.mem_singleton] at c; have := l3 g hg; omega
      · simp only [List.mem_singleton] at c; have := l4 g hg; omega
      · have := l3 g hg; omega
      · have := l4 g hg; omega
      · have := l4 g hg; have := hn3.blk g c; omega
    · refine C.new_of fun bo w5 hw5 => ⟨(hf2.trans hf4).trans hw5.fr, Counts_c (hG1.keep ((hf2.trans hf4).trans hw5.fr)) fun ov w3 hf3 hn3 ho3 => ⟨((hf2.trans hf4).trans hw5.fr).trans hf3, ?_⟩⟩
      have e5 := hw5.is
      have e5' := hw5.sz
      have l4 := ho4.mem_lt
      have q4 := hf4.size
      have f5 := ((hf2.trans hf4).trans hw5.fr).trans hf3
      refine store f5 (hf3.at_ hw5.at_ (by simp)) (by omega) ho3 fun w6 hu6 f6 h6 => ⟨f6, fin f6 h6 (by omega) (ho3.keep' hu6 fun g hg c => ?_) (hn3.mono ((hf2.trans hf4).trans hw5.fr).size) (((ho4.keep hw5.fr (by simp)).keep hf3 (by simp)).keep' hu6 fun g hg c => ?_) (hn4.mono s2) (fun g hg => ?_) fun g hg => ⟨?_, fun c => ?_⟩⟩
      · simp only [List.mem_singleton] at c; have := hn3.blk g hg; omega
      · simp only [List.mem_singleton] at c; have := l4 g hg; omega
      · have := hn3.blk g hg; omega
      · have := l4 g hg; omega
      · have := l4 g hg; have := hn3.blk g c; omega
  · refine C.new_of fun bo w4 hw4 => ⟨hf2.trans hw4.fr, ?_, ?_⟩
    · refine Counts_c (hG1.keep (hf2.trans hw4.fr)) fun ov w3 hf3 hn3 ho3 => ⟨(hf2.trans hw4.fr).trans hf3, ?_, ?_⟩
      · refine C.makeB hfew fun fv w5 hf5 hn5 hs5 ho5 => ⟨((hf2.trans hw4.fr).trans hf3).trans hf5, ?_⟩
        have e4 := hw4.is
        have e4' := hw4.sz
        have l3 := ho3.mem_lt
        have q3 := hf3.size
        have f5 := ((hf2.trans hw4.fr).trans hf3).trans hf5
        refine store f5 ((hf3.trans hf5).at_ hw4.at_ (by simp)) (by omega) (ho3.keep hf5 (by simp)) fun w6 hu6 f6 h6 => ⟨f6, fin f6 h6 (by omega) ((ho3.keep hf5 (by simp)).keep' hu6 fun g hg c => ?_) (hn3.mono (hf2.trans hw4.fr).size) (ho5.keep' hu6 fun g hg c => ?_) (hn5.mono ((hf2.trans hw4.fr).trans hf3).size) (fun g hg => ?_) fun g hg => ⟨?_, fun c => ?_⟩⟩
        · simp only [List.mem_singleton] at c; have := hn3.blk g hg; omega
        · simp only [List.mem_singleton] at c; have := hn5.blk g hg; omega
        · have := hn3.blk g hg; omega
        · have := hn5.blk g hg; omega
        · have := l3 g c; have := hn5.blk g hg; omega
      · have e4 := hw4.is
        have e4' := hw4.sz
        have l3 := ho3.mem_lt
        have q3 := hf3.size
        refine store ((hf2.trans hw4.fr).trans hf3) (hf3.at_ hw4.at_ (by simp)) (by omega) ho3 fun w5 hu5 f5 h5 => ⟨f5, C.makeB hfew fun fv w6 hf6 hn6 hs6 ho6 => ⟨f5.trans hf6, fin (f5.trans hf6) (hf6.at_ h5 (by simp)) (by omega) ((ho3.keep' hu5 fun g hg c => ?_).keep hf6 (by simp)) (hn3.mono (hf2.trans hw4.fr).size) ho6 (hn6.mono f5.size) (fun g hg => ?_) fun g hg => ⟨?_, fun c => ?_⟩⟩⟩
        · simp only [List.mem_singleton] at c; have := hn3.blk g hg; omega
        · have := hn3.blk g hg; omega
        · have := hn6.blk g hg; have := hu5.size; omega
        · have := l3 g c; have := hn6.blk g hg; have := hu5.size; omega
    · refine C.makeB hfew fun fv w5 hf5 hn5 hs5 ho5 => ⟨(hf2.trans hw4.fr).trans hf5, Counts_c (hG1.keep ((hf2.trans hw4.fr).trans hf5)) fun ov w3 hf3 hn3 ho3 => ⟨((hf2.trans hw4.fr).trans hf5).trans hf3, ?_⟩⟩
      have e4 := hw4.is
      have e4' := hw4.sz
      have l5 := ho5.mem_lt
      have q5 := hf5.size
      have f5 := ((hf2.trans hw4.fr).trans hf5).trans hf3
      refine store f5 ((hf5.trans hf3).at_ hw4.at_ (by simp)) (by omega) ho3 fun w6 hu6 f6 h6 => ⟨f6, fin f6 h6 (by omega) (ho3.keep' hu6 fun g hg c => ?_) (hn3.mono ((hf2.trans hw4.fr).trans hf5).size) ((ho5.keep hf3 (by simp)).keep' hu6 fun g hg c => ?_) (hn5.mono (hf2.trans hw4.fr).size) (fun g hg => ?_) fun g hg => ⟨?_, fun c => ?_⟩⟩
      · simp only [List.mem_singleton] at c; have := hn3.blk g hg; omega
      · simp only [List.mem_singleton] at c; have := hn5.blk g hg; omega
      · have := hn3.blk g hg; omega
      · have := hn5.blk g hg; omega
      · have := l5 g hg; have := hn3.blk g c; omega
end
end Go.Proofs.YtchonfdnghimdaaV
