/- A law's graph: any; cut; made of literals: what the calls come to. -/
import Derived.Test.YtchonfdnghimdaaSc12
namespace Go.Proofs.YtchonfdnghimdaaV
open Go Go.Proofs Go.RowKit
set_option linter.unusedVariables false
set_option linter.unusedSimpArgs false
set_option maxRecDepth 10000
/-- A graph of any number of nodes. -/
structure IsG0 (w : World) (nv rv : Value) (G : Gr) : Prop where
  next : RowsAt w nv G.next
  roots : RdS w rv 1 (intC G.roots)
  rlen : G.roots.length ≤ 17592186044416
  nlen : ∀ r ∈ G.next, r.length ≤ 17592186044416
theorem IsG0.keep {w w' : World} {nv rv : Value} {G : Gr} (h : IsG0 w nv rv G) (hf : Fr [] w w') : IsG0 w' nv rv G := ⟨h.next.keep hf, h.roots.keep hf, h.rlen, h.nlen⟩
theorem IsG0.cells {w : World} {nv rv : Value} {G : Gr} (h : IsG0 w nv rv G) : Value.cells (.agg #[nv, rv]) = #[nv, rv] := by
  obtain ⟨vs, h1, _⟩ := h.next
  simp [Value.cells, h1.one.2, h.roots.one.2]
theorem IsG0.slices {w : World} {nv rv : Value} {G : Gr} (h : IsG0 w nv rv G) : ∃ A c B d, nv = .slice A G.n c ∧ rv = .slice B G.roots.length d := by
  obtain ⟨vs, ⟨A, c, h1, _⟩, h2, _⟩ := h.next
  obtain ⟨B, d, h3, _⟩ := h.roots
  rw [slC_len, h2] at h1
  rw [intC_len] at h3
  exact ⟨A, c, B, d, h1, h3⟩
theorem IsG0.le {w : World} {nv rv : Value} {G : Gr} (h : IsG0 w nv rv G) : G.n ≤ 9223372036854775807 := by
  obtain ⟨vs, h1, h2, _⟩ := h.next
  have := h1.le
  rw [slC_len, h2] at this
  exact this
theorem IsG0.isG {w : World} {nv rv : Value} {G : Gr} (h : IsG0 w nv rv G) (hn : G.n ≤ 1000) : IsG w nv rv G := ⟨h.next, h.roots, hn, h.rlen, h.nlen⟩
def Gr.cut (G : Gr) (m : Nat) : Gr := ⟨G.next.take m, G.roots⟩
theorem cut_n (G : Gr) (m : Nat) : (G.cut m).n ≤ m := by
  show (G.next.take m).length ≤ m
  rw [List.length_take]; omega
theorem cut_id {G : Gr} {m : Nat} (h : G.n ≤ m) : G.cut m = G := by
  unfold Gr.cut
  rw [List.take_of_length_le h]
theorem RowsAt.take {w : World} {A : Option Addr} {n c m : Nat} {L : List (List Int)} (h : RowsAt w (.slice A n c) L) (hm : m ≤ n) : RowsAt w (.slice A m c) (L.take m) := by
  obtain ⟨vs, h1, h2, h3⟩ := h
  refine ⟨vs.take m, ?_, by simp [h2], fun i a b => ?_⟩
  · have := h1.take m hm
    unfold slC at *
    rw [List.map_take]
    exact this
  · rw [List.getElem_take, List.getElem_take]
    exact h3 i _ _
section
variable {K : VK} {w : World}
theorem GBlk.new0 {e : TypeId} {nv rv : Value} {G : Gr} (hG : IsG0 w nv rv G) (hk : ∀ b w', Fr [] w w' → w.heap.size ≤ b → GBlk w' b e nv rv → IsG0 w' nv rv G → K (.pointer (some ⟨b, 0, none⟩)) w') : C.new (.cells (Value.cells (.agg #[nv, rv])) e) w K := by
  refine C.new_of fun b w1 hn => hk b w1 hn.fr (by have := hn.is; omega) ?_ (hG.keep hn.fr)
  have := hn.at_
  rw [hG.cells] at this
  exact this
/-- A graph's block, written over. -/
theorem GBlk.set {e : TypeId} {b : Nat} {nv rv nv' rv' : Value} {G : Gr} {F : World → Prop} (hb : GBlk w b e nv rv) (hG : IsG w nv' rv' G) (hk : ∀ w', Upd w b (.cells #[nv', rv'] e (0, 0)) w' → F w') : C.store 2 (.pointer (some ⟨b, 0, none⟩)) (.agg #[nv', rv']) w F := by
  refine C.store_all hb (by rw [hG.cells]; rfl) hG.ones rfl fun w' hu => hk w' ?_
  rw [hG.cells] at hu
  exact hu
/-! ### Literals -/
theorem C.litI {n : Int} (hk : ∀ v w', Fr [] w w' → RdS w' v 1 (intC [n]) → K v w') : C.run Try.prog (Instr.buildSlice 23 1 #[(0, .int .i64 n)]) w K := by
  have hw := New.mk' w (.cells #[.int .i64 n] 3)
  exact C.run_of (bsI n) (hk _ _ hw.fr (RdS.of_block hw.at_ rfl (by simp) (by simp) (by simp [intC]) (by simp [intC])))
theorem bsI2 (a b : Int) : (Instr.buildSlice 23 2 #[(0, .int .i64 a), (1, .int .i64 b)]).run Try.prog w = .ok (.slice (some ⟨w.heap.size, 0, none⟩) 2 2) (w.alloc (.cells #[.int .i64 a, .int .i64 b] 3)) := by kernel_rfl
theorem bsI3 (a b c : Int) : (Instr.buildSlice 23 3 #[(0, .int .i64 a), (1, .int .i64 b), (2, .int .i64 c)]).run Try.prog w = .ok (.slice (some ⟨w.heap.size, 0, none⟩) 3 3) (w.alloc (.cells #[.int .i64 a, .int .i64 b, .int .i64 c] 3)) := by kernel_rfl
theorem bsI4 (a b c d : Int) : (Instr.buildSlice 23 4 #[(0, .int .i64 a), (1, .int .i64 b), (2, .int .i64 c), (3, .int .i64 d)]).run Try.prog w = .ok (.slice (some ⟨w.heap.size, 0, none⟩) 4 4) (w.alloc (.cells #[.int .i64 a, .int .i64 b, .int .i64 c, .int .i64 d] 3)) := by kernel_rfl
theorem bsI5 (a b c d e : Int) : (Instr.buildSlice 23 5 #[(0, .int .i64 a), (1, .int .i64 b), (2, .int .i64 c), (3, .int .i64 d), (4, .int .i64 e)]).run Try.prog w = .ok (.slice (some ⟨w.heap.size, 0, none⟩) 5 5) (w.alloc (.cells #[.int .i64 a, .int .i64 b, .int .i64 c, .int .i64 d, .int .i64 e] 3)) := by kernel_rfl
theorem C.litI2 {a b : Int} (hk : ∀ v w', Fr [] w w' → RdS w' v 1 (intC [a, b]) → K v w') : C.run Try.prog (Instr.buildSlice 23 2 #[(0, .int .i64 a), (1, .int .i64 b)]) w K := by
  have hw := New.mk' w (.cells #[.int .i64 a, .int .i64 b] 3)
  exact C.run_of (bsI2 a b) (hk _ _ hw.fr (RdS.of_block hw.at_ rfl (by simp) (by simp) (by simp [intC]) (by simp [intC])))
theorem C.litI3 {a b c : Int} (hk : ∀ v w', Fr [] w w' → RdS w' v 1 (intC [a, b, c]) → K v w') : C.run Try.prog (Instr.buildSlice 23 3 #[(0, .int .i64 a), (1, .int .i64 b), (2, .int .i64 c)]) w K := by
  have hw := New.mk' w (.cells #[.int .i64 a, .int .i64 b, .int .i64 c] 3)
  exact C.run_of (bsI3 a b c) (hk _ _ hw.fr (RdS.of_block hw.at_ rfl (by simp) (by simp) (by simp [intC]) (by simp [intC])))
theorem C.litI4 {a b c d : Int} (hk : ∀ v w', Fr [] w w' → RdS w' v 1 (intC [a, b, c, d]) → K v w') : C.run Try.prog (Instr.buildSlice 23 4 #[(0, .int .i64 a), (1, .int .i64 b), (2, .int .i64 c), (3, .int .i64 d)]) w K := by
  have hw := New.mk' w (.cells #[.int .i64 a, .int .i64 b, .int .i64 c, .int .i64 d] 3)
  exact C.run_of (bsI4 a b c d) (hk _ _ hw.fr (RdS.of_block hw.at_ rfl (by simp) (by simp) (by simp [intC]) (by simp [intC])))
theorem C.litI5 {a b c d e : Int} (hk : ∀ v w', Fr [] w w' → RdS w' v 1 (intC [a, b, c, d, e]) → K v w') : C.run Try.prog (Instr.buildSlice 23 5 #[(0, .int .i64 a), (1, .int .i64 b), (2, .int .i64 c), (3, .int .i64 d), (4, .int .i64 e)]) w K := by
  have hw := New.mk' w (.cells #[.int .i64 a, .int .i64 b, .int .i64 c, .int .i64 d, .int .i64 e] 3)
  exact C.run_of (bsI5 a b c d e) (hk _ _ hw.fr (RdS.of_block hw.at_ rfl (by simp) (by simp) (by simp [intC]) (by simp [intC])))
theorem bsS3 (A B C : Option Addr) (a b c a' b' c' : Nat) : (Instr.buildSlice 22 3 #[(0, .slice A a a'), (1, .slice B b b'), (2, .slice C c c')]).run Try.prog w = .ok (.slice (some ⟨w.heap.size, 0, none⟩) 3 3) (w.alloc (.cells #[.slice A a a', .slice B b b', .slice C c c'] 23)) := by kernel_rfl
theorem bsS4 (A B C D : Option Addr) (a b c d a' b' c' d' : Nat) : (Instr.buildSlice 22 4 #[(0, .slice A a a'), (1, .slice B b b'), (2, .slice C c c'), (3, .slice D d d')]).run Try.prog w = .ok (.slice (some ⟨w.heap.size, 0, none⟩) 4 4) (w.alloc (.cells #[.slice A a a', .slice B b b', .slice C c c', .slice D d d'] 23)) := by kernel_rfl
theorem bsS5 (A B C D E : Option Addr) (a b c d e a' b' c' d' e' : Nat) : (Instr.buildSlice 22 5 #[(0, .slice A a a'), (1, .slice B b b'), (2, .slice C c c'), (3, .slice D d d'), (4, .slice E e e')]).run Try.prog w = .ok (.slice (some ⟨w.heap.size, 0, none⟩) 5 5) (w.alloc (.cells #[.slice A a a', .slice B b b', .slice C c c', .slice D d d', .slice E e e'] 23)) := by kernel_rfl
theorem C.litS3 {a b c : Value} {x y z : List Int} (ha : RdS w a 1 (intC x)) (hb : RdS w b 1 (intC y)) (hc : RdS w c 1 (intC z)) (hk : ∀ v w', Fr [] w w' → RowsAt w' v [x, y, z] → K v w') : C.run Try.prog (Instr.buildSlice 22 3 #[(0, a), (1, b), (2, c)]) w K := by
  have hw := New.mk' w (.cells #[a, b, c] 23)
  have hr : RowsAt (w.alloc (.cells #[a, b, c] 23)) (.slice (some ⟨w.heap.size, 0, none⟩) 3 3) [x, y, z] := by
    refine ⟨[a, b, c], RdS.of_block hw.at_ rfl (by simp [slC]) (by simp) (by simp [slC]) (by simp [slC]), rfl, fun i h h' => ?_⟩
    match i with
    | 0 => exact ha.keep hw.fr
    | 1 => exact hb.keep hw.fr
    | 2 => exact hc.keep hw.fr
    | n + 3 => simp at h; omega
  obtain ⟨A, a', rfl, _⟩ := ha
  obtain ⟨B, b', rfl, _⟩ := hb
  obtain ⟨X, c', rfl, _⟩ := hc
  exact C.run_of (bsS3 _ _ _ _ _ _ _ _ _) (hk _ _ hw.fr hr)
theorem C.litS4 {a b c d : Value} {x y z t : List Int} (ha : RdS w a 1 (intC x)) (hb : RdS w b 1 (intC y)) (hc : RdS w c 1 (intC z)) (hd : RdS w d 1 (intC t)) (hk : ∀ v w', Fr [] w w' → RowsAt w' v [x, y, z, t] → K v w') : C.run Try.prog (Instr.buildSlice 22 4 #[(0, a), (1, b), (2, c), (3, d)]) w K := by
  have hw := New.mk' w (.cells #[a, b, c, d] 23)
  have hr : RowsAt (w.alloc (.cells #[a, b, c, d] 23)) (.slice (some ⟨w.heap.size, 0, none⟩) 4 4) [x, y, z, t] := by
    refine ⟨[a, b, c, d], RdS.of_block hw.at_ rfl (by simp [slC]) (by simp) (by simp [slC]) (by simp [slC]), rfl, fun i h h' => ?_⟩
    match i with
    | 0 => exact ha.keep hw.fr
    | 1 => exact hb.keep hw.fr
    | 2 => exact hc.keep hw.fr
    | 3 => exact hd.keep hw.fr
    | n + 4 => simp at h; omega
  obtain ⟨A, a', rfl, _⟩ := ha
  obtain ⟨B, b', rfl, _⟩ := hb
  obtain ⟨X, c', rfl, _⟩ := hc
  obtain ⟨D, d', rfl, _⟩ := hd
  exact C.run_of (bsS4 _ _ _ _ _ _ _ _ _ _ _ _) (hk _ _ hw.fr hr)
theorem C.litS5 {a b c d e : Value} {x y z t u : List Int} (ha : RdS w a 1 (intC x)) (hb : RdS w b 1 (intC y)) (hc : RdS w c 1 (intC z)) (hd : RdS w d 1 (intC t)) (he : RdS w e 1 (intC u)) (hk : ∀ v w', Fr [] w w' → RowsAt w' v [x, y, z, t, u] → K v w') : C.run Try.prog (Instr.buildSlice 22 5 #[(0, a), (1, b), (2, c), (3, d), (4, e)]) w K := by
  have hw := New.mk' w (.cells #[a, b, c, d, e] 23)
  have hr : RowsAt (w.alloc (.cells #[a, b, c, d, e] 23)) (.slice (some ⟨w.heap.size, 0, none⟩) 5 5) [x, y, z, t, u] := by
    refine ⟨[a, b, c, d, e], RdS.of_block hw.at_ rfl (by simp [slC]) (by simp) (by simp [slC]) (by simp [slC]), rfl, fun i h h' => ?_⟩
    match i with
    | 0 => exact ha.keep hw.fr
    | 1 => exact hb.keep hw.fr
    | 2 => exact hc.keep hw.fr
    | 3 => exact hd.keep hw.fr
    | 4 => exact he.keep hw.fr
    | n + 5 => simp at h; omega
  obtain ⟨A, a', rfl, _⟩ := ha
  obtain ⟨B, b', rfl, _⟩ := hb
  obtain ⟨X, c', rfl, _⟩ := hc
  obtain ⟨D, d', rfl, _⟩ := hd
  obtain ⟨E, e', rfl, _⟩ := he
  exact C.run_of (bsS5 _ _ _ _ _ _ _ _ _ _ _ _ _ _ _) (hk _ _ hw.fr hr)
theorem build46 (A B : Option Addr) (n c m d : Nat) : (Instr.build 25 #[(0, .slice A n c), (1, .slice B m d)]).run Try.prog w = .ok (.agg #[.slice A n c, .slice B m d]) w := by kernel_rfl
theorem C.mkG {nv rv : Value} {G : Gr} {F : Value → World → Prop} (hG : IsG w nv rv G) (h : ∀ b w', Fr [] w w' → w.heap.size ≤ b → GBlk w' b 25 nv rv → IsG w' nv rv G → F (.pointer (some ⟨b, 0, none⟩)) w') :
    C.run Try.prog (Instr.build 25 #[(0, nv), (1, rv)]) w fun x w1 => C.new (.cells #[.slice none 0 0, .slice none 0 0] 25) w1 fun p w2 => C.store 2 p x w2 fun w3 => F p w3 := by
  have hc := hG.cells
  have ho := hG.ones
  have hG' := hG
  obtain ⟨A, c, B, d, rfl, rfl⟩ := hG.slices
  refine C.run_of (build46 _ _ _ _ _ _) (C.new_of fun b w1 hw1 => C.store_all hw1.at_ rfl ho rfl fun w2 hu => ?_)
  have e := hw1.is
  have fr : Fr [] w w2 := hw1.fr.then hu.fr fun x hx => .inr (by simp only [List.mem_singleton] at hx; omega)
  exact h b w2 fr (by omega) hu.at_ (hG.keep fr)
end
end Go.Proofs.YtchonfdnghimdaaV
