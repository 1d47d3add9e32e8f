/- A thread's letters: what the call comes to. -/
import Derived.Test.YtfhgjncbhjjbfaaAud2
import Derived.Test.YtfhgjncbhjjbfaaAudRep
namespace Go.Proofs.YtfhgjncbhjjbfaaV
open Go Go.Proofs Go.RowKit
set_option linter.unusedVariables false
set_option linter.unusedSimpArgs false
set_option maxRecDepth 10000
def boolC (l : List Bool) : List (List Value) := l.map fun b => [.bool b]
theorem boolC_len (l : List Bool) : (boolC l).length = l.length := by simp [boolC]
theorem boolC_get {l : List Bool} {j : Nat} (h : j < l.length) : (boolC l)[j]? = some [.bool l[j]] := by simp [boolC, h]
theorem boolC_app (l k : List Bool) : boolC (l ++ k) = boolC l ++ boolC k := by simp [boolC]
theorem boolC_rep (n : Nat) (b : Bool) : boolC (List.replicate n b) = List.replicate n [.bool b] := by simp [boolC]
theorem boolC_one {l : List Bool} : ∀ y ∈ boolC l, ∀ u ∈ y, u.oneCell' = true := by
  intro y hy u hu
  simp only [boolC, List.mem_map] at hy
  obtain ⟨x, _, rfl⟩ := hy
  simp only [List.mem_cons, List.not_mem_nil, or_false] at hu
  subst hu
  rfl
/-- What one step, answered, is in letters. -/
def ltrA (x : Stp) (y : Ans) : List Bool := if x.k = 3 ∨ (x.k = 15 ∧ y.c = 0) then List.replicate (clamp y.d 0 64 * clamp x.c 0 16).toNat true else []
def ltrB (x : Stp) (y : Ans) : List Bool := if (x.k ≥ 3 ∧ x.k ≤ 12) ∧ y.c = 0 then [false] else []
def ltrC (x : Stp) (y : Ans) : List Bool := if x.k = 13 ∧ y.c = 0 then List.replicate (min (max x.n 0) 64).toNat false else []
def ltrS (t : Int) (x : Stp) (y : Ans) : List Bool := if x.t = t then ltrA x y ++ ltrB x y ++ ltrC x y else []
def ltrAt (t : Int) (L : List Stp) (A : List Ans) (i : Nat) : List Bool := match L[i]?, A[i]? with
  | some x, some y => ltrS t x y
  | _, _ => []
def ltrL (t : Int) (L : List Stp) (A : List Ans) : Nat → List Bool
  | 0 => []
  | m + 1 => ltrL t L A m ++ ltrAt t L A m
theorem ltrAt_get {t : Int} {L : List Stp} {A : List Ans} {i : Nat} (h : i < L.length) (h' : i < A.length) : ltrAt t L A i = ltrS t L[i] A[i] := by
  unfold ltrAt
  rw [List.getElem?_eq_getElem h, List.getElem?_eq_getElem h']
theorem mul_bd (a b : Int) : 0 ≤ clamp a 0 64 * clamp b 0 16 ∧ clamp a 0 64 * clamp b 0 16 ≤ 1024 := by
  have h1 := clamp_bd a 0 64 (by omega)
  have h2 := clamp_bd b 0 16 (by omega)
  refine ⟨Int.mul_nonneg h1.1 h2.1, ?_⟩
  have h3 := Int.mul_le_mul_of_nonneg_right h1.2 h2.1
  omega
theorem ltrS_len (t : Int) (x : Stp) (y : Ans) : (ltrS t x y).length ≤ 1089 := by
  have := mul_bd y.d x.c
  unfold ltrS
  split
  · unfold ltrA ltrB ltrC
    rw [List.length_append, List.length_append]
    split <;> split <;> split <;> simp <;> omega
  · simp
theorem ltrL_len (t : Int) (L : List Stp) (A : List Ans) : ∀ m, (ltrL t L A m).length ≤ m * 1089
  | 0 => by simp [ltrL]
  | m + 1 => by
    have ih := ltrL_len t L A m
    have : (ltrAt t L A m).length ≤ 1089 := by
      unfold ltrAt
      split
      · exact ltrS_len _ _ _
      · simp
    simp only [ltrL, List.length_append]
    omega
theorem vcCall_of' {f : FuncId} {cap : Array Value} {args : List Value} {w : World} {K : VK} (hb : bodied Try.prog f = true) (h : C.call Try.prog f (args ++ cap.toList).toArray w K) : vcCall Try.prog (.func (.func f) #[] cap) args w K := by
  simp only [vcCall, hb, cond_true, List.nil_append]
  exact h
section
variable {K : VK} {w : World}
theorem bsB (b : Bool) : (Instr.buildSlice 33 1 #[(0, .bool b)]).run Try.prog w = .ok (.slice (some ⟨w.heap.size, 0, none⟩) 1 1) (w.alloc (.cells #[.bool b] 4)) := by kernel_rfl
theorem bodied52 : bodied Try.prog 52 = true := by kernel_rfl
/-- Letters put behind the others. -/
theorem put_c {W0 : World} {b7 n : Nat} {ov : Value} {l : List Bool} {b : Bool} {lo : Nat} (hn : n ≤ 1024) (hl : l.length ≤ 1000000) (hf : Fr [] W0 w) (h7 : w.heap[b7]? = some (.cells #[ov] 33 (0, 0))) (h70 : W0.heap.size ≤ b7) (ho : OwnS w ov 4 1 (boolC l)) (hb : ∀ g ∈ blkS ov, lo ≤ g) (hlo : W0.heap.size ≤ lo ∧ b7 < lo ∧ lo ≤ w.heap.size)
    (h : ∀ ov' w', Fr [] W0 w' → (∀ c o, c < lo → c ≠ b7 → w.heap[c]? = some o → w'.heap[c]? = some o) → (∀ c o, c ∉ blkS ov → c ≠ b7 → w.heap[c]? = some o → w'.heap[c]? = some o) → w.heap.size ≤ w'.heap.size → w'.heap[b7]? = some (.cells #[ov'] 33 (0, 0)) → OwnS w' ov' 4 1 (boolC (l ++ List.replicate n b)) → (∀ g ∈ blkS ov', lo ≤ g) → (∀ g ∈ blkS ov', g ∈ blkS ov ∨ w.heap.size ≤ g) → K (.tuple #[]) w') :
    vcCall Try.prog (.func (.func 52) #[] #[.pointer (some ⟨b7, 0, none⟩)]) [.int .i64 (n : Int), .bool b] w K := by
  have lov := ho.mem_lt
  have l7 := lt_of_at h7
  -- the letters there: put behind, and told
  have fin : ∀ {w' : World} {rv : Value}, Fr [] w w' → RdS w' rv 1 (List.replicate n [.bool b]) → C.run Try.prog (Builtin.append_ #[33, 33] 33 #[ov, rv]) w' fun x10 w14 => C.store 1 (.pointer (some ⟨b7, 0, none⟩)) x10 w14 fun w15 => K (.tuple #[]) w15 := by
    intro w' rv hf' hr
    rw [← boolC_rep] at hr
    refine C.append_of (xs := boolC l) (ys := boolC (List.replicate n b)) (e := 4) (sz := 1) (bytes := 1) (z := .bool false) Try.underlying33 (by kernel_rfl) rfl (by decide) (ho.keep hf' (by simp)) hr boolC_one (by rw [boolC_len, boolC_len]; simp; omega) (by rw [boolC_len, boolC_len]; simp; omega) fun ov' w2 ho2 hf2 hb2 _ => ?_
    rw [← boolC_app] at ho2
    have s1 := hf'.size
    have s2 := hf2.size
    have n7 : b7 ∉ blkS ov := fun c => by have := hb b7 c; omega
    have nb : ∀ g ∈ blkS ov', g ∈ blkS ov ∨ w.heap.size ≤ g := fun g hg => by
      rw [mem_blkS] at hg
      rcases hb2 with c | ⟨g', c, d⟩
      · exact .inl (mem_blkS.2 (by rw [← c]; exact hg))
      · rw [hg] at c
        simp only [Option.some.injEq] at c
        exact .inr (by omega)
    refine C.store1_of (hf2.at_ (hf'.at_ h7 (by simp)) n7) ho2.one.2 ho2.one.1 (by simp) fun w3 hu => ?_
    have keep : ∀ c o, c ∉ blkS ov → c ≠ b7 → w.heap[c]? = some o → w3.heap[c]? = some o := fun c o h1 h2 hc => hu.fr.at_ (hf2.at_ (hf'.at_ hc (by simp)) h1) (by simp; exact h2)
    refine h ov' w3 (((hf.trans hf').then hf2 fun g hg => .inr (by have := hb g hg; omega)).then hu.fr fun g hg => .inr (by simp only [List.mem_singleton] at hg; omega)) (fun c o hc => keep c o fun d => by have := hb c d; omega) keep (by have := hu.sz; omega) hu.at_ (ho2.keep' hu.fr fun g hg c => ?_) (fun g hg => ?_) nb
    · simp only [List.mem_singleton] at c
      rcases nb g hg with d | d
      · have := hb g d; omega
      · omega
    · rcases nb g hg with d | d
      · exact hb g d
      · omega
  refine vcCall_of' bodied52 ?_
  refine F52.sh (C.draw_of (fun _ => True) fun w1 hf1 he1 => ⟨trivial, ?_⟩)
  simp only [and_true, true_and]
  have h71 := hf1.at_ h7 (by simp)
  have hw2 := New.mk' w1 (.cells #[.bool b] 4)
  have hr2 : RdS (w1.alloc (.cells #[.bool b] 4)) (.slice (some ⟨w1.heap.size, 0, none⟩) 1 1) 1 [[.bool b]] := RdS.of_block hw2.at_ rfl (by simp) (by simp) (by simp) (by simp)
  refine ⟨C.load1_of (v := ov) h71 rfl (C.run_of (bsB b) (RepBool_c hr2 rfl (by omega) fun rv w3 hf3 ho3 hn3 => fin ((hf1.trans hw2.fr).trans hf3) ho3.rd)), C.run_of (bsB b) ⟨C.load1_of (v := ov) (hw2.fr.at_ h71 (by simp)) rfl (RepBool_c hr2 rfl (by omega) fun rv w3 hf3 ho3 hn3 => fin ((hf1.trans hw2.fr).trans hf3) ho3.rd), RepBool_c hr2 rfl (by omega) fun rv w3 hf3 ho3 hn3 => C.load1_of (v := ov) (hf3.at_ (hw2.fr.at_ h71 (by simp)) (by simp)) rfl (fin ((hf1.trans hw2.fr).trans hf3) ho3.rd)⟩⟩
end
end Go.Proofs.YtfhgjncbhjjbfaaV
