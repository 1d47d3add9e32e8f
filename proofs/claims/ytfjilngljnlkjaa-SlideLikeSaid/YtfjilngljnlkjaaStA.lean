/- Sorting that keeps the order of equals, by the library: swaps, rotation, insertion. · Sorting that keeps the order of equals, by the library: insertion, merging. · Sorting that keeps the order of equals, by the library: merging; the whole. · Sorting that keeps the order of equals, by the library: the merge; the whole. · Sorting that keeps the order of equals, by the library: the whole. -/
import Derived.Test.YtfjilngljnlkjaaLibSt1
import Derived.Test.YtfjilngljnlkjaaGStab
import Derived.Test.YtfjilngljnlkjaaLibOwn
import Derived.Test.YtfjilngljnlkjaaBits
namespace Go.Proofs.YtfjilngljnlkjaaV
open Go Go.Proofs Go.RowKit
set_option linter.unusedVariables false
set_option linter.unusedSimpArgs false
set_option maxRecDepth 10000
/-! ### 1. Lists -/
theorem seg_get {α : Type} {X V Y : List α} {k : Nat} (h : k < V.length) : (X ++ (V ++ Y))[X.length + k]? = some V[k] := by
  rw [List.getElem?_append_right (by omega), List.getElem?_append_left (by omega), List.getElem?_eq_getElem (by omega)]
  simp
theorem seg_set {α : Type} {X Z : List α} {p q : α} : (X ++ p :: Z).set X.length q = X ++ q :: Z := by
  rw [List.set_append_right _ _ (Nat.le_refl _), Nat.sub_self]
  rfl
theorem seg_swap {α : Type} {X M Y : List α} {p q : α} : ((X ++ p :: (M ++ q :: Y)).set X.length q).set (X.length + 1 + M.length) p = X ++ q :: (M ++ p :: Y) := by
  rw [seg_set, List.set_append_right _ _ (by omega), show X.length + 1 + M.length - X.length = M.length + 1 by omega, List.set_cons_succ, seg_set]
theorem seg_swap' {α : Type} {X M Y : List α} {p q : α} : ((X ++ p :: (M ++ q :: Y)).set (X.length + 1 + M.length) p).set X.length q = X ++ q :: (M ++ p :: Y) := by
  rw [List.set_append_right _ _ (by omega), show X.length + 1 + M.length - X.length = M.length + 1 by omega, List.set_cons_succ, seg_set, seg_set]
/-! ### 2. A row -/
def rw2 (ser : Nat → Int) (f : Nat → Value) (i : Nat) : List Value := [.int .i64 (ser i), f i]
def RW (ser : Nat → Int) (f : Nat → Value) (A : List Nat) : List (List Value) := A.map (rw2 ser f)
theorem RW_len (ser : Nat → Int) (f : Nat → Value) (A : List Nat) : (RW ser f A).length = A.length := by simp [RW]
theorem RW_get {ser : Nat → Int} {f : Nat → Value} {A : List Nat} {k i : Nat} (h : A[k]? = some i) : (RW ser f A)[k]? = some (rw2 ser f i) := by simp [RW, h]
theorem RW_set (ser : Nat → Int) (f : Nat → Value) (A : List Nat) (k i : Nat) : (RW ser f A).set k (rw2 ser f i) = RW ser f (A.set k i) := by simp [RW, List.map_set]
def cmpI (a b : Int) : Int := if a < b then -1 else if a > b then 1 else 0
theorem cmpI_lt (a b : Int) : cmpI a b < 0 ↔ a < b := by
  unfold cmpI
  split
  · simp; assumption
  · split
    · simp; omega
    · simp; omega
section
variable {K : VK} {w : World} {ser : Nat → Int} {f : Nat → Value} {nv cv : Value}
/-- The row's element at a place, loaded. -/
theorem row_load {A : List Nat} {k i : Nat} {F : VK} (ho : OwnS w nv 59 2 (RW ser f A)) (h : A[k]? = some i) (hk : F (.agg #[.int .i64 (ser i), f i]) w) : C.idx 2 nv (.int .i64 (k : Int)) w fun p w1 => C.loadA 2 p w1 F :=
  C.idx_rd ho.rd (by omega) (by rw [Int.toNat_natCast]; exact RW_get h) fun g o cs e fz hg hl hc => C.loadA_cells (x := rw2 ser f i) hg hl (by omega) hc (by simpa [rw2] using hk)
/-- Two elements, loaded in any order, and put, each where the other was. -/
theorem row_swap (hf : ∀ i, (f i).oneCell' = true ∧ (f i).cells = #[f i]) {A : List Nat} {P Q i j : Nat} {F : World → Prop} (ho : OwnS w nv 59 2 (RW ser f A)) (hP : A[P]? = some i) (hQ : A[Q]? = some j)
    (hk : ∀ w', Fr (blkS nv) w w' → OwnS w' nv 59 2 (RW ser f ((A.set Q i).set P j)) → F w') :
    C.idx 2 nv (.int .i64 (P : Int)) w fun pP w4 => C.idx 2 nv (.int .i64 (Q : Int)) w4 fun pQ w5 => (C.loadA 2 pP w5 fun x w12 => C.loadA 2 pQ w12 fun y w13 => C.idx 2 nv (.int .i64 (Q : Int)) w13 fun q w14 => C.store 2 q x w14 fun w15 => C.idx 2 nv (.int .i64 (P : Int)) w15 fun p w16 => C.store 2 p y w16 F) ∧
      (C.loadA 2 pQ w5 fun y w6 => C.loadA 2 pP w6 fun x w7 => C.idx 2 nv (.int .i64 (Q : Int)) w7 fun q w8 => C.store 2 q x w8 fun w9 => C.idx 2 nv (.int .i64 (P : Int)) w9 fun p w10 => C.store 2 p y w10 F) := by
  have c1 : ∀ i, (Value.agg #[.int .i64 (ser i), f i]).cells = #[.int .i64 (ser i), f i] := fun i => by simp [Value.cells, (hf i).2]
  have c2 : ∀ i, ∀ u ∈ (Value.agg #[.int .i64 (ser i), f i]).cells.toList, u.oneCell' = true := fun i u hu => by
    rw [c1] at hu
    simp only [List.mem_cons, List.not_mem_nil, or_false] at hu
    rcases hu with rfl | rfl
    · rfl
    · exact (hf i).1
  have lP : P < A.length := (List.getElem?_eq_some_iff.1 hP).1
  have lQ : Q < A.length := (List.getElem?_eq_some_iff.1 hQ).1
  have last : C.idx 2 nv (.int .i64 (Q : Int)) w fun q w14 => C.store 2 q (.agg #[.int .i64 (ser i), f i]) w14 fun w15 => C.idx 2 nv (.int .i64 (P : Int)) w15 fun p w16 => C.store 2 p (.agg #[.int .i64 (ser j), f j]) w16 F := by
    refine C.storeAt_own ho (by omega) (by rw [Int.toNat_natCast, RW_len]; exact lQ) (by rw [c1]; rfl) (c2 i) fun w1 ho1 hf1 _ => ?_
    have e1 : (RW ser f A).set (Q : Int).toNat (Value.agg #[.int .i64 (ser i), f i]).cells.toList = RW ser f (A.set Q i) := by
      rw [Int.toNat_natCast, c1]
      exact RW_set ser f A Q i
    rw [e1] at ho1
    refine C.storeAt_own ho1 (by omega) (by rw [Int.toNat_natCast, RW_len, List.length_set]; exact lP) (by rw [c1]; rfl) (c2 j) fun w2 ho2 hf2 _ => ?_
    have e2 : (RW ser f (A.set Q i)).set (P : Int).toNat (Value.agg #[.int .i64 (ser j), f j]).cells.toList = RW ser f ((A.set Q i).set P j) := by
      rw [Int.toNat_natCast, c1]
      exact RW_set ser f _ P j
    rw [e2] at ho2
    exact hk w2 (hf1.trans hf2) ho2
  refine C.idx_rd ho.rd (by omega) (by rw [Int.toNat_natCast]; exact RW_get hP) fun g o cs e fz hg hl hc => C.idx_rd ho.rd (by omega) (by rw [Int.toNat_natCast]; exact RW_get hQ) fun g' o' cs' e' fz' hg' hl' hc' => ?_
  exact ⟨C.loadA_cells (x := rw2 ser f i) hg hl (by omega) hc (C.loadA_cells (x := rw2 ser f j) hg' hl' (by omega) hc' (by simpa [rw2] using last)), C.loadA_cells (x := rw2 ser f j) hg' hl' (by omega) hc' (C.loadA_cells (x := rw2 ser f i) hg hl (by omega) hc (by simpa [rw2] using last))⟩
/-! ### 3. Ranges swapped; rotation -/
theorem swapRange_loop (hf : ∀ i, (f i).oneCell' = true ∧ (f i).cells = #[f i]) {W0 : World} {X M Y : List Nat} {a b n : Nat} (hX : X.length = a) (hn : a + n + M.length = b) (hb : b + n ≤ 1000000) (P Q : List Nat) (hPn : P.length = n) (hQn : Q.length = n)
    (h : ∀ w', Fr (blkS nv) W0 w' → OwnS w' nv 59 2 (RW ser f (X ++ (Q ++ (M ++ (P ++ Y))))) → K (.tuple #[]) w') :
    ∀ (P2 Q2 P1 Q1 : List Nat) (w : World), P = P1 ++ P2 → Q = Q1 ++ Q2 → P1.length = Q1.length → Fr (blkS nv) W0 w → OwnS w nv 59 2 (RW ser f (X ++ (Q1 ++ (P2 ++ (M ++ (P1 ++ (Q2 ++ Y))))))) →
      F96.l1 K nv (.int .i64 (a : Int)) (.int .i64 (b : Int)) (.int .i64 (n : Int)) (.int .i64 (P1.length : Int)) w := by
  intro P2
  induction P2 with
  | nil =>
    intro Q2 P1 Q1 w hP hQ hl hfr ho
    have e : Q2 = [] := List.eq_nil_of_length_eq_zero (by rw [hQ] at hQn; rw [hP] at hPn; simp at hQn hPn; omega)
    subst e
    simp only [List.append_nil] at hP hQ
    subst hP; subst hQ
    refine F96.l1.to ?_
    simp only [C.ite_true, C.ite_false, C.pick_true, C.pick_false, C.not_bool, C.field_ptr, C.nilCheck_ptr, C.add_mk, C.sub_mk, C.mul_mk, C.eql_mk, C.neq_mk, C.lss_mk, C.leq_mk, C.gtr_mk, C.geq_mk, C.conv_mk, C.len_mk, C.ext_0, C.ext_1, C.ext3_0, C.ext3_1, C.ext3_2, C.guarded_yes, C.guarded_tf, C.guarded_ft, C.guarded_undef, Bool.not_true, Bool.not_false, Nat.zero_add, eq_self, decide_true, decide_false, show ¬ ((P.length : Int) < (n : Int)) by omega]
    exact h w hfr (by simpa using ho)
  | cons p P2 ih =>
    intro Q2 P1 Q1 w hP hQ hl hfr ho
    cases Q2 with
    | nil => rw [hQ] at hQn; rw [hP] at hPn; simp at hQn hPn; omega
    | cons q Q2 =>
      have hln : P1.length < n := by rw [hP] at hPn; simp at hPn; omega
      refine F96.l1.to ?_
      simp only [C.ite_true, C.ite_false, C.pick_true, C.pick_false, C.not_bool, C.field_ptr, C.nilCheck_ptr, C.add_mk, C.sub_mk, C.mul_mk, C.eql_mk, C.neq_mk, C.lss_mk, C.leq_mk, C.gtr_mk, C.geq_mk, C.conv_mk, C.len_mk, C.ext_0, C.ext_1, C.ext3_0, C.ext3_1, C.ext3_2, C.guarded_yes, C.guarded_tf, C.guarded_ft, C.guarded_undef, Bool.not_true, Bool.not_false, Nat.zero_add, eq_self, decide_true, decide_false, show ((P1.length : Int) < (n : Int)) by omega]
      refine F96.k3.to (C.draw_of (fun _ => True) fun w1 hf1 he1 => ⟨trivial, ?_⟩)
      simp only [C.ite_true, C.ite_false, C.pick_true, C.pick_false, C.not_bool, C.field_ptr, C.nilCheck_ptr, C.add_mk, C.sub_mk, C.mul_mk, C.eql_mk, C.neq_mk, C.lss_mk, C.leq_mk, C.gtr_mk, C.geq_mk, C.conv_mk, C.len_mk, C.ext_0, C.ext_1, C.ext3_0, C.ext3_1, C.ext3_2, C.guarded_yes, C.guarded_tf, C.guarded_ft, C.guarded_undef, Bool.not_true, Bool.not_false, Nat.zero_add, eq_self, decide_true, decide_false, true_and, and_true]
      rw [wrap64_id (n := (a : Int) + (P1.length : Int)) (by omega), wrap64_id (n := (b : Int) + (P1.length : Int)) (by omega), show (a : Int) + (P1.length : Int) = ((a + P1.length : Nat) : Int) by omega, show (b : Int) + (P1.length : Int) = ((b + P1.length : Nat) : Int) by omega]
      have hA : X ++ (Q1 ++ (p :: P2 ++ (M ++ (P1 ++ (q :: Q2 ++ Y))))) = (X ++ Q1) ++ p :: ((P2 ++ (M ++ P1)) ++ q :: (Q2 ++ Y)) := by simp
      rw [hA] at ho
      have la : (X ++ Q1).length = a + P1.length := by simp [hX, hl]
      have lb : (X ++ Q1).length + 1 + (P2 ++ (M ++ P1)).length = b + P1.length := by
        rw [hP] at hPn
        simp at hPn ⊢
        omega
      have gP : ((X ++ Q1) ++ p :: ((P2 ++ (M ++ P1)) ++ q :: (Q2 ++ Y)))[a + P1.length]? = some p := by rw [← la]; simp
      have gQ : ((X ++ Q1) ++ p :: ((P2 ++ (M ++ P1)) ++ q :: (Q2 ++ Y)))[b + P1.length]? = some q := by
        rw [← lb, List.getElem?_append_right (by omega), show (X ++ Q1).length + 1 + (P2 ++ (M ++ P1)).length - (X ++ Q1).length = (P2 ++ (M ++ P1)).length + 1 by omega, List.getElem?_cons_succ]
        rw [List.getElem?_append_right (Nat.le_refl _)]
        simp
      refine row_swap hf (ho.keep hf1 (by simp)) gQ gP fun w2 hf2 ho2 => ?_
      have e2 : (((X ++ Q1) ++ p :: ((P2 ++ (M ++ P1)) ++ q :: (Q2 ++ Y))).set (a + P1.length) q).set (b + P1.length) p = X ++ ((Q1 ++ [q]) ++ (P2 ++ (M ++ ((P1 ++ [p]) ++ (Q2 ++ Y))))) := by
        rw [← la, ← lb, seg_swap]
        simp
      rw [e2] at ho2
      refine F96.k2.to ?_
      simp only [C.ite_true, C.ite_false, C.pick_true, C.pick_false, C.not_bool, C.field_ptr, C.nilCheck_ptr, C.add_mk, C.sub_mk, C.mul_mk, C.eql_mk, C.neq_mk, C.lss_mk, C.leq_mk, C.gtr_mk, C.geq_mk, C.conv_mk, C.len_mk, C.ext_0, C.ext_1, C.ext3_0, C.ext3_1, C.ext3_2, C.guarded_yes, C.guarded_tf, C.guarded_ft, C.guarded_undef, Bool.not_true, Bool.not_false, Nat.zero_add, eq_self, decide_true, decide_false]
      rw [wrap64_id (n := (P1.length : Int) + 1) (by omega), show (P1.length : Int) + 1 = ((P1 ++ [p]).length : Int) by simp]
      exact ih Q2 (P1 ++ [p]) (Q1 ++ [q]) w2 (by simp [hP]) (by simp [hQ]) (by simp [hl]) (hfr.trans (hf1.w.trans hf2)) ho2
theorem swapRange_c (hf : ∀ i, (f i).oneCell' = true ∧ (f i).cells = #[f i]) {X P M Q Y : List Nat} {a b n : Nat} (hX : X.length = a) (hPn : P.length = n) (hQn : Q.length = n) (hn : a + n + M.length = b) (hb : b + n ≤ 1000000) (ho : OwnS w nv 59 2 (RW ser f (X ++ (P ++ (M ++ (Q ++ Y))))))
    (h : ∀ w', Fr (blkS nv) w w' → OwnS w' nv 59 2 (RW ser f (X ++ (Q ++ (M ++ (P ++ Y))))) → K (.tuple #[]) w') : C.call Try.prog 96 #[nv, .int .i64 (a : Int), .int .i64 (b : Int), .int .i64 (n : Int), cv] w K :=
  F96.sh (swapRange_loop hf hX hn hb P Q hPn hQn h P Q [] [] w rfl rfl rfl (Fr.refl _ _) (by simpa using ho))
/-- U and V, one behind the other, become V and U. -/
theorem rotate_loop (hf : ∀ i, (f i).oneCell' = true ∧ (f i).cells = #[f i]) {W0 : World} {m : Nat} {T : List Nat} (h : ∀ w', Fr (blkS nv) W0 w' → OwnS w' nv 59 2 (RW ser f T) → K (.tuple #[]) w') :
    ∀ (d : Nat) (X U V Y : List Nat) (w : World), U.length + V.length ≤ d → 0 < U.length → 0 < V.length → X.length + U.length = m → m + V.length ≤ 100000 → T = X ++ (V ++ (U ++ Y)) → Fr (blkS nv) W0 w → OwnS w nv 59 2 (RW ser f (X ++ (U ++ (V ++ Y)))) →
      F94.l2 K nv (.int .i64 (m : Int)) cv (.int .i64 (U.length : Int)) (.int .i64 (V.length : Int)) w := by
  intro d
  induction d with
  | zero => intro X U V Y w hd hU; omega
  | succ d ih =>
    intro X U V Y w hd hU hV hm hb hT hfr ho
    refine F94.l2.to ?_
    by_cases e : U.length = V.length
    · rw [C.neq_mk, decide_eq_false (by simp [e]), C.ite_false]
      refine F94.k8.to ?_
      simp only [C.ite_true, C.ite_false, C.pick_true, C.pick_false, C.not_bool, C.field_ptr, C.nilCheck_ptr, C.add_mk, C.sub_mk, C.mul_mk, C.eql_mk, C.neq_mk, C.lss_mk, C.leq_mk, C.gtr_mk, C.geq_mk, C.conv_mk, C.len_mk, C.ext_0, C.ext_1, C.ext3_0, C.ext3_1, C.ext3_2, C.guarded_yes, C.guarded_tf, C.guarded_ft, C.guarded_undef, Bool.not_true, Bool.not_false, Nat.zero_add, eq_self, decide_true, decide_false]
      rw [wrap64_id (n := (m : Int) - (U.length : Int)) (by omega), show (m : Int) - (U.length : Int) = (X.length : Int) by omega]
      refine swapRange_c hf (X := X) (P := U) (M := []) (Q := V) (Y := Y) rfl rfl e.symm (by simp; omega) (by omega) (by simpa using ho) fun w1 hf1 ho1 => h w1 (hfr.trans hf1) ?_
      rw [hT]
      simpa using ho1
    · rw [C.neq_mk, decide_eq_true (show (U.length : Int) ≠ (V.length : Int) by omega), C.ite_true]
      refine F94.k3.to ?_
      by_cases g : U.length > V.length
      · simp only [C.ite_true, C.ite_false, C.pick_true, C.pick_false, C.not_bool, C.field_ptr, C.nilCheck_ptr, C.add_mk, C.sub_mk, C.mul_mk, C.eql_mk, C.neq_mk, C.lss_mk, C.leq_mk, C.gtr_mk, C.geq_mk, C.conv_mk, C.len_mk, C.ext_0, C.ext_1, C.ext3_0, C.ext3_1, C.ext3_2, C.guarded_yes, C.guarded_tf, C.guarded_ft, C.guarded_undef, Bool.not_true, Bool.not_false, Nat.zero_add, eq_self, decide_true, decide_false, show ((U.length : Int) > (V.length : Int)) by omega]
        rw [wrap64_id (n := (m : Int) - (U.length : Int)) (by omega), show (m : Int) - (U.length : Int) = (X.length : Int) by omega]
        -- the first part of U is as long as V
        have eU : U = U.take V.length ++ U.drop V.length := (List.take_append_drop _ _).symm
        have l1 : (U.take V.length).length = V.length := List.length_take_of_le (by omega)
        have l2 : (U.drop V.length).length = U.length - V.length := List.length_drop
        generalize U.take V.length = P at eU l1
        generalize U.drop V.length = Q at eU l2
        subst eU
        refine swapRange_c hf (X := X) (P := P) (M := Q) (Q := V) (Y := Y) rfl l1 rfl (by simp at hm ⊢; omega) (by omega) (by simpa using ho) fun w1 hf1 ho1 => ?_
        rw [wrap64_id (n := ((P ++ Q).length : Int) - (V.length : Int)) (by omega), show ((P ++ Q).length : Int) - (V.length : Int) = (Q.length : Int) by simp; omega]
        have := ih (X ++ V) Q P Y w1 (by simp at hd; omega) (by simp at l2 g; omega) (by omega) (by simp at hm ⊢; omega) (by omega) (by rw [hT]; simp) (hfr.trans hf1) (by simpa using ho1)
        rw [l1] at this
        exact this
      · simp only [C.ite_true, C.ite_false, C.pick_true, C.pick_false, C.not_bool, C.field_ptr, C.nilCheck_ptr, C.add_mk, C.sub_mk, C.mul_mk, C.eql_mk, C.neq_mk, C.lss_mk, C.leq_mk, C.gtr_mk, C.geq_mk, C.conv_mk, C.len_mk, C.ext_0, C.ext_1, C.ext3_0, C.ext3_1, C.ext3_2, C.guarded_yes, C.guarded_tf, C.guarded_ft, C.guarded_undef, Bool.not_true, Bool.not_false, Nat.zero_add, eq_self, decide_true, decide_false, show ¬ ((U.length : Int) > (V.length : Int)) by omega]
        rw [wrap64_id (n := (m : Int) - (U.length : Int)) (by omega), wrap64_id (n := (m : Int) + (V.length : Int)) (by omega), wrap64_id (n := (m : Int) + (V.length : Int) - (U.length : Int)) (by omega), show (m : Int) - (U.length : Int) = (X.length : Int) by omega, show (m : Int) + (V.length : Int) - (U.length : Int) = ((m + V.length - U.length : Nat) : Int) by omega]
        have eV : V = V.take (V.length - U.length) ++ V.drop (V.length - U.length) := (List.take_append_drop _ _).symm
        have l1 : (V.take (V.length - U.length)).length = V.length - U.length := List.length_take_of_le (by omega)
        have l2 : (V.drop (V.length - U.length)).length = U.length := by rw [List.length_drop]; omega
        generalize V.take (V.length - U.length) = P at eV l1
        generalize V.drop (V.length - U.length) = Q at eV l2
        subst eV
        refine swapRange_c hf (X := X) (P := U) (M := P) (Q := Q) (Y := Y) rfl rfl l2 (by simp; omega) (by simp at hb ⊢; omega) (by simpa using ho) fun w1 hf1 ho1 => ?_
        rw [wrap64_id (n := ((P ++ Q).length : Int) - (U.length : Int)) (by omega), show ((P ++ Q).length : Int) - (U.length : Int) = (P.length : Int) by simp; omega]
        have hPQ : (P ++ Q).length = P.length + Q.length := by simp
        have := ih X Q P (U ++ Y) w1 (by omega) (by omega) (by omega) (by omega) (by simp at hb; omega) (by rw [hT]; simp) (hfr.trans hf1) (by simpa using ho1)
        rw [l2] at this
        exact this
theorem rotate_c (hf : ∀ i, (f i).oneCell' = true ∧ (f i).cells = #[f i]) {X U V Y : List Nat} {a m b : Nat} (hU : 0 < U.length) (hV : 0 < V.length) (hX : X.length = a) (hm : a + U.length = m) (hb : m + V.length = b) (hbb : b ≤ 100000) (ho : OwnS w nv 59 2 (RW ser f (X ++ (U ++ (V ++ Y)))))
    (h : ∀ w', Fr (blkS nv) w w' → OwnS w' nv 59 2 (RW ser f (X ++ (V ++ (U ++ Y)))) → K (.tuple #[]) w') : C.call Try.prog 94 #[nv, .int .i64 (a : Int), .int .i64 (m : Int), .int .i64 (b : Int), cv] w K := by
  refine F94.sh ?_
  simp only [C.ite_true, C.ite_false, C.pick_true, C.pick_false, C.not_bool, C.field_ptr, C.nilCheck_ptr, C.add_mk, C.sub_mk, C.mul_mk, C.eql_mk, C.neq_mk, C.lss_mk, C.leq_mk, C.gtr_mk, C.geq_mk, C.conv_mk, C.len_mk, C.ext_0, C.ext_1, C.ext3_0, C.ext3_1, C.ext3_2, C.guarded_yes, C.guarded_tf, C.guarded_ft, C.guarded_undef, Bool.not_true, Bool.not_false, Nat.zero_add, eq_self, decide_true, decide_false]
  rw [wrap64_id (n := (m : Int) - (a : Int)) (by omega), wrap64_id (n := (b : Int) - (m : Int)) (by omega), show (m : Int) - (a : Int) = (U.length : Int) by omega, show (b : Int) - (m : Int) = (V.length : Int) by omega]
  exact rotate_loop hf h _ X U V Y w (Nat.le_refl _) hU hV (by omega) (by omega) rfl (Fr.refl _ _) ho
end
end Go.Proofs.YtfjilngljnlkjaaV
namespace Go.Proofs.YtfjilngljnlkjaaV
open Go Go.Proofs Go.RowKit
set_option linter.unusedVariables false
set_option linter.unusedSimpArgs false
set_option maxRecDepth 10000
/-- How two elements are compared. -/
structure CmpOk (ser : Nat → Int) (f : Nat → Value) (cv : Value) : Prop where
  one : ∀ i, (f i).oneCell' = true ∧ (f i).cells = #[f i]
  pl : ∀ l a b, cv ≠ .func (.yield l) a b
  cmp : ∀ i j w' (K' : VK), (∀ w'', Fr [] w' w'' → K' (.int .i64 (cmpI (ser i) (ser j))) w'') → vcCall Try.prog cv [.agg #[.int .i64 (ser i), f i], .agg #[.int .i64 (ser j), f j]] w' K'
section
variable {K : VK} {w : World} {ser : Nat → Int} {f : Nat → Value} {nv cv : Value}
theorem row_cmp (hC : CmpOk ser f cv) {A : List Nat} {P Q i j : Nat} {G : VK} (ho : OwnS w nv 59 2 (RW ser f A)) (hP : A[P]? = some i) (hQ : A[Q]? = some j) (hk : ∀ w', Fr [] w w' → OwnS w' nv 59 2 (RW ser f A) → G (.int .i64 (cmpI (ser i) (ser j))) w') :
    C.idx 2 nv (.int .i64 (P : Int)) w fun pP w6 => C.idx 2 nv (.int .i64 (Q : Int)) w6 fun pQ w7 => C.loadAS (fun w' => OwnS w' nv 59 2 (RW ser f A)) 2 pP w7 fun x w8 => C.loadAS (fun w' => OwnS w' nv 59 2 (RW ser f A)) 2 pQ w8 fun y w9 =>
      C.plainFn cv (vcCall Try.prog cv [x, y] w9 fun z w10 => (OwnS w10 nv 59 2 (RW ser f A) ∧ G z w10)) := by
  refine C.idx_rdS (S := fun w' => OwnS w' nv 59 2 (RW ser f A)) (fun w' hw => hw.rd) ho (by omega) (by rw [Int.toNat_natCast]; exact RW_get hP) fun g o hl hs => ?_
  refine C.idx_rdS (S := fun w' => OwnS w' nv 59 2 (RW ser f A)) (fun w' hw => hw.rd) ho (by omega) (by rw [Int.toNat_natCast]; exact RW_get hQ) fun g' o' hl' hs' => ?_
  refine C.loadAS_cells (x := rw2 ser f i) hl (by omega) hs (C.loadAS_cells (x := rw2 ser f j) hl' (by omega) hs' ⟨hC.pl, ?_⟩)
  exact hC.cmp i j w _ fun w'' hf => ⟨ho.keep hf (by simp), hk w'' hf (ho.keep hf (by simp))⟩
/-! ### 1. Insertion -/
theorem ins_inner (hC : CmpOk ser f cv) {W0 : World} {X R Y S : List Nat} {v : Nat} {a : Nat} {y2 : Value} {i : Nat} (hX : X.length = a) (hb : a + S.length ≤ 100000) (hS : SrtL ser S) (hL : Low S [v])
    (h : ∀ W w', Fr (blkS nv) W0 w' → W.Perm (S ++ [v]) → SrtL ser W → OwnS w' nv 59 2 (RW ser f (X ++ (W ++ (R ++ Y)))) → F83.k2 K nv (.int .i64 (a : Int)) y2 cv (.int .i64 (i : Int)) w') :
    ∀ (d : Nat) (S1 S2 : List Nat) (w : World), S1.length = d → S = S1 ++ S2 → (∀ x ∈ S2, ser v < ser x) → Fr (blkS nv) W0 w → OwnS w nv 59 2 (RW ser f (X ++ (S1 ++ (v :: S2 ++ (R ++ Y))))) →
      F83.l4 K nv (.int .i64 (a : Int)) y2 cv (.int .i64 (i : Int)) (.int .i64 ((a + S1.length : Nat) : Int)) w := by
  have out : ∀ (S1 S2 : List Nat) (w : World), S = S1 ++ S2 → (∀ x ∈ S2, ser v < ser x) → (∀ x ∈ S1, ser x ≤ ser v) → Fr (blkS nv) W0 w → OwnS w nv 59 2 (RW ser f (X ++ (S1 ++ (v :: S2 ++ (R ++ Y))))) → F83.k2 K nv (.int .i64 (a : Int)) y2 cv (.int .i64 (i : Int)) w := by
    intro S1 S2 w hS12 h2 h1 hfr ho
    have hi := ins_high (v := v) (U := S) hS hL (i := S1.length) (by rw [hS12]; simp) (fun k hk hki => h1 _ (by simp only [hS12]; rw [List.getElem_append_left hki]; exact List.getElem_mem _)) (fun k hk hki => h2 _ (by simp only [hS12]; rw [List.getElem_append_right hki]; exact List.getElem_mem _))
    have e1 : S.take S1.length = S1 := by rw [hS12]; simp
    have e2 : S.drop S1.length = S2 := by rw [hS12]; simp
    rw [e1, e2] at hi
    exact h _ w hfr hi.2 hi.1 (by simpa using ho)
  intro d
  induction d with
  | zero =>
    intro S1 S2 w hd hS12 h2 hfr ho
    have e : S1 = [] := List.eq_nil_of_length_eq_zero hd
    subst e
    refine F83.l4.to (C.draw_of (fun _ => True) fun w1 hf1 he1 => ⟨trivial, ?_⟩)
    simp only [C.ite_true, C.ite_false, C.pick_true, C.pick_false, C.not_bool, C.field_ptr, C.nilCheck_ptr, C.add_mk, C.sub_mk, C.mul_mk, C.eql_mk, C.neq_mk, C.lss_mk, C.leq_mk, C.gtr_mk, C.geq_mk, C.conv_mk, C.len_mk, C.ext_0, C.ext_1, C.ext3_0, C.ext3_1, C.ext3_2, C.guarded_yes, C.guarded_tf, C.guarded_ft, C.guarded_undef, Bool.not_true, Bool.not_false, Nat.zero_add, eq_self, decide_true, decide_false, List.length_nil, Nat.add_zero, show ¬ ((a : Int) > (a : Int)) by omega, true_and, and_true]
    exact ⟨(fun _ _ _ h => by cases h), out [] S2 w1 hS12 h2 (fun x hx => by cases hx) (hfr.trans hf1.w) (ho.keep hf1 (by simp))⟩
  | succ d ih =>
    intro S1 S2 w hd hS12 h2 hfr ho
    rcases List.eq_nil_or_concat S1 with e | ⟨T, u, e⟩
    · subst e; cases hd
    · subst e
      have hTd : T.length = d := by simpa using hd
      have hSl : S.length = T.length + 1 + S2.length := by rw [hS12]; simp; omega
      have lA : (X ++ T).length = a + T.length := by simp [hX]
      have hA : X ++ ((T ++ [u]) ++ (v :: S2 ++ (R ++ Y))) = (X ++ T) ++ u :: ([] ++ v :: (S2 ++ (R ++ Y))) := by simp
      have hA' : X ++ (T.concat u ++ (v :: S2 ++ (R ++ Y))) = (X ++ T) ++ u :: ([] ++ v :: (S2 ++ (R ++ Y))) := by simp
      rw [hA'] at ho
      have gU : ((X ++ T) ++ u :: ([] ++ v :: (S2 ++ (R ++ Y))))[a + T.length]? = some u := by rw [← lA]; simp
      have gV : ((X ++ T) ++ u :: ([] ++ v :: (S2 ++ (R ++ Y))))[a + T.length + 1]? = some v := by
        rw [← lA, List.getElem?_append_right (by omega), show (X ++ T).length + 1 - (X ++ T).length = 1 by omega]
        rfl
      have lc : (T.concat u).length = T.length + 1 := by simp
      refine F83.l4.to (C.draw_of (fun w' => OwnS w' nv 59 2 (RW ser f ((X ++ T) ++ u :: ([] ++ v :: (S2 ++ (R ++ Y)))))) fun w1 hf1 he1 => ⟨ho.keep hf1 (by simp), ?_⟩)
      have ho1 := ho.keep hf1 (by simp)
      simp only [C.ite_true, C.ite_false, C.pick_true, C.pick_false, C.not_bool, C.field_ptr, C.nilCheck_ptr, C.add_mk, C.sub_mk, C.mul_mk, C.eql_mk, C.neq_mk, C.lss_mk, C.leq_mk, C.gtr_mk, C.geq_mk, C.conv_mk, C.len_mk, C.ext_0, C.ext_1, C.ext3_0, C.ext3_1, C.ext3_2, C.guarded_yes, C.guarded_tf, C.guarded_ft, C.guarded_undef, Bool.not_true, Bool.not_false, Nat.zero_add, eq_self, decide_true, decide_false, lc, show (((a + (T.length + 1) : Nat) : Int) > (a : Int)) by omega, and_true]
      rw [wrap64_id (n := ((a + (T.length + 1) : Nat) : Int) - 1) (by omega), show ((a + (T.length + 1) : Nat) : Int) - 1 = ((a + T.length : Nat) : Int) by omega, show ((a + (T.length + 1) : Nat) : Int) = ((a + T.length + 1 : Nat) : Int) by omega]
      refine row_cmp hC ho1 gV gU fun w2 hf2 ho2 => ?_
      by_cases c : ser v < ser u
      · simp only [C.ite_true, C.ite_false, C.pick_true, C.pick_false, C.not_bool, C.field_ptr, C.nilCheck_ptr, C.add_mk, C.sub_mk, C.mul_mk, C.eql_mk, C.neq_mk, C.lss_mk, C.leq_mk, C.gtr_mk, C.geq_mk, C.conv_mk, C.len_mk, C.ext_0, C.ext_1, C.ext3_0, C.ext3_1, C.ext3_2, C.guarded_yes, C.guarded_tf, C.guarded_ft, C.guarded_undef, Bool.not_true, Bool.not_false, Nat.zero_add, eq_self, decide_true, decide_false, (cmpI_lt _ _).2 c]
        refine F83.k6.to (C.draw_of (fun _ => True) fun w3 hf3 he3 => ⟨trivial, ?_⟩)
        simp only [C.ite_true, C.ite_false, C.pick_true, C.pick_false, C.not_bool, C.field_ptr, C.nilCheck_ptr, C.add_mk, C.sub_mk, C.mul_mk, C.eql_mk, C.neq_mk, C.lss_mk, C.leq_mk, C.gtr_mk, C.geq_mk, C.conv_mk, C.len_mk, C.ext_0, C.ext_1, C.ext3_0, C.ext3_1, C.ext3_2, C.guarded_yes, C.guarded_tf, C.guarded_ft, C.guarded_undef, Bool.not_true, Bool.not_false, Nat.zero_add, eq_self, decide_true, decide_false, true_and, and_true]
        rw [wrap64_id (n := ((a + T.length + 1 : Nat) : Int) - 1) (by omega), show ((a + T.length + 1 : Nat) : Int) - 1 = ((a + T.length : Nat) : Int) by omega]
        refine row_swap hC.one (ho2.keep hf3 (by simp)) gU gV fun w4 hf4 ho4 => ?_
        have e2 : (((X ++ T) ++ u :: ([] ++ v :: (S2 ++ (R ++ Y)))).set (a + T.length + 1) u).set (a + T.length) v = X ++ (T ++ (v :: (u :: S2) ++ (R ++ Y))) := by
          have := seg_swap' (X := X ++ T) (M := []) (Y := S2 ++ (R ++ Y)) (p := u) (q := v)
          simp only [List.length_nil, Nat.add_zero] at this
          rw [lA] at this
          rw [this]
          simp
        rw [e2] at ho4
        refine F83.k5.to ?_
        simp only [C.ite_true, C.ite_false, C.pick_true, C.pick_false, C.not_bool, C.field_ptr, C.nilCheck_ptr, C.add_mk, C.sub_mk, C.mul_mk, C.eql_mk, C.neq_mk, C.lss_mk, C.leq_mk, C.gtr_mk, C.geq_mk, C.conv_mk, C.len_mk, C.ext_0, C.ext_1, C.ext3_0, C.ext3_1, C.ext3_2, C.guarded_yes, C.guarded_tf, C.guarded_ft, C.guarded_undef, Bool.not_true, Bool.not_false, Nat.zero_add, eq_self, decide_true, decide_false]
        rw [wrap64_id (n := ((a + T.length + 1 : Nat) : Int) - 1) (by omega), show ((a + T.length + 1 : Nat) : Int) - 1 = ((a + T.length : Nat) : Int) by omega]
        refine ih T (u :: S2) w4 hTd (by rw [hS12]; simp) (fun x hx => ?_) (hfr.trans (((hf1.trans hf2).trans hf3).w.trans hf4)) ho4
        rcases List.mem_cons.1 hx with d | d
        · subst d; exact c
        · exact h2 x d
      · simp only [C.ite_true, C.ite_false, C.pick_true, C.pick_false, C.not_bool, C.field_ptr, C.nilCheck_ptr, C.add_mk, C.sub_mk, C.mul_mk, C.eql_mk, C.neq_mk, C.lss_mk, C.leq_mk, C.gtr_mk, C.geq_mk, C.conv_mk, C.len_mk, C.ext_0, C.ext_1, C.ext3_0, C.ext3_1, C.ext3_2, C.guarded_yes, C.guarded_tf, C.guarded_ft, C.guarded_undef, Bool.not_true, Bool.not_false, Nat.zero_add, eq_self, decide_true, decide_false, show ¬ (cmpI (ser v) (ser u) < 0) from fun h => c ((cmpI_lt _ _).1 h)]
        refine out (T ++ [u]) S2 w2 (by rw [hS12]; simp) h2 (fun x hx => ?_) (hfr.trans (hf1.trans hf2).w) (by rw [hA]; exact ho2)
        have hst : SrtL ser (T ++ [u]) := by
          have : SrtL ser (T ++ [u] ++ S2) := by
            have e : T ++ [u] ++ S2 = S := by rw [hS12]; simp
            rw [e]; exact hS
          exact (List.pairwise_append.1 this).1
        rcases List.mem_append.1 hx with d | d
        · have := lexS_le ((List.pairwise_append.1 hst).2.2 x d u (by simp))
          omega
        · simp at d; subst d; omega
theorem ins_outer (hC : CmpOk ser f cv) {W0 : World} {X Y : List Nat} {a b : Nat} (hX : X.length = a) (hb : b ≤ 100000) {U : List Nat}
    (h : ∀ W w', Fr (blkS nv) W0 w' → W.Perm U → SrtL ser W → OwnS w' nv 59 2 (RW ser f (X ++ (W ++ Y))) → K (.tuple #[]) w') :
    ∀ (R S : List Nat) (w : World), 0 < S.length → a + S.length + R.length = b → (S ++ R).Perm U → SrtL ser S → Low S R → R.Pairwise (· < ·) → Fr (blkS nv) W0 w → OwnS w nv 59 2 (RW ser f (X ++ (S ++ (R ++ Y)))) →
      F83.l1 K nv (.int .i64 (a : Int)) (.int .i64 (b : Int)) cv (.int .i64 ((a + S.length : Nat) : Int)) w := by
  intro R
  induction R with
  | nil =>
    intro S w hS0 hl hp hS hL hR hfr ho
    refine F83.l1.to ?_
    have : ¬ (((a + S.length : Nat) : Int) < (b : Int)) := by simp at hl; omega
    simp only [C.ite_true, C.ite_false, C.pick_true, C.pick_false, C.not_bool, C.field_ptr, C.nilCheck_ptr, C.add_mk, C.sub_mk, C.mul_mk, C.eql_mk, C.neq_mk, C.lss_mk, C.leq_mk, C.gtr_mk, C.geq_mk, C.conv_mk, C.len_mk, C.ext_0, C.ext_1, C.ext3_0, C.ext3_1, C.ext3_2, C.guarded_yes, C.guarded_tf, C.guarded_ft, C.guarded_undef, Bool.not_true, Bool.not_false, Nat.zero_add, eq_self, decide_true, decide_false, this]
    exact h S w hfr (by simpa using hp) hS (by simpa using ho)
  | cons v R ih =>
    intro S w hS0 hl hp hS hL hR hfr ho
    simp only [List.length_cons] at hl
    refine F83.l1.to ?_
    simp only [C.ite_true, C.ite_false, C.pick_true, C.pick_false, C.not_bool, C.field_ptr, C.nilCheck_ptr, C.add_mk, C.sub_mk, C.mul_mk, C.eql_mk, C.neq_mk, C.lss_mk, C.leq_mk, C.gtr_mk, C.geq_mk, C.conv_mk, C.len_mk, C.ext_0, C.ext_1, C.ext3_0, C.ext3_1, C.ext3_2, C.guarded_yes, C.guarded_tf, C.guarded_ft, C.guarded_undef, Bool.not_true, Bool.not_false, Nat.zero_add, eq_self, decide_true, decide_false, show (((a + S.length : Nat) : Int) < (b : Int)) by omega]
    refine F83.k3.to ?_
    obtain ⟨r1, r2⟩ := List.pairwise_cons.1 hR
    refine ins_inner hC (S := S) (R := R) (v := v) hX (by omega) hS (fun u hu x hx => hL u hu x (by simp at hx; simp [hx])) (fun W w' hf' hpW hsW hoW => ?_) S.length S [] w rfl (by simp) (by simp) hfr (by simpa using ho)
    have hWl : W.length = S.length + 1 := by rw [hpW.length_eq]; simp
    refine F83.k2.to ?_
    simp only [C.ite_true, C.ite_false, C.pick_true, C.pick_false, C.not_bool, C.field_ptr, C.nilCheck_ptr, C.add_mk, C.sub_mk, C.mul_mk, C.eql_mk, C.neq_mk, C.lss_mk, C.leq_mk, C.gtr_mk, C.geq_mk, C.conv_mk, C.len_mk, C.ext_0, C.ext_1, C.ext3_0, C.ext3_1, C.ext3_2, C.guarded_yes, C.guarded_tf, C.guarded_ft, C.guarded_undef, Bool.not_true, Bool.not_false, Nat.zero_add, eq_self, decide_true, decide_false]
    rw [wrap64_id (n := ((a + S.length : Nat) : Int) + 1) (by omega), show ((a + S.length : Nat) : Int) + 1 = ((a + W.length : Nat) : Int) by omega]
    refine ih W w' (by omega) (by omega) ?_ hsW (fun u hu x hx => ?_) r2 hf' hoW
    · have e := (hpW.append_right R).trans (by simp : (S ++ [v] ++ R).Perm (S ++ v :: R))
      exact e.trans hp
    · rcases List.mem_append.1 (hpW.mem_iff.1 hu) with c | c
      · exact hL u c x (by simp [hx])
      · simp at c; subst c; exact r1 x hx
theorem insertion_c (hC : CmpOk ser f cv) {X U Y : List Nat} {a b : Nat} (hX : X.length = a) (hab : a + U.length = b) (hb : b ≤ 100000) (hU : U.Pairwise (· < ·)) (ho : OwnS w nv 59 2 (RW ser f (X ++ (U ++ Y))))
    (h : ∀ W w', Fr (blkS nv) w w' → W.Perm U → SrtL ser W → OwnS w' nv 59 2 (RW ser f (X ++ (W ++ Y))) → K (.tuple #[]) w') : C.call Try.prog 83 #[nv, .int .i64 (a : Int), .int .i64 (b : Int), cv] w K := by
  refine F83.sh ?_
  simp only [C.ite_true, C.ite_false, C.pick_true, C.pick_false, C.not_bool, C.field_ptr, C.nilCheck_ptr, C.add_mk, C.sub_mk, C.mul_mk, C.eql_mk, C.neq_mk, C.lss_mk, C.leq_mk, C.gtr_mk, C.geq_mk, C.conv_mk, C.len_mk, C.ext_0, C.ext_1, C.ext3_0, C.ext3_1, C.ext3_2, C.guarded_yes, C.guarded_tf, C.guarded_ft, C.guarded_undef, Bool.not_true, Bool.not_false, Nat.zero_add, eq_self, decide_true, decide_false]
  rw [wrap64_id (n := (a : Int) + 1) (by omega)]
  cases U with
  | nil =>
    refine F83.l1.to ?_
    have : ¬ ((a : Int) + 1 < (b : Int)) := by simp at hab; omega
    simp only [C.ite_true, C.ite_false, C.pick_true, C.pick_false, C.not_bool, C.field_ptr, C.nilCheck_ptr, C.add_mk, C.sub_mk, C.mul_mk, C.eql_mk, C.neq_mk, C.lss_mk, C.leq_mk, C.gtr_mk, C.geq_mk, C.conv_mk, C.len_mk, C.ext_0, C.ext_1, C.ext3_0, C.ext3_1, C.ext3_2, C.guarded_yes, C.guarded_tf, C.guarded_ft, C.guarded_undef, Bool.not_true, Bool.not_false, Nat.zero_add, eq_self, decide_true, decide_false, this]
    exact h [] w (Fr.refl _ _) (List.Perm.refl _) List.Pairwise.nil ho
  | cons u U =>
    obtain ⟨u1, u2⟩ := List.pairwise_cons.1 hU
    rw [show (a : Int) + 1 = ((a + [u].length : Nat) : Int) by simp]
    exact ins_outer hC hX hb h U [u] w (by simp) (by simp at hab ⊢; omega) (List.Perm.refl _) (by simp [SrtL]) (fun x hx y hy => by simp at hx; subst hx; exact u1 y hy) u2 (Fr.refl _ _) (by simpa using ho)
end
end Go.Proofs.YtfjilngljnlkjaaV
namespace Go.Proofs.YtfjilngljnlkjaaV
open Go Go.Proofs Go.RowKit
set_option linter.unusedVariables false
set_option linter.unusedSimpArgs false
set_option maxRecDepth 10000
section
variable {P : Program} {w : World} {t : TypeId}
theorem shrU_run (x y : Operand) (a : Int) : (do eqGuard .shr t x y (.int .u64 a) (.int .u64 1); binOp .shr t (.int .u64 a) (.int .u64 1) : Sem Value).run P w = .ok (.int .u64 (a / 2)) w := by
  simp only [Sem.run_bind, run_eqGuard_int, Result.andThen_ok]
  show (Op.shift .shr .u64 a .u64 1).run P w = _
  have : a.fdiv 2 = a / 2 := by rw [Int.fdiv_eq_ediv_of_nonneg _ (by decide)]
  simp [Op.shift, IntKind.bits, this]
end
section
variable {K : VK} {w : World} {ser : Nat → Int} {f : Nat → Value} {nv cv : Value}
/-- Half of a sum, by way of a number without a sign. -/
theorem half_of {ty : TypeId} {ox oy : Operand} {F : VK} {x y : Nat} (hb : x + y ≤ 1000000) (hk : F (.int .i64 (((x + y) / 2 : Nat) : Int)) w) : C.int .add (.int .i64 (x : Int)) (.int .i64 (y : Int)) w fun s w1 => C.conv .u64 s w1 fun u w2 => C.bin Try.prog .shr ty ox oy u (.int .u64 1) w2 fun v w3 => C.conv .i64 v w3 F := by
  simp only [C.ite_true, C.ite_false, C.pick_true, C.pick_false, C.not_bool, C.field_ptr, C.nilCheck_ptr, C.add_mk, C.sub_mk, C.mul_mk, C.eql_mk, C.neq_mk, C.lss_mk, C.leq_mk, C.gtr_mk, C.geq_mk, C.conv_mk, C.len_mk, C.ext_0, C.ext_1, C.ext3_0, C.ext3_1, C.ext3_2, C.guarded_yes, C.guarded_tf, C.guarded_ft, C.guarded_undef, Bool.not_true, Bool.not_false, Nat.zero_add, eq_self, decide_true, decide_false]
  rw [wrap64_id (n := (x : Int) + (y : Int)) (by omega), wrapu64_id (n := (x : Int) + (y : Int)) (by omega)]
  refine ⟨_, shrU_run _ _ _, ?_⟩
  simp only [C.ite_true, C.ite_false, C.pick_true, C.pick_false, C.not_bool, C.field_ptr, C.nilCheck_ptr, C.add_mk, C.sub_mk, C.mul_mk, C.eql_mk, C.neq_mk, C.lss_mk, C.leq_mk, C.gtr_mk, C.geq_mk, C.conv_mk, C.len_mk, C.ext_0, C.ext_1, C.ext3_0, C.ext3_1, C.ext3_2, C.guarded_yes, C.guarded_tf, C.guarded_ft, C.guarded_undef, Bool.not_true, Bool.not_false, Nat.zero_add, eq_self, decide_true, decide_false]
  rw [wrap64_id (n := ((x : Int) + (y : Int)) / 2) (by omega), show ((x : Int) + (y : Int)) / 2 = (((x + y) / 2 : Nat) : Int) by omega]
  exact hk
/-! ### 1. One element and a list -/
theorem sm_right (hC : CmpOk ser f cv) {W0 : World} {X Y V : List Nat} {u a p : Nat} (hX : X.length = a) (hp : p ≤ V.length) (hb : a + 1 + V.length ≤ 100000) (h : ∀ w', Fr (blkS nv) W0 w' → OwnS w' nv 59 2 (RW ser f (X ++ (V.take p ++ (u :: (V.drop p ++ Y))))) → K (.tuple #[]) w') :
    ∀ (d : Nat) (k : Nat) (w : World), p = k + d → Fr (blkS nv) W0 w → OwnS w nv 59 2 (RW ser f (X ++ (V.take k ++ (u :: (V.drop k ++ Y))))) → F84.l9 K nv (.int .i64 ((a + 1 + p : Nat) : Int)) (.int .i64 ((a + k : Nat) : Int)) w := by
  intro d
  induction d with
  | zero =>
    intro k w hk hfr ho
    have e : k = p := by omega
    subst e
    refine F84.l9.to ?_
    simp only [C.ite_true, C.ite_false, C.pick_true, C.pick_false, C.not_bool, C.field_ptr, C.nilCheck_ptr, C.add_mk, C.sub_mk, C.mul_mk, C.eql_mk, C.neq_mk, C.lss_mk, C.leq_mk, C.gtr_mk, C.geq_mk, C.conv_mk, C.len_mk, C.ext_0, C.ext_1, C.ext3_0, C.ext3_1, C.ext3_2, C.guarded_yes, C.guarded_tf, C.guarded_ft, C.guarded_undef, Bool.not_true, Bool.not_false, Nat.zero_add, eq_self, decide_true, decide_false]
    rw [wrap64_id (n := ((a + 1 + k : Nat) : Int) - 1) (by omega), decide_eq_false (show ¬ (((a + k : Nat) : Int) < ((a + 1 + k : Nat) : Int) - 1) by omega)]
    simp only [C.ite_true, C.ite_false, C.pick_true, C.pick_false, C.not_bool, C.field_ptr, C.nilCheck_ptr, C.add_mk, C.sub_mk, C.mul_mk, C.eql_mk, C.neq_mk, C.lss_mk, C.leq_mk, C.gtr_mk, C.geq_mk, C.conv_mk, C.len_mk, C.ext_0, C.ext_1, C.ext3_0, C.ext3_1, C.ext3_2, C.guarded_yes, C.guarded_tf, C.guarded_ft, C.guarded_undef, Bool.not_true, Bool.not_false, Nat.zero_add, eq_self, decide_true, decide_false]
    exact h w hfr ho
  | succ d ih =>
    intro k w hk hfr ho
    have kl : k < V.length := by omega
    refine F84.l9.to ?_
    simp only [C.ite_true, C.ite_false, C.pick_true, C.pick_false, C.not_bool, C.field_ptr, C.nilCheck_ptr, C.add_mk, C.sub_mk, C.mul_mk, C.eql_mk, C.neq_mk, C.lss_mk, C.leq_mk, C.gtr_mk, C.geq_mk, C.conv_mk, C.len_mk, C.ext_0, C.ext_1, C.ext3_0, C.ext3_1, C.ext3_2, C.guarded_yes, C.guarded_tf, C.guarded_ft, C.guarded_undef, Bool.not_true, Bool.not_false, Nat.zero_add, eq_self, decide_true, decide_false]
    rw [wrap64_id (n := ((a + 1 + p : Nat) : Int) - 1) (by omega), decide_eq_true (show (((a + k : Nat) : Int) < ((a + 1 + p : Nat) : Int) - 1) by omega)]
    simp only [C.ite_true, C.ite_false, C.pick_true, C.pick_false, C.not_bool, C.field_ptr, C.nilCheck_ptr, C.add_mk, C.sub_mk, C.mul_mk, C.eql_mk, C.neq_mk, C.lss_mk, C.leq_mk, C.gtr_mk, C.geq_mk, C.conv_mk, C.len_mk, C.ext_0, C.ext_1, C.ext3_0, C.ext3_1, C.ext3_2, C.guarded_yes, C.guarded_tf, C.guarded_ft, C.guarded_undef, Bool.not_true, Bool.not_false, Nat.zero_add, eq_self, decide_true, decide_false]
    refine F84.k11.to (C.draw_of (fun _ => True) fun w1 hf1 he1 => ⟨trivial, ?_⟩)
    simp only [C.ite_true, C.ite_false, C.pick_true, C.pick_false, C.not_bool, C.field_ptr, C.nilCheck_ptr, C.add_mk, C.sub_mk, C.mul_mk, C.eql_mk, C.neq_mk, C.lss_mk, C.leq_mk, C.gtr_mk, C.geq_mk, C.conv_mk, C.len_mk, C.ext_0, C.ext_1, C.ext3_0, C.ext3_1, C.ext3_2, C.guarded_yes, C.guarded_tf, C.guarded_ft, C.guarded_undef, Bool.not_true, Bool.not_false, Nat.zero_add, eq_self, decide_true, decide_false, true_and, and_true]
    rw [wrap64_id (n := ((a + k : Nat) : Int) + 1) (by omega), show ((a + k : Nat) : Int) + 1 = ((a + k + 1 : Nat) : Int) by omega]
    have ed : V.drop k = V[k] :: V.drop (k + 1) := List.drop_eq_getElem_cons kl
    have et : V.take (k + 1) = V.take k ++ [V[k]] := by rw [List.take_add_one, List.getElem?_eq_getElem kl]; rfl
    have lA : (X ++ V.take k).length = a + k := by simp [hX]; omega
    have hA : X ++ (V.take k ++ (u :: (V.drop k ++ Y))) = (X ++ V.take k) ++ u :: ([] ++ V[k] :: (V.drop (k + 1) ++ Y)) := by rw [ed]; simp only [List.append_assoc, List.singleton_append, List.cons_append, List.nil_append]
    rw [hA] at ho
    have gU : ((X ++ V.take k) ++ u :: ([] ++ V[k] :: (V.drop (k + 1) ++ Y)))[a + k]? = some u := by rw [← lA, List.getElem?_append_right (Nat.le_refl _)]; simp
    have gV : ((X ++ V.take k) ++ u :: ([] ++ V[k] :: (V.drop (k + 1) ++ Y)))[a + k + 1]? = some V[k] := by
      rw [← lA, List.getElem?_append_right (by omega), show (X ++ V.take k).length + 1 - (X ++ V.take k).length = 1 by omega]
      rfl
    refine row_swap hC.one (ho.keep hf1 (by simp)) gV gU fun w2 hf2 ho2 => ?_
    have e2 : (((X ++ V.take k) ++ u :: ([] ++ V[k] :: (V.drop (k + 1) ++ Y))).set (a + k) V[k]).set (a + k + 1) u = X ++ (V.take (k + 1) ++ (u :: (V.drop (k + 1) ++ Y))) := by
      have := seg_swap (X := X ++ V.take k) (M := []) (Y := V.drop (k + 1) ++ Y) (p := u) (q := V[k])
      simp only [List.length_nil, Nat.add_zero] at this
      rw [lA] at this
      rw [this, et]
      simp only [List.append_assoc, List.singleton_append, List.cons_append, List.nil_append]
    rw [e2] at ho2
    refine F84.k10.to ?_
    simp only [C.ite_true, C.ite_false, C.pick_true, C.pick_false, C.not_bool, C.field_ptr, C.nilCheck_ptr, C.add_mk, C.sub_mk, C.mul_mk, C.eql_mk, C.neq_mk, C.lss_mk, C.leq_mk, C.gtr_mk, C.geq_mk, C.conv_mk, C.len_mk, C.ext_0, C.ext_1, C.ext3_0, C.ext3_1, C.ext3_2, C.guarded_yes, C.guarded_tf, C.guarded_ft, C.guarded_undef, Bool.not_true, Bool.not_false, Nat.zero_add, eq_self, decide_true, decide_false]
    rw [wrap64_id (n := ((a + k : Nat) : Int) + 1) (by omega), show ((a + k : Nat) : Int) + 1 = ((a + (k + 1) : Nat) : Int) by omega]
    exact ih (k + 1) w2 (by omega) (hfr.trans (hf1.w.trans hf2)) ho2
theorem sm_find1 (hC : CmpOk ser f cv) {W0 : World} {X Y V : List Nat} {u a : Nat} (hX : X.length = a) (hb : a + 1 + V.length ≤ 100000) (hV : SrtL ser V)
    (h : ∀ p w', Fr [] W0 w' → p ≤ V.length → (∀ k (h : k < V.length), k < p → ser V[k] < ser u) → (∀ k (h : k < V.length), p ≤ k → ser u ≤ ser V[k]) → F84.k8 K nv (.int .i64 (a : Int)) (.int .i64 ((a + 1 + p : Nat) : Int)) w') (ho0 : OwnS W0 nv 59 2 (RW ser f (X ++ (u :: (V ++ Y))))) :
    ∀ (d p q : Nat) (w : World), q ≤ p + d → p ≤ q → q ≤ V.length → (∀ k (h : k < V.length), k < p → ser V[k] < ser u) → (∀ k (h : k < V.length), q ≤ k → ser u ≤ ser V[k]) → Fr [] W0 w → F84.l3 K nv (.int .i64 (a : Int)) cv (.int .i64 ((a + 1 + p : Nat) : Int)) (.int .i64 ((a + 1 + q : Nat) : Int)) w := by
  have fin : ∀ (p q : Nat) (w : World), q = p → q ≤ V.length → (∀ k (h : k < V.length), k < p → ser V[k] < ser u) → (∀ k (h : k < V.length), q ≤ k → ser u ≤ ser V[k]) → Fr [] W0 w → F84.l3 K nv (.int .i64 (a : Int)) cv (.int .i64 ((a + 1 + p : Nat) : Int)) (.int .i64 ((a + 1 + q : Nat) : Int)) w := by
    intro p q w hpq hq h1 h2 hfr
    subst hpq
    refine F84.l3.to ?_
    simp only [C.ite_true, C.ite_false, C.pick_true, C.pick_false, C.not_bool, C.field_ptr, C.nilCheck_ptr, C.add_mk, C.sub_mk, C.mul_mk, C.eql_mk, C.neq_mk, C.lss_mk, C.leq_mk, C.gtr_mk, C.geq_mk, C.conv_mk, C.len_mk, C.ext_0, C.ext_1, C.ext3_0, C.ext3_1, C.ext3_2, C.guarded_yes, C.guarded_tf, C.guarded_ft, C.guarded_undef, Bool.not_true, Bool.not_false, Nat.zero_add, eq_self, decide_true, decide_false, show ¬ (((a + 1 + q : Nat) : Int) < ((a + 1 + q : Nat) : Int)) by omega]
    exact h q w hfr hq h1 h2
  intro d
  induction d with
  | zero => exact fun p q w hd hpq hq h1 h2 hfr => fin p q w (by omega) hq h1 h2 hfr
  | succ d ih =>
    intro p q w hd hpq hq h1 h2 hfr
    by_cases e : q = p
    · exact fin p q w e hq h1 h2 hfr
    refine F84.l3.to ?_
    simp only [C.ite_true, C.ite_false, C.pick_true, C.pick_false, C.not_bool, C.field_ptr, C.nilCheck_ptr, C.add_mk, C.sub_mk, C.mul_mk, C.eql_mk, C.neq_mk, C.lss_mk, C.leq_mk, C.gtr_mk, C.geq_mk, C.conv_mk, C.len_mk, C.ext_0, C.ext_1, C.ext3_0, C.ext3_1, C.ext3_2, C.guarded_yes, C.guarded_tf, C.guarded_ft, C.guarded_undef, Bool.not_true, Bool.not_false, Nat.zero_add, eq_self, decide_true, decide_false, show (((a + 1 + p : Nat) : Int) < ((a + 1 + q : Nat) : Int)) by omega]
    refine F84.k4.to (half_of (by omega) ?_)
    generalize hc : (p + q) / 2 = c
    have hcl : c < V.length := by omega
    have ec : (a + 1 + p + (a + 1 + q)) / 2 = a + 1 + c := by omega
    rw [ec]
    have ho := ho0.keep hfr (by simp)
    have gV : (X ++ (u :: (V ++ Y)))[a + 1 + c]? = some V[c] := by
      have := seg_get (X := X ++ [u]) (V := V) (Y := Y) hcl
      simp only [List.length_append, List.length_singleton, hX, List.append_assoc, List.singleton_append] at this
      exact this
    have gU : (X ++ (u :: (V ++ Y)))[a]? = some u := by rw [← hX]; simp
    refine C.draw_of (fun w' => OwnS w' nv 59 2 (RW ser f (X ++ (u :: (V ++ Y))))) fun w1 hf1 he1 => ⟨ho.keep hf1 (by simp), ?_⟩
    simp only [and_true]
    refine row_cmp hC (ho.keep hf1 (by simp)) gV gU fun w2 hf2 ho2 => ?_
    have f2 := hfr.trans (hf1.trans hf2)
    by_cases g : ser V[c] < ser u
    · simp only [C.ite_true, C.ite_false, C.pick_true, C.pick_false, C.not_bool, C.field_ptr, C.nilCheck_ptr, C.add_mk, C.sub_mk, C.mul_mk, C.eql_mk, C.neq_mk, C.lss_mk, C.leq_mk, C.gtr_mk, C.geq_mk, C.conv_mk, C.len_mk, C.ext_0, C.ext_1, C.ext3_0, C.ext3_1, C.ext3_2, C.guarded_yes, C.guarded_tf, C.guarded_ft, C.guarded_undef, Bool.not_true, Bool.not_false, Nat.zero_add, eq_self, decide_true, decide_false, (cmpI_lt _ _).2 g]
      rw [wrap64_id (n := ((a + 1 + c : Nat) : Int) + 1) (by omega), show ((a + 1 + c : Nat) : Int) + 1 = ((a + 1 + (c + 1) : Nat) : Int) by omega]
      refine ih (c + 1) q w2 (by omega) (by omega) hq (fun k hk hkc => ?_) h2 f2
      have := srt_get hV (i := k) (j := c) hk hcl (by omega)
      omega
    · simp only [C.ite_true, C.ite_false, C.pick_true, C.pick_false, C.not_bool, C.field_ptr, C.nilCheck_ptr, C.add_mk, C.sub_mk, C.mul_mk, C.eql_mk, C.neq_mk, C.lss_mk, C.leq_mk, C.gtr_mk, C.geq_mk, C.conv_mk, C.len_mk, C.ext_0, C.ext_1, C.ext3_0, C.ext3_1, C.ext3_2, C.guarded_yes, C.guarded_tf, C.guarded_ft, C.guarded_undef, Bool.not_true, Bool.not_false, Nat.zero_add, eq_self, decide_true, decide_false, show ¬ (cmpI (ser V[c]) (ser u) < 0) from fun h => g ((cmpI_lt _ _).1 h)]
      refine ih p c w2 (by omega) (by omega) (by omega) h1 (fun k hk hkc => ?_) f2
      have := srt_get hV (i := c) (j := k) hcl hk hkc
      omega
theorem sm_left (hC : CmpOk ser f cv) {W0 : World} {X Y U : List Nat} {v a p : Nat} (hX : X.length = a) (hp : p ≤ U.length) (hb : a + 1 + U.length ≤ 100000) (h : ∀ w', Fr (blkS nv) W0 w' → OwnS w' nv 59 2 (RW ser f (X ++ (U.take p ++ (v :: (U.drop p ++ Y))))) → K (.tuple #[]) w') :
    ∀ (d : Nat) (k : Nat) (w : World), k = p + d → k ≤ U.length → Fr (blkS nv) W0 w → OwnS w nv 59 2 (RW ser f (X ++ (U.take k ++ (v :: (U.drop k ++ Y))))) → F84.l21 K nv (.int .i64 ((a + p : Nat) : Int)) (.int .i64 ((a + k : Nat) : Int)) w := by
  intro d
  induction d with
  | zero =>
    intro k w hk hkl hfr ho
    have e : k = p := by omega
    subst e
    refine F84.l21.to ?_
    simp only [C.ite_true, C.ite_false, C.pick_true, C.pick_false, C.not_bool, C.field_ptr, C.nilCheck_ptr, C.add_mk, C.sub_mk, C.mul_mk, C.eql_mk, C.neq_mk, C.lss_mk, C.leq_mk, C.gtr_mk, C.geq_mk, C.conv_mk, C.len_mk, C.ext_0, C.ext_1, C.ext3_0, C.ext3_1, C.ext3_2, C.guarded_yes, C.guarded_tf, C.guarded_ft, C.guarded_undef, Bool.not_true, Bool.not_false, Nat.zero_add, eq_self, decide_true, decide_false, show ¬ (((a + k : Nat) : Int) > ((a + k : Nat) : Int)) by omega]
    exact h w hfr ho
  | succ d ih =>
    intro k w hk hkl hfr ho
    obtain ⟨q, rfl⟩ : ∃ q, k = q + 1 := ⟨k - 1, by omega⟩
    have ql : q < U.length := by omega
    refine F84.l21.to ?_
    simp only [C.ite_true, C.ite_false, C.pick_true, C.pick_false, C.not_bool, C.field_ptr, C.nilCheck_ptr, C.add_mk, C.sub_mk, C.mul_mk, C.eql_mk, C.neq_mk, C.lss_mk, C.leq_mk, C.gtr_mk, C.geq_mk, C.conv_mk, C.len_mk, C.ext_0, C.ext_1, C.ext3_0, C.ext3_1, C.ext3_2, C.guarded_yes, C.guarded_tf, C.guarded_ft, C.guarded_undef, Bool.not_true, Bool.not_false, Nat.zero_add, eq_self, decide_true, decide_false, show (((a + (q + 1) : Nat) : Int) > ((a + p : Nat) : Int)) by omega]
    refine F84.k23.to (C.draw_of (fun _ => True) fun w1 hf1 he1 => ⟨trivial, ?_⟩)
    simp only [C.ite_true, C.ite_false, C.pick_true, C.pick_false, C.not_bool, C.field_ptr, C.nilCheck_ptr, C.add_mk, C.sub_mk, C.mul_mk, C.eql_mk, C.neq_mk, C.lss_mk, C.leq_mk, C.gtr_mk, C.geq_mk, C.conv_mk, C.len_mk, C.ext_0, C.ext_1, C.ext3_0, C.ext3_1, C.ext3_2, C.guarded_yes, C.guarded_tf, C.guarded_ft, C.guarded_undef, Bool.not_true, Bool.not_false, Nat.zero_add, eq_self, decide_true, decide_false, true_and, and_true]
    rw [wrap64_id (n := ((a + (q + 1) : Nat) : Int) - 1) (by omega), show ((a + (q + 1) : Nat) : Int) - 1 = ((a + q : Nat) : Int) by omega, show ((a + (q + 1) : Nat) : Int) = ((a + q + 1 : Nat) : Int) by omega]
    have ed : U.drop q = U[q] :: U.drop (q + 1) := List.drop_eq_getElem_cons ql
    have et : U.take (q + 1) = U.take q ++ [U[q]] := by rw [List.take_add_one, List.getElem?_eq_getElem ql]; rfl
    have lA : (X ++ U.take q).length = a + q := by simp [hX]; omega
    have hA : X ++ (U.take (q + 1) ++ (v :: (U.drop (q + 1) ++ Y))) = (X ++ U.take q) ++ U[q] :: ([] ++ v :: (U.drop (q + 1) ++ Y)) := by rw [et]; simp only [List.append_assoc, List.singleton_append, List.cons_append, List.nil_append]
    rw [hA] at ho
    have gU : ((X ++ U.take q) ++ U[q] :: ([] ++ v :: (U.drop (q + 1) ++ Y)))[a + q]? = some U[q] := by rw [← lA, List.getElem?_append_right (Nat.le_refl _)]; simp
    have gV : ((X ++ U.take q) ++ U[q] :: ([] ++ v :: (U.drop (q + 1) ++ Y)))[a + q + 1]? = some v := by
      rw [← lA, List.getElem?_append_right (by omega), show (X ++ U.take q).length + 1 - (X ++ U.take q).length = 1 by omega]
      rfl
    refine row_swap hC.one (ho.keep hf1 (by simp)) gU gV fun w2 hf2 ho2 => ?_
    have e2 : (((X ++ U.take q) ++ U[q] :: ([] ++ v :: (U.drop (q + 1) ++ Y))).set (a + q + 1) U[q]).set (a + q) v = X ++ (U.take q ++ (v :: (U.drop q ++ Y))) := by
      have := seg_swap' (X := X ++ U.take q) (M := []) (Y := U.drop (q + 1) ++ Y) (p := U[q]) (q := v)
      simp only [List.length_nil, Nat.add_zero] at this
      rw [lA] at this
      rw [this, ed]
      simp only [List.append_assoc, List.singleton_append, List.cons_append, List.nil_append]
    rw [e2] at ho2
    refine F84.k22.to ?_
    simp only [C.ite_true, C.ite_false, C.pick_true, C.pick_false, C.not_bool, C.field_ptr, C.nilCheck_ptr, C.add_mk, C.sub_mk, C.mul_mk, C.eql_mk, C.neq_mk, C.lss_mk, C.leq_mk, C.gtr_mk, C.geq_mk, C.conv_mk, C.len_mk, C.ext_0, C.ext_1, C.ext3_0, C.ext3_1, C.ext3_2, C.guarded_yes, C.guarded_tf, C.guarded_ft, C.guarded_undef, Bool.not_true, Bool.not_false, Nat.zero_add, eq_self, decide_true, decide_false]
    rw [wrap64_id (n := ((a + q + 1 : Nat) : Int) - 1) (by omega), show ((a + q + 1 : Nat) : Int) - 1 = ((a + q : Nat) : Int) by omega]
    exact ih q w2 (by omega) (by omega) (hfr.trans (hf1.w.trans hf2)) ho2
theorem sm_find2 (hC : CmpOk ser f cv) {W0 : World} {X Y U : List Nat} {v a m : Nat} (hX : X.length = a) (hm : a + U.length = m) (hb : m + 1 ≤ 100000) (hU : SrtL ser U)
    (h : ∀ p w', Fr [] W0 w' → p ≤ U.length → (∀ k (h : k < U.length), k < p → ser U[k] ≤ ser v) → (∀ k (h : k < U.length), p ≤ k → ser v < ser U[k]) → F84.k20 K nv (.int .i64 (m : Int)) (.int .i64 ((a + p : Nat) : Int)) w') (ho0 : OwnS W0 nv 59 2 (RW ser f (X ++ (U ++ (v :: Y))))) :
    ∀ (d p q : Nat) (w : World), q ≤ p + d → p ≤ q → q ≤ U.length → (∀ k (h : k < U.length), k < p → ser U[k] ≤ ser v) → (∀ k (h : k < U.length), q ≤ k → ser v < ser U[k]) → Fr [] W0 w → F84.l15 K nv (.int .i64 (m : Int)) cv (.int .i64 ((a + p : Nat) : Int)) (.int .i64 ((a + q : Nat) : Int)) w := by
  have fin : ∀ (p q : Nat) (w : World), q = p → q ≤ U.length → (∀ k (h : k < U.length), k < p → ser U[k] ≤ ser v) → (∀ k (h : k < U.length), q ≤ k → ser v < ser U[k]) → Fr [] W0 w → F84.l15 K nv (.int .i64 (m : Int)) cv (.int .i64 ((a + p : Nat) : Int)) (.int .i64 ((a + q : Nat) : Int)) w := by
    intro p q w hpq hq h1 h2 hfr
    subst hpq
    refine F84.l15.to ?_
    simp only [C.ite_true, C.ite_false, C.pick_true, C.pick_false, C.not_bool, C.field_ptr, C.nilCheck_ptr, C.add_mk, C.sub_mk, C.mul_mk, C.eql_mk, C.neq_mk, C.lss_mk, C.leq_mk, C.gtr_mk, C.geq_mk, C.conv_mk, C.len_mk, C.ext_0, C.ext_1, C.ext3_0, C.ext3_1, C.ext3_2, C.guarded_yes, C.guarded_tf, C.guarded_ft, C.guarded_undef, Bool.not_true, Bool.not_false, Nat.zero_add, eq_self, decide_true, decide_false, show ¬ (((a + q : Nat) : Int) < ((a + q : Nat) : Int)) by omega]
    exact h q w hfr hq h1 h2
  intro d
  induction d with
  | zero => exact fun p q w hd hpq hq h1 h2 hfr => fin p q w (by omega) hq h1 h2 hfr
  | succ d ih =>
    intro p q w hd hpq hq h1 h2 hfr
    by_cases e : q = p
    · exact fin p q w e hq h1 h2 hfr
    refine F84.l15.to ?_
    simp only [C.ite_true, C.ite_false, C.pick_true, C.pick_false, C.not_bool, C.field_ptr, C.nilCheck_ptr, C.add_mk, C.sub_mk, C.mul_mk, C.eql_mk, C.neq_mk, C.lss_mk, C.leq_mk, C.gtr_mk, C.geq_mk, C.conv_mk, C.len_mk, C.ext_0, C.ext_1, C.ext3_0, C.ext3_1, C.ext3_2, C.guarded_yes, C.guarded_tf, C.guarded_ft, C.guarded_undef, Bool.not_true, Bool.not_false, Nat.zero_add, eq_self, decide_true, decide_false, show (((a + p : Nat) : Int) < ((a + q : Nat) : Int)) by omega]
    refine F84.k16.to (half_of (by omega) ?_)
    generalize hc : (p + q) / 2 = c
    have hcl : c < U.length := by omega
    have ec : (a + p + (a + q)) / 2 = a + c := by omega
    rw [ec]
    have ho := ho0.keep hfr (by simp)
    have gU : (X ++ (U ++ (v :: Y)))[a + c]? = some U[c] := by
      have := seg_get (X := X) (V := U) (Y := v :: Y) hcl
      rwa [hX] at this
    have gV : (X ++ (U ++ (v :: Y)))[m]? = some v := by
      rw [← List.append_assoc, ← hm, ← hX, ← List.length_append]
      simp
    refine C.draw_of (fun w' => OwnS w' nv 59 2 (RW ser f (X ++ (U ++ (v :: Y))))) fun w1 hf1 he1 => ⟨ho.keep hf1 (by simp), ?_⟩
    simp only [and_true]
    refine row_cmp hC (ho.keep hf1 (by simp)) gV gU fun w2 hf2 ho2 => ?_
    have f2 := hfr.trans (hf1.trans hf2)
    by_cases g : ser v < ser U[c]
    · simp only [C.ite_true, C.ite_false, C.pick_true, C.pick_false, C.not_bool, C.field_ptr, C.nilCheck_ptr, C.add_mk, C.sub_mk, C.mul_mk, C.eql_mk, C.neq_mk, C.lss_mk, C.leq_mk, C.gtr_mk, C.geq_mk, C.conv_mk, C.len_mk, C.ext_0, C.ext_1, C.ext3_0, C.ext3_1, C.ext3_2, C.guarded_yes, C.guarded_tf, C.guarded_ft, C.guarded_undef, Bool.not_true, Bool.not_false, Nat.zero_add, eq_self, decide_true, decide_false, (cmpI_lt _ _).2 g]
      refine ih p c w2 (by omega) (by omega) (by omega) h1 (fun k hk hkc => ?_) f2
      have := srt_get hU (i := c) (j := k) hcl hk hkc
      omega
    · simp only [C.ite_true, C.ite_false, C.pick_true, C.pick_false, C.not_bool, C.field_ptr, C.nilCheck_ptr, C.add_mk, C.sub_mk, C.mul_mk, C.eql_mk, C.neq_mk, C.lss_mk, C.leq_mk, C.gtr_mk, C.geq_mk, C.conv_mk, C.len_mk, C.ext_0, C.ext_1, C.ext3_0, C.ext3_1, C.ext3_2, C.guarded_yes, C.guarded_tf, C.guarded_ft, C.guarded_undef, Bool.not_true, Bool.not_false, Nat.zero_add, eq_self, decide_true, decide_false, show ¬ (cmpI (ser v) (ser U[c]) < 0) from fun h => g ((cmpI_lt _ _).1 h)]
      rw [wrap64_id (n := ((a + c : Nat) : Int) + 1) (by omega), show ((a + c : Nat) : Int) + 1 = ((a + (c + 1) : Nat) : Int) by omega]
      refine ih (c + 1) q w2 (by omega) (by omega) hq (fun k hk hkc => ?_) h2 f2
      have := srt_get hU (i := k) (j := c) hk hcl (by omega)
      omega
end
end Go.Proofs.YtfjilngljnlkjaaV
namespace Go.Proofs.YtfjilngljnlkjaaV
open Go Go.Proofs Go.RowKit
set_option linter.unusedVariables false
set_option linter.unusedSimpArgs false
set_option maxRecDepth 10000
section
variable {K : VK} {w : World} {ser : Nat → Int} {f : Nat → Value} {nv cv : Value}
/-- The search for the middle. -/
theorem sm_mid (hC : CmpOk ser f cv) {W0 : World} {X Y U V : List Nat} {a m b mid s0 r0 : Nat} (hX : X.length = a) (hm : a + U.length = m) (hbl : m + V.length = b) (hb : b ≤ 100000)
    (hs0 : a ≤ s0) (hr0 : r0 ≤ m) (hr1 : r0 ≤ mid) (hlo : mid + m ≤ s0 + b)
    (h : ∀ s w', Fr [] W0 w' → s0 ≤ s → s ≤ r0 → (s0 < s → ∀ (h1 : s - 1 - a < U.length) (h2 : mid - s < V.length), ser U[s - 1 - a] ≤ ser V[mid - s]) → (s < r0 → ∀ (h1 : s - a < U.length) (h2 : mid - 1 - s < V.length), ser V[mid - 1 - s] < ser U[s - a]) →
      F84.k38 K nv (.int .i64 (a : Int)) (.int .i64 (m : Int)) (.int .i64 (b : Int)) cv (.int .i64 (mid : Int)) (.int .i64 ((mid + m : Nat) : Int)) (.int .i64 (s : Int)) w') (ho0 : OwnS W0 nv 59 2 (RW ser f (X ++ (U ++ (V ++ Y))))) :
    ∀ (d s r : Nat) (w : World), r ≤ s + d → s0 ≤ s → s ≤ r → r ≤ r0 → (s0 < s → ∀ (h1 : s - 1 - a < U.length) (h2 : mid - s < V.length), ser U[s - 1 - a] ≤ ser V[mid - s]) → (r < r0 → ∀ (h1 : r - a < U.length) (h2 : mid - 1 - r < V.length), ser V[mid - 1 - r] < ser U[r - a]) → Fr [] W0 w →
      F84.l33 K nv (.int .i64 (a : Int)) (.int .i64 (m : Int)) (.int .i64 (b : Int)) cv (.int .i64 (mid : Int)) (.int .i64 ((mid + m : Nat) : Int)) (.int .i64 (s : Int)) (.int .i64 (r : Int)) (.int .i64 ((mid + m : Nat) - 1 : Int)) w := by
  have fin : ∀ (s r : Nat) (w : World), r = s → s0 ≤ s → r ≤ r0 → (s0 < s → ∀ (h1 : s - 1 - a < U.length) (h2 : mid - s < V.length), ser U[s - 1 - a] ≤ ser V[mid - s]) → (r < r0 → ∀ (h1 : r - a < U.length) (h2 : mid - 1 - r < V.length), ser V[mid - 1 - r] < ser U[r - a]) → Fr [] W0 w →
      F84.l33 K nv (.int .i64 (a : Int)) (.int .i64 (m : Int)) (.int .i64 (b : Int)) cv (.int .i64 (mid : Int)) (.int .i64 ((mid + m : Nat) : Int)) (.int .i64 (s : Int)) (.int .i64 (r : Int)) (.int .i64 ((mid + m : Nat) - 1 : Int)) w := by
    intro s r w e h1 h2 h3 h4 hfr
    subst e
    refine F84.l33.to ?_
    simp only [C.ite_true, C.ite_false, C.pick_true, C.pick_false, C.not_bool, C.field_ptr, C.nilCheck_ptr, C.add_mk, C.sub_mk, C.mul_mk, C.eql_mk, C.neq_mk, C.lss_mk, C.leq_mk, C.gtr_mk, C.geq_mk, C.conv_mk, C.len_mk, C.ext_0, C.ext_1, C.ext3_0, C.ext3_1, C.ext3_2, C.guarded_yes, C.guarded_tf, C.guarded_ft, C.guarded_undef, Bool.not_true, Bool.not_false, Nat.zero_add, eq_self, decide_true, decide_false, show ¬ ((r : Int) < (r : Int)) by omega]
    exact h r w hfr h1 h2 h3 h4
  intro d
  induction d with
  | zero => exact fun s r w hd h1 h2 h3 h4 h5 hfr => fin s r w (by omega) h1 h3 h4 h5 hfr
  | succ d ih =>
    intro s r w hd h1 h2 h3 h4 h5 hfr
    by_cases e : r = s
    · exact fin s r w e h1 h3 h4 h5 hfr
    refine F84.l33.to ?_
    simp only [C.ite_true, C.ite_false, C.pick_true, C.pick_false, C.not_bool, C.field_ptr, C.nilCheck_ptr, C.add_mk, C.sub_mk, C.mul_mk, C.eql_mk, C.neq_mk, C.lss_mk, C.leq_mk, C.gtr_mk, C.geq_mk, C.conv_mk, C.len_mk, C.ext_0, C.ext_1, C.ext3_0, C.ext3_1, C.ext3_2, C.guarded_yes, C.guarded_tf, C.guarded_ft, C.guarded_undef, Bool.not_true, Bool.not_false, Nat.zero_add, eq_self, decide_true, decide_false, show ((s : Int) < (r : Int)) by omega]
    refine F84.k34.to (half_of (by omega) ?_)
    generalize hc : (s + r) / 2 = c
    have hcU : c - a < U.length := by omega
    have hcV : mid - 1 - c < V.length := by omega
    have ho := ho0.keep hfr (by simp)
    have gU : (X ++ (U ++ (V ++ Y)))[c]? = some U[c - a] := by
      have := seg_get (X := X) (V := U) (Y := V ++ Y) hcU
      rw [hX] at this
      rwa [show a + (c - a) = c by omega] at this
    have gV : (X ++ (U ++ (V ++ Y)))[mid + m - 1 - c]? = some V[mid - 1 - c] := by
      have := seg_get (X := X ++ U) (V := V) (Y := Y) hcV
      rw [List.length_append, hX, hm, List.append_assoc] at this
      rwa [show m + (mid - 1 - c) = mid + m - 1 - c by omega] at this
    refine C.draw_of (fun w' => OwnS w' nv 59 2 (RW ser f (X ++ (U ++ (V ++ Y))))) fun w1 hf1 he1 => ⟨ho.keep hf1 (by simp), ?_⟩
    simp only [C.ite_true, C.ite_false, C.pick_true, C.pick_false, C.not_bool, C.field_ptr, C.nilCheck_ptr, C.add_mk, C.sub_mk, C.mul_mk, C.eql_mk, C.neq_mk, C.lss_mk, C.leq_mk, C.gtr_mk, C.geq_mk, C.conv_mk, C.len_mk, C.ext_0, C.ext_1, C.ext3_0, C.ext3_1, C.ext3_2, C.guarded_yes, C.guarded_tf, C.guarded_ft, C.guarded_undef, Bool.not_true, Bool.not_false, Nat.zero_add, eq_self, decide_true, decide_false, and_true]
    rw [wrap64_id (n := ((mid + m : Nat) : Int) - 1 - (c : Int)) (by omega), show ((mid + m : Nat) : Int) - 1 - (c : Int) = ((mid + m - 1 - c : Nat) : Int) by omega]
    refine row_cmp hC (ho.keep hf1 (by simp)) gV gU fun w2 hf2 ho2 => ?_
    have f2 := hfr.trans (hf1.trans hf2)
    by_cases g : ser V[mid - 1 - c] < ser U[c - a]
    · simp only [C.ite_true, C.ite_false, C.pick_true, C.pick_false, C.not_bool, C.field_ptr, C.nilCheck_ptr, C.add_mk, C.sub_mk, C.mul_mk, C.eql_mk, C.neq_mk, C.lss_mk, C.leq_mk, C.gtr_mk, C.geq_mk, C.conv_mk, C.len_mk, C.ext_0, C.ext_1, C.ext3_0, C.ext3_1, C.ext3_2, C.guarded_yes, C.guarded_tf, C.guarded_ft, C.guarded_undef, Bool.not_true, Bool.not_false, Nat.zero_add, eq_self, decide_true, decide_false, (cmpI_lt _ _).2 g]
      exact ih s c w2 (by omega) h1 (by omega) (by omega) h4 (fun _ _ _ => g) f2
    · simp only [C.ite_true, C.ite_false, C.pick_true, C.pick_false, C.not_bool, C.field_ptr, C.nilCheck_ptr, C.add_mk, C.sub_mk, C.mul_mk, C.eql_mk, C.neq_mk, C.lss_mk, C.leq_mk, C.gtr_mk, C.geq_mk, C.conv_mk, C.len_mk, C.ext_0, C.ext_1, C.ext3_0, C.ext3_1, C.ext3_2, C.guarded_yes, C.guarded_tf, C.guarded_ft, C.guarded_undef, Bool.not_true, Bool.not_false, Nat.zero_add, eq_self, decide_true, decide_false, show ¬ (cmpI (ser V[mid - 1 - c]) (ser U[c - a]) < 0) from fun h => g ((cmpI_lt _ _).1 h)]
      rw [wrap64_id (n := (c : Int) + 1) (by omega), show (c : Int) + 1 = ((c + 1 : Nat) : Int) by omega]
      refine ih (c + 1) r w2 (by omega) (by omega) (by omega) h3 (fun _ q1 q2 => ?_) h5 f2
      have e1 : c + 1 - 1 - a = c - a := by omega
      have e2 : mid - (c + 1) = mid - 1 - c := by omega
      simp only [e1, e2]
      omega
/-- What comes behind the rotation. -/
theorem symMerge_c (hC : CmpOk ser f cv) : ∀ (d : Nat) (K : VK) (w : World) (X Y U V : List Nat) (a m b : Nat), U.length + V.length ≤ d → 0 < U.length → 0 < V.length → X.length = a → a + U.length = m → m + V.length = b → b ≤ 100000 → SrtL ser U → SrtL ser V → Low U V → OwnS w nv 59 2 (RW ser f (X ++ (U ++ (V ++ Y)))) →
    (∀ W w', Fr (blkS nv) w w' → W.Perm (U ++ V) → SrtL ser W → OwnS w' nv 59 2 (RW ser f (X ++ (W ++ Y))) → K (.tuple #[]) w') →
    C.call Try.prog 84 #[nv, .int .i64 (a : Int), .int .i64 (m : Int), .int .i64 (b : Int), cv] w K := by
  intro d
  induction d with
  | zero => intro K w X Y U V a m b hd hU; omega
  | succ d ih =>
    intro K w X Y U V a m b hd hU hV hX hm hbl hb sU sV hL ho h
    refine F84.sh ?_
    simp only [C.ite_true, C.ite_false, C.pick_true, C.pick_false, C.not_bool, C.field_ptr, C.nilCheck_ptr, C.add_mk, C.sub_mk, C.mul_mk, C.eql_mk, C.neq_mk, C.lss_mk, C.leq_mk, C.gtr_mk, C.geq_mk, C.conv_mk, C.len_mk, C.ext_0, C.ext_1, C.ext3_0, C.ext3_1, C.ext3_2, C.guarded_yes, C.guarded_tf, C.guarded_ft, C.guarded_undef, Bool.not_true, Bool.not_false, Nat.zero_add, eq_self, decide_true, decide_false]
    rw [wrap64_id (n := (m : Int) - (a : Int)) (by omega)]
    by_cases u1 : U.length = 1
    · -- one and a list
      obtain ⟨u, rfl⟩ : ∃ u, U = [u] := by
        match U, u1 with
        | [u], _ => exact ⟨u, rfl⟩
      have em : m = a + 1 := by simp at hm; omega
      simp only [C.ite_true, C.ite_false, C.pick_true, C.pick_false, C.not_bool, C.field_ptr, C.nilCheck_ptr, C.add_mk, C.sub_mk, C.mul_mk, C.eql_mk, C.neq_mk, C.lss_mk, C.leq_mk, C.gtr_mk, C.geq_mk, C.conv_mk, C.len_mk, C.ext_0, C.ext_1, C.ext3_0, C.ext3_1, C.ext3_2, C.guarded_yes, C.guarded_tf, C.guarded_ft, C.guarded_undef, Bool.not_true, Bool.not_false, Nat.zero_add, eq_self, decide_true, decide_false, show ((m : Int) - (a : Int) = 1) by omega]
      have ho' : OwnS w nv 59 2 (RW ser f (X ++ (u :: (V ++ Y)))) := by simpa using ho
      have hf1 := sm_find1 (K := K) hC (W0 := w) (X := X) (Y := Y) (V := V) (u := u) (a := a) hX (by omega) sV (fun p w1 hf1 hp h1 h2 => ?_) ho' V.length 0 V.length w (by omega) (by omega) (Nat.le_refl _) (fun k _ hk => by omega) (fun k h1 h2 => by omega) (Fr.refl _ _)
      · rw [show ((a + 1 + 0 : Nat) : Int) = (m : Int) by omega, show ((a + 1 + V.length : Nat) : Int) = (b : Int) by omega] at hf1
        exact hf1
      · refine F84.k8.to ?_
        have := sm_right (K := K) hC (W0 := w1) (X := X) (Y := Y) (V := V) (u := u) (a := a) (p := p) hX hp (by omega) (fun w2 hf2 ho2 => ?_) p 0 w1 (by omega) (Fr.refl _ _) (by simpa using ho'.keep hf1 (by simp))
        · exact this
        · obtain ⟨q1, q2⟩ := ins_low sV hL hp h1 h2
          exact h _ w2 (hf1.w.trans hf2) q2 q1 (by simpa using ho2)
    · simp only [C.ite_true, C.ite_false, C.pick_true, C.pick_false, C.not_bool, C.field_ptr, C.nilCheck_ptr, C.add_mk, C.sub_mk, C.mul_mk, C.eql_mk, C.neq_mk, C.lss_mk, C.leq_mk, C.gtr_mk, C.geq_mk, C.conv_mk, C.len_mk, C.ext_0, C.ext_1, C.ext3_0, C.ext3_1, C.ext3_2, C.guarded_yes, C.guarded_tf, C.guarded_ft, C.guarded_undef, Bool.not_true, Bool.not_false, Nat.zero_add, eq_self, decide_true, decide_false, show ¬ ((m : Int) - (a : Int) = 1) by omega]
      refine F84.k12.to ?_
      simp only [C.ite_true, C.ite_false, C.pick_true, C.pick_false, C.not_bool, C.field_ptr, C.nilCheck_ptr, C.add_mk, C.sub_mk, C.mul_mk, C.eql_mk, C.neq_mk, C.lss_mk, C.leq_mk, C.gtr_mk, C.geq_mk, C.conv_mk, C.len_mk, C.ext_0, C.ext_1, C.ext3_0, C.ext3_1, C.ext3_2, C.guarded_yes, C.guarded_tf, C.guarded_ft, C.guarded_undef, Bool.not_true, Bool.not_false, Nat.zero_add, eq_self, decide_true, decide_false]
      rw [wrap64_id (n := (b : Int) - (m : Int)) (by omega)]
      by_cases v1 : V.length = 1
      · obtain ⟨v, rfl⟩ : ∃ v, V = [v] := by
          match V, v1 with
          | [v], _ => exact ⟨v, rfl⟩
        simp only [C.ite_true, C.ite_false, C.pick_true, C.pick_false, C.not_bool, C.field_ptr, C.nilCheck_ptr, C.add_mk, C.sub_mk, C.mul_mk, C.eql_mk, C.neq_mk, C.lss_mk, C.leq_mk, C.gtr_mk, C.geq_mk, C.conv_mk, C.len_mk, C.ext_0, C.ext_1, C.ext3_0, C.ext3_1, C.ext3_2, C.guarded_yes, C.guarded_tf, C.guarded_ft, C.guarded_undef, Bool.not_true, Bool.not_false, Nat.zero_add, eq_self, decide_true, decide_false, show ((b : Int) - (m : Int) = 1) by simp at hbl; omega]
        have ho' : OwnS w nv 59 2 (RW ser f (X ++ (U ++ (v :: Y)))) := by simpa using ho
        have hf1 := sm_find2 (K := K) hC (W0 := w) (X := X) (Y := Y) (U := U) (v := v) (a := a) (m := m) hX hm (by simp at hbl; omega) sU (fun p w1 hf1 hp h1 h2 => ?_) ho' U.length 0 U.length w (by omega) (by omega) (Nat.le_refl _) (fun k _ hk => by omega) (fun k h1 h2 => by omega) (Fr.refl _ _)
        · rw [show ((a + 0 : Nat) : Int) = (a : Int) by omega, show ((a + U.length : Nat) : Int) = (m : Int) by omega] at hf1
          exact hf1
        · refine F84.k20.to ?_
          have := sm_left (K := K) hC (W0 := w1) (X := X) (Y := Y) (U := U) (v := v) (a := a) (p := p) hX hp (by simp at hbl; omega) (fun w2 hf2 ho2 => ?_) (U.length - p) U.length w1 (by omega) (Nat.le_refl _) (Fr.refl _ _) (by simpa using ho'.keep hf1 (by simp))
          · rw [show ((a + U.length : Nat) : Int) = (m : Int) by omega] at this
            exact this
          · obtain ⟨q1, q2⟩ := ins_high sU hL hp h1 h2
            exact h _ w2 (hf1.w.trans hf2) q2 q1 (by simpa using ho2)
      · simp only [C.ite_true, C.ite_false, C.pick_true, C.pick_false, C.not_bool, C.field_ptr, C.nilCheck_ptr, C.add_mk, C.sub_mk, C.mul_mk, C.eql_mk, C.neq_mk, C.lss_mk, C.leq_mk, C.gtr_mk, C.geq_mk, C.conv_mk, C.len_mk, C.ext_0, C.ext_1, C.ext3_0, C.ext3_1, C.ext3_2, C.guarded_yes, C.guarded_tf, C.guarded_ft, C.guarded_undef, Bool.not_true, Bool.not_false, Nat.zero_add, eq_self, decide_true, decide_false, show ¬ ((b : Int) - (m : Int) = 1) by omega]
        refine F84.k24.to (half_of (by omega) ?_)
        generalize hmid : (a + b) / 2 = mid
        simp only [C.ite_true, C.ite_false, C.pick_true, C.pick_false, C.not_bool, C.field_ptr, C.nilCheck_ptr, C.add_mk, C.sub_mk, C.mul_mk, C.eql_mk, C.neq_mk, C.lss_mk, C.leq_mk, C.gtr_mk, C.geq_mk, C.conv_mk, C.len_mk, C.ext_0, C.ext_1, C.ext3_0, C.ext3_1, C.ext3_2, C.guarded_yes, C.guarded_tf, C.guarded_ft, C.guarded_undef, Bool.not_true, Bool.not_false, Nat.zero_add, eq_self, decide_true, decide_false]
        rw [wrap64_id (n := (mid : Int) + (m : Int)) (by omega), show (mid : Int) + (m : Int) = ((mid + m : Nat) : Int) by omega]
        -- what comes behind the search
        have tail : ∀ s w', Fr [] w w' → a ≤ s → s ≤ m → s ≤ mid → mid + m ≤ s + b → (∀ v ∈ V.take (mid - s), ∀ u ∈ U.drop (s - a), ser v < ser u) → (∀ u ∈ U.take (s - a), ∀ v ∈ V.drop (mid - s), ser u ≤ ser v) →
            F84.k38 K nv (.int .i64 (a : Int)) (.int .i64 (m : Int)) (.int .i64 (b : Int)) cv (.int .i64 (mid : Int)) (.int .i64 ((mid + m : Nat) : Int)) (.int .i64 (s : Int)) w' := by
          intro s w1 hf1 hs1 hs2 hs3 hs4 hvu huv
          have ho1 := ho.keep hf1 (by simp)
          have eU : U = U.take (s - a) ++ U.drop (s - a) := (List.take_append_drop _ _).symm
          have eV : V = V.take (mid - s) ++ V.drop (mid - s) := (List.take_append_drop _ _).symm
          have lU1 : (U.take (s - a)).length = s - a := List.length_take_of_le (by omega)
          have lU2 : (U.drop (s - a)).length = m - s := by rw [List.length_drop]; omega
          have lV1 : (V.take (mid - s)).length = mid - s := List.length_take_of_le (by omega)
          have lV2 : (V.drop (mid - s)).length = b + s - mid - m := by rw [List.length_drop]; omega
          generalize U.take (s - a) = U1 at *
          generalize U.drop (s - a) = U2 at *
          generalize V.take (mid - s) = V1 at *
          generalize V.drop (mid - s) = V2 at *
          subst eU
          subst eV
          refine F84.k38.to ?_
          simp only [C.ite_true, C.ite_false, C.pick_true, C.pick_false, C.not_bool, C.field_ptr, C.nilCheck_ptr, C.add_mk, C.sub_mk, C.mul_mk, C.eql_mk, C.neq_mk, C.lss_mk, C.leq_mk, C.gtr_mk, C.geq_mk, C.conv_mk, C.len_mk, C.ext_0, C.ext_1, C.ext3_0, C.ext3_1, C.ext3_2, C.guarded_yes, C.guarded_tf, C.guarded_ft, C.guarded_undef, Bool.not_true, Bool.not_false, Nat.zero_add, eq_self, decide_true, decide_false]
          rw [wrap64_id (n := ((mid + m : Nat) : Int) - (s : Int)) (by omega), show ((mid + m : Nat) : Int) - (s : Int) = ((mid + m - s : Nat) : Int) by omega]
          have sU1 := (List.pairwise_append.1 sU).1
          have sU2 := (List.pairwise_append.1 sU).2.1
          have sV1 := (List.pairwise_append.1 sV).1
          have sV2 := (List.pairwise_append.1 sV).2.1
          have L1 : Low U1 V1 := fun x hx y hy => hL x (by simp [hx]) y (by simp [hy])
          have L2 : Low U2 V2 := fun x hx y hy => hL x (by simp [hx]) y (by simp [hy])
          -- behind the rotation
          have t2 : ∀ w2, Fr (blkS nv) w w2 → OwnS w2 nv 59 2 (RW ser f (X ++ (U1 ++ (V1 ++ (U2 ++ (V2 ++ Y)))))) → F84.k41 K nv (.int .i64 (a : Int)) (.int .i64 (b : Int)) cv (.int .i64 (mid : Int)) (.int .i64 (s : Int)) (.int .i64 ((mid + m - s : Nat) : Int)) w2 := by
            intro w2 hf2 ho2
            -- behind the first half
            have t3 : ∀ W1 w3, Fr (blkS nv) w w3 → W1.Perm (U1 ++ V1) → SrtL ser W1 → OwnS w3 nv 59 2 (RW ser f (X ++ (W1 ++ (U2 ++ (V2 ++ Y))))) → F84.k43 K nv (.int .i64 (b : Int)) cv (.int .i64 (mid : Int)) (.int .i64 ((mid + m - s : Nat) : Int)) w3 := by
              intro W1 w3 hf3 p1 s1 ho3
              have lW1 : W1.length = mid - a := by rw [p1.length_eq, List.length_append]; omega
              have t4 : ∀ W2 w4, Fr (blkS nv) w w4 → W2.Perm (U2 ++ V2) → SrtL ser W2 → OwnS w4 nv 59 2 (RW ser f (X ++ (W1 ++ (W2 ++ Y)))) → K (.tuple #[]) w4 := fun W2 w4 hf4 p2 s2 ho4 => by
                obtain ⟨q1, q2⟩ := halves sU sV hL p1 p2 s1 s2 hvu huv
                exact h (W1 ++ W2) w4 hf4 q2 q1 (by simpa using ho4)
              refine F84.k43.to ?_
              by_cases c1 : mid < mid + m - s
              · by_cases c2 : mid + m - s < b
                · simp only [C.ite_true, C.ite_false, C.pick_true, C.pick_false, C.not_bool, C.field_ptr, C.nilCheck_ptr, C.add_mk, C.sub_mk, C.mul_mk, C.eql_mk, C.neq_mk, C.lss_mk, C.leq_mk, C.gtr_mk, C.geq_mk, C.conv_mk, C.len_mk, C.ext_0, C.ext_1, C.ext3_0, C.ext3_1, C.ext3_2, C.guarded_yes, C.guarded_tf, C.guarded_ft, C.guarded_undef, Bool.not_true, Bool.not_false, Nat.zero_add, eq_self, decide_true, decide_false, show ((mid : Int) < ((mid + m - s : Nat) : Int)) by omega, show (((mid + m - s : Nat) : Int) < (b : Int)) by omega]
                  exact ih _ w3 (X ++ W1) Y U2 V2 mid (mid + m - s) b (by simp at hd; omega) (by omega) (by omega) (by simp; omega) (by omega) (by omega) hb sU2 sV2 L2 (by simpa using ho3) fun W2 w4 hf4 p2 s2 ho4 => t4 W2 w4 (hf3.trans hf4) p2 s2 (by simpa using ho4)
                · simp only [C.ite_true, C.ite_false, C.pick_true, C.pick_false, C.not_bool, C.field_ptr, C.nilCheck_ptr, C.add_mk, C.sub_mk, C.mul_mk, C.eql_mk, C.neq_mk, C.lss_mk, C.leq_mk, C.gtr_mk, C.geq_mk, C.conv_mk, C.len_mk, C.ext_0, C.ext_1, C.ext3_0, C.ext3_1, C.ext3_2, C.guarded_yes, C.guarded_tf, C.guarded_ft, C.guarded_undef, Bool.not_true, Bool.not_false, Nat.zero_add, eq_self, decide_true, decide_false, show ((mid : Int) < ((mid + m - s : Nat) : Int)) by omega, show ¬ (((mid + m - s : Nat) : Int) < (b : Int)) by omega]
                  have : V2 = [] := List.eq_nil_of_length_eq_zero (by omega)
                  subst this
                  exact t4 U2 w3 hf3 (by simp) sU2 (by simpa using ho3)
              · simp only [C.ite_true, C.ite_false, C.pick_true, C.pick_false, C.not_bool, C.field_ptr, C.nilCheck_ptr, C.add_mk, C.sub_mk, C.mul_mk, C.eql_mk, C.neq_mk, C.lss_mk, C.leq_mk, C.gtr_mk, C.geq_mk, C.conv_mk, C.len_mk, C.ext_0, C.ext_1, C.ext3_0, C.ext3_1, C.ext3_2, C.guarded_yes, C.guarded_tf, C.guarded_ft, C.guarded_undef, Bool.not_true, Bool.not_false, Nat.zero_add, eq_self, decide_true, decide_false, show ¬ ((mid : Int) < ((mid + m - s : Nat) : Int)) by omega]
                have : U2 = [] := List.eq_nil_of_length_eq_zero (by omega)
                subst this
                exact t4 V2 w3 hf3 (by simp) sV2 (by simpa using ho3)
            refine F84.k41.to ?_
            by_cases c1 : a < s
            · by_cases c2 : s < mid
              · simp only [C.ite_true, C.ite_false, C.pick_true, C.pick_false, C.not_bool, C.field_ptr, C.nilCheck_ptr, C.add_mk, C.sub_mk, C.mul_mk, C.eql_mk, C.neq_mk, C.lss_mk, C.leq_mk, C.gtr_mk, C.geq_mk, C.conv_mk, C.len_mk, C.ext_0, C.ext_1, C.ext3_0, C.ext3_1, C.ext3_2, C.guarded_yes, C.guarded_tf, C.guarded_ft, C.guarded_undef, Bool.not_true, Bool.not_false, Nat.zero_add, eq_self, decide_true, decide_false, show ((a : Int) < (s : Int)) by omega, show ((s : Int) < (mid : Int)) by omega]
                exact ih _ w2 X (U2 ++ (V2 ++ Y)) U1 V1 a s mid (by simp at hd; omega) (by omega) (by omega) hX (by omega) (by omega) (by omega) sU1 sV1 L1 ho2 fun W1 w3 hf3 p1 s1 ho3 => t3 W1 w3 (hf2.trans hf3) p1 s1 ho3
              · simp only [C.ite_true, C.ite_false, C.pick_true, C.pick_false, C.not_bool, C.field_ptr, C.nilCheck_ptr, C.add_mk, C.sub_mk, C.mul_mk, C.eql_mk, C.neq_mk, C.lss_mk, C.leq_mk, C.gtr_mk, C.geq_mk, C.conv_mk, C.len_mk, C.ext_0, C.ext_1, C.ext3_0, C.ext3_1, C.ext3_2, C.guarded_yes, C.guarded_tf, C.guarded_ft, C.guarded_undef, Bool.not_true, Bool.not_false, Nat.zero_add, eq_self, decide_true, decide_false, show ((a : Int) < (s : Int)) by omega, show ¬ ((s : Int) < (mid : Int)) by omega]
                have : V1 = [] := List.eq_nil_of_length_eq_zero (by omega)
                subst this
                exact t3 U1 w2 hf2 (by simp) sU1 (by simpa using ho2)
            · simp only [C.ite_true, C.ite_false, C.pick_true, C.pick_false, C.not_bool, C.field_ptr, C.nilCheck_ptr, C.add_mk, C.sub_mk, C.mul_mk, C.eql_mk, C.neq_mk, C.lss_mk, C.leq_mk, C.gtr_mk, C.geq_mk, C.conv_mk, C.len_mk, C.ext_0, C.ext_1, C.ext3_0, C.ext3_1, C.ext3_2, C.guarded_yes, C.guarded_tf, C.guarded_ft, C.guarded_undef, Bool.not_true, Bool.not_false, Nat.zero_add, eq_self, decide_true, decide_false, show ¬ ((a : Int) < (s : Int)) by omega]
              have : U1 = [] := List.eq_nil_of_length_eq_zero (by omega)
              subst this
              exact t3 V1 w2 hf2 (by simp) sV1 (by simpa using ho2)
          by_cases c1 : s < m
          · by_cases c2 : m < mid + m - s
            · simp only [C.ite_true, C.ite_false, C.pick_true, C.pick_false, C.not_bool, C.field_ptr, C.nilCheck_ptr, C.add_mk, C.sub_mk, C.mul_mk, C.eql_mk, C.neq_mk, C.lss_mk, C.leq_mk, C.gtr_mk, C.geq_mk, C.conv_mk, C.len_mk, C.ext_0, C.ext_1, C.ext3_0, C.ext3_1, C.ext3_2, C.guarded_yes, C.guarded_tf, C.guarded_ft, C.guarded_undef, Bool.not_true, Bool.not_false, Nat.zero_add, eq_self, decide_true, decide_false, show ((s : Int) < (m : Int)) by omega, show ((m : Int) < ((mid + m - s : Nat) : Int)) by omega]
              exact rotate_c hC.one (X := X ++ U1) (U := U2) (V := V1) (Y := V2 ++ Y) (by omega) (by omega) (by simp; omega) (by omega) (by omega) (by omega) (by simpa using ho1) fun w2 hf2 ho2 => t2 w2 (hf1.w.trans hf2) (by simpa using ho2)
            · simp only [C.ite_true, C.ite_false, C.pick_true, C.pick_false, C.not_bool, C.field_ptr, C.nilCheck_ptr, C.add_mk, C.sub_mk, C.mul_mk, C.eql_mk, C.neq_mk, C.lss_mk, C.leq_mk, C.gtr_mk, C.geq_mk, C.conv_mk, C.len_mk, C.ext_0, C.ext_1, C.ext3_0, C.ext3_1, C.ext3_2, C.guarded_yes, C.guarded_tf, C.guarded_ft, C.guarded_undef, Bool.not_true, Bool.not_false, Nat.zero_add, eq_self, decide_true, decide_false, show ((s : Int) < (m : Int)) by omega, show ¬ ((m : Int) < ((mid + m - s : Nat) : Int)) by omega]
              have : V1 = [] := List.eq_nil_of_length_eq_zero (by omega)
              subst this
              exact t2 w1 hf1.w (by simpa using ho1)
          · simp only [C.ite_true, C.ite_false, C.pick_true, C.pick_false, C.not_bool, C.field_ptr, C.nilCheck_ptr, C.add_mk, C.sub_mk, C.mul_mk, C.eql_mk, C.neq_mk, C.lss_mk, C.leq_mk, C.gtr_mk, C.geq_mk, C.conv_mk, C.len_mk, C.ext_0, C.ext_1, C.ext3_0, C.ext3_1, C.ext3_2, C.guarded_yes, C.guarded_tf, C.guarded_ft, C.guarded_undef, Bool.not_true, Bool.not_false, Nat.zero_add, eq_self, decide_true, decide_false, show ¬ ((s : Int) < (m : Int)) by omega]
            have : U2 = [] := List.eq_nil_of_length_eq_zero (by omega)
            subst this
            exact t2 w1 hf1.w (by simpa using ho1)
        by_cases g : m > mid
        · simp only [C.ite_true, C.ite_false, C.pick_true, C.pick_false, C.not_bool, C.field_ptr, C.nilCheck_ptr, C.add_mk, C.sub_mk, C.mul_mk, C.eql_mk, C.neq_mk, C.lss_mk, C.leq_mk, C.gtr_mk, C.geq_mk, C.conv_mk, C.len_mk, C.ext_0, C.ext_1, C.ext3_0, C.ext3_1, C.ext3_2, C.guarded_yes, C.guarded_tf, C.guarded_ft, C.guarded_undef, Bool.not_true, Bool.not_false, Nat.zero_add, eq_self, decide_true, decide_false, show ((m : Int) > (mid : Int)) by omega]
          rw [wrap64_id (n := ((mid + m : Nat) : Int) - (b : Int)) (by omega), show ((mid + m : Nat) : Int) - (b : Int) = ((mid + m - b : Nat) : Int) by omega]
          refine F84.k32.to ?_
          simp only [C.ite_true, C.ite_false, C.pick_true, C.pick_false, C.not_bool, C.field_ptr, C.nilCheck_ptr, C.add_mk, C.sub_mk, C.mul_mk, C.eql_mk, C.neq_mk, C.lss_mk, C.leq_mk, C.gtr_mk, C.geq_mk, C.conv_mk, C.len_mk, C.ext_0, C.ext_1, C.ext3_0, C.ext3_1, C.ext3_2, C.guarded_yes, C.guarded_tf, C.guarded_ft, C.guarded_undef, Bool.not_true, Bool.not_false, Nat.zero_add, eq_self, decide_true, decide_false]
          rw [wrap64_id (n := ((mid + m : Nat) : Int) - 1) (by omega)]
          refine sm_mid hC hX hm hbl hb (s0 := mid + m - b) (r0 := mid) (by omega) (by omega) (Nat.le_refl _) (by omega) (fun s w1 hf1 q1 q2 q3 q4 => tail s w1 hf1 (by omega) (by omega) q2 (by omega) ?_ ?_) ho mid (mid + m - b) mid w (by omega) (Nat.le_refl _) (by omega) (Nat.le_refl _) (fun c => by omega) (fun c => by omega) (Fr.refl _ _)
          · refine mid_vu sU sV (by omega) (by omega) fun h1 h2 h3 => ?_
            have e1 : mid - s - 1 = mid - 1 - s := by omega
            simp only [e1] at h2 ⊢
            exact q4 (by omega) h1 h2
          · refine mid_uv sU sV (by omega) (by omega) fun h1 h2 h3 => ?_
            have e1 : s - a - 1 = s - 1 - a := by omega
            simp only [e1] at h1 ⊢
            exact q3 (by omega) h1 h2
        · simp only [C.ite_true, C.ite_false, C.pick_true, C.pick_false, C.not_bool, C.field_ptr, C.nilCheck_ptr, C.add_mk, C.sub_mk, C.mul_mk, C.eql_mk, C.neq_mk, C.lss_mk, C.leq_mk, C.gtr_mk, C.geq_mk, C.conv_mk, C.len_mk, C.ext_0, C.ext_1, C.ext3_0, C.ext3_1, C.ext3_2, C.guarded_yes, C.guarded_tf, C.guarded_ft, C.guarded_undef, Bool.not_true, Bool.not_false, Nat.zero_add, eq_self, decide_true, decide_false, show ¬ ((m : Int) > (mid : Int)) by omega]
          refine F84.k32.to ?_
          simp only [C.ite_true, C.ite_false, C.pick_true, C.pick_false, C.not_bool, C.field_ptr, C.nilCheck_ptr, C.add_mk, C.sub_mk, C.mul_mk, C.eql_mk, C.neq_mk, C.lss_mk, C.leq_mk, C.gtr_mk, C.geq_mk, C.conv_mk, C.len_mk, C.ext_0, C.ext_1, C.ext3_0, C.ext3_1, C.ext3_2, C.guarded_yes, C.guarded_tf, C.guarded_ft, C.guarded_undef, Bool.not_true, Bool.not_false, Nat.zero_add, eq_self, decide_true, decide_false]
          rw [wrap64_id (n := ((mid + m : Nat) : Int) - 1) (by omega)]
          refine sm_mid hC hX hm hbl hb (s0 := a) (r0 := m) (Nat.le_refl _) (Nat.le_refl _) (by omega) (by omega) (fun s w1 hf1 q1 q2 q3 q4 => tail s w1 hf1 q1 q2 (by omega) (by omega) ?_ ?_) ho m a m w (by omega) (Nat.le_refl _) (by omega) (Nat.le_refl _) (fun c => by omega) (fun c => by omega) (Fr.refl _ _)
          · refine mid_vu sU sV (by omega) (by omega) fun h1 h2 h3 => ?_
            have e1 : mid - s - 1 = mid - 1 - s := by omega
            simp only [e1] at h2 ⊢
            exact q4 (by omega) h1 h2
          · refine mid_uv sU sV (by omega) (by omega) fun h1 h2 h3 => ?_
            have e1 : s - a - 1 = s - 1 - a := by omega
            simp only [e1] at h1 ⊢
            exact q3 (by omega) h1 h2
end
end Go.Proofs.YtfjilngljnlkjaaV
namespace Go.Proofs.YtfjilngljnlkjaaV
open Go Go.Proofs Go.RowKit
set_option linter.unusedVariables false
set_option linter.unusedSimpArgs false
set_option maxRecDepth 10000
def seg (A : List Nat) (a b : Nat) : List Nat := (A.drop a).take (b - a)
theorem seg_len {A : List Nat} {a b : Nat} (h : a ≤ b) (hb : b ≤ A.length) : (seg A a b).length = b - a := by
  unfold seg
  rw [List.length_take, List.length_drop]
  omega
theorem seg_split {A : List Nat} {a b : Nat} (h : a ≤ b) : A = A.take a ++ (seg A a b ++ A.drop b) := by
  unfold seg
  have e : A.drop b = (A.drop a).drop (b - a) := by rw [List.drop_drop]; congr 1; omega
  rw [e, List.take_append_drop, List.take_append_drop]
theorem seg_app {A : List Nat} {a m b : Nat} (h1 : a ≤ m) (h2 : m ≤ b) : seg A a b = seg A a m ++ seg A m b := by
  unfold seg
  have e : A.drop m = (A.drop a).drop (m - a) := by rw [List.drop_drop]; congr 1; omega
  rw [e, show b - a = (m - a) + (b - m) by omega, List.take_add]
/-- A part is put anew. -/
def putS (A : List Nat) (a b : Nat) (W : List Nat) : List Nat := A.take a ++ (W ++ A.drop b)
theorem putS_len {A W : List Nat} {a b : Nat} (h : a ≤ b) (hb : b ≤ A.length) (hW : W.length = b - a) : (putS A a b W).length = A.length := by
  unfold putS
  simp only [List.length_append, List.length_take, List.length_drop]
  omega
theorem seg_put {A W : List Nat} {a b : Nat} (h : a ≤ b) (hb : b ≤ A.length) (hW : W.length = b - a) : seg (putS A a b W) a b = W := by
  unfold seg putS
  have l : (A.take a).length = a := List.length_take_of_le (by omega)
  conv => lhs; arg 2; arg 1; rw [← l]
  rw [List.drop_left, ← hW]
  simp
theorem seg_before {A W : List Nat} {a b c d : Nat} (hb : a ≤ A.length) (hd : d ≤ a) (hcd : c ≤ d) : seg (putS A a b W) c d = seg A c d := by
  unfold seg putS
  have l : (A.take a).length = a := List.length_take_of_le (by omega)
  rw [List.drop_append_of_le_length (by omega), List.take_append_of_le_length (by rw [List.length_drop]; omega), List.drop_take, List.take_take]
  congr 1
  omega
theorem seg_behind {A W : List Nat} {a b c d : Nat} (h : a ≤ b) (hb : b ≤ A.length) (hW : W.length = b - a) (hc : b ≤ c) : seg (putS A a b W) c d = seg A c d := by
  unfold seg putS
  have l : (A.take a).length = a := List.length_take_of_le (by omega)
  congr 1
  rw [← List.append_assoc]
  have l2 : (A.take a ++ W).length = b := by simp; omega
  rw [show c = (A.take a ++ W).length + (c - b) by omega, ← List.drop_drop, List.drop_left, List.drop_drop]
  congr 1
  omega
theorem drop_put {A W : List Nat} {a b : Nat} (h : a ≤ b) (hb : b ≤ A.length) (hW : W.length = b - a) : (putS A a b W).drop b = A.drop b := by
  unfold putS
  rw [← List.append_assoc]
  have l2 : (A.take a ++ W).length = b := by simp; omega
  conv => lhs; arg 1; rw [← l2]
  rw [List.drop_left]
def Good (ser : Nat → Int) (A : List Nat) (a b : Nat) : Prop := (seg A a b).Perm (List.range' a (b - a)) ∧ SrtL ser (seg A a b)
theorem Good.low {ser : Nat → Int} {A : List Nat} {a m b : Nat} (h1 : Good ser A a m) (h2 : Good ser A m b) (ham : a ≤ m) : Low (seg A a m) (seg A m b) := fun u hu v hv => by
  have := h1.1.mem_iff.1 hu
  have := h2.1.mem_iff.1 hv
  simp only [List.mem_range'_1] at *
  omega
theorem Good.merge {ser : Nat → Int} {A W : List Nat} {a m b : Nat} (h1 : Good ser A a m) (h2 : Good ser A m b) (ham : a ≤ m) (hmb : m ≤ b) (hb : b ≤ A.length) (hp : W.Perm (seg A a m ++ seg A m b)) (hs : SrtL ser W) : W.length = b - a ∧ Good ser (putS A a b W) a b := by
  have hl : W.length = b - a := by
    rw [hp.length_eq, List.length_append, seg_len ham (by omega), seg_len hmb hb]
    omega
  refine ⟨hl, ?_, ?_⟩
  · rw [seg_put (by omega) hb hl]
    refine hp.trans ((h1.1.append h2.1).trans ?_)
    have e := List.range'_append_1 (s := a) (m := m - a) (n := b - m)
    rw [show a + (m - a) = m by omega, show m - a + (b - m) = b - a by omega] at e
    rw [e]
  · rw [seg_put (by omega) hb hl]
    exact hs
/-- Blocks of a length, each sorted. -/
def Blk (ser : Nat → Int) (A : List Nat) (bs n : Nat) : Prop := ∀ a, bs ∣ a → a < n → Good ser A a (min (a + bs) n)
theorem dvd_eq {b x y : Nat} (hx : b ∣ x) (hy : b ∣ y) (h : x ≤ y) (h2 : y < x + b) : y = x := by
  have hd : b ∣ y - x := Nat.dvd_sub hy hx
  rcases Nat.eq_zero_or_pos (y - x) with c | c
  · omega
  · have := Nat.le_of_dvd c hd; omega
theorem dvd_gap {b x y : Nat} (hx : b ∣ x) (hy : b ∣ y) (h : x < y) : x + b ≤ y := by
  have hd : b ∣ y - x := Nat.dvd_sub hy hx
  have := Nat.le_of_dvd (by omega) hd
  omega
section
variable {K : VK} {w : World} {ser : Nat → Int} {f : Nat → Value} {nv cv : Value}
/-- One pass: two blocks each become one. -/
theorem st_pass (hC : CmpOk ser f cv) {W0 : World} {bs n : Nat} (hbs : 0 < bs) (hbs2 : bs ≤ n) (hn : n ≤ 10000)
    (h : ∀ A w', Fr (blkS nv) W0 w' → A.length = n → Blk ser A (2 * bs) n → OwnS w' nv 59 2 (RW ser f A) → F59.k16 K nv (.int .i64 (n : Int)) cv (.int .i64 (bs : Int)) w') :
    ∀ (d a : Nat) (A : List Nat) (w : World), n ≤ a + d → a ≤ n → 2 * bs ∣ a → A.length = n → (∀ c, 2 * bs ∣ c → c < a → Good ser A c (c + 2 * bs)) → (∀ c, bs ∣ c → a ≤ c → c < n → Good ser A c (min (c + bs) n)) → Fr (blkS nv) W0 w → OwnS w nv 59 2 (RW ser f A) →
      F59.l9 K nv (.int .i64 (n : Int)) cv (.int .i64 (bs : Int)) (.int .i64 (a : Int)) (.int .i64 ((a + 2 * bs : Nat) : Int)) w := by
  have d2 : bs ∣ 2 * bs := ⟨2, by omega⟩
  -- the end
  have fin : ∀ (a : Nat) (A : List Nat) (w : World), a ≤ n → n < a + 2 * bs → 2 * bs ∣ a → A.length = n → (∀ c, 2 * bs ∣ c → c < a → Good ser A c (c + 2 * bs)) → (∀ c, bs ∣ c → a ≤ c → c < n → Good ser A c (min (c + bs) n)) → Fr (blkS nv) W0 w → OwnS w nv 59 2 (RW ser f A) →
      F59.k13 K nv (.int .i64 (n : Int)) cv (.int .i64 (bs : Int)) (.int .i64 (a : Int)) w := by
    intro a A w han hna hda hA h1 h2 hfr ho
    refine F59.k13.to ?_
    simp only [C.ite_true, C.ite_false, C.pick_true, C.pick_false, C.not_bool, C.field_ptr, C.nilCheck_ptr, C.add_mk, C.sub_mk, C.mul_mk, C.eql_mk, C.neq_mk, C.lss_mk, C.leq_mk, C.gtr_mk, C.geq_mk, C.conv_mk, C.len_mk, C.ext_0, C.ext_1, C.ext3_0, C.ext3_1, C.ext3_2, C.guarded_yes, C.guarded_tf, C.guarded_ft, C.guarded_undef, Bool.not_true, Bool.not_false, Nat.zero_add, eq_self, decide_true, decide_false]
    rw [wrap64_id (n := (a : Int) + (bs : Int)) (by omega), show (a : Int) + (bs : Int) = ((a + bs : Nat) : Int) by omega]
    by_cases c : a + bs < n
    · simp only [C.ite_true, C.ite_false, C.pick_true, C.pick_false, C.not_bool, C.field_ptr, C.nilCheck_ptr, C.add_mk, C.sub_mk, C.mul_mk, C.eql_mk, C.neq_mk, C.lss_mk, C.leq_mk, C.gtr_mk, C.geq_mk, C.conv_mk, C.len_mk, C.ext_0, C.ext_1, C.ext3_0, C.ext3_1, C.ext3_2, C.guarded_yes, C.guarded_tf, C.guarded_ft, C.guarded_undef, Bool.not_true, Bool.not_false, Nat.zero_add, eq_self, decide_true, decide_false, show (((a + bs : Nat) : Int) < (n : Int)) by omega]
      have g1 := h2 a (Nat.dvd_trans d2 hda) (Nat.le_refl _) (by omega)
      have g2 := h2 (a + bs) (Nat.dvd_add (Nat.dvd_trans d2 hda) ⟨1, by omega⟩) (by omega) c
      rw [Nat.min_eq_left (by omega)] at g1
      rw [Nat.min_eq_right (by omega)] at g2
      have lU := seg_len (A := A) (a := a) (b := a + bs) (by omega) (by omega)
      have lV := seg_len (A := A) (a := a + bs) (b := n) (by omega) (by omega)
      have hA1 : A = A.take a ++ (seg A a (a + bs) ++ (seg A (a + bs) n ++ A.drop n)) := by
        have := seg_split (A := A) (a := a) (b := n) han
        rwa [seg_app (m := a + bs) (by omega) (by omega), List.append_assoc] at this
      have ho' := ho
      rw [hA1] at ho'
      refine symMerge_c hC _ _ w (A.take a) (A.drop n) (seg A a (a + bs)) (seg A (a + bs) n) a (a + bs) n (Nat.le_refl _) (by omega) (by omega) (List.length_take_of_le (by omega)) (by omega) (by omega) (by omega) g1.2 g2.2 (g1.low g2 (by omega)) ho' fun W w1 hf1 hp hs ho1 => ?_
      obtain ⟨hl, hg⟩ := g1.merge g2 (by omega) (by omega) (by omega) hp hs
      refine h (putS A a n W) w1 (hfr.trans hf1) (by rw [putS_len han (by omega) hl, hA]) (fun x hx hxn => ?_) ho1
      by_cases e : x < a
      · have := dvd_gap hx hda e
        rw [Nat.min_eq_left (by omega)]
        have g := h1 x hx e
        unfold Good at g ⊢
        rwa [seg_before (by omega) (by omega) (by omega)]
      · have := dvd_eq hda hx (by omega) (by omega)
        subst this
        rw [Nat.min_eq_right (by omega)]
        exact hg
    · simp only [C.ite_true, C.ite_false, C.pick_true, C.pick_false, C.not_bool, C.field_ptr, C.nilCheck_ptr, C.add_mk, C.sub_mk, C.mul_mk, C.eql_mk, C.neq_mk, C.lss_mk, C.leq_mk, C.gtr_mk, C.geq_mk, C.conv_mk, C.len_mk, C.ext_0, C.ext_1, C.ext3_0, C.ext3_1, C.ext3_2, C.guarded_yes, C.guarded_tf, C.guarded_ft, C.guarded_undef, Bool.not_true, Bool.not_false, Nat.zero_add, eq_self, decide_true, decide_false, show ¬ (((a + bs : Nat) : Int) < (n : Int)) by omega]
      refine h A w hfr hA (fun x hx hxn => ?_) ho
      by_cases e : x < a
      · have := dvd_gap hx hda e
        rw [Nat.min_eq_left (by omega)]
        exact h1 x hx e
      · have := dvd_eq hda hx (by omega) (by omega)
        subst this
        have g := h2 x (Nat.dvd_trans d2 hda) (Nat.le_refl _) hxn
        rw [Nat.min_eq_right (by omega)] at g ⊢
        exact g
  intro d
  induction d with
  | zero =>
    intro a A w hd han hda hA h1 h2 hfr ho
    refine F59.l9.to ?_
    simp only [C.ite_true, C.ite_false, C.pick_true, C.pick_false, C.not_bool, C.field_ptr, C.nilCheck_ptr, C.add_mk, C.sub_mk, C.mul_mk, C.eql_mk, C.neq_mk, C.lss_mk, C.leq_mk, C.gtr_mk, C.geq_mk, C.conv_mk, C.len_mk, C.ext_0, C.ext_1, C.ext3_0, C.ext3_1, C.ext3_2, C.guarded_yes, C.guarded_tf, C.guarded_ft, C.guarded_undef, Bool.not_true, Bool.not_false, Nat.zero_add, eq_self, decide_true, decide_false, show ¬ (((a + 2 * bs : Nat) : Int) ≤ (n : Int)) by omega]
    exact fin a A w han (by omega) hda hA h1 h2 hfr ho
  | succ d ih =>
    intro a A w hd han hda hA h1 h2 hfr ho
    by_cases e : a + 2 * bs ≤ n
    · refine F59.l9.to ?_
      simp only [C.ite_true, C.ite_false, C.pick_true, C.pick_false, C.not_bool, C.field_ptr, C.nilCheck_ptr, C.add_mk, C.sub_mk, C.mul_mk, C.eql_mk, C.neq_mk, C.lss_mk, C.leq_mk, C.gtr_mk, C.geq_mk, C.conv_mk, C.len_mk, C.ext_0, C.ext_1, C.ext3_0, C.ext3_1, C.ext3_2, C.guarded_yes, C.guarded_tf, C.guarded_ft, C.guarded_undef, Bool.not_true, Bool.not_false, Nat.zero_add, eq_self, decide_true, decide_false, show (((a + 2 * bs : Nat) : Int) ≤ (n : Int)) by omega]
      refine F59.k10.to ?_
      simp only [C.ite_true, C.ite_false, C.pick_true, C.pick_false, C.not_bool, C.field_ptr, C.nilCheck_ptr, C.add_mk, C.sub_mk, C.mul_mk, C.eql_mk, C.neq_mk, C.lss_mk, C.leq_mk, C.gtr_mk, C.geq_mk, C.conv_mk, C.len_mk, C.ext_0, C.ext_1, C.ext3_0, C.ext3_1, C.ext3_2, C.guarded_yes, C.guarded_tf, C.guarded_ft, C.guarded_undef, Bool.not_true, Bool.not_false, Nat.zero_add, eq_self, decide_true, decide_false]
      rw [wrap64_id (n := (a : Int) + (bs : Int)) (by omega), show (a : Int) + (bs : Int) = ((a + bs : Nat) : Int) by omega]
      have g1 := h2 a (Nat.dvd_trans d2 hda) (Nat.le_refl _) (by omega)
      have g2 := h2 (a + bs) (Nat.dvd_add (Nat.dvd_trans d2 hda) ⟨1, by omega⟩) (by omega) (by omega)
      rw [Nat.min_eq_left (by omega)] at g1 g2
      rw [show a + bs + bs = a + 2 * bs by omega] at g2
      have lU := seg_len (A := A) (a := a) (b := a + bs) (by omega) (by omega)
      have lV := seg_len (A := A) (a := a + bs) (b := a + 2 * bs) (by omega) (by omega)
      have hA1 : A = A.take a ++ (seg A a (a + bs) ++ (seg A (a + bs) (a + 2 * bs) ++ A.drop (a + 2 * bs))) := by
        have := seg_split (A := A) (a := a) (b := a + 2 * bs) (by omega)
        rwa [seg_app (m := a + bs) (by omega) (by omega), List.append_assoc] at this
      have ho' := ho
      rw [hA1] at ho'
      refine symMerge_c hC _ _ w (A.take a) (A.drop (a + 2 * bs)) (seg A a (a + bs)) (seg A (a + bs) (a + 2 * bs)) a (a + bs) (a + 2 * bs) (Nat.le_refl _) (by omega) (by omega) (List.length_take_of_le (by omega)) (by omega) (by omega) (by omega) g1.2 g2.2 (g1.low g2 (by omega)) ho' fun W w1 hf1 hp hs ho1 => ?_
      obtain ⟨hl, hg⟩ := g1.merge g2 (by omega) (by omega) (by omega) hp hs
      try simp only [C.ite_true, C.ite_false, C.pick_true, C.pick_false, C.not_bool, C.field_ptr, C.nilCheck_ptr, C.add_mk, C.sub_mk, C.mul_mk, C.eql_mk, C.neq_mk, C.lss_mk, C.leq_mk, C.gtr_mk, C.geq_mk, C.conv_mk, C.len_mk, C.ext_0, C.ext_1, C.ext3_0, C.ext3_1, C.ext3_2, C.guarded_yes, C.guarded_tf, C.guarded_ft, C.guarded_undef, Bool.not_true, Bool.not_false, Nat.zero_add, eq_self, decide_true, decide_false]
      rw [wrap64_id (n := 2 * (bs : Int)) (by omega), wrap64_id (n := ((a + 2 * bs : Nat) : Int) + 2 * (bs : Int)) (by omega), show ((a + 2 * bs : Nat) : Int) + 2 * (bs : Int) = ((a + 2 * bs + 2 * bs : Nat) : Int) by omega]
      refine ih (a + 2 * bs) (putS A a (a + 2 * bs) W) w1 (by omega) e (Nat.dvd_add hda ⟨1, by omega⟩) (by rw [putS_len (by omega) (by omega) hl, hA]) (fun x hx hxa => ?_) (fun x hx hxa hxn => ?_) (hfr.trans hf1) ho1
      · by_cases c : x < a
        · have := dvd_gap hx hda c
          have g := h1 x hx c
          unfold Good at g ⊢
          rwa [seg_before (by omega) (by omega) (by omega)]
        · have := dvd_eq hda hx (by omega) hxa
          subst this
          exact hg
      · have g := h2 x hx (by omega) hxn
        unfold Good at g ⊢
        rwa [seg_behind (by omega) (by omega) hl hxa]
    · refine F59.l9.to ?_
      simp only [C.ite_true, C.ite_false, C.pick_true, C.pick_false, C.not_bool, C.field_ptr, C.nilCheck_ptr, C.add_mk, C.sub_mk, C.mul_mk, C.eql_mk, C.neq_mk, C.lss_mk, C.leq_mk, C.gtr_mk, C.geq_mk, C.conv_mk, C.len_mk, C.ext_0, C.ext_1, C.ext3_0, C.ext3_1, C.ext3_2, C.guarded_yes, C.guarded_tf, C.guarded_ft, C.guarded_undef, Bool.not_true, Bool.not_false, Nat.zero_add, eq_self, decide_true, decide_false, show ¬ (((a + 2 * bs : Nat) : Int) ≤ (n : Int)) by omega]
      exact fin a A w han (by omega) hda hA h1 h2 hfr ho
theorem st_merge (hC : CmpOk ser f cv) {W0 : World} {n : Nat} (hn : n ≤ 10000) (h : ∀ A w', Fr (blkS nv) W0 w' → A.Perm (List.range n) → SrtL ser A → OwnS w' nv 59 2 (RW ser f A) → K (.tuple #[]) w') :
    ∀ (d bs : Nat) (A : List Nat) (w : World), n ≤ bs + d → 0 < bs → A.length = n → Blk ser A bs n → Fr (blkS nv) W0 w → OwnS w nv 59 2 (RW ser f A) → bs ≤ 20000 → F59.l7 K nv (.int .i64 (n : Int)) cv (.int .i64 (bs : Int)) w := by
  have fin : ∀ (bs : Nat) (A : List Nat) (w : World), n ≤ bs → A.length = n → Blk ser A bs n → Fr (blkS nv) W0 w → OwnS w nv 59 2 (RW ser f A) → F59.l7 K nv (.int .i64 (n : Int)) cv (.int .i64 (bs : Int)) w := by
    intro bs A w hnb hA hB hfr ho
    refine F59.l7.to ?_
    simp only [C.ite_true, C.ite_false, C.pick_true, C.pick_false, C.not_bool, C.field_ptr, C.nilCheck_ptr, C.add_mk, C.sub_mk, C.mul_mk, C.eql_mk, C.neq_mk, C.lss_mk, C.leq_mk, C.gtr_mk, C.geq_mk, C.conv_mk, C.len_mk, C.ext_0, C.ext_1, C.ext3_0, C.ext3_1, C.ext3_2, C.guarded_yes, C.guarded_tf, C.guarded_ft, C.guarded_undef, Bool.not_true, Bool.not_false, Nat.zero_add, eq_self, decide_true, decide_false, show ¬ ((bs : Int) < (n : Int)) by omega]
    rcases Nat.eq_zero_or_pos n with c | c
    · have : A = [] := List.eq_nil_of_length_eq_zero (by omega)
      subst this
      subst c
      exact h [] w hfr (by simp) List.Pairwise.nil ho
    · have g := hB 0 (Nat.dvd_zero _) c
      rw [Nat.zero_add, Nat.min_eq_right hnb] at g
      have e : seg A 0 n = A := by unfold seg; rw [List.drop_zero, Nat.sub_zero, ← hA, List.take_length]
      unfold Good at g
      rw [e, Nat.sub_zero, ← List.range_eq_range'] at g
      exact h A w hfr g.1 g.2 ho
  intro d
  induction d with
  | zero => exact fun bs A w hd h0 hA hB hfr ho _ => fin bs A w (by omega) hA hB hfr ho
  | succ d ih =>
    intro bs A w hd h0 hA hB hfr ho h2
    by_cases e : n ≤ bs
    · exact fin bs A w e hA hB hfr ho
    refine F59.l7.to ?_
    simp only [C.ite_true, C.ite_false, C.pick_true, C.pick_false, C.not_bool, C.field_ptr, C.nilCheck_ptr, C.add_mk, C.sub_mk, C.mul_mk, C.eql_mk, C.neq_mk, C.lss_mk, C.leq_mk, C.gtr_mk, C.geq_mk, C.conv_mk, C.len_mk, C.ext_0, C.ext_1, C.ext3_0, C.ext3_1, C.ext3_2, C.guarded_yes, C.guarded_tf, C.guarded_ft, C.guarded_undef, Bool.not_true, Bool.not_false, Nat.zero_add, eq_self, decide_true, decide_false, show ((bs : Int) < (n : Int)) by omega]
    refine F59.k8.to ?_
    simp only [C.ite_true, C.ite_false, C.pick_true, C.pick_false, C.not_bool, C.field_ptr, C.nilCheck_ptr, C.add_mk, C.sub_mk, C.mul_mk, C.eql_mk, C.neq_mk, C.lss_mk, C.leq_mk, C.gtr_mk, C.geq_mk, C.conv_mk, C.len_mk, C.ext_0, C.ext_1, C.ext3_0, C.ext3_1, C.ext3_2, C.guarded_yes, C.guarded_tf, C.guarded_ft, C.guarded_undef, Bool.not_true, Bool.not_false, Nat.zero_add, eq_self, decide_true, decide_false]
    rw [wrap64_id (n := 2 * (bs : Int)) (by omega), show 2 * (bs : Int) = ((0 + 2 * bs : Nat) : Int) by omega]
    refine st_pass hC h0 (by omega) hn (fun A' w' hf' hA' hB' ho' => ?_) n 0 A w (by omega) (by omega) (Nat.dvd_zero _) hA (fun c _ hc => by omega) (fun c hc _ hcn => hB c hc hcn) hfr ho
    refine F59.k16.to ?_
    simp only [C.ite_true, C.ite_false, C.pick_true, C.pick_false, C.not_bool, C.field_ptr, C.nilCheck_ptr, C.add_mk, C.sub_mk, C.mul_mk, C.eql_mk, C.neq_mk, C.lss_mk, C.leq_mk, C.gtr_mk, C.geq_mk, C.conv_mk, C.len_mk, C.ext_0, C.ext_1, C.ext3_0, C.ext3_1, C.ext3_2, C.guarded_yes, C.guarded_tf, C.guarded_ft, C.guarded_undef, Bool.not_true, Bool.not_false, Nat.zero_add, eq_self, decide_true, decide_false]
    rw [wrap64_id (n := (bs : Int) * 2) (by omega), show (bs : Int) * 2 = ((2 * bs : Nat) : Int) by omega]
    exact ih (2 * bs) A' w' (by omega) (by omega) hA' hB' hf' ho' (by omega)
theorem st_ins (hC : CmpOk ser f cv) {W0 : World} {n : Nat} (hn : n ≤ 10000) (h : ∀ A w', Fr (blkS nv) W0 w' → A.length = n → Blk ser A 20 n → OwnS w' nv 59 2 (RW ser f A) → F59.l7 K nv (.int .i64 (n : Int)) cv (.int .i64 20) w') :
    ∀ (d a : Nat) (A : List Nat) (w : World), n ≤ a + d → a ≤ n → 20 ∣ a → A.length = n → (∀ c, 20 ∣ c → c < a → Good ser A c (c + 20)) → A.drop a = List.range' a (n - a) → Fr (blkS nv) W0 w → OwnS w nv 59 2 (RW ser f A) →
      F59.l2 K nv (.int .i64 (n : Int)) cv (.int .i64 20) (.int .i64 (a : Int)) (.int .i64 ((a + 20 : Nat) : Int)) w := by
  have rise : ∀ a k : Nat, (List.range' a k).Pairwise (· < ·) := fun a k => List.pairwise_lt_range'
  have fin : ∀ (a : Nat) (A : List Nat) (w : World), a ≤ n → n < a + 20 → 20 ∣ a → A.length = n → (∀ c, 20 ∣ c → c < a → Good ser A c (c + 20)) → A.drop a = List.range' a (n - a) → Fr (blkS nv) W0 w → OwnS w nv 59 2 (RW ser f A) →
      F59.k6 K nv (.int .i64 (n : Int)) cv (.int .i64 20) (.int .i64 (a : Int)) w := by
    intro a A w han hna hda hA h1 hdr hfr ho
    have es : seg A a n = List.range' a (n - a) := by unfold seg; rw [hdr, List.take_of_length_le (by simp)]
    have hA1 := seg_split (A := A) (a := a) (b := n) han
    rw [es] at hA1
    have ho' := ho
    rw [hA1] at ho'
    refine F59.k6.to (insertion_c hC (X := A.take a) (Y := A.drop n) (List.length_take_of_le (by omega)) (by simp; omega) (by omega) (rise a (n - a)) ho' fun W w1 hf1 hp hs ho1 => ?_)
    have hl : W.length = n - a := by rw [hp.length_eq]; simp
    refine h (putS A a n W) w1 (hfr.trans hf1) (by rw [putS_len han (by omega) hl, hA]) (fun x hx hxn => ?_) ho1
    by_cases e : x < a
    · have := dvd_gap hx hda e
      rw [Nat.min_eq_left (by omega)]
      have g := h1 x hx e
      unfold Good at g ⊢
      rwa [seg_before (by omega) (by omega) (by omega)]
    · have := dvd_eq hda hx (by omega) (by omega)
      subst this
      rw [Nat.min_eq_right (by omega)]
      unfold Good
      rw [seg_put han (by omega) hl]
      exact ⟨hp, hs⟩
  intro d
  induction d with
  | zero =>
    intro a A w hd han hda hA h1 hdr hfr ho
    refine F59.l2.to ?_
    simp only [C.ite_true, C.ite_false, C.pick_true, C.pick_false, C.not_bool, C.field_ptr, C.nilCheck_ptr, C.add_mk, C.sub_mk, C.mul_mk, C.eql_mk, C.neq_mk, C.lss_mk, C.leq_mk, C.gtr_mk, C.geq_mk, C.conv_mk, C.len_mk, C.ext_0, C.ext_1, C.ext3_0, C.ext3_1, C.ext3_2, C.guarded_yes, C.guarded_tf, C.guarded_ft, C.guarded_undef, Bool.not_true, Bool.not_false, Nat.zero_add, eq_self, decide_true, decide_false, show ¬ (((a + 20 : Nat) : Int) ≤ (n : Int)) by omega]
    exact fin a A w han (by omega) hda hA h1 hdr hfr ho
  | succ d ih =>
    intro a A w hd han hda hA h1 hdr hfr ho
    by_cases e : a + 20 ≤ n
    · refine F59.l2.to ?_
      simp only [C.ite_true, C.ite_false, C.pick_true, C.pick_false, C.not_bool, C.field_ptr, C.nilCheck_ptr, C.add_mk, C.sub_mk, C.mul_mk, C.eql_mk, C.neq_mk, C.lss_mk, C.leq_mk, C.gtr_mk, C.geq_mk, C.conv_mk, C.len_mk, C.ext_0, C.ext_1, C.ext3_0, C.ext3_1, C.ext3_2, C.guarded_yes, C.guarded_tf, C.guarded_ft, C.guarded_undef, Bool.not_true, Bool.not_false, Nat.zero_add, eq_self, decide_true, decide_false, show (((a + 20 : Nat) : Int) ≤ (n : Int)) by omega]
      have es : seg A a (a + 20) = List.range' a 20 := by
        unfold seg
        have e2 := List.range'_append_1 (s := a) (m := 20) (n := n - a - 20)
        rw [show 20 + (n - a - 20) = n - a by omega] at e2
        rw [hdr, ← e2, show a + 20 - a = 20 by omega]
        exact List.take_left' (by simp)
      have hA1 := seg_split (A := A) (a := a) (b := a + 20) (by omega)
      rw [es] at hA1
      have ho' := ho
      rw [hA1] at ho'
      refine F59.k3.to (insertion_c hC (X := A.take a) (Y := A.drop (a + 20)) (List.length_take_of_le (by omega)) (by simp) (by omega) (rise a 20) ho' fun W w1 hf1 hp hs ho1 => ?_)
      have hl : W.length = a + 20 - a := by rw [hp.length_eq]; simp
      try simp only [C.ite_true, C.ite_false, C.pick_true, C.pick_false, C.not_bool, C.field_ptr, C.nilCheck_ptr, C.add_mk, C.sub_mk, C.mul_mk, C.eql_mk, C.neq_mk, C.lss_mk, C.leq_mk, C.gtr_mk, C.geq_mk, C.conv_mk, C.len_mk, C.ext_0, C.ext_1, C.ext3_0, C.ext3_1, C.ext3_2, C.guarded_yes, C.guarded_tf, C.guarded_ft, C.guarded_undef, Bool.not_true, Bool.not_false, Nat.zero_add, eq_self, decide_true, decide_false]
      rw [wrap64_id (n := ((a + 20 : Nat) : Int) + 20) (by omega), show ((a + 20 : Nat) : Int) + 20 = ((a + 20 + 20 : Nat) : Int) by omega]
      refine ih (a + 20) (putS A a (a + 20) W) w1 (by omega) e (Nat.dvd_add hda ⟨1, rfl⟩) (by rw [putS_len (by omega) (by omega) hl, hA]) (fun x hx hxa => ?_) ?_ (hfr.trans hf1) ho1
      · by_cases c : x < a
        · have := dvd_gap hx hda c
          have g := h1 x hx c
          unfold Good at g ⊢
          rwa [seg_before (by omega) (by omega) (by omega)]
        · have := dvd_eq hda hx (by omega) hxa
          subst this
          unfold Good
          rw [seg_put (by omega) (by omega) hl, show x + 20 - x = 20 by omega]
          exact ⟨hp, hs⟩
      · rw [drop_put (by omega) (by omega) hl]
        have := congrArg (List.drop 20) hdr
        rw [List.drop_drop, List.drop_range'] at this
        rw [this]
        congr 1
    · refine F59.l2.to ?_
      simp only [C.ite_true, C.ite_false, C.pick_true, C.pick_false, C.not_bool, C.field_ptr, C.nilCheck_ptr, C.add_mk, C.sub_mk, C.mul_mk, C.eql_mk, C.neq_mk, C.lss_mk, C.leq_mk, C.gtr_mk, C.geq_mk, C.conv_mk, C.len_mk, C.ext_0, C.ext_1, C.ext3_0, C.ext3_1, C.ext3_2, C.guarded_yes, C.guarded_tf, C.guarded_ft, C.guarded_undef, Bool.not_true, Bool.not_false, Nat.zero_add, eq_self, decide_true, decide_false, show ¬ (((a + 20 : Nat) : Int) ≤ (n : Int)) by omega]
      exact fin a A w han (by omega) hda hA h1 hdr hfr ho
theorem SortStable_c (hC : CmpOk ser f cv) {n : Nat} (hn : n ≤ 10000) (ho : OwnS w nv 59 2 (RW ser f (List.range n))) (h : ∀ A w', Fr (blkS nv) w w' → A.Perm (List.range n) → SrtL ser A → OwnS w' nv 59 2 (RW ser f A) → K (.tuple #[]) w') :
    C.call Try.prog 41 #[nv, cv] w K := by
  refine F41.sh (C.len_rd ho.rd ?_)
  rw [RW_len, List.length_range]
  refine F59.sh ?_
  have := st_ins (K := fun _ w2 => K (.tuple #[]) w2) hC hn (fun A w1 hf1 hA hB ho1 => st_merge (K := fun _ w2 => K (.tuple #[]) w2) hC hn (fun A w2 hf2 hp hs ho2 => h A w2 hf2 hp hs ho2) n 20 A w1 (by omega) (by omega) hA hB hf1 ho1 (by omega)) n 0 (List.range n) w (by omega) (by omega) (Nat.dvd_zero _) (by simp) (fun c _ hc => by omega) (by rw [List.drop_zero, Nat.sub_zero, List.range_eq_range']) (Fr.refl _ _) ho
  exact this
end
end Go.Proofs.YtfjilngljnlkjaaV
