/- Sorting that keeps the order of equals, by the library: swaps, rotation, insertion. -/
import Derived.Test.YtfjilngljnlkjaaLibSt1
import Derived.Test.YtfjilngljnlkjaaGStab
import Derived.Test.YtfjilngljnlkjaaLibOwn
import Derived.Test.YtfjilngljnlkjaaBits
namespace Go.Proofs.YtfjilngljnlkjaaV
open Go Go.Proofs Go.RowKit
set_option linter.unusedVariables false
set_option linter.unusedSimpArgs false
set_option maxRecDepth 10000
/-! ### 1. Lists -/
theorem seg_get {α : Type} {X V Y : List α} {k : Nat} (h : k < V.length) : (X ++ (V ++ Y))[X.length + k]? = some V[k] := by
  rw [List.getElem?_append_right (by omega), List.getElem?_append_left (by omega), List.getElem?_eq_getElem (by omega)]
  simp
theorem seg_set {α : Type} {X Z : List α} {p q : α} : (X ++ p :: Z).set X.length q = X ++ q :: Z := by
  rw [List.set_append_right _ _ (Nat.le_refl _), Nat.sub_self]
  rfl
theorem seg_swap {α : Type} {X M Y : List α} {p q : α} : ((X ++ p :: (M ++ q :: Y)).set X.length q).set (X.length + 1 + M.length) p = X ++ q :: (M ++ p :: Y) := by
  rw [seg_set, List.set_append_right _ _ (by omega), show X.length + 1 + M.length - X.length = M.length + 1 by omega, List.set_cons_succ, seg_set]
theorem seg_swap' {α : Type} {X M Y : List α} {p q : α} : ((X ++ p :: (M ++ q :: Y)).set (X.length + 1 + M.length) p).set X.length q = X ++ q :: (M ++ p :: Y) := by
  rw [List.set_append_right _ _ (by omega), show X.length + 1 + M.length - X.length = M.length + 1 by omega, List.set_cons_succ, seg_set, seg_set]
/-! ### 2. A row -/
def rw2 (ser : Nat → Int) (f : Nat → Value) (i : Nat) : List Value := [.int .i64 (ser i), f i]
def RW (ser : Nat → Int) (f : Nat → Value) (A : List Nat) : List (List Value) := A.map (rw2 ser f)
theorem RW_len (ser : Nat → Int) (f : Nat → Value) (A : List Nat) : (RW ser f A).length = A.length := by simp [RW]
theorem RW_get {ser : Nat → Int} {f : Nat → Value} {A : List Nat} {k i : Nat} (h : A[k]? = some i) : (RW ser f A)[k]? = some (rw2 ser f i) := by simp [RW, h]
theorem RW_set (ser : Nat → Int) (f : Nat → Value) (A : List Nat) (k i : Nat) : (RW ser f A).set k (rw2 ser f i) = RW ser f (A.set k i) := by simp [RW, List.map_set]
def cmpI (a b : Int) : Int := if a < b then -1 else if a > b then 1 else 0
theorem cmpI_lt (a b : Int) : cmpI a b < 0 ↔ a < b := by
  unfold cmpI
  split
  · simp; assumption
  · split
    · simp; omega
    · simp; omega
section
variable {K : VK} {w : World} {ser : Nat → Int} {f : Nat → Value} {nv cv : Value}
/-- The row's element at a place, loaded. -/
theorem row_load {A : List Nat} {k i : Nat} {F : VK} (ho : OwnS w nv 59 2 (RW ser f A)) (h : A[k]? = some i) (hk : F (.agg #[.int .i64 (ser i), f i]) w) : C.idx 2 nv (.int .i64 (k : Int)) w fun p w1 => C.loadA 2 p w1 F :=
  C.idx_rd ho.rd (by omega) (by rw [Int.toNat_natCast]; exact RW_get h) fun g o cs e fz hg hl hc => C.loadA_cells (x := rw2 ser f i) hg hl (by omega) hc (by simpa [rw2] using hk)
/-- Two elements, loaded in any order, and put, each where the other was. -/
theorem row_swap (hf : ∀ i, (f i).oneCell' = true ∧ (f i).cells = #[f i]) {A : List Nat} {P Q i j : Nat} {F : World → Prop} (ho : OwnS w nv 59 2 (RW ser f A)) (hP : A[P]? = some i) (hQ : A[Q]? = some j)
    (hk : ∀ w', Fr (blkS nv) w w' → OwnS w' nv 59 2 (RW ser f ((A.set Q i).set P j)) → F w') :
    C.idx 2 nv (.int .i64 (P : Int)) w fun pP w4 => C.idx 2 nv (.int .i64 (Q : Int)) w4 fun pQ w5 => (C.loadA 2 pP w5 fun x w12 => C.loadA 2 pQ w12 fun y w13 => C.idx 2 nv (.int .i64 (Q : Int)) w13 fun q w14 => C.store 2 q x w14 fun w15 => C.idx 2 nv (.int .i64 (P : Int)) w15 fun p w16 => C.store 2 p y w16 F) ∧
      (C.loadA 2 pQ w5 fun y w6 => C.loadA 2 pP w6 fun x w7 => C.idx 2 nv (.int .i64 (Q : Int)) w7 fun q w8 => C.store 2 q x w8 fun w9 => C.idx 2 nv (.int .i64 (P : Int)) w9 fun p w10 => C.store 2 p y w10 F) := by
  have c1 : ∀ i, (Value.agg #[.int .i64 (ser i), f i]).cells = #[.int .i64 (ser i), f i] := fun i => by simp [Value.cells, (hf i).2]
  have c2 : ∀ i, ∀ u ∈ (Value.agg #[.int .i64 (ser i), f i]).cells.toList, u.oneCell' = true := fun i u hu => by
    rw [c1] at hu
    simp only [List.mem_cons, List.not_mem_nil, or_false] at hu
    rcases hu with rfl | rfl
    · rfl
    · exact (hf i).1
  have lP : P < A.length := (List.getElem?_eq_some_iff.1 hP).1
  have lQ : Q < A.length := (List.getElem?_eq_some_iff.1 hQ).1
  have last : C.idx 2 nv (.int .i64 (Q : Int)) w fun q w14 => C.store 2 q (.agg #[.int .i64 (ser i), f i]) w14 fun w15 => C.idx 2 nv (.int .i64 (P : Int)) w15 fun p w16 => C.store 2 p (.agg #[.int .i64 (ser j), f j]) w16 F := by
    refine C.storeAt_own ho (by omega) (by rw [Int.toNat_natCast, RW_len]; exact lQ) (by rw [c1]; rfl) (c2 i) fun w1 ho1 hf1 _ => ?_
    have e1 : (RW ser f A).set (Q : Int).toNat (Value.agg #[.int .i64 (ser i), f i]).cells.toList = RW ser f (A.set Q i) := by
      rw [Int.toNat_natCast, c1]
      exact RW_set ser f A Q i
    rw [e1] at ho1
    refine C.storeAt_own ho1 (by omega) (by rw [Int.toNat_natCast, RW_len, List.length_set]; exact lP) (by rw [c1]; rfl) (c2 j) fun w2 ho2 hf2 _ => ?_
    have e2 : (RW ser f (A.set Q i)).set (P : Int).toNat (Value.agg #[.int .i64 (ser j), f j]).cells.toList = RW ser f ((A.set Q i).set P j) := by
      rw [Int.toNat_natCast, c1]
      exact RW_set ser f _ P j
    rw [e2] at ho2
    exact hk w2 (hf1.trans hf2) ho2
  refine C.idx_rd ho.rd (by omega) (by rw [Int.toNat_natCast]; exact RW_get hP) fun g o cs e fz hg hl hc => C.idx_rd ho.rd (by omega) (by rw [Int.toNat_natCast]; exact RW_get hQ) fun g' o' cs' e' fz' hg' hl' hc' => ?_
  exact ⟨C.loadA_cells (x := rw2 ser f i) hg hl (by omega) hc (C.loadA_cells (x := rw2 ser f j) hg' hl' (by omega) hc' (by simpa [rw2] using last)), C.loadA_cells (x := rw2 ser f j) hg' hl' (by omega) hc' (C.loadA_cells (x := rw2 ser f i) hg hl (by omega) hc (by simpa [rw2] using last))⟩
/-! ### 3. Ranges swapped; rotation -/
theorem swapRange_loop (hf : ∀ i, (f i).oneCell' = true ∧ (f i).cells = #[f i]) {W0 : World} {X M Y : List Nat} {a b n : Nat} (hX : X.length = a) (hn : a + n + M.length = b) (hb : b + n ≤ 1000000) (P Q : List Nat) (hPn : P.length = n) (hQn : Q.length = n)
    (h : ∀ w', Fr (blkS nv) W0 w' → OwnS w' nv 59 2 (RW ser f (X ++ (Q ++ (M ++ (P ++ Y))))) → K (.tuple #[]) w') :
    ∀ (P2 Q2 P1 Q1 : List Nat) (w : World), P = P1 ++ P2 → Q = Q1 ++ Q2 → P1.length = Q1.length → Fr (blkS nv) W0 w → OwnS w nv 59 2 (RW ser f (X ++ (Q1 ++ (P2 ++ (M ++ (P1 ++ (Q2 ++ Y))))))) →
      F96.l1 K nv (.int .i64 (a : Int)) (.int .i64 (b : Int)) (.int .i64 (n : Int)) (.int .i64 (P1.length : Int)) w := by
  intro P2
  induction P2 with
  | nil =>
    intro Q2 P1 Q1 w hP hQ hl hfr ho
    have e : Q2 = [] := List.eq_nil_of_length_eq_zero (by rw [hQ] at hQn; rw [hP] at hPn; simp at hQn hPn; omega)
    subst e
    simp only [List.append_nil] at hP hQ
    subst hP; subst hQ
    refine F96.l1.to ?_
    simp only [C.ite_true, C.ite_false, C.pick_true, C.pick_false, C.not_bool, C.field_ptr, C.nilCheck_ptr, C.add_mk, C.sub_mk, C.mul_mk, C.eql_mk, C.neq_mk, C.lss_mk, C.leq_mk, C.gtr_mk, C.geq_mk, C.conv_mk, C.len_mk, C.ext_0, C.ext_1, C.ext3_0, C.ext3_1, C.ext3_2, C.guarded_yes, C.guarded_tf, C.guarded_ft, C.guarded_undef, Bool.not_true, Bool.not_false, Nat.zero_add, eq_self, decide_true, decide_false, show ¬ ((P.length : Int) < (n : Int)) by omega]
    exact h w hfr (by simpa using ho)
  | cons p P2 ih =>
    intro Q2 P1 Q1 w hP hQ hl hfr ho
    cases Q2 with
    | nil => rw [hQ] at hQn; rw [hP] at hPn; simp at hQn hPn; omega
    | cons q Q2 =>
      have hln : P1.length < n := by rw [hP] at hPn; simp at hPn; omega
      refine F96.l1.to ?_
      simp only [C.ite_true, C.ite_false, C.pick_true, C.pick_false, C.not_bool, C.field_ptr, C.nilCheck_ptr, C.add_mk, C.sub_mk, C.mul_mk, C.eql_mk, C.neq_mk, C.lss_mk, C.leq_mk, C.gtr_mk, C.geq_mk, C.conv_mk, C.len_mk, C.ext_0, C.ext_1, C.ext3_0, C.ext3_1, C.ext3_2, C.guarded_yes, C.guarded_tf, C.guarded_ft, C.guarded_undef, Bool.not_true, Bool.not_false, Nat.zero_add, eq_self, decide_true, decide_false, show ((P1.length : Int) < (n : Int)) by omega]
      refine F96.k3.to (C.draw_of (fun _ => True) fun w1 hf1 he1 => ⟨trivial, ?_⟩)
      simp only [C.ite_true, C.ite_false, C.pick_true, C.pick_false, C.not_bool, C.field_ptr, C.nilCheck_ptr, C.add_mk, C.sub_mk, C.mul_mk, C.eql_mk, C.neq_mk, C.lss_mk, C.leq_mk, C.gtr_mk, C.geq_mk, C.conv_mk, C.len_mk, C.ext_0, C.ext_1, C.ext3_0, C.ext3_1, C.ext3_2, C.guarded_yes, C.guarded_tf, C.guarded_ft, C.guarded_undef, Bool.not_true, Bool.not_false, Nat.zero_add, eq_self, decide_true, decide_false, true_and, and_true]
      rw [wrap64_id (n := (a : Int) + (P1.length : Int)) (by omega), wrap64_id (n := (b : Int) + (P1.length : Int)) (by omega), show (a : Int) + (P1.length : Int) = ((a + P1.length : Nat) : Int) by omega, show (b : Int) + (P1.length : Int) = ((b + P1.length : Nat) : Int) by omega]
      have hA : X ++ (Q1 ++ (p :: P2 ++ (M ++ (P1 ++ (q :: Q2 ++ Y))))) = (X ++ Q1) ++ p :: ((P2 ++ (M ++ P1)) ++ q :: (Q2 ++ Y)) := by simp
      rw [hA] at ho
      have la : (X ++ Q1).length = a + P1.length := by simp [hX, hl]
      have lb : (X ++ Q1).length + 1 + (P2 ++ (M ++ P1)).length = b + P1.length := by
        rw [hP] at hPn
        simp at hPn ⊢
        omega
      have gP : ((X ++ Q1) ++ p :: ((P2 ++ (M ++ P1)) ++ q :: (Q2 ++ Y)))[a + P1.length]? = some p := by rw [← la]; simp
      have gQ : ((X ++ Q1) ++ p :: ((P2 ++ (M ++ P1)) ++ q :: (Q2 ++ Y)))[b + P1.length]? = some q := by
        rw [← lb, List.getElem?_append_right (by omega), show (X ++ Q1).length + 1 + (P2 ++ (M ++ P1)).length - (X ++ Q1).length = (P2 ++ (M ++ P1)).length + 1 by omega, List.getElem?_cons_succ]
        rw [List.getElem?_append_right (Nat.le_refl _)]
        simp
      refine row_swap hf (ho.keep hf1 (by simp)) gQ gP fun w2 hf2 ho2 => ?_
      have e2 : (((X ++ Q1) ++ p :: ((P2 ++ (M ++ P1)) ++ q :: (Q2 ++ Y))).set (a + P1.length) q).set (b + P1.length) p = X ++ ((Q1 ++ [q]) ++ (P2 ++ (M ++ ((P1 ++ [p]) ++ (Q2 ++ Y))))) := by
        rw [← la, ← lb, seg_swap]
        simp
      rw [e2] at ho2
      refine F96.k2.to ?_
      simp only [C.ite_true, C.ite_false, C.pick_true, C.pick_false, C.not_bool, C.field_ptr, C.nilCheck_ptr, C.add_mk, C.sub_mk, C.mul_mk, C.eql_mk, C.neq_mk, C.lss_mk, C.leq_mk, C.gtr_mk, C.geq_mk, C.conv_mk, C.len_mk, C.ext_0, C.ext_1, C.ext3_0, C.ext3_1, C.ext3_2, C.guarded_yes, C.guarded_tf, C.guarded_ft, C.guarded_undef, Bool.not_true, Bool.not_false, Nat.zero_add, eq_self, decide_true, decide_false]
      rw [wrap64_id (n := (P1.length : Int) + 1) (by omega), show (P1.length : Int) + 1 = ((P1 ++ [p]).length : Int) by simp]
      exact ih Q2 (P1 ++ [p]) (Q1 ++ [q]) w2 (by simp [hP]) (by simp [hQ]) (by simp [hl]) (hfr.trans (hf1.w.trans hf2)) ho2
theorem swapRange_c (hf : ∀ i, (f i).oneCell' = true ∧ (f i).cells = #[f i]) {X P M Q Y : List Nat} {a b n : Nat} (hX : X.length = a) (hPn : P.length = n) (hQn : Q.length = n) (hn : a + n + M.length = b) (hb : b + n ≤ 1000000) (ho : OwnS w nv 59 2 (RW ser f (X ++ (P ++ (M ++ (Q ++ Y))))))
    (h : ∀ w', Fr (blkS nv) w w' → OwnS w' nv 59 2 (RW ser f (X ++ (Q ++ (M ++ (P ++ Y))))) → K (.tuple #[]) w') : C.call Try.prog 96 #[nv, .int .i64 (a : Int), .int .i64 (b : Int), .int .i64 (n : Int), cv] w K :=
  F96.sh (swapRange_loop hf hX hn hb P Q hPn hQn h P Q [] [] w rfl rfl rfl (Fr.refl _ _) (by simpa using ho))
/-- U and V, one behind the other, become V and U. -/
theorem rotate_loop (hf : ∀ i, (f i).oneCell' = true ∧ (f i).cells = #[f i]) {W0 : World} {m : Nat} {T : List Nat} (h : ∀ w', Fr (blkS nv) W0 w' → OwnS w' nv 59 2 (RW ser f T) → K (.tuple #[]) w') :
    ∀ (d : Nat) (X U V Y : List Nat) (w : World), U.length + V.length ≤ d → 0 < U.length → 0 < V.length → X.length + U.length = m → m + V.length ≤ 100000 → T = X ++ (V ++ (U ++ Y)) → Fr (blkS nv) W0 w → OwnS w nv 59 2 (RW ser f (X ++ (U ++ (V ++ Y)))) →
      F94.l2 K nv (.int .i64 (m : Int)) cv (.int .i64 (U.length : Int)) (.int .i64 (V.length : Int)) w := by
  intro d
  induction d with
  | zero => intro X U V Y w hd hU; omega
  | succ d ih =>
    intro X U V Y w hd hU hV hm hb hT hfr ho
    refine F94.l2.to ?_
    by_cases e : U.length = V.length
    · rw [C.neq_mk, decide_eq_false (by simp [e]), C.ite_false]
      refine F94.k8.to ?_
      simp only [C.ite_true, C.ite_false, C.pick_true, C.pick_false, C.not_bool, C.field_ptr, C.nilCheck_ptr, C.add_mk, C.sub_mk, C.mul_mk, C.eql_mk, C.neq_mk, C.lss_mk, C.leq_mk, C.gtr_mk, C.geq_mk, C.conv_mk, C.len_mk, C.ext_0, C.ext_1, C.ext3_0, C.ext3_1, C.ext3_2, C.guarded_yes, C.guarded_tf, C.guarded_ft, C.guarded_undef, Bool.not_true, Bool.not_false, Nat.zero_add, eq_self, decide_true, decide_false]
      rw [wrap64_id (n := (m : Int) - (U.length : Int)) (by omega), show (m : Int) - (U.length : Int) = (X.length : Int) by omega]
      refine swapRange_c hf (X := X) (P := U) (M := []) (Q := V) (Y := Y) rfl rfl e.symm (by simp; omega) (by omega) (by simpa using ho) fun w1 hf1 ho1 => h w1 (hfr.trans hf1) ?_
      rw [hT]
      simpa using ho1
    · rw [C.neq_mk, decide_eq_true (show (U.length : Int) ≠ (V.length : Int) by omega), C.ite_true]
      refine F94.k3.to ?_
      by_cases g : U.length > V.length
      · simp only [C.ite_true, C.ite_false, C.pick_true, C.pick_false, C.not_bool, C.field_ptr, C.nilCheck_ptr, C.add_mk, C.sub_mk, C.mul_mk, C.eql_mk, C.neq_mk, C.lss_mk, C.leq_mk, C.gtr_mk, C.geq_mk, C.conv_mk, C.len_mk, C.ext_0, C.ext_1, C.ext3_0, C.ext3_1, C.ext3_2, C.guarded_yes, C.guarded_tf, C.guarded_ft, C.guarded_undef, Bool.not_true, Bool.not_false, Nat.zero_add, eq_self, decide_true, decide_false, show ((U.length : Int) > (V.length : Int)) by omega]
        rw [wrap64_id (n := (m : Int) - (U.length : Int)) (by omega), show (m : Int) - (U.length : Int) = (X.length : Int) by omega]
        -- the first part of U is as long as V
        have eU : U = U.take V.length ++ U.drop V.length := (List.take_append_drop _ _).symm
        have l1 : (U.take V.length).length = V.length := List.length_take_of_le (by omega)
        have l2 : (U.drop V.length).length = U.length - V.length := List.length_drop
        generalize U.take V.length = P at eU l1
        generalize U.drop V.length = Q at eU l2
        subst eU
        refine swapRange_c hf (X := X) (P := P) (M := Q) (Q := V) (Y := Y) rfl l1 rfl (by simp at hm ⊢; omega) (by omega) (by simpa using ho) fun w1 hf1 ho1 => ?_
        rw [wrap64_id (n := ((P ++ Q).length : Int) - (V.length : Int)) (by omega), show ((P ++ Q).length : Int) - (V.length : Int) = (Q.length : Int) by simp; omega]
        have := ih (X ++ V) Q P Y w1 (by simp at hd; omega) (by simp at l2 g; omega) (by omega) (by simp at hm ⊢; omega) (by omega) (by rw [hT]; simp) (hfr.trans hf1) (by simpa using ho1)
        rw [l1] at this
        exact this
      · simp only [C.ite_true, C.ite_false, C.pick_true, C.pick_false, C.not_bool, C.field_ptr, C.nilCheck_ptr, C.add_mk, C.sub_mk, C.mul_mk, C.eql_mk, C.neq_mk, C.lss_mk, C.leq_mk, C.gtr_mk, C.geq_mk, C.conv_mk, C.len_mk, C.ext_0, C.ext_1, C.ext3_0, C.ext3_1, C.ext3_2, C.guarded_yes, C.guarded_tf, C.guarded_ft, C.guarded_undef, Bool.not_true, Bool.not_false, Nat.zero_add, eq_self, decide_true, decide_false, show ¬ ((U.length : Int) > (V.length : Int)) by omega]
        rw [wrap64_id (n := (m : Int) - (U.length : Int)) (by omega), wrap64_id (n := (m : Int) + (V.length : Int)) (by omega), wrap64_id (n := (m : Int) + (V.length : Int) - (U.length : Int)) (by omega), show (m : Int) - (U.length : Int) = (X.length : Int) by omega, show (m : Int) + (V.length : Int) - (U.length : Int) = ((m + V.length - U.length : Nat) : Int) by omega]
        have eV : V = V.take (V.length - U.length) ++ V.drop (V.length - U.length) := (List.take_append_drop _ _).symm
        have l1 : (V.take (V.length - U.length)).length = V.length - U.length := List.length_take_of_le (by omega)
        have l2 : (V.drop (V.length - U.length)).length = U.length := by rw [List.length_drop]; omega
        generalize V.take (V.length - U.length) = P at eV l1
        generalize V.drop (V.length - U.length) = Q at eV l2
        subst eV
        refine swapRange_c hf (X := X) (P := U) (M := P) (Q := Q) (Y := Y) rfl rfl l2 (by simp; omega) (by simp at hb ⊢; omega) (by simpa using ho) fun w1 hf1 ho1 => ?_
        rw [wrap64_id (n := ((P ++ Q).length : Int) - (U.length : Int)) (by omega), show ((P ++ Q).length : Int) - (U.length : Int) = (P.length : Int) by simp; omega]
        have hPQ : (P ++ Q).length = P.length + Q.length := by simp
        have := ih X Q P (U ++ Y) w1 (by omega) (by omega) (by omega) (by omega) (by simp at hb; omega) (by rw [hT]; simp) (hfr.trans hf1) (by simpa using ho1)
        rw [l2] at this
        exact this
theorem rotate_c (hf : ∀ i, (f i).oneCell' = true ∧ (f i).cells = #[f i]) {X U V Y : List Nat} {a m b : Nat} (hU : 0 < U.length) (hV : 0 < V.length) (hX : X.length = a) (hm : a + U.length = m) (hb : m + V.length = b) (hbb : b ≤ 100000) (ho : OwnS w nv 59 2 (RW ser f (X ++ (U ++ (V ++ Y)))))
    (h : ∀ w', Fr (blkS nv) w w' → OwnS w' nv 59 2 (RW ser f (X ++ (V ++ (U ++ Y)))) → K (.tuple #[]) w') : C.call Try.prog 94 #[nv, .int .i64 (a : Int), .int .i64 (m : Int), .int .i64 (b : Int), cv] w K := by
  refine F94.sh ?_
  simp only [C.ite_true, C.ite_false, C.pick_true, C.pick_false, C.not_bool, C.field_ptr, C.nilCheck_ptr, C.add_mk, C.sub_mk, C.mul_mk, C.eql_mk, C.neq_mk, C.lss_mk, C.leq_mk, C.gtr_mk, C.geq_mk, C.conv_mk, C.len_mk, C.ext_0, C.ext_1, C.ext3_0, C.ext3_1, C.ext3_2, C.guarded_yes, C.guarded_tf, C.guarded_ft, C.guarded_undef, Bool.not_true, Bool.not_false, Nat.zero_add, eq_self, decide_true, decide_false]
  rw [wrap64_id (n := (m : Int) - (a : Int)) (by omega), wrap64_id (n := (b : Int) - (m : Int)) (by omega), show (m : Int) - (a : Int) = (U.length : Int) by omega, show (b : Int) - (m : Int) = (V.length : Int) by omega]
  exact rotate_loop hf h _ X U V Y w (Nat.le_refl _) hU hV (by omega) (by omega) rfl (Fr.refl _ _) ho
end
end Go.Proofs.YtfjilngljnlkjaaV
