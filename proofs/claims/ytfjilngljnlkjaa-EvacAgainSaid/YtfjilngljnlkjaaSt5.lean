/- Sorting that keeps the order of equals, by the library: the merge; the whole. -/
import Derived.Test.YtfjilngljnlkjaaSt4
namespace Go.Proofs.YtfjilngljnlkjaaV
open Go Go.Proofs Go.RowKit
set_option linter.unusedVariables false
set_option linter.unusedSimpArgs false
set_option maxRecDepth 10000
section
variable {K : VK} {w : World} {ser : Nat → Int} {f : Nat → Value} {nv cv : Value}
/-- The search for the middle. -/
theorem sm_mid (hC : CmpOk ser f cv) {W0 : World} {X Y U V : List Nat} {a m b mid s0 r0 : Nat} (hX : X.length = a) (hm : a + U.length = m) (hbl : m + V.length = b) (hb : b ≤ 100000)
    (hs0 : a ≤ s0) (hr0 : r0 ≤ m) (hr1 : r0 ≤ mid) (hlo : mid + m ≤ s0 + b)
    (h : ∀ s w', Fr [] W0 w' → s0 ≤ s → s ≤ r0 → (s0 < s → ∀ (h1 : s - 1 - a < U.length) (h2 : mid - s < V.length), ser U[s - 1 - a] ≤ ser V[mid - s]) → (s < r0 → ∀ (h1 : s - a < U.length) (h2 : mid - 1 - s < V.length), ser V[mid - 1 - s] < ser U[s - a]) →
      F84.k38 K nv (.int .i64 (a : Int)) (.int .i64 (m : Int)) (.int .i64 (b : Int)) cv (.int .i64 (mid : Int)) (.int .i64 ((mid + m : Nat) : Int)) (.int .i64 (s : Int)) w') (ho0 : OwnS W0 nv 59 2 (RW ser f (X ++ (U ++ (V ++ Y))))) :
    ∀ (d s r : Nat) (w : World), r ≤ s + d → s0 ≤ s → s ≤ r → r ≤ r0 → (s0 < s → ∀ (h1 : s - 1 - a < U.length) (h2 : mid - s < V.length), ser U[s - 1 - a] ≤ ser V[mid - s]) → (r < r0 → ∀ (h1 : r - a < U.length) (h2 : mid - 1 - r < V.length), ser V[mid - 1 - r] < ser U[r - a]) → Fr [] W0 w →
      F84.l33 K nv (.int .i64 (a : Int)) (.int .i64 (m : Int)) (.int .i64 (b : Int)) cv (.int .i64 (mid : Int)) (.int .i64 ((mid + m : Nat) : Int)) (.int .i64 (s : Int)) (.int .i64 (r : Int)) (.int .i64 ((mid + m : Nat) - 1 : Int)) w := by
  have fin : ∀ (s r : Nat) (w : World), r = s → s0 ≤ s → r ≤ r0 → (s0 < s → ∀ (h1 : s - 1 - a < U.length) (h2 : mid - s < V.length), ser U[s - 1 - a] ≤ ser V[mid - s]) → (r < r0 → ∀ (h1 : r - a < U.length) (h2 : mid - 1 - r < V.length), ser V[mid - 1 - r] < ser U[r - a]) → Fr [] W0 w →
      F84.l33 K nv (.int .i64 (a : Int)) (.int .i64 (m : Int)) (.int .i64 (b : Int)) cv (.int .i64 (mid : Int)) (.int .i64 ((mid + m : Nat) : Int)) (.int .i64 (s : Int)) (.int .i64 (r : Int)) (.int .i64 ((mid + m : Nat) - 1 : Int)) w := by
    intro s r w e h1 h2 h3 h4 hfr
    subst e
    refine F84.l33.to ?_
    simp only [C.ite_true, C.ite_false, C.pick_true, C.pick_false, C.not_bool, C.field_ptr, C.nilCheck_ptr, C.add_mk, C.sub_mk, C.mul_mk, C.eql_mk, C.neq_mk, C.lss_mk, C.leq_mk, C.gtr_mk, C.geq_mk, C.conv_mk, C.len_mk, C.ext_0, C.ext_1, C.ext3_0, C.ext3_1, C.ext3_2, C.guarded_yes, C.guarded_tf, C.guarded_ft, C.guarded_undef, Bool.not_true, Bool.not_false, Nat.zero_add, eq_self, decide_true, decide_false, show ¬ ((r : Int) < (r : Int)) by omega]
    exact h r w hfr h1 h2 h3 h4
  intro d
  induction d with
  | zero => exact fun s r w hd h1 h2 h3 h4 h5 hfr => fin s r w (by omega) h1 h3 h4 h5 hfr
  | succ d ih =>
    intro s r w hd h1 h2 h3 h4 h5 hfr
    by_cases e : r = s
    · exact fin s r w e h1 h3 h4 h5 hfr
    refine F84.l33.to ?_
    simp only [C.ite_true, C.ite_false, C.pick_true, C.pick_false, C.not_bool, C.field_ptr, C.nilCheck_ptr, C.add_mk, C.sub_mk, C.mul_mk, C.eql_mk, C.neq_mk, C.lss_mk, C.leq_mk, C.gtr_mk, C.geq_mk, C.conv_mk, C.len_mk, C.ext_0, C.ext_1, C.ext3_0, C.ext3_1, C.ext3_2, C.guarded_yes, C.guarded_tf, C.guarded_ft, C.guarded_undef, Bool.not_true, Bool.not_false, Nat.zero_add, eq_self, decide_true, decide_false, show ((s : Int) < (r : Int)) by omega]
    refine F84.k34.to (half_of (by omega) ?_)
    generalize hc : (s + r) / 2 = c
    have hcU : c - a < U.length := by omega
    have hcV : mid - 1 - c < V.length := by omega
    have ho := ho0.keep hfr (by simp)
    have gU : (X ++ (U ++ (V ++ Y)))[c]? = some U[c - a] := by
      have := seg_get (X := X) (V := U) (Y := V ++ Y) hcU
      rw [hX] at this
      rwa [show a + (c - a) = c by omega] at this
    have gV : (X ++ (U ++ (V ++ Y)))[mid + m - 1 - c]? = some V[mid - 1 - c] := by
      have := seg_get (X := X ++ U) (V := V) (Y := Y) hcV
      rw [List.length_append, hX, hm, List.append_assoc] at this
      rwa [show m + (mid - 1 - c) = mid + m - 1 - c by omega] at this
    refine C.draw_of (fun w' => OwnS w' nv 59 2 (RW ser f (X ++ (U ++ (V ++ Y))))) fun w1 hf1 he1 => ⟨ho.keep hf1 (by simp), ?_⟩
    simp only [C.ite_true, C.ite_false, C.pick_true, C.pick_false, C.not_bool, C.field_ptr, C.nilCheck_ptr, C.add_mk, C.sub_mk, C.mul_mk, C.eql_mk, C.neq_mk, C.lss_mk, C.leq_mk, C.gtr_mk, C.geq_mk, C.conv_mk, C.len_mk, C.ext_0, C.ext_1, C.ext3_0, C.ext3_1, C.ext3_2, C.guarded_yes, C.guarded_tf, C.guarded_ft, C.guarded_undef, Bool.not_true, Bool.not_false, Nat.zero_add, eq_self, decide_true, decide_false, and_true]
    rw [wrap64_id (n := ((mid + m : Nat) : Int) - 1 - (c : Int)) (by omega), show ((mid + m : Nat) : Int) - 1 - (c : Int) = ((mid + m - 1 - c : Nat) : Int) by omega]
    refine row_cmp hC (ho.keep hf1 (by simp)) gV gU fun w2 hf2 ho2 => ?_
    have f2 := hfr.trans (hf1.trans hf2)
    by_cases g : ser V[mid - 1 - c] < ser U[c - a]
    · simp only [C.ite_true, C.ite_false, C.pick_true, C.pick_false, C.not_bool, C.field_ptr, C.nilCheck_ptr, C.add_mk, C.sub_mk, C.mul_mk, C.eql_mk, C.neq_mk, C.lss_mk, C.leq_mk, C.gtr_mk, C.geq_mk, C.conv_mk, C.len_mk, C.ext_0, C.ext_1, C.ext3_0, C.ext3_1, C.ext3_2, C.guarded_yes, C.guarded_tf, C.guarded_ft, C.guarded_undef, Bool.not_true, Bool.not_false, Nat.zero_add, eq_self, decide_true, decide_false, (cmpI_lt _ _).2 g]
      exact ih s c w2 (by omega) h1 (by omega) (by omega) h4 (fun _ _ _ => g) f2
    · simp only [C.ite_true, C.ite_false, C.pick_true, C.pick_false, C.not_bool, C.field_ptr, C.nilCheck_ptr, C.add_mk, C.sub_mk, C.mul_mk, C.eql_mk, C.neq_mk, C.lss_mk, C.leq_mk, C.gtr_mk, C.geq_mk, C.conv_mk, C.len_mk, C.ext_0, C.ext_1, C.ext3_0, C.ext3_1, C.ext3_2, C.guarded_yes, C.guarded_tf, C.guarded_ft, C.guarded_undef, Bool.not_true, Bool.not_false, Nat.zero_add, eq_self, decide_true, decide_false, show ¬ (cmpI (ser V[mid - 1 - c]) (ser U[c - a]) < 0) from fun h => g ((cmpI_lt _ _).1 h)]
      rw [wrap64_id (n := (c : Int) + 1) (by omega), show (c : Int) + 1 = ((c + 1 : Nat) : Int) by omega]
      refine ih (c + 1) r w2 (by omega) (by omega) (by omega) h3 (fun _ q1 q2 => ?_) h5 f2
      have e1 : c + 1 - 1 - a = c - a := by omega
      have e2 : mid - (c + 1) = mid - 1 - c := by omega
      simp only [e1, e2]
      omega
/-- What comes behind the rotation. -/
theorem symMerge_c (hC : CmpOk ser f cv) : ∀ (d : Nat) (K : VK) (w : World) (X Y U V : List Nat) (a m b : Nat), U.length + V.length ≤ d → 0 < U.length → 0 < V.length → X.length = a → a + U.length = m → m + V.length = b → b ≤ 100000 → SrtL ser U → SrtL ser V → Low U V → OwnS w nv 59 2 (RW ser f (X ++ (U ++ (V ++ Y)))) →
    (∀ W w', Fr (blkS nv) w w' → W.Perm (U ++ V) → SrtL ser W → OwnS w' nv 59 2 (RW ser f (X ++ (W ++ Y))) → K (.tuple #[]) w') →
    C.call Try.prog 84 #[nv, .int .i64 (a : Int), .int .i64 (m : Int), .int .i64 (b : Int), cv] w K := by
  intro d
  induction d with
  | zero => intro K w X Y U V a m b hd hU; omega
  | succ d ih =>
    intro K w X Y U V a m b hd hU hV hX hm hbl hb sU sV hL ho h
    refine F84.sh ?_
    simp only [C.ite_true, C.ite_false, C.pick_true, C.pick_false, C.not_bool, C.field_ptr, C.nilCheck_ptr, C.add_mk, C.sub_mk, C.mul_mk, C.eql_mk, C.neq_mk, C.lss_mk, C.leq_mk, C.gtr_mk, C.geq_mk, C.conv_mk, C.len_mk, C.ext_0, C.ext_1, C.ext3_0, C.ext3_1, C.ext3_2, C.guarded_yes, C.guarded_tf, C.guarded_ft, C.guarded_undef, Bool.not_true, Bool.not_false, Nat.zero_add, eq_self, decide_true, decide_false]
    rw [wrap64_id (n := (m : Int) - (a : Int)) (by omega)]
    by_cases u1 : U.length = 1
    · -- one and a list
      obtain ⟨u, rfl⟩ : ∃ u, U = [u] := by
        match U, u1 with
        | [u], _ => exact ⟨u, rfl⟩
      have em : m = a + 1 := by simp at hm; omega
      simp only [C.ite_true, C.ite_false, C.pick_true, C.pick_false, C.not_bool, C.field_ptr, C.nilCheck_ptr, C.add_mk, C.sub_mk, C.mul_mk, C.eql_mk, C.neq_mk, C.lss_mk, C.leq_mk, C.gtr_mk, C.geq_mk, C.conv_mk, C.len_mk, C.ext_0, C.ext_1, C.ext3_0, C.ext3_1, C.ext3_2, C.guarded_yes, C.guarded_tf, C.guarded_ft, C.guarded_undef, Bool.not_true, Bool.not_false, Nat.zero_add, eq_self, decide_true, decide_false, show ((m : Int) - (a : Int) = 1) by omega]
      have ho' : OwnS w nv 59 2 (RW ser f (X ++ (u :: (V ++ Y)))) := by simpa using ho
      have hf1 := sm_find1 (K := K) hC (W0 := w) (X := X) (Y := Y) (V := V) (u := u) (a := a) hX (by omega) sV (fun p w1 hf1 hp h1 h2 => ?_) ho' V.length 0 V.length w (by omega) (by omega) (Nat.le_refl _) (fun k _ hk => by omega) (fun k h1 h2 => by omega) (Fr.refl _ _)
      · rw [show ((a + 1 + 0 : Nat) : Int) = (m : Int) by omega, show ((a + 1 + V.length : Nat) : Int) = (b : Int) by omega] at hf1
        exact hf1
      · refine F84.k8.to ?_
        have := sm_right (K := K) hC (W0 := w1) (X := X) (Y := Y) (V := V) (u := u) (a := a) (p := p) hX hp (by omega) (fun w2 hf2 ho2 => ?_) p 0 w1 (by omega) (Fr.refl _ _) (by simpa using ho'.keep hf1 (by simp))
        · exact this
        · obtain ⟨q1, q2⟩ := ins_low sV hL hp h1 h2
          exact h _ w2 (hf1.w.trans hf2) q2 q1 (by simpa using ho2)
    · simp only [C.ite_true, C.ite_false, C.pick_true, C.pick_false, C.not_bool, C.field_ptr, C.nilCheck_ptr, C.add_mk, C.sub_mk, C.mul_mk, C.eql_mk, C.neq_mk, C.lss_mk, C.leq_mk, C.gtr_mk, C.geq_mk, C.conv_mk, C.len_mk, C.ext_0, C.ext_1, C.ext3_0, C.ext3_1, C.ext3_2, C.guarded_yes, C.guarded_tf, C.guarded_ft, C.guarded_undef, Bool.not_true, Bool.not_false, Nat.zero_add, eq_self, decide_true, decide_false, show ¬ ((m : Int) - (a : Int) = 1) by omega]
      refine F84.k12.to ?_
      simp only [C.ite_true, C.ite_false, C.pick_true, C.pick_false, C.not_bool, C.field_ptr, C.nilCheck_ptr, C.add_mk, C.sub_mk, C.mul_mk, C.eql_mk, C.neq_mk, C.lss_mk, C.leq_mk, C.gtr_mk, C.geq_mk, C.conv_mk, C.len_mk, C.ext_0, C.ext_1, C.ext3_0, C.ext3_1, C.ext3_2, C.guarded_yes, C.guarded_tf, C.guarded_ft, C.guarded_undef, Bool.not_true, Bool.not_false, Nat.zero_add, eq_self, decide_true, decide_false]
      rw [wrap64_id (n := (b : Int) - (m : Int)) (by omega)]
      by_cases v1 : V.length = 1
      · obtain ⟨v, rfl⟩ : ∃ v, V = [v] := by
          match V, v1 with
          | [v], _ => exact ⟨v, rfl⟩
        simp only [C.ite_true, C.ite_false, C.pick_true, C.pick_false, C.not_bool, C.field_ptr, C.nilCheck_ptr, C.add_mk, C.sub_mk, C.mul_mk, C.eql_mk, C.neq_mk, C.lss_mk, C.leq_mk, C.gtr_mk, C.geq_mk, C.conv_mk, C.len_mk, C.ext_0, C.ext_1, C.ext3_0, C.ext3_1, C.ext3_2, C.guarded_yes, C.guarded_tf, C.guarded_ft, C.guarded_undef, Bool.not_true, Bool.not_false, Nat.zero_add, eq_self, decide_true, decide_false, show ((b : Int) - (m : Int) = 1) by simp at hbl; omega]
        have ho' : OwnS w nv 59 2 (RW ser f (X ++ (U ++ (v :: Y)))) := by simpa using ho
        have hf1 := sm_find2 (K := K) hC (W0 := w) (X := X) (Y := Y) (U := U) (v := v) (a := a) (m := m) hX hm (by simp at hbl; omega) sU (fun p w1 hf1 hp h1 h2 => ?_) ho' U.length 0 U.length w (by omega) (by omega) (Nat.le_refl _) (fun k _ hk => by omega) (fun k h1 h2 => by omega) (Fr.refl _ _)
        · rw [show ((a + 0 : Nat) : Int) = (a : Int) by omega, show ((a + U.length : Nat) : Int) = (m : Int) by omega] at hf1
          exact hf1
        · refine F84.k20.to ?_
          have := sm_left (K := K) hC (W0 := w1) (X := X) (Y := Y) (U := U) (v := v) (a := a) (p := p) hX hp (by simp at hbl; omega) (fun w2 hf2 ho2 => ?_) (U.length - p) U.length w1 (by omega) (Nat.le_refl _) (Fr.refl _ _) (by simpa using ho'.keep hf1 (by simp))
          · rw [show ((a + U.length : Nat) : Int) = (m : Int) by omega] at this
            exact this
          · obtain ⟨q1, q2⟩ := ins_high sU hL hp h1 h2
            exact h _ w2 (hf1.w.trans hf2) q2 q1 (by simpa using ho2)
      · simp only [C.ite_true, C.ite_false, C.pick_true, C.pick_false, C.not_bool, C.field_ptr, C.nilCheck_ptr, C.add_mk, C.sub_mk, C.mul_mk, C.eql_mk, C.neq_mk, C.lss_mk, C.leq_mk, C.gtr_mk, C.geq_mk, C.conv_mk, C.len_mk, C.ext_0, C.ext_1, C.ext3_0, C.ext3_1, C.ext3_2, C.guarded_yes, C.guarded_tf, C.guarded_ft, C.guarded_undef, Bool.not_true, Bool.not_false, Nat.zero_add, eq_self, decide_true, decide_false, show ¬ ((b : Int) - (m : Int) = 1) by omega]
        refine F84.k24.to (half_of (by omega) ?_)
        generalize hmid : (a + b) / 2 = mid
        simp only [C.ite_true, C.ite_false, C.pick_true, C.pick_false, C.not_bool, C.field_ptr, C.nilCheck_ptr, C.add_mk, C.sub_mk, C.mul_mk, C.eql_mk, C.neq_mk, C.lss_mk, C.leq_mk, C.gtr_mk, C.geq_mk, C.conv_mk, C.len_mk, C.ext_0, C.ext_1, C.ext3_0, C.ext3_1, C.ext3_2, C.guarded_yes, C.guarded_tf, C.guarded_ft, C.guarded_undef, Bool.not_true, Bool.not_false, Nat.zero_add, eq_self, decide_true, decide_false]
        rw [wrap64_id (n := (mid : Int) + (m : Int)) (by omega), show (mid : Int) + (m : Int) = ((mid + m : Nat) : Int) by omega]
        -- what comes behind the search
        have tail : ∀ s w', Fr [] w w' → a ≤ s → s ≤ m → s ≤ mid → mid + m ≤ s + b → (∀ v ∈ V.take (mid - s), ∀ u ∈ U.drop (s - a), ser v < ser u) → (∀ u ∈ U.take (s - a), ∀ v ∈ V.drop (mid - s), ser u ≤ ser v) →
            F84.k38 K nv (.int .i64 (a : Int)) (.int .i64 (m : Int)) (.int .i64 (b : Int)) cv (.int .i64 (mid : Int)) (.int .i64 ((mid + m : Nat) : Int)) (.int .i64 (s : Int)) w' := by
          intro s w1 hf1 hs1 hs2 hs3 hs4 hvu huv
          have ho1 := ho.keep hf1 (by simp)
          have eU : U = U.take (s - a) ++ U.drop (s - a) := (List.take_append_drop _ _).symm
          have eV : V = V.take (mid - s) ++ V.drop (mid - s) := (List.take_append_drop _ _).symm
          have lU1 : (U.take (s - a)).length = s - a := List.length_take_of_le (by omega)
          have lU2 : (U.drop (s - a)).length = m - s := by rw [List.length_drop]; omega
          have lV1 : (V.take (mid - s)).length = mid - s := List.length_take_of_le (by omega)
          have lV2 : (V.drop (mid - s)).length = b + s - mid - m := by rw [List.length_drop]; omega
          generalize U.take (s - a) = U1 at *
          generalize U.drop (s - a) = U2 at *
          generalize V.take (mid - s) = V1 at *
          generalize V.drop (mid - s) = V2 at *
          subst eU
          subst eV
          refine F84.k38.to ?_
          simp only [C.ite_true, C.ite_false, C.pick_true, C.pick_false, C.not_bool, C.field_ptr, C.nilCheck_ptr, C.add_mk, C.sub_mk, C.mul_mk, C.eql_mk, C.neq_mk, C.lss_mk, C.leq_mk, C.gtr_mk, C.geq_mk, C.conv_mk, C.len_mk, C.ext_0, C.ext_1, C.ext3_0, C.ext3_1, C.ext3_2, C.guarded_yes, C.guarded_tf, C.guarded_ft, C.guarded_undef, Bool.not_true, Bool.not_false, Nat.zero_add, eq_self, decide_true, decide_false]
          rw [wrap64_id (n := ((mid + m : Nat) : Int) - (s : Int)) (by omega), show ((mid + m : Nat) : Int) - (s : Int) = ((mid + m - s : Nat) : Int) by omega]
          have sU1 := (List.pairwise_append.1 sU).1
          have sU2 := (List.pairwise_append.1 sU).2.1
          have sV1 := (List.pairwise_append.1 sV).1
          have sV2 := (List.pairwise_append.1 sV).2.1
          have L1 : Low U1 V1 := fun x hx y hy => hL x (by simp [hx]) y (by simp [hy])
          have L2 : Low U2 V2 := fun x hx y hy => hL x (by simp [hx]) y (by simp [hy])
          -- behind the rotation
          have t2 : ∀ w2, Fr (blkS nv) w w2 → OwnS w2 nv 59 2 (RW ser f (X ++ (U1 ++ (V1 ++ (U2 ++ (V2 ++ Y)))))) → F84.k41 K nv (.int .i64 (a : Int)) (.int .i64 (b : Int)) cv (.int .i64 (mid : Int)) (.int .i64 (s : Int)) (.int .i64 ((mid + m - s : Nat) : Int)) w2 := by
            intro w2 hf2 ho2
            -- behind the first half
            have t3 : ∀ W1 w3, Fr (blkS nv) w w3 → W1.Perm (U1 ++ V1) → SrtL ser W1 → OwnS w3 nv 59 2 (RW ser f (X ++ (W1 ++ (U2 ++ (V2 ++ Y))))) → F84.k43 K nv (.int .i64 (b : Int)) cv (.int .i64 (mid : Int)) (.int .i64 ((mid + m - s : Nat) : Int)) w3 := by
              intro W1 w3 hf3 p1 s1 ho3
              have lW1 : W1.length = mid - a := by rw [p1.length_eq, List.length_append]; omega
              have t4 : ∀ W2 w4, Fr (blkS nv) w w4 → W2.Perm (U2 ++ V2) → SrtL ser W2 → OwnS w4 nv 59 2 (RW ser f (X ++ (W1 ++ (W2 ++ Y)))) → K (.tuple #[]) w4 := fun W2 w4 hf4 p2 s2 ho4 => by
                obtain ⟨q1, q2⟩ := halves sU sV hL p1 p2 s1 s2 hvu huv
                exact h (W1 ++ W2) w4 hf4 q2 q1 (by simpa using ho4)
              refine F84.k43.to ?_
              by_cases c1 : mid < mid + m - s
              · by_cases c2 : mid + m - s < b
                · simp only [C.ite_true, C.ite_false, C.pick_true, C.pick_false, C.not_bool, C.field_ptr, C.nilCheck_ptr, C.add_mk, C.sub_mk, C.mul_mk, C.eql_mk, C.neq_mk, C.lss_mk, C.leq_mk, C.gtr_mk, C.geq_mk, C.conv_mk, C.len_mk, C.ext_0, C.ext_1, C.ext3_0, C.ext3_1, C.ext3_2, C.guarded_yes, C.guarded_tf, C.guarded_ft, C.guarded_undef, Bool.not_true, Bool.not_false, Nat.zero_add, eq_self, decide_true, decide_false, show ((mid : Int) < ((mid + m - s : Nat) : Int)) by omega, show (((mid + m - s : Nat) : Int) < (b : Int)) by omega]
                  exact ih _ w3 (X ++ W1) Y U2 V2 mid (mid + m - s) b (by simp at hd; omega) (by omega) (by omega) (by simp; omega) (by omega) (by omega) hb sU2 sV2 L2 (by simpa using ho3) fun W2 w4 hf4 p2 s2 ho4 => t4 W2 w4 (hf3.trans hf4) p2 s2 (by simpa using ho4)
                · simp only [C.ite_true, C.ite_false, C.pick_true, C.pick_false, C.not_bool, C.field_ptr, C.nilCheck_ptr, C.add_mk, C.sub_mk, C.mul_mk, C.eql_mk, C.neq_mk, C.lss_mk, C.leq_mk, C.gtr_mk, C.geq_mk, C.conv_mk, C.len_mk, C.ext_0, C.ext_1, C.ext3_0, C.ext3_1, C.ext3_2, C.guarded_yes, C.guarded_tf, C.guarded_ft, C.guarded_undef, Bool.not_true, Bool.not_false, Nat.zero_add, eq_self, decide_true, decide_false, show ((mid : Int) < ((mid + m - s : Nat) : Int)) by omega, show ¬ (((mid + m - s : Nat) : Int) < (b : Int)) by omega]
                  have : V2 = [] := List.eq_nil_of_length_eq_zero (by omega)
                  subst this
                  exact t4 U2 w3 hf3 (by simp) sU2 (by simpa using ho3)
              · simp only [C.ite_true, C.ite_false, C.pick_true, C.pick_false, C.not_bool, C.field_ptr, C.nilCheck_ptr, C.add_mk, C.sub_mk, C.mul_mk, C.eql_mk, C.neq_mk, C.lss_mk, C.leq_mk, C.gtr_mk, C.geq_mk, C.conv_mk, C.len_mk, C.ext_0, C.ext_1, C.ext3_0, C.ext3_1, C.ext3_2, C.guarded_yes, C.guarded_tf, C.guarded_ft, C.guarded_undef, Bool.not_true, Bool.not_false, Nat.zero_add, eq_self, decide_true, decide_false, show ¬ ((mid : Int) < ((mid + m - s : Nat) : Int)) by omega]
                have : U2 = [] := List.eq_nil_of_length_eq_zero (by omega)
                subst this
                exact t4 V2 w3 hf3 (by simp) sV2 (by simpa using ho3)
            refine F84.k41.to ?_
            by_cases c1 : a < s
            · by_cases c2 : s < mid
              · simp only [C.ite_true, C.ite_false, C.pick_true, C.pick_false, C.not_bool, C.field_ptr, C.nilCheck_ptr, C.add_mk, C.sub_mk, C.mul_mk, C.eql_mk, C.neq_mk, C.lss_mk, C.leq_mk, C.gtr_mk, C.geq_mk, C.conv_mk, C.len_mk, C.ext_0, C.ext_1, C.ext3_0, C.ext3_1, C.ext3_2, C.guarded_yes, C.guarded_tf, C.guarded_ft, C.guarded_undef, Bool.not_true, Bool.not_false, Nat.zero_add, eq_self, decide_true, decide_false, show ((a : Int) < (s : Int)) by omega, show ((s : Int) < (mid : Int)) by omega]
                exact ih _ w2 X (U2 ++ (V2 ++ Y)) U1 V1 a s mid (by simp at hd; omega) (by omega) (by omega) hX (by omega) (by omega) (by omega) sU1 sV1 L1 ho2 fun W1 w3 hf3 p1 s1 ho3 => t3 W1 w3 (hf2.trans hf3) p1 s1 ho3
              · simp only [C.ite_true, C.ite_false, C.pick_true, C.pick_false, C.not_bool, C.field_ptr, C.nilCheck_ptr, C.add_mk, C.sub_mk, C.mul_mk, C.eql_mk, C.neq_mk, C.lss_mk, C.leq_mk, C.gtr_mk, C.geq_mk, C.conv_mk, C.len_mk, C.ext_0, C.ext_1, C.ext3_0, C.ext3_1, C.ext3_2, C.guarded_yes, C.guarded_tf, C.guarded_ft, C.guarded_undef, Bool.not_true, Bool.not_false, Nat.zero_add, eq_self, decide_true, decide_false, show ((a : Int) < (s : Int)) by omega, show ¬ ((s : Int) < (mid : Int)) by omega]
                have : V1 = [] := List.eq_nil_of_length_eq_zero (by omega)
                subst this
                exact t3 U1 w2 hf2 (by simp) sU1 (by simpa using ho2)
            · simp only [C.ite_true, C.ite_false, C.pick_true, C.pick_false, C.not_bool, C.field_ptr, C.nilCheck_ptr, C.add_mk, C.sub_mk, C.mul_mk, C.eql_mk, C.neq_mk, C.lss_mk, C.leq_mk, C.gtr_mk, C.geq_mk, C.conv_mk, C.len_mk, C.ext_0, C.ext_1, C.ext3_0, C.ext3_1, C.ext3_2, C.guarded_yes, C.guarded_tf, C.guarded_ft, C.guarded_undef, Bool.not_true, Bool.not_false, Nat.zero_add, eq_self, decide_true, decide_false, show ¬ ((a : Int) < (s : Int)) by omega]
              have : U1 = [] := List.eq_nil_of_length_eq_zero (by omega)
              subst this
              exact t3 V1 w2 hf2 (by simp) sV1 (by simpa using ho2)
          by_cases c1 : s < m
          · by_cases c2 : m < mid + m - s
            · simp only [C.ite_true, C.ite_false, C.pick_true, C.pick_false, C.not_bool, C.field_ptr, C.nilCheck_ptr, C.add_mk, C.sub_mk, C.mul_mk, C.eql_mk, C.neq_mk, C.lss_mk, C.leq_mk, C.gtr_mk, C.geq_mk, C.conv_mk, C.len_mk, C.ext_0, C.ext_1, C.ext3_0, C.ext3_1, C.ext3_2, C.guarded_yes, C.guarded_tf, C.guarded_ft, C.guarded_undef, Bool.not_true, Bool.not_false, Nat.zero_add, eq_self, decide_true, decide_false, show ((s : Int) < (m : Int)) by omega, show ((m : Int) < ((mid + m - s : Nat) : Int)) by omega]
              exact rotate_c hC.one (X := X ++ U1) (U := U2) (V := V1) (Y := V2 ++ Y) (by omega) (by omega) (by simp; omega) (by omega) (by omega) (by omega) (by simpa using ho1) fun w2 hf2 ho2 => t2 w2 (hf1.w.trans hf2) (by simpa using ho2)
            · simp only [C.ite_true, C.ite_false, C.pick_true, C.pick_false, C.not_bool, C.field_ptr, C.nilCheck_ptr, C.add_mk, C.sub_mk, C.mul_mk, C.eql_mk, C.neq_mk, C.lss_mk, C.leq_mk, C.gtr_mk, C.geq_mk, C.conv_mk, C.len_mk, C.ext_0, C.ext_1, C.ext3_0, C.ext3_1, C.ext3_2, C.guarded_yes, C.guarded_tf, C.guarded_ft, C.guarded_undef, Bool.not_true, Bool.not_false, Nat.zero_add, eq_self, decide_true, decide_false, show ((s : Int) < (m : Int)) by omega, show ¬ ((m : Int) < ((mid + m - s : Nat) : Int)) by omega]
              have : V1 = [] := List.eq_nil_of_length_eq_zero (by omega)
              subst this
              exact t2 w1 hf1.w (by simpa using ho1)
          · simp only [C.ite_true, C.ite_false, C.pick_true, C.pick_false, C.not_bool, C.field_ptr, C.nilCheck_ptr, C.add_mk, C.sub_mk, C.mul_mk, C.eql_mk, C.neq_mk, C.lss_mk, C.leq_mk, C.gtr_mk, C.geq_mk, C.conv_mk, C.len_mk, C.ext_0, C.ext_1, C.ext3_0, C.ext3_1, C.ext3_2, C.guarded_yes, C.guarded_tf, C.guarded_ft, C.guarded_undef, Bool.not_true, Bool.not_false, Nat.zero_add, eq_self, decide_true, decide_false, show ¬ ((s : Int) < (m : Int)) by omega]
            have : U2 = [] := List.eq_nil_of_length_eq_zero (by omega)
            subst this
            exact t2 w1 hf1.w (by simpa using ho1)
        by_cases g : m > mid
        · simp only [C.ite_true, C.ite_false, C.pick_true, C.pick_false, C.not_bool, C.field_ptr, C.nilCheck_ptr, C.add_mk, C.sub_mk, C.mul_mk, C.eql_mk, C.neq_mk, C.lss_mk, C.leq_mk, C.gtr_mk, C.geq_mk, C.conv_mk, C.len_mk, C.ext_0, C.ext_1, C.ext3_0, C.ext3_1, C.ext3_2, C.guarded_yes, C.guarded_tf, C.guarded_ft, C.guarded_undef, Bool.not_true, Bool.not_false, Nat.zero_add, eq_self, decide_true, decide_false, show ((m : Int) > (mid : Int)) by omega]
          rw [wrap64_id (n := ((mid + m : Nat) : Int) - (b : Int)) (by omega), show ((mid + m : Nat) : Int) - (b : Int) = ((mid + m - b : Nat) : Int) by omega]
          refine F84.k32.to ?_
          simp only [C.ite_true, C.ite_false, C.pick_true, C.pick_false, C.not_bool, C.field_ptr, C.nilCheck_ptr, C.add_mk, C.sub_mk, C.mul_mk, C.eql_mk, C.neq_mk, C.lss_mk, C.leq_mk, C.gtr_mk, C.geq_mk, C.conv_mk, C.len_mk, C.ext_0, C.ext_1, C.ext3_0, C.ext3_1, C.ext3_2, C.guarded_yes, C.guarded_tf, C.guarded_ft, C.guarded_undef, Bool.not_true, Bool.not_false, Nat.zero_add, eq_self, decide_true, decide_false]
          rw [wrap64_id (n := ((mid + m : Nat) : Int) - 1) (by omega)]
          refine sm_mid hC hX hm hbl hb (s0 := mid + m - b) (r0 := mid) (by omega) (by omega) (Nat.le_refl _) (by omega) (fun s w1 hf1 q1 q2 q3 q4 => tail s w1 hf1 (by omega) (by omega) q2 (by omega) ?_ ?_) ho mid (mid + m - b) mid w (by omega) (Nat.le_refl _) (by omega) (Nat.le_refl _) (fun c => by omega) (fun c => by omega) (Fr.refl _ _)
          · refine mid_vu sU sV (by omega) (by omega) fun h1 h2 h3 => ?_
            have e1 : mid - s - 1 = mid - 1 - s := by omega
            simp only [e1] at h2 ⊢
            exact q4 (by omega) h1 h2
          · refine mid_uv sU sV (by omega) (by omega) fun h1 h2 h3 => ?_
            have e1 : s - a - 1 = s - 1 - a := by omega
            simp only [e1] at h1 ⊢
            exact q3 (by omega) h1 h2
        · simp only [C.ite_true, C.ite_false, C.pick_true, C.pick_false, C.not_bool, C.field_ptr, C.nilCheck_ptr, C.add_mk, C.sub_mk, C.mul_mk, C.eql_mk, C.neq_mk, C.lss_mk, C.leq_mk, C.gtr_mk, C.geq_mk, C.conv_mk, C.len_mk, C.ext_0, C.ext_1, C.ext3_0, C.ext3_1, C.ext3_2, C.guarded_yes, C.guarded_tf, C.guarded_ft, C.guarded_undef, Bool.not_true, Bool.not_false, Nat.zero_add, eq_self, decide_true, decide_false, show ¬ ((m : Int) > (mid : Int)) by omega]
          refine F84.k32.to ?_
          simp only [C.ite_true, C.ite_false, C.pick_true, C.pick_false, C.not_bool, C.field_ptr, C.nilCheck_ptr, C.add_mk, C.sub_mk, C.mul_mk, C.eql_mk, C.neq_mk, C.lss_mk, C.leq_mk, C.gtr_mk, C.geq_mk, C.conv_mk, C.len_mk, C.ext_0, C.ext_1, C.ext3_0, C.ext3_1, C.ext3_2, C.guarded_yes, C.guarded_tf, C.guarded_ft, C.guarded_undef, Bool.not_true, Bool.not_false, Nat.zero_add, eq_self, decide_true, decide_false]
          rw [wrap64_id (n := ((mid + m : Nat) : Int) - 1) (by omega)]
          refine sm_mid hC hX hm hbl hb (s0 := a) (r0 := m) (Nat.le_refl _) (Nat.le_refl _) (by omega) (by omega) (fun s w1 hf1 q1 q2 q3 q4 => tail s w1 hf1 q1 q2 (by omega) (by omega) ?_ ?_) ho m a m w (by omega) (Nat.le_refl _) (by omega) (Nat.le_refl _) (fun c => by omega) (fun c => by omega) (Fr.refl _ _)
          · refine mid_vu sU sV (by omega) (by omega) fun h1 h2 h3 => ?_
            have e1 : mid - s - 1 = mid - 1 - s := by omega
            simp only [e1] at h2 ⊢
            exact q4 (by omega) h1 h2
          · refine mid_uv sU sV (by omega) (by omega) fun h1 h2 h3 => ?_
            have e1 : s - a - 1 = s - 1 - a := by omega
            simp only [e1] at h1 ⊢
            exact q3 (by omega) h1 h2
end
end Go.Proofs.YtfjilngljnlkjaaV
