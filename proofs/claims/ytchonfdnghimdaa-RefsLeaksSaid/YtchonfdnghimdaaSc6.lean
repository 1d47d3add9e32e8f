/- Going through a graph in depth, by the program: from, the whole. -/
import Derived.Test.YtchonfdnghimdaaSc5
namespace Go.Proofs.YtchonfdnghimdaaV
open Go Go.Proofs Go.RowKit
set_option linter.unusedVariables false
set_option linter.unusedSimpArgs false
set_option maxRecDepth 10000
section
variable {K : VK} {w : World}
/-- One step, seen from the walk. -/
theorem step_at {G : Gr} {W0 : World} {b i : Nat} {nv rv mv ov wv av : Value} {S0 O way : List Nat} {t : Nat} {A : List Nat} {a : Nat} (hG : IsG w nv rv G) (hM : FM G W0 w b nv mv ov wv av S0 O way t A a) (hF : FS G i S0 O way t A a)
    (h1 : ∀ q k : Nat, FS G i S0 O (way ++ [t]) k (A ++ [q + 1]) 0 → k < G.n → K (.tuple #[.int .i64 (k : Int), .int .i64 ((q + 1 : Nat) : Int), .bool true]) w)
    (h0 : (∀ p, ¬ cand G (S0 ++ O ++ (way ++ [t])) t p) → K (.tuple #[.int .i64 0, .int .i64 0, .bool false]) w) :
    C.call Try.prog 41 #[.pointer (some ⟨b, 0, none⟩), .int .i64 (t : Int), .int .i64 (a : Int)] w K :=
  F41.sh (step_c hG hM.wk hF.tn (fun q k hq he hk hn hs => h1 q k (hF.push hq he hk hn hs) hk) h0 (G.row t).length a (by omega) hF.seent.1 hF.seent.2)
theorem from_g {G : Gr} {W0 : World} {b i : Nat} {nv rv mv : Value} {S0 : List Nat} (hfew : G.n ≤ 1000) (hG : ∀ w', Fr (blkS mv) W0 w' → IsG w' nv rv G)
    (h : ∀ O ov w', Dp G (S0 ++ O) [] → i ∈ O → (∀ v ∈ O, G.ld i v = true) → WK W0 w' b nv mv (metL G.n (S0 ++ O)) → NewS W0 ov → OwnS w' ov 3 1 (intC (natI O)) → K ov w') :
    ∀ (d : Nat) (w : World) (ov wv av : Value) (O way : List Nat) (t : Nat) (A : List Nat) (a : Nat), 2 * (G.n - (S0 ++ O ++ (way ++ [t])).length) + way.length < d → FS G i S0 O way t A a → FM G W0 w b nv mv ov wv av S0 O way t A a →
      F23.g0 K (.pointer (some ⟨b, 0, none⟩)) ov wv av w := by
  intro d
  induction d with
  | zero => intro w ov wv av O way t A a hd; omega
  | succ d ih =>
    intro w ov wv av O way t A a hd hF hM
    have hroom := hF.room
    have hwl : way.length ≤ 1000 := by simp only [List.length_append] at hroom; omega
    have hOl : O.length ≤ 1000 := by simp only [List.length_append] at hroom; omega
    refine F23.g0.to (C.len_rd hM.ow.rd ?_)
    rw [intC_len, natI_len, show (((way ++ [t]).length : Nat) : Int) = (way.length : Int) + 1 by simp]
    simp only [C.ite_true, C.ite_false, C.pick_true, C.pick_false, C.not_bool, C.field_ptr, C.nilCheck_ptr, C.add_mk, C.sub_mk, C.mul_mk, C.eql_mk, C.neq_mk, C.lss_mk, C.leq_mk, C.gtr_mk, C.geq_mk, C.conv_mk, C.len_mk, C.ext_0, C.ext_1, C.ext3_0, C.ext3_1, C.ext3_2, C.guarded_yes, C.guarded_tf, C.guarded_ft, C.guarded_undef, Bool.not_true, Bool.not_false, Nat.zero_add, eq_self, decide_true, decide_false]
    rw [wrap64_id (n := (way.length : Int) + 1 - 1) (by omega), show (way.length : Int) + 1 - 1 = (way.length : Int) by omega]
    refine C.draw_of (fun w' => Fr [] w w') fun w1 hf1 _ => ⟨hf1, ?_⟩
    have M1 := hM.keep hf1
    have wl : way.length < (natI (way ++ [t])).length := by rw [natI_len]; simp
    have al : way.length < (natI (A ++ [a])).length := by rw [natI_len]; simp [hF.al]
    have et : (natI (way ++ [t]))[way.length] = (t : Int) := by rw [natI_get (by simp) wl]; simp
    have ea : (natI (A ++ [a]))[way.length] = (a : Int) := by
      rw [natI_get (by simp [hF.al]) al, List.getElem_append_right (by rw [hF.al]; exact Nat.le_refl _)]
      simp
    refine C.idx_intS (S := fun w' => Fr [] w w') (fun w' hw => (hM.ow.keep hw (by simp)).rd) hf1 wl fun g1 o1 hs1 => ?_
    refine C.idx_intS (S := fun w' => Fr [] w w') (fun w' hw => (hM.oa.keep hw (by simp)).rd) hf1 al fun g2 o2 hs2 => ?_
    refine C.load1S_of hs1 (C.load1S_of hs2 ?_)
    rw [et, ea]
    simp only [and_true]
    refine step_at (hG _ M1.wk.fr) M1 hF (fun q k hF' hk => ⟨hf1, ?_⟩) fun hn => ⟨hf1, ?_⟩
    · simp only [C.ite_true, C.ite_false, C.pick_true, C.pick_false, C.not_bool, C.field_ptr, C.nilCheck_ptr, C.add_mk, C.sub_mk, C.mul_mk, C.eql_mk, C.neq_mk, C.lss_mk, C.leq_mk, C.gtr_mk, C.geq_mk, C.conv_mk, C.len_mk, C.ext_0, C.ext_1, C.ext3_0, C.ext3_1, C.ext3_2, C.guarded_yes, C.guarded_tf, C.guarded_ft, C.guarded_undef, Bool.not_true, Bool.not_false, Nat.zero_add, eq_self, decide_true, decide_false]
      have hroom' := hF'.room
      refine push_c M1 hF.al hk (by omega) fun wv' av' w' M' => ih w' ov wv' av' O (way ++ [t]) k (A ++ [q + 1]) 0 ?_ hF' M'
      simp only [List.length_append, List.length_singleton] at hd hroom hroom' ⊢
      omega
    · simp only [C.ite_true, C.ite_false, C.pick_true, C.pick_false, C.not_bool, C.field_ptr, C.nilCheck_ptr, C.add_mk, C.sub_mk, C.mul_mk, C.eql_mk, C.neq_mk, C.lss_mk, C.leq_mk, C.gtr_mk, C.geq_mk, C.conv_mk, C.len_mk, C.ext_0, C.ext_1, C.ext3_0, C.ext3_1, C.ext3_2, C.guarded_yes, C.guarded_tf, C.guarded_ft, C.guarded_undef, Bool.not_true, Bool.not_false, Nat.zero_add, eq_self, decide_true, decide_false]
      refine pop_c M1 hF.al (by omega) (by omega) (fun ov' wv' av' w' way' t' A' a' e1 e2 M' => ?_) fun ez ov' w' W' n' o' => ?_
      · subst e1 e2
        refine ih w' ov' wv' av' (O ++ [t]) way' t' A' a' ?_ (hF.pop hn) M'
        simp only [List.length_append, List.length_singleton] at hd hroom ⊢
        omega
      · subst ez
        have hD := hF.dpop hn
        refine h (O ++ [t]) ov' w' hD ?_ (fun v hv => hF.led v (by simpa using hv)) W' n' o'
        have := hF.mem
        simpa using this
theorem from_c {G : Gr} {W0 : World} {b i : Nat} {nv rv mv : Value} {S0 : List Nat} (hfew : G.n ≤ 1000) (hG : ∀ w', Fr (blkS mv) W0 w' → IsG w' nv rv G) (hW : WK W0 w b nv mv (metL G.n S0)) (hD : Dp G S0 []) (hi : i < G.n) (hn : i ∉ S0)
    (h : ∀ O ov w', Dp G (S0 ++ O) [] → i ∈ O → (∀ v ∈ O, G.ld i v = true) → WK W0 w' b nv mv (metL G.n (S0 ++ O)) → NewS W0 ov → OwnS w' ov 3 1 (intC (natI O)) → K ov w') :
    C.call Try.prog 23 #[.pointer (some ⟨b, 0, none⟩), .int .i64 (i : Int)] w K := by
  refine F23.sh ?_
  simp only [C.ite_true, C.ite_false, C.pick_true, C.pick_false, C.not_bool, C.field_ptr, C.nilCheck_ptr, C.add_mk, C.sub_mk, C.mul_mk, C.eql_mk, C.neq_mk, C.lss_mk, C.leq_mk, C.gtr_mk, C.geq_mk, C.conv_mk, C.len_mk, C.ext_0, C.ext_1, C.ext3_0, C.ext3_1, C.ext3_2, C.guarded_yes, C.guarded_tf, C.guarded_ft, C.guarded_undef, Bool.not_true, Bool.not_false, Nat.zero_add, eq_self, decide_true, decide_false]
  refine C.load1_of (v := mv) hW.hb rfl (flag_set (fr_bare w) (new_bare w mv) hW.fl (by rw [metL_len]; exact hi) fun w1 _ fl1 hf1 => ?_)
  have fr1 := hW.fr.trans hf1
  have hb1 := hf1.at_ hW.hb (hW.fl.nb hW.hb (by decide))
  rw [metL_set (T := S0 ++ [i]) hi (fun x => by simp)] at fl1
  have hn2 := New.mk' w1 (.cells #[.int .i64 (i : Int)] 3)
  refine C.run_of (bsI _) ?_
  have hn3 := New.mk' (w1.alloc (.cells #[.int .i64 (i : Int)] 3)) (.cells #[.int .i64 0] 3)
  refine C.run_of (bsI _) ?_
  have s1 := fr1.size
  have z2 := hn2.sz
  have hM : FM G W0 ((w1.alloc (.cells #[.int .i64 (i : Int)] 3)).alloc (.cells #[.int .i64 0] 3)) b nv mv (.slice none 0 0) (.slice (some ⟨w1.heap.size, 0, none⟩) 1 1) (.slice (some ⟨(w1.alloc (.cells #[.int .i64 (i : Int)] 3)).heap.size, 0, none⟩) 1 1) S0 [] [] i [] 0 := by
    refine ⟨⟨fr1.trans (hn2.fr.trans hn3.fr).w, (hn2.fr.trans hn3.fr).at_ hb1 (by simp), ?_⟩, NewS.nil _, fun g hg => ?_, fun g hg => ?_, OwnS.nil _ _ _, ?_, ?_, fun g hg => ?_, fun g hg => ?_, fun g hg c => ?_⟩
    · have := fl1.keep (hn2.fr.trans hn3.fr) (by simp)
      simpa using this
    · simp only [Value.ownBlock, Option.some.injEq] at hg; omega
    · simp only [Value.ownBlock, Option.some.injEq] at hg; omega
    · exact (OwnS.of_block hn2.at_ (by simp [intC, natI]) (by simp) (by simp) rfl (by simp [intC, natI, Value.oneCell']) (by simp [intC, natI])).keep hn3.fr (by simp)
    · exact OwnS.of_block hn3.at_ (by simp [intC, natI]) (by simp) (by simp) rfl (by simp [intC, natI, Value.oneCell']) (by simp [intC, natI])
    · simp [blkS, Value.ownBlock] at hg
    · simp [blkS, Value.ownBlock] at hg
    · have h1 := mem_blkS.1 hg
      have h2 := mem_blkS.1 c
      simp only [Value.ownBlock, Option.some.injEq] at h1 h2
      omega
  have hF : FS G i S0 [] [] i [] 0 := by
    refine ⟨?_, rfl, fun k hk => by simp at hk, ⟨by omega, fun q hq => by omega⟩, fun v hv => ?_, by simp⟩
    · simpa using hD.start hi hn
    · have : v = i := by simpa using hv
      subst this
      exact ld_refl hi
  generalize ((w1.alloc (.cells #[.int .i64 (i : Int)] 3)).alloc (.cells #[.int .i64 0] 3)) = w3 at *
  generalize hwv : (Value.slice (some ⟨w1.heap.size, 0, none⟩) 1 1) = wv at *
  generalize hav : (Value.slice (some ⟨(w1.alloc (.cells #[.int .i64 (i : Int)] 3)).heap.size, 0, none⟩) 1 1) = av at *
  refine C.len_rd hM.ow.rd ?_
  rw [intC_len, natI_len, show ((([] ++ [i] : List Nat).length : Nat) : Int) = 1 by simp]
  simp only [C.ite_true, C.ite_false, C.pick_true, C.pick_false, C.not_bool, C.field_ptr, C.nilCheck_ptr, C.add_mk, C.sub_mk, C.mul_mk, C.eql_mk, C.neq_mk, C.lss_mk, C.leq_mk, C.gtr_mk, C.geq_mk, C.conv_mk, C.len_mk, C.ext_0, C.ext_1, C.ext3_0, C.ext3_1, C.ext3_2, C.guarded_yes, C.guarded_tf, C.guarded_ft, C.guarded_undef, Bool.not_true, Bool.not_false, Nat.zero_add, eq_self, decide_true, decide_false]
  rw [wrap64_id (n := (1 : Int) - 1) (by omega), show (1 : Int) - 1 = ((([] : List Nat).length : Nat) : Int) by simp]
  refine C.draw_of (fun w' => Fr [] w3 w') fun w4 hf4 _ => ⟨hf4, ?_⟩
  have M1 := hM.keep hf4
  refine C.idx_intS (S := fun w' => Fr [] w3 w') (fun w' hw => (hM.ow.keep hw (by simp)).rd) hf4 (i := ([] : List Nat).length) (by simp [natI]) fun g1 o1 hs1 => ?_
  refine C.idx_intS (S := fun w' => Fr [] w3 w') (fun w' hw => (hM.oa.keep hw (by simp)).rd) hf4 (i := ([] : List Nat).length) (by simp [natI]) fun g2 o2 hs2 => ?_
  refine C.load1S_of hs1 (C.load1S_of hs2 ?_)
  rw [show (natI ([] ++ [i]))[([] : List Nat).length]'(by simp [natI]) = (i : Int) by simp [natI], show (natI ([] ++ [0]))[([] : List Nat).length]'(by simp [natI]) = ((0 : Nat) : Int) by simp [natI]]
  simp only [and_true]
  refine step_at (hG _ M1.wk.fr) M1 hF (fun q k hF' hk => ⟨hf4, ?_⟩) fun hn => ⟨hf4, ?_⟩
  · simp only [C.ite_true, C.ite_false, C.pick_true, C.pick_false, C.not_bool, C.field_ptr, C.nilCheck_ptr, C.add_mk, C.sub_mk, C.mul_mk, C.eql_mk, C.neq_mk, C.lss_mk, C.leq_mk, C.gtr_mk, C.geq_mk, C.conv_mk, C.len_mk, C.ext_0, C.ext_1, C.ext3_0, C.ext3_1, C.ext3_2, C.guarded_yes, C.guarded_tf, C.guarded_ft, C.guarded_undef, Bool.not_true, Bool.not_false, Nat.zero_add, eq_self, decide_true, decide_false]
    refine push_c M1 rfl hk (by simp) fun wv' av' w' M' => from_g hfew hG h (2 * G.n + 2) w' (.slice none 0 0) wv' av' [] ([] ++ [i]) k ([] ++ [q + 1]) 0 ?_ hF' M'
    have := hF'.room
    simp only [List.length_append, List.length_singleton, List.length_nil] at this ⊢
    omega
  · simp only [C.ite_true, C.ite_false, C.pick_true, C.pick_false, C.not_bool, C.field_ptr, C.nilCheck_ptr, C.add_mk, C.sub_mk, C.mul_mk, C.eql_mk, C.neq_mk, C.lss_mk, C.leq_mk, C.gtr_mk, C.geq_mk, C.conv_mk, C.len_mk, C.ext_0, C.ext_1, C.ext3_0, C.ext3_1, C.ext3_2, C.guarded_yes, C.guarded_tf, C.guarded_ft, C.guarded_undef, Bool.not_true, Bool.not_false, Nat.zero_add, eq_self, decide_true, decide_false]
    refine F23.k10.to ?_
    simp only [C.ite_true, C.ite_false, C.pick_true, C.pick_false, C.not_bool, C.field_ptr, C.nilCheck_ptr, C.add_mk, C.sub_mk, C.mul_mk, C.eql_mk, C.neq_mk, C.lss_mk, C.leq_mk, C.gtr_mk, C.geq_mk, C.conv_mk, C.len_mk, C.ext_0, C.ext_1, C.ext3_0, C.ext3_1, C.ext3_2, C.guarded_yes, C.guarded_tf, C.guarded_ft, C.guarded_undef, Bool.not_true, Bool.not_false, Nat.zero_add, eq_self, decide_true, decide_false]
    refine (pop_c (K := fun v w => F23.k13 K v w) M1 rfl (by simp) (by simp) (fun ov' wv' av' w' way' t' A' a' e1 e2 M' => by simp at e1) fun ez ov' w' W' n' o' => ?_)
    have hD' := hF.dpop hn
    exact F23.k13.to (h ([] ++ [i]) ov' w' hD' (by simp) (fun v hv => hF.led v (by simpa using hv)) W' n' o')
end
end Go.Proofs.YtchonfdnghimdaaV
