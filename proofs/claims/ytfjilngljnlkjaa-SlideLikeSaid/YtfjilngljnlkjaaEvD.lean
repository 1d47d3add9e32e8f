/- What an image shows, by the program: View. · What an image shows, by the program: View, the whole. · What an image shows, by the program: View. -/
import Derived.Test.YtfjilngljnlkjaaEvC
import Derived.Test.YtfjilngljnlkjaaStA
import Derived.Test.YtfjilngljnlkjaaLibSortI
namespace Go.Proofs.YtfjilngljnlkjaaV
open Go Go.Proofs Go.RowKit
set_option linter.unusedVariables false
set_option linter.unusedSimpArgs false
set_option maxRecDepth 10000
/-! ### 1. Plain: the order of the nodes -/
theorem srt_places {m : List Ob} {O R A : List Nat} (hO : O.Pairwise (· < ·)) (hR : O.Perm R) (hA : A.Perm (List.range O.length)) (hs : SrtL (fun i => serA m (O.getD i 0)) A) : A.map (fun i => O.getD i 0) = srtS m R := by
  have hRn : R.Nodup := hR.nodup_iff.1 (hO.imp fun h => by omega)
  have hAn : A.Nodup := hA.nodup_iff.2 List.nodup_range
  refine sorted_same (lt := fun p q => leS m p q = true ∧ p ≠ q) (fun x h => h.2 rfl) (fun x y h1 h2 => ?_) ?_ ?_ fun x => ?_
  · have a := h1.1; have b := h2.1; have c := h1.2
    unfold leS at a b
    simp only [decide_eq_true_eq] at a b
    omega
  · rw [List.pairwise_map]
    refine List.Pairwise.imp_of_mem (fun {a b} ha hb h => ?_) (hs.and hAn)
    have la := List.mem_range.1 (hA.mem_iff.1 ha)
    have lb := List.mem_range.1 (hA.mem_iff.1 hb)
    obtain ⟨h1, h2⟩ := h
    have h1' : serA m (O.getD a 0) < serA m (O.getD b 0) ∨ serA m (O.getD a 0) = serA m (O.getD b 0) ∧ a ≤ b := h1
    have key : a < b → O.getD a 0 < O.getD b 0 := fun hab => by
      rw [List.getD_eq_getElem?_getD, List.getD_eq_getElem?_getD, List.getElem?_eq_getElem la, List.getElem?_eq_getElem lb]
      exact List.pairwise_iff_getElem.1 hO a b la lb hab
    unfold leS
    simp only [decide_eq_true_eq]
    rcases h1' with c | ⟨c, d⟩
    · exact ⟨.inl c, fun e => by rw [e] at c; omega⟩
    · have := key (by omega)
      exact ⟨.inr ⟨c, by omega⟩, by omega⟩
  · exact (srtS_sorted m R).and ((srtS_perm m R).nodup_iff.2 hRn)
  · rw [(srtS_perm m R).mem_iff, ← hR.mem_iff, List.mem_map]
    constructor
    · rintro ⟨i, hi, rfl⟩
      have li := List.mem_range.1 (hA.mem_iff.1 hi)
      rw [List.getD_eq_getElem?_getD, List.getElem?_eq_getElem li]
      exact List.getElem_mem li
    · intro hx
      obtain ⟨i, hi, rfl⟩ := List.getElem_of_mem hx
      exact ⟨i, hA.mem_iff.2 (List.mem_range.2 hi), by rw [List.getD_eq_getElem?_getD, List.getElem?_eq_getElem hi]; rfl⟩
section
variable {K : VK} {w : World}
/-! ### 2. Nodes sorted -/
theorem bodied_v1 : bodied Try.prog 42 = true := by kernel_rfl
theorem cmpW {a b : Int} (h : K (.int .i64 (cmpI a b)) w) : C.call Try.prog 43 #[.int .i64 a, .int .i64 b] w K := by
  refine F43.sh (F60.sh ?_)
  rw [C.neq_mk, decide_eq_false (fun h => h rfl)]
  refine F60.sh ?_
  rw [C.neq_mk, decide_eq_false (fun h => h rfl)]
  simp only [C.ite_true, C.ite_false, C.pick_true, C.pick_false, C.not_bool, C.field_ptr, C.nilCheck_ptr, C.add_mk, C.sub_mk, C.mul_mk, C.eql_mk, C.neq_mk, C.lss_mk, C.leq_mk, C.gtr_mk, C.geq_mk, C.conv_mk, C.len_mk, C.ext_0, C.ext_1, C.ext3_0, C.ext3_1, C.ext3_2, C.guarded_yes, C.guarded_tf, C.guarded_ft, C.guarded_undef, Bool.not_true, Bool.not_false, Nat.zero_add, eq_self, decide_true, decide_false]
  refine F43.k7.to ?_
  simp only [C.ite_true, C.ite_false, C.pick_true, C.pick_false, C.not_bool, C.field_ptr, C.nilCheck_ptr, C.add_mk, C.sub_mk, C.mul_mk, C.eql_mk, C.neq_mk, C.lss_mk, C.leq_mk, C.gtr_mk, C.geq_mk, C.conv_mk, C.len_mk, C.ext_0, C.ext_1, C.ext3_0, C.ext3_1, C.ext3_2, C.guarded_yes, C.guarded_tf, C.guarded_ft, C.guarded_undef, Bool.not_true, Bool.not_false, Nat.zero_add, eq_self, decide_true, decide_false]
  refine F43.k9.to ?_
  unfold cmpI at h
  by_cases c : a < b
  · rw [if_pos c] at h
    simp only [C.ite_true, C.ite_false, C.pick_true, C.pick_false, C.not_bool, C.field_ptr, C.nilCheck_ptr, C.add_mk, C.sub_mk, C.mul_mk, C.eql_mk, C.neq_mk, C.lss_mk, C.leq_mk, C.gtr_mk, C.geq_mk, C.conv_mk, C.len_mk, C.ext_0, C.ext_1, C.ext3_0, C.ext3_1, C.ext3_2, C.guarded_yes, C.guarded_tf, C.guarded_ft, C.guarded_undef, Bool.not_true, Bool.not_false, Nat.zero_add, eq_self, decide_true, decide_false, c]
    exact h
  · rw [if_neg c] at h
    simp only [C.ite_true, C.ite_false, C.pick_true, C.pick_false, C.not_bool, C.field_ptr, C.nilCheck_ptr, C.add_mk, C.sub_mk, C.mul_mk, C.eql_mk, C.neq_mk, C.lss_mk, C.leq_mk, C.gtr_mk, C.geq_mk, C.conv_mk, C.len_mk, C.ext_0, C.ext_1, C.ext3_0, C.ext3_1, C.ext3_2, C.guarded_yes, C.guarded_tf, C.guarded_ft, C.guarded_undef, Bool.not_true, Bool.not_false, Nat.zero_add, eq_self, decide_true, decide_false, c]
    refine F43.k11.to ?_
    by_cases d : a > b
    · rw [if_pos d] at h
      simp only [C.ite_true, C.ite_false, C.pick_true, C.pick_false, C.not_bool, C.field_ptr, C.nilCheck_ptr, C.add_mk, C.sub_mk, C.mul_mk, C.eql_mk, C.neq_mk, C.lss_mk, C.leq_mk, C.gtr_mk, C.geq_mk, C.conv_mk, C.len_mk, C.ext_0, C.ext_1, C.ext3_0, C.ext3_1, C.ext3_2, C.guarded_yes, C.guarded_tf, C.guarded_ft, C.guarded_undef, Bool.not_true, Bool.not_false, Nat.zero_add, eq_self, decide_true, decide_false, d]
      exact h
    · rw [if_neg d] at h
      simp only [C.ite_true, C.ite_false, C.pick_true, C.pick_false, C.not_bool, C.field_ptr, C.nilCheck_ptr, C.add_mk, C.sub_mk, C.mul_mk, C.eql_mk, C.neq_mk, C.lss_mk, C.leq_mk, C.gtr_mk, C.geq_mk, C.conv_mk, C.len_mk, C.ext_0, C.ext_1, C.ext3_0, C.ext3_1, C.ext3_2, C.guarded_yes, C.guarded_tf, C.guarded_ft, C.guarded_undef, Bool.not_true, Bool.not_false, Nat.zero_add, eq_self, decide_true, decide_false, d]
      exact F43.k13.to h
theorem cmpOk_view {ser : Nat → Int} {f : Nat → Value} (hf : ∀ i, (f i).oneCell' = true ∧ (f i).cells = #[f i]) : CmpOk ser f (.func (.func 42) #[] #[]) where
  one := hf
  pl := fun l a b h => by cases h
  cmp := fun i j w K h => by
    have c1 : ∀ i, (Value.agg #[.int .i64 (ser i), f i]).cells = #[.int .i64 (ser i), f i] := fun i => by simp [Value.cells, (hf i).2]
    refine vcCall_of bodied_v1 (F42.sh ?_)
    rw [c1, c1]
    refine C.new_of fun b1 w1 hn1 => C.new_of fun b2 w2 hn2 => ?_
    simp only [C.ite_true, C.ite_false, C.pick_true, C.pick_false, C.not_bool, C.field_ptr, C.nilCheck_ptr, C.add_mk, C.sub_mk, C.mul_mk, C.eql_mk, C.neq_mk, C.lss_mk, C.leq_mk, C.gtr_mk, C.geq_mk, C.conv_mk, C.len_mk, C.ext_0, C.ext_1, C.ext3_0, C.ext3_1, C.ext3_2, C.guarded_yes, C.guarded_tf, C.guarded_ft, C.guarded_undef, Bool.not_true, Bool.not_false, Nat.zero_add, eq_self, decide_true, decide_false]
    refine C.load1_of (v := .int .i64 (ser i)) (hn2.fr.at_ hn1.at_ (by simp)) rfl ?_
    try simp only [C.ite_true, C.ite_false, C.pick_true, C.pick_false, C.not_bool, C.field_ptr, C.nilCheck_ptr, C.add_mk, C.sub_mk, C.mul_mk, C.eql_mk, C.neq_mk, C.lss_mk, C.leq_mk, C.gtr_mk, C.geq_mk, C.conv_mk, C.len_mk, C.ext_0, C.ext_1, C.ext3_0, C.ext3_1, C.ext3_2, C.guarded_yes, C.guarded_tf, C.guarded_ft, C.guarded_undef, Bool.not_true, Bool.not_false, Nat.zero_add, eq_self, decide_true, decide_false]
    refine C.load1_of (v := .int .i64 (ser j)) hn2.at_ rfl (cmpW ?_)
    exact h w2 (hn1.fr.trans hn2.fr)
def nodeD (N : List Nd) (i : Nat) : Nd := N.getD i (0, [])
def fldD (fs : List Value) (i : Nat) : Value := fs.getD i (.slice none 0 0)
theorem RW_range {N : List Nd} {fs : List Value} (h : fs.length = N.length) : RW (fun i => (nodeD N i).1) (fldD fs) (List.range N.length) = ndC N fs := by
  apply List.ext_getElem?
  intro i
  by_cases hi : i < N.length
  · have hi' : i < fs.length := by omega
    rw [ndC_get hi hi', RW_get (List.getElem?_range hi)]
    simp [rw2, nodeD, fldD, List.getD_eq_getElem?_getD, List.getElem?_eq_getElem hi, List.getElem?_eq_getElem hi']
  · rw [List.getElem?_eq_none (by rw [RW_len, List.length_range]; omega), List.getElem?_eq_none (by rw [ndC_len h]; omega)]
theorem RW_map (N : List Nd) (fs : List Value) : ∀ A : List Nat, RW (fun i => (nodeD N i).1) (fldD fs) A = ndC (A.map (nodeD N)) (A.map (fldD fs))
  | [] => rfl
  | a :: A => by
    have := RW_map N fs A
    simp only [RW, List.map_cons, ndC, List.zipWith_cons_cons, rw2] at *
    rw [this]
theorem SortNodes_c {lo : Nat} {nv : Value} {N : List Nd} {fs : List Value} (ho : OwnNodes lo w nv N fs) (hn : N.length ≤ 10000)
    (h : ∀ A w', Fr (blkS nv) w w' → A.Perm (List.range N.length) → SrtL (fun i => (nodeD N i).1) A → OwnNodes lo w' nv (A.map (nodeD N)) (A.map (fldD fs)) → K (.tuple #[]) w') :
    C.call Try.prog 41 #[nv, .func (.func 42) #[] #[]] w K := by
  have hf : ∀ i, (fldD fs i).oneCell' = true ∧ (fldD fs i).cells = #[fldD fs i] := fun i => by
    unfold fldD
    rw [List.getD_eq_getElem?_getD]
    by_cases hi : i < fs.length
    · rw [List.getElem?_eq_getElem hi]
      exact (ho.row i (by rw [← ho.len]; exact hi) hi).1.one
    · rw [List.getElem?_eq_none (by omega)]
      exact ⟨rfl, rfl⟩
  have hsp := ho.sp
  rw [← RW_range ho.len] at hsp
  refine SortStable_c (cmpOk_view hf) hn hsp fun A w1 hf1 hA hs ho1 => ?_
  rw [RW_map] at ho1
  refine h A w1 hf1 hA hs ⟨by simp, ho1, ho.ge, fun i a b => ?_⟩
  have ia : i < A.length := by simpa using a
  have hin := List.mem_range.1 (hA.mem_iff.1 (List.getElem_mem ia))
  have hin' : A[i] < fs.length := by rw [ho.len]; exact hin
  have hrow := ho.row A[i] hin hin'
  simp only [List.getElem_map]
  have e1 : fldD fs A[i] = fs[A[i]] := by unfold fldD; rw [List.getD_eq_getElem?_getD, List.getElem?_eq_getElem hin']; rfl
  have e2 : nodeD N A[i] = N[A[i]] := by unfold nodeD; rw [List.getD_eq_getElem?_getD, List.getElem?_eq_getElem hin]; rfl
  rw [e1, e2]
  exact ⟨hrow.1.keep' hf1 (hrow.1.ne ho.sp (by decide)), hrow.2⟩
/-! ### 3. View -/
structure EI (Wb w : World) (mb tb : Nat) (lv sv ov : Value) (roots : List Int) (m : List Ob) (o : List Nat) (k : Nat) : Prop where
  mv : MV Wb w mb tb lv sv ov m o
  pls : Pls m o
  done : ∀ i p, i < k → o[i]? = some p → ∀ x ∈ fsA m p, ∀ q, wPl m x = some q → q ∈ o
theorem EView_loop {Wb : World} {mb tb b4 : Nat} {lv sv rv : Value} {l roots : List Int} {m : List Ob} (hC : Opn l m roots) (hlv : RdS Wb lv 1 (intC l)) (hsv : RdS Wb sv 1 (intC (atL m))) (hr : Rng l)
    (h : ∀ ov w', MV Wb w' mb tb lv sv ov m (ordO m roots) → F18.k9 K lv rv (.pointer (some ⟨b4, 0, none⟩)) (.pointer (some ⟨mb, 0, none⟩)) w') :
    ∀ (f k : Nat) (w : World) (o : List Nat) (ov : Value), m.length < k + f → k ≤ 100000 → bfs m f o k = ordO m roots → EI Wb w mb tb lv sv ov roots m o k →
      F18.l6 K lv rv (.pointer (some ⟨b4, 0, none⟩)) (.pointer (some ⟨mb, 0, none⟩)) (.int .i64 (k : Int)) w := by
  have hO := hC.spl
  have hlen := hC.few
  have hml := hO.len
  have fin : ∀ (k : Nat) (w : World) (o : List Nat) (ov : Value), o.length ≤ k → k ≤ 100000 → o = ordO m roots → EI Wb w mb tb lv sv ov roots m o k → F18.l6 K lv rv (.pointer (some ⟨b4, 0, none⟩)) (.pointer (some ⟨mb, 0, none⟩)) (.int .i64 (k : Int)) w := by
    intro k w o ov hk hk2 ho hI
    refine F18.l6.to ?_
    simp only [C.ite_true, C.ite_false, C.pick_true, C.pick_false, C.not_bool, C.field_ptr, C.nilCheck_ptr, C.add_mk, C.sub_mk, C.mul_mk, C.eql_mk, C.neq_mk, C.lss_mk, C.leq_mk, C.gtr_mk, C.geq_mk, C.conv_mk, C.len_mk, C.ext_0, C.ext_1, C.ext3_0, C.ext3_1, C.ext3_2, C.guarded_yes, C.guarded_tf, C.guarded_ft, C.guarded_undef, Bool.not_true, Bool.not_false, Nat.zero_add, eq_self, decide_true, decide_false]
    refine C.load1_of (v := ov) hI.mv.blk rfl (C.len_rd hI.mv.own.rd ?_)
    rw [intC_len, ordL_len]
    simp only [C.ite_true, C.ite_false, C.pick_true, C.pick_false, C.not_bool, C.field_ptr, C.nilCheck_ptr, C.add_mk, C.sub_mk, C.mul_mk, C.eql_mk, C.neq_mk, C.lss_mk, C.leq_mk, C.gtr_mk, C.geq_mk, C.conv_mk, C.len_mk, C.ext_0, C.ext_1, C.ext3_0, C.ext3_1, C.ext3_2, C.guarded_yes, C.guarded_tf, C.guarded_ft, C.guarded_undef, Bool.not_true, Bool.not_false, Nat.zero_add, eq_self, decide_true, decide_false, show ¬ ((k : Int) < (o.length : Int)) by omega]
    exact h ov w (by rw [← ho]; exact hI.mv)
  intro f
  induction f with
  | zero => exact fun k w o ov hf hk hb hI => fin k w o ov (by have := hI.pls.len; omega) hk hb hI
  | succ f ih =>
    intro k w o ov hf hk2 hb hI
    have hol := hI.pls.len
    by_cases hk : o.length ≤ k
    · refine fin k w o ov hk hk2 ?_ hI
      rw [← hb]
      unfold bfs
      rw [List.getElem?_eq_none hk]
    have kl : k < o.length := by omega
    have kl' : k < (ordL m o).length := by rw [ordL_len]; exact kl
    have hp := hI.pls.2 o[k] (List.getElem_mem kl)
    have hOb := (hO.get o[k] hp).1
    have hal : m[o[k]].at_ < l.length := by have := hOb.end_; omega
    have hfl := hOb.n
    refine F18.l6.to ?_
    simp only [C.ite_true, C.ite_false, C.pick_true, C.pick_false, C.not_bool, C.field_ptr, C.nilCheck_ptr, C.add_mk, C.sub_mk, C.mul_mk, C.eql_mk, C.neq_mk, C.lss_mk, C.leq_mk, C.gtr_mk, C.geq_mk, C.conv_mk, C.len_mk, C.ext_0, C.ext_1, C.ext3_0, C.ext3_1, C.ext3_2, C.guarded_yes, C.guarded_tf, C.guarded_ft, C.guarded_undef, Bool.not_true, Bool.not_false, Nat.zero_add, eq_self, decide_true, decide_false]
    refine C.load1_of (v := ov) hI.mv.blk rfl (C.len_rd hI.mv.own.rd ?_)
    rw [intC_len, ordL_len]
    simp only [C.ite_true, C.ite_false, C.pick_true, C.pick_false, C.not_bool, C.field_ptr, C.nilCheck_ptr, C.add_mk, C.sub_mk, C.mul_mk, C.eql_mk, C.neq_mk, C.lss_mk, C.leq_mk, C.gtr_mk, C.geq_mk, C.conv_mk, C.len_mk, C.ext_0, C.ext_1, C.ext3_0, C.ext3_1, C.ext3_2, C.guarded_yes, C.guarded_tf, C.guarded_ft, C.guarded_undef, Bool.not_true, Bool.not_false, Nat.zero_add, eq_self, decide_true, decide_false, show ((k : Int) < (o.length : Int)) by omega]
    refine F18.k8.to ?_
    have hS0 : ∀ (w' : World) ov' o', MV Wb w' mb tb lv sv ov' m o' → (∃ ov n, w'.heap[mb]? = some (.cells #[lv, sv, .map (some tb), ov, n] 72 (0, 0))) := fun w' ov' o' M => ⟨_, _, M.blk⟩
    refine C.draw_of (fun w' => (∃ ov n, w'.heap[mb]? = some (.cells #[lv, sv, .map (some tb), ov, n] 72 (0, 0)))) fun w1 hf1 he1 => ⟨hS0 w1 _ _ (hI.mv.keep hf1), ?_⟩
    have M1 := hI.mv.keep hf1
    simp only [C.ite_true, C.ite_false, C.pick_true, C.pick_false, C.not_bool, C.field_ptr, C.nilCheck_ptr, C.add_mk, C.sub_mk, C.mul_mk, C.eql_mk, C.neq_mk, C.lss_mk, C.leq_mk, C.gtr_mk, C.geq_mk, C.conv_mk, C.len_mk, C.ext_0, C.ext_1, C.ext3_0, C.ext3_1, C.ext3_2, C.guarded_yes, C.guarded_tf, C.guarded_ft, C.guarded_undef, Bool.not_true, Bool.not_false, Nat.zero_add, eq_self, decide_true, decide_false, and_true]
    refine C.loadAS_of (vs := [lv, sv]) (fun w' hw => by obtain ⟨ov', n, x⟩ := hw; exact ⟨_, _, _, x, by simp, by simp⟩) ?_
    refine C.load1_of (v := ov) M1.blk rfl ⟨hS0 _ _ _ M1, C.idx_int M1.own.rd kl' fun g oo cs e fz hg hcv => C.load1_of hg hcv ⟨hS0 _ _ _ M1, ?_⟩⟩
    rw [ordL_get kl kl', atA_get hp]
    refine fields_c (hlv.keep M1.fr) hsv.one.2 hr hOb fun fv w4 hf4 hfv hfb => ⟨hS0 _ _ _ (M1.keep hf4), ?_⟩
    have M4 := M1.keep hf4
    have hoff : ∀ g ∈ mb :: tb :: blkS ov, g ∉ blkS fv := fun g hg c => by
      have h2 : g < Wb.heap.size := hlv.lt (fun e => by
        have h0 : (intC l).length = 0 := by rw [e]; rfl
        rw [intC_len] at h0
        omega) g (hfb g c)
      obtain ⟨l1, l2, l3⟩ := M4.lo
      rcases List.mem_cons.1 hg with d | d
      · omega
      · rcases List.mem_cons.1 d with d | d
        · omega
        · have := M4.new g (mem_blkS.1 d); omega
    refine moved_c hO hlen hlv hsv.one.2 hr hI.pls M4 hfv (hr.fs hO hp) (hC.fine _ (List.getElem_mem hp)) (by omega) (fun _ => hoff) fun nv ov5 w5 M5 hf5 hg5 hn5 ho5 => ⟨hS0 _ _ _ M5, ?_⟩
    refine F18.k7.to ?_
    simp only [C.ite_true, C.ite_false, C.pick_true, C.pick_false, C.not_bool, C.field_ptr, C.nilCheck_ptr, C.add_mk, C.sub_mk, C.mul_mk, C.eql_mk, C.neq_mk, C.lss_mk, C.leq_mk, C.gtr_mk, C.geq_mk, C.conv_mk, C.len_mk, C.ext_0, C.ext_1, C.ext3_0, C.ext3_1, C.ext3_2, C.guarded_yes, C.guarded_tf, C.guarded_ft, C.guarded_undef, Bool.not_true, Bool.not_false, Nat.zero_add, eq_self, decide_true, decide_false]
    rw [wrap64_id (n := (k : Int) + 1) (by omega), show (k : Int) + 1 = ((k + 1 : Nat) : Int) by omega]
    have hfs := fsA_get hp
    rw [← hfs] at M5
    have hpre := vis_pre m (fsA m o[k]) o
    refine ih (k + 1) w5 (vis m o (fsA m o[k])) ov5 (by omega) (by omega) ?_ ⟨M5, hI.pls.vis _, fun i p hi hip x hx q hq => ?_⟩
    · rw [← hb]
      conv => rhs; unfold bfs
      rw [List.getElem?_eq_getElem kl]
    · have e : (vis m o (fsA m o[k]))[i]? = o[i]? := by
        obtain ⟨t, ht⟩ := hpre
        rw [← ht, List.getElem?_append_left (by omega)]
      rw [e] at hip
      by_cases c : i = k
      · subst c
        rw [List.getElem?_eq_getElem kl] at hip
        simp only [Option.some.injEq] at hip
        subst hip
        exact (vis_mem _).2 (.inr ⟨x, hx, hq⟩)
      · exact hpre.subset (hI.done i p (by omega) hip x hx q hq)
end
end Go.Proofs.YtfjilngljnlkjaaV
namespace Go.Proofs.YtfjilngljnlkjaaV
open Go Go.Proofs Go.RowKit
set_option linter.unusedVariables false
set_option linter.unusedSimpArgs false
set_option maxRecDepth 10000
section
variable {K : VK} {w : World}
theorem bsNd (s : Int) (A : Option Addr) (n c : Nat) : (Instr.buildSlice 40 1 #[(0, .agg #[.int .i64 s, .slice A n c])]).run Try.prog w = .ok (.slice (some ⟨w.heap.size, 0, none⟩) 1 1) (w.alloc (.cells #[.int .i64 s, .slice A n c] 59)) := by kernel_rfl
theorem bNd (s : Int) (A : Option Addr) (n c : Nat) : (Instr.build 59 #[(0, .int .i64 s), (1, .slice A n c)]).run Try.prog w = .ok (.agg #[.int .i64 s, .slice A n c]) w := by kernel_rfl
theorem bsRows (A : Option Addr) (n c : Nat) : (Instr.buildSlice 39 1 #[(0, .slice A n c)]).run Try.prog w = .ok (.slice (some ⟨w.heap.size, 0, none⟩) 1 1) (w.alloc (.cells #[.slice A n c] 57)) := by kernel_rfl
theorem bView (A : Option Addr) (n c : Nat) : (Instr.build 42 #[(0, .slice A n c)]).run Try.prog w = .ok (.agg #[.slice A n c, .slice none 0 0]) w := by kernel_rfl
theorem bView0 : (Instr.build 42 #[]).run Try.prog w = .ok (.agg #[.slice none 0 0, .slice none 0 0]) w := by kernel_rfl
/-- What stands while nodes are laid. -/
structure NI (W1 w : World) (b9 : Nat) (rows nodes : Value) (N : List Nd) (fs : List Value) : Prop where
  fr : Fr [b9] W1 w
  h9 : w.heap[b9]? = some (.cells #[rows, nodes] 42 (0, 0))
  own : OwnNodes W1.heap.size w nodes N fs
theorem NI.keep {W1 w w' : World} {b9 : Nat} {rows nodes : Value} {N : List Nd} {fs : List Value} (h : NI W1 w b9 rows nodes N fs) (hf : Fr [] w w') : NI W1 w' b9 rows nodes N fs :=
  ⟨h.fr.trans hf.w, hf.at_ h.h9 (by simp), h.own.keep hf fun g hg => by simp at hg⟩
theorem NI.app {W1 : World} {b9 : Nat} {rows nodes : Value} {N : List Nd} {fs : List Value} {s : Int} {vs : List Va} {g : Nat} {v : Value} (h : NI W1 w b9 rows nodes N fs) (h9 : b9 < W1.heap.size) (hg : w.heap[g]? = some (.cells #[.int .i64 s, v] 59 (0, 0))) (hv : OwnS w v 75 2 (valC vs)) (hvl : ∀ g ∈ blkS v, W1.heap.size ≤ g) (hL : (N.length + 1) * 32 ≤ 140737488355328)
    {G F : World → Prop} (hG : ∀ w', Fr [b9] W1 w' → G w') (hk : ∀ w' nodes' fs', NI W1 w' b9 rows nodes' (N ++ [(s, vs)]) fs' → F w') :
    C.run Try.prog (Builtin.append_ #[40, 40] 40 #[nodes, .slice (some ⟨g, 0, none⟩) 1 1]) w fun y w1 => (G w1 ∧ C.store 1 (.pointer (some ⟨b9, 1, none⟩)) y w1 fun w2 => (G w2 ∧ F w2)) := by
  have hone := hv.one
  refine C.appN (W0 := bare w) (xs := ndC N fs) (ys := [[.int .i64 s, v]]) (e := 59) (sz := 2) (bytes := 32) (z := .agg #[.int .i64 0, .slice none 0 0]) Try.underlying40 (by kernel_rfl) rfl (by decide) (fr_bare w) (new_bare w _) h.own.sp (RdS.of_block hg rfl (by simp) (by simp) (by simp) (by simp))
    (by
      intro y hy u hu
      simp only [List.mem_singleton] at hy
      subst hy
      simp only [List.mem_cons, List.not_mem_nil, or_false] at hu
      rcases hu with rfl | rfl
      · rfl
      · exact hone.1)
    (by rw [ndC_len h.own.len]; simpa using hL) (by rw [ndC_len h.own.len]; simp; omega) fun x' w1 hf1 hn1 ho1 hb1 hg1 => ?_
  have n9 : b9 ∉ blkS nodes := h.own.sp.nb h.h9 (by decide)
  have fr1 : Fr [b9] W1 w1 := h.fr.then hb1 fun z hz => .inr (h.own.ge z hz)
  have h91 := hb1.at_ h.h9 n9
  refine ⟨hG w1 fr1, C.store1_of h91 ho1.one.2 ho1.one.1 (by simp) fun w2 hu2 => ?_⟩
  have fr2 := fr1.trans hu2.fr
  refine ⟨hG w2 fr2, hk w2 x' (fs ++ [v]) ⟨fr2, hu2.at_, ?_⟩⟩
  have own1 := h.own.snoc (nd := (s, vs)) h.fr.size hb1 hg1 ho1 hv hvl
  exact own1.keep hu2.fr fun z hz => .inl (by simp only [List.mem_singleton] at hz; omega)
theorem EView_nodes {W1 : World} {mb tb b9 b4 : Nat} {lv sv ov rows : Value} {l roots : List Int} {m : List Ob} {O : List Nat} {sz : Value} (hC : Opn l m roots) (hlv : RdS W1 lv 1 (intC l)) (hsv : sv.cells = #[sv]) (hsv' : sv.oneCell' = true) (hr : Rng l) (hO : Pls m O)
    (hmb : W1.heap[mb]? = some (.cells #[lv, sv, .map (some tb), ov, sz] 72 (0, 0))) (hov : OwnS W1 ov 3 1 (intC (ordL m O))) (hm9 : mb ≠ b9) (h9 : b9 < W1.heap.size) (hl9 : l ≠ [] → b9 ∉ blkS lv) (ho9 : b9 ∉ blkS ov)
    (h : ∀ nodes fs w', NI W1 w' b9 rows nodes (O.map (nodeA m)) fs → F18.k17 K (.pointer (some ⟨b4, 0, none⟩)) (.pointer (some ⟨b9, 0, none⟩)) w') :
    ∀ (d j : Nat) (w : World) (nodes : Value) (fs : List Value), O.length = j + d → NI W1 w b9 rows nodes ((O.take j).map (nodeA m)) fs →
      F18.l12 K lv (.pointer (some ⟨b4, 0, none⟩)) (.pointer (some ⟨mb, 0, none⟩)) (.pointer (some ⟨b9, 0, none⟩)) ov (.int .i64 (O.length : Int)) (.int .i64 (j : Int)) w := by
  have hS := hC.spl
  have hlen := hC.few
  have hml := hS.len
  have hol := hO.len
  intro d
  induction d with
  | zero =>
    intro j w nodes fs hj hI
    refine F18.l12.to ?_
    simp only [C.ite_true, C.ite_false, C.pick_true, C.pick_false, C.not_bool, C.field_ptr, C.nilCheck_ptr, C.add_mk, C.sub_mk, C.mul_mk, C.eql_mk, C.neq_mk, C.lss_mk, C.leq_mk, C.gtr_mk, C.geq_mk, C.conv_mk, C.len_mk, C.ext_0, C.ext_1, C.ext3_0, C.ext3_1, C.ext3_2, C.guarded_yes, C.guarded_tf, C.guarded_ft, C.guarded_undef, Bool.not_true, Bool.not_false, Nat.zero_add, eq_self, decide_true, decide_false, show ¬ ((j : Int) < (O.length : Int)) by omega]
    rw [List.take_of_length_le (by omega)] at hI
    exact h nodes fs w hI
  | succ d ih =>
    intro j w nodes fs hj hI
    have jl : j < O.length := by omega
    have jl' : j < (ordL m O).length := by rw [ordL_len]; exact jl
    have hp := hO.2 _ (List.getElem_mem jl)
    have hOb := (hS.get O[j] hp).1
    have hal : m[O[j]].at_ < l.length := by have := hOb.end_; omega
    have hhd : l[m[O[j]].at_] = m[O[j]].hd := by
      have := hOb.hd
      rw [Nat.sub_zero, List.getElem?_eq_getElem hal] at this
      exact Option.some.inj this
    obtain ⟨d1, d2⟩ := hd_div hOb.n
    have hhd' : m[O[j]].hd = m[O[j]].ser * 128 + (m[O[j]].fs.length : Int) := rfl
    have s0 := hOb.s0; have s1 := hOb.s1; have sn := hOb.n
    have ovw := hov.keep' hI.fr fun g hg c => by simp only [List.mem_singleton] at c; subst c; exact ho9 hg
    have lvw : ∀ w', Fr [b9] W1 w' → RdS w' lv 1 (intC l) := fun w' hw => hlv.keepS hw fun hx g hg c => by simp only [List.mem_singleton] at hg; subst hg; exact hl9 (intC_ne hx) c
    have mbw : ∀ w', Fr [b9] W1 w' → w'.heap[mb]? = some (.cells #[lv, sv, .map (some tb), ov, sz] 72 (0, 0)) := fun w' hw => hw.at_ hmb (by simp; exact hm9)
    refine F18.l12.to ?_
    simp only [C.ite_true, C.ite_false, C.pick_true, C.pick_false, C.not_bool, C.field_ptr, C.nilCheck_ptr, C.add_mk, C.sub_mk, C.mul_mk, C.eql_mk, C.neq_mk, C.lss_mk, C.leq_mk, C.gtr_mk, C.geq_mk, C.conv_mk, C.len_mk, C.ext_0, C.ext_1, C.ext3_0, C.ext3_1, C.ext3_2, C.guarded_yes, C.guarded_tf, C.guarded_ft, C.guarded_undef, Bool.not_true, Bool.not_false, Nat.zero_add, eq_self, decide_true, decide_false, show ((j : Int) < (O.length : Int)) by omega]
    refine F18.k13.to (C.idx_int ovw.rd jl' fun g oo cs e fz hg hcv => C.load1_of hg hcv ?_)
    rw [ordL_get jl jl', atA_get hp]
    refine C.idx_int (lvw w hI.fr) hal fun g oo cs e fz hg hcv => C.load1_of hg hcv ?_
    rw [hhd]
    refine Split_c (by omega) (fun _ _ => ?_) (fun c => absurd ⟨by omega, by omega⟩ c)
    rw [d1, d2]
    simp only [C.ite_true, C.ite_false, C.pick_true, C.pick_false, C.not_bool, C.field_ptr, C.nilCheck_ptr, C.add_mk, C.sub_mk, C.mul_mk, C.eql_mk, C.neq_mk, C.lss_mk, C.leq_mk, C.gtr_mk, C.geq_mk, C.conv_mk, C.len_mk, C.ext_0, C.ext_1, C.ext3_0, C.ext3_1, C.ext3_2, C.guarded_yes, C.guarded_tf, C.guarded_ft, C.guarded_undef, Bool.not_true, Bool.not_false, Nat.zero_add, eq_self, decide_true, decide_false]
    refine C.draw_of (fun w' => w'.heap[mb]? = some (.cells #[lv, sv, .map (some tb), ov, sz] 72 (0, 0))) fun w1 hf1 he1 => ⟨mbw w1 (hI.fr.trans hf1.w), ?_⟩
    have I1 := hI.keep hf1
    simp only [C.ite_true, C.ite_false, C.pick_true, C.pick_false, C.not_bool, C.field_ptr, C.nilCheck_ptr, C.add_mk, C.sub_mk, C.mul_mk, C.eql_mk, C.neq_mk, C.lss_mk, C.leq_mk, C.gtr_mk, C.geq_mk, C.conv_mk, C.len_mk, C.ext_0, C.ext_1, C.ext3_0, C.ext3_1, C.ext3_2, C.guarded_yes, C.guarded_tf, C.guarded_ft, C.guarded_undef, Bool.not_true, Bool.not_false, Nat.zero_add, eq_self, decide_true, decide_false, and_true]
    refine C.loadAS_of (vs := [lv, sv]) (fun w' hw => ⟨_, _, _, hw, by simp, by simp⟩) (C.loadAS_of (vs := [lv, sv]) (fun w' hw => ⟨_, _, _, hw, by simp, by simp⟩) ?_)
    have SS : ∀ w', Fr [] w1 w' → w'.heap[mb]? = some (.cells #[lv, sv, .map (some tb), ov, sz] 72 (0, 0)) := fun w' hw => mbw w' (I1.fr.trans hw.w)
    have ld : ∀ w' (F : VK), Fr [] w1 w' → F nodes w' → C.load1 (.pointer (some ⟨b9, 1, none⟩)) w' F := fun w' F hw hF => C.load1_of (v := nodes) (I1.keep hw).h9 rfl hF
    have nx : ∀ w' nodes' fs', NI W1 w' b9 rows nodes' ((O.take j).map (nodeA m) ++ [(m[O[j]].ser, m[O[j]].fs.map (val m))]) fs' → F18.k16 K lv (.pointer (some ⟨b4, 0, none⟩)) (.pointer (some ⟨mb, 0, none⟩)) (.pointer (some ⟨b9, 0, none⟩)) ov (.int .i64 (O.length : Int)) (.int .i64 (j : Int)) w' := fun w' nodes' fs' hI' => by
      refine F18.k16.to ?_
      simp only [C.ite_true, C.ite_false, C.pick_true, C.pick_false, C.not_bool, C.field_ptr, C.nilCheck_ptr, C.add_mk, C.sub_mk, C.mul_mk, C.eql_mk, C.neq_mk, C.lss_mk, C.leq_mk, C.gtr_mk, C.geq_mk, C.conv_mk, C.len_mk, C.ext_0, C.ext_1, C.ext3_0, C.ext3_1, C.ext3_2, C.guarded_yes, C.guarded_tf, C.guarded_ft, C.guarded_undef, Bool.not_true, Bool.not_false, Nat.zero_add, eq_self, decide_true, decide_false]
      rw [wrap64_id (n := (j : Int) + 1) (by omega), show (j : Int) + 1 = ((j + 1 : Nat) : Int) by omega]
      refine ih (j + 1) w' nodes' fs' (by omega) ?_
      have et : O.take (j + 1) = O.take j ++ [O[j]] := by rw [List.take_add_one, List.getElem?_eq_getElem jl]; rfl
      have en : nodeA m O[j] = (m[O[j]].ser, m[O[j]].fs.map (val m)) := by unfold nodeA; rw [serA_get hp, fsA_get hp]
      rw [et, List.map_append, List.map_singleton, en]
      exact hI'
    have app : ∀ (A : Option Addr) (n c : Nat) (w7 : World), Fr [] w1 w7 → OwnS w7 (.slice A n c) 75 2 (valC (m[O[j]].fs.map (val m))) → (∀ g ∈ blkS (.slice A n c), W1.heap.size ≤ g) →
        C.run Try.prog (Builtin.append_ #[40, 40] 40 #[nodes, .slice (some ⟨w7.heap.size, 0, none⟩) 1 1]) (w7.alloc (.cells #[.int .i64 m[O[j]].ser, .slice A n c] 59)) fun y w8 => (w8.heap[mb]? = some (.cells #[lv, sv, .map (some tb), ov, sz] 72 (0, 0)) ∧ C.store 1 (.pointer (some ⟨b9, 1, none⟩)) y w8 fun w9 => (w9.heap[mb]? = some (.cells #[lv, sv, .map (some tb), ov, sz] 72 (0, 0)) ∧ F18.k16 K lv (.pointer (some ⟨b4, 0, none⟩)) (.pointer (some ⟨mb, 0, none⟩)) (.pointer (some ⟨b9, 0, none⟩)) ov (.int .i64 (O.length : Int)) (.int .i64 (j : Int)) w9)) := by
      intro A n c w7 hf7 ho7 hn7
      have hn := New.mk' w7 (.cells #[.int .i64 m[O[j]].ser, .slice A n c] 59)
      exact ((I1.keep hf7).keep hn.fr).app h9 hn.at_ (ho7.keep hn.fr (by simp)) hn7 (by simp; omega) mbw nx
    have al : ∀ (A : Option Addr) (n c : Nat) (w7 : World), Fr [] w1 w7 → Fr [] w1 (w7.alloc (.cells #[.int .i64 m[O[j]].ser, .slice A n c] 59)) := fun A n c w7 hf7 => hf7.trans (New.mk' w7 _).fr
    have fl : ∀ (w7 : World) (F : VK), Fr [] w1 w7 → (∀ fv w8, Fr [] w7 w8 → RdS w8 fv 1 (intC m[O[j]].fs) → F fv w8) → C.call Try.prog 35 #[.agg #[lv, sv], .int .i64 (m[O[j]].at_ : Int)] w7 F := fun w7 F hf7 hF => fields_c (lvw w7 (I1.fr.trans hf7.w)) hsv hr hOb fun fv w8 a b _ => hF fv w8 a b
    have vl : ∀ (fv : Value) (w7 : World) (F : VK), Fr [] w1 w7 → RdS w7 fv 1 (intC m[O[j]].fs) → (∀ A n c w8, Fr [] w7 w8 → OwnS w8 (.slice A n c) 75 2 (valC (m[O[j]].fs.map (val m))) → (∀ g ∈ blkS (.slice A n c), W1.heap.size ≤ g) → F (.slice A n c) w8) → C.call Try.prog 38 #[.agg #[lv, sv], fv] w7 F := fun fv w7 F hf7 hfv hF =>
      values_c (lvw w7 (I1.fr.trans hf7.w)) hsv hsv' hr hS hfv (hr.fs hS hp) (hC.fine _ (List.getElem_mem hp)) (by omega) fun nv w8 hf8 hn8 ho8 => by
        obtain ⟨A, c, e⟩ := ho8.len
        subst e
        exact hF _ _ _ w8 hf8 ho8 fun g hg => by have := hn8 g (mem_blkS.1 hg); have := (I1.fr.trans hf7.w).size; omega
    have R0 := Fr.refl [] w1
    refine ⟨ld w1 _ R0 ⟨SS _ R0, fl w1 _ R0 fun fv w2 hf2 hfv => ⟨SS _ hf2, vl fv w2 _ hf2 hfv fun A n c w3 hf3 ho3 hn3 => ⟨SS _ (hf2.trans hf3), _, fun w' _ => bNd _ A n c, C.run_of (bsNd _ A n c) ⟨SS _ (al A n c w3 (hf2.trans hf3)), app A n c w3 (hf2.trans hf3) ho3 hn3⟩⟩⟩⟩, ?_⟩
    refine fl w1 _ R0 fun fv w2 hf2 hfv => ⟨SS _ hf2, ld w2 _ hf2 ⟨SS _ hf2, vl fv w2 _ hf2 hfv fun A n c w3 hf3 ho3 hn3 => ⟨SS _ (hf2.trans hf3), _, fun w' _ => bNd _ A n c, C.run_of (bsNd _ A n c) ⟨SS _ (al A n c w3 (hf2.trans hf3)), app A n c w3 (hf2.trans hf3) ho3 hn3⟩⟩⟩, ?_⟩
    refine vl fv w2 _ hf2 hfv fun A n c w3 hf3 ho3 hn3 => ⟨SS _ (hf2.trans hf3), _, fun w' _ => bNd _ A n c, ?_⟩
    have f3 := hf2.trans hf3
    exact ⟨ld w3 _ f3 ⟨SS _ f3, C.run_of (bsNd _ A n c) ⟨SS _ (al A n c w3 f3), app A n c w3 f3 ho3 hn3⟩⟩, C.run_of (bsNd _ A n c) ⟨SS _ (al A n c w3 f3), ld _ _ (al A n c w3 f3) ⟨SS _ (al A n c w3 f3), app A n c w3 f3 ho3 hn3⟩⟩⟩
end
end Go.Proofs.YtfjilngljnlkjaaV
namespace Go.Proofs.YtfjilngljnlkjaaV
open Go Go.Proofs Go.RowKit
set_option linter.unusedVariables false
set_option linter.unusedSimpArgs false
set_option maxRecDepth 10000
theorem ordL_srt {l : List Int} {m : List Ob} {roots : List Int} (hS : Spl 0 l m) : srt (ordL m (ordO m roots)) = ordL m (slO m roots) := by
  refine srt_is ?_ ((slO_perm m roots).map _)
  unfold ordL
  rw [List.pairwise_map]
  refine List.Pairwise.imp_of_mem (fun {a b} ha hb h => ?_) (slO_sorted m roots)
  have pa := (slO_pls m roots).2 a ha
  have pb := (slO_pls m roots).2 b hb
  rw [atA_get pa, atA_get pb]
  have := hS.mono h pb
  omega
theorem nodes_srt {m : List Ob} {roots : List Int} {A : List Nat} (hA : A.Perm (List.range ((slO m roots).map (nodeA m)).length)) (hs : SrtL (fun i => (nodeD ((slO m roots).map (nodeA m)) i).1) A) :
    A.map (nodeD ((slO m roots).map (nodeA m))) = (srtS m (ordO m roots)).map (nodeA m) := by
  rw [List.length_map] at hA
  have hn : ∀ i, i < (slO m roots).length → nodeD ((slO m roots).map (nodeA m)) i = nodeA m ((slO m roots).getD i 0) := fun i hi => by
    simp [nodeD, List.getD_eq_getElem?_getD, List.getElem?_eq_getElem hi]
  have hs' : SrtL (fun i => serA m ((slO m roots).getD i 0)) A := by
    refine List.Pairwise.imp_of_mem (fun {a b} ha hb h => ?_) hs
    have la := List.mem_range.1 (hA.mem_iff.1 ha)
    have lb := List.mem_range.1 (hA.mem_iff.1 hb)
    unfold lexS at h ⊢
    simp only [hn a la, hn b lb] at h
    exact h
  rw [← srt_places (slO_sorted m roots) (slO_perm m roots) hA hs', List.map_map]
  apply List.map_congr_left
  intro i hi
  exact hn i (List.mem_range.1 (hA.mem_iff.1 hi))
section
variable {K : VK} {w : World}
theorem EView_c {lv rv : Value} {l roots : List Int} (hl : RdS w lv 1 (intC l)) (hr : Rng l) (hrv : RdS w rv 1 (intC roots)) (hrr : Rng roots) (hrl : roots.length ≤ 8796093022207)
    (h1 : ∀ c m w', Cr l roots c m → c ≠ 0 → Fr [] w w' → K (.tuple #[.agg #[.slice none 0 0, .slice none 0 0], .int .i64 c]) w')
    (h0 : ∀ m rows nodes w', Cr l roots 0 m → Fr [] w w' → IsV w' rows nodes (vwO m roots) → K (.tuple #[.agg #[rows, nodes], .int .i64 0]) w') :
    C.call Try.prog 18 #[lv, rv] w K := by
  refine F18.sh (C.new_of fun b4 w0 hn0 => ?_)
  have i0 := hn0.is
  have z0 := hn0.sz
  have h40 := hn0.at_
  have out1 : ∀ (c : Int) w1, Fr [] w0 w1 → (∀ w', Fr [] w w' → K (.tuple #[.agg #[.slice none 0 0, .slice none 0 0], .int .i64 c]) w') → C.run Try.prog (Instr.build 42 #[]) w1 fun x w6 => C.store 2 (.pointer (some ⟨b4, 0, none⟩)) x w6 fun w7 => C.loadA 2 (.pointer (some ⟨b4, 0, none⟩)) w7 fun r8 _ => K (.tuple #[r8, .int .i64 c]) w7 := by
    intro c w1 hf1 hk
    refine C.run_of bView0 (C.store_all (x := .agg #[.slice none 0 0, .slice none 0 0]) (hf1.at_ h40 (by simp)) rfl (by simp [Value.cells, Value.oneCell']) rfl fun w2 hu2 => C.loadA_all hu2.at_ rfl ?_)
    exact hk w2 ((hn0.fr.trans hf1).then hu2.fr fun z hz => .inr (by simp only [List.mem_singleton] at hz; omega))
  refine start_c (hl.keep hn0.fr) hr (hrv.keep hn0.fr) hrr (fun c m w1 hc c0 hf1 => ?_) (fun m w1 hc hn hf1 => ?_) fun m sv mb tb Wb w1 hc hfr hfb hlb hrb hsb hM => ?_
  · simp only [C.ite_true, C.ite_false, C.pick_true, C.pick_false, C.not_bool, C.field_ptr, C.nilCheck_ptr, C.add_mk, C.sub_mk, C.mul_mk, C.eql_mk, C.neq_mk, C.lss_mk, C.leq_mk, C.gtr_mk, C.geq_mk, C.conv_mk, C.len_mk, C.ext_0, C.ext_1, C.ext3_0, C.ext3_1, C.ext3_2, C.guarded_yes, C.guarded_tf, C.guarded_ft, C.guarded_undef, Bool.not_true, Bool.not_false, Nat.zero_add, eq_self, decide_true, decide_false, ne_eq, c0, not_false_eq_true]
    exact out1 c w1 hf1 fun w' hf' => h1 c m w' (.inl ⟨hc, c0⟩) c0 hf'
  · simp only [C.ite_true, C.ite_false, C.pick_true, C.pick_false, C.not_bool, C.field_ptr, C.nilCheck_ptr, C.add_mk, C.sub_mk, C.mul_mk, C.eql_mk, C.neq_mk, C.lss_mk, C.leq_mk, C.gtr_mk, C.geq_mk, C.conv_mk, C.len_mk, C.ext_0, C.ext_1, C.ext3_0, C.ext3_1, C.ext3_2, C.guarded_yes, C.guarded_tf, C.guarded_ft, C.guarded_undef, Bool.not_true, Bool.not_false, Nat.zero_add, eq_self, decide_true, decide_false, ne_eq, show ¬ (4 : Int) = 0 by decide, not_false_eq_true]
    exact out1 4 w1 hf1 fun w' hf' => h1 4 m w' (.inr (.inl ⟨rfl, hc, hn⟩)) (by decide) hf'
  · have hcr : Cr l roots 0 m := .inr (.inr ⟨rfl, hc, hfr⟩)
    have hO := hcr.opn
    have hS := hO.spl
    have hlen := hO.few
    have hml := hS.len
    simp only [C.ite_true, C.ite_false, C.pick_true, C.pick_false, C.not_bool, C.field_ptr, C.nilCheck_ptr, C.add_mk, C.sub_mk, C.mul_mk, C.eql_mk, C.neq_mk, C.lss_mk, C.leq_mk, C.gtr_mk, C.geq_mk, C.conv_mk, C.len_mk, C.ext_0, C.ext_1, C.ext3_0, C.ext3_1, C.ext3_2, C.guarded_yes, C.guarded_tf, C.guarded_ft, C.guarded_undef, Bool.not_true, Bool.not_false, Nat.zero_add, eq_self, decide_true, decide_false, ne_eq, not_true_eq_false]
    have hoff : roots ≠ [] → ∀ g ∈ mb :: tb :: blkS (.slice none 0 0), g ∉ blkS rv := fun hne g hg c => by
      have := hrb.lt (fun e => hne (by cases roots with | nil => rfl | cons x t => simp [intC] at e)) g c
      obtain ⟨l1, l2, l3⟩ := hM.lo
      rcases List.mem_cons.1 hg with d | d
      · omega
      · rcases List.mem_cons.1 d with d | d
        · omega
        · simp [blkS, Value.ownBlock] at d
    refine F18.k4.to (moved_c hO.spl hO.few hlb hsb.one.2 hr (Pls.nil m) hM (hrb.keep hM.fr) hrr hfr (by omega) hoff fun hv ov w2 M2 hf2 hg2 hn2 ho2 => ?_)
    refine EView_loop hO hlb hsb hr (fun ov3 w3 M3 => ?_) (m.length + 1) 0 w2 (vis m [] roots) ov (by omega) (by omega) rfl ⟨M2, (Pls.nil m).vis _, fun i p hi => by omega⟩
    refine F18.k9.to ?_
    simp only [C.ite_true, C.ite_false, C.pick_true, C.pick_false, C.not_bool, C.field_ptr, C.nilCheck_ptr, C.add_mk, C.sub_mk, C.mul_mk, C.eql_mk, C.neq_mk, C.lss_mk, C.leq_mk, C.gtr_mk, C.geq_mk, C.conv_mk, C.len_mk, C.ext_0, C.ext_1, C.ext3_0, C.ext3_1, C.ext3_2, C.guarded_yes, C.guarded_tf, C.guarded_ft, C.guarded_undef, Bool.not_true, Bool.not_false, Nat.zero_add, eq_self, decide_true, decide_false]
    refine M3.img (values_c (hlb.keep M3.fr) hsb.one.2 hsb.one.1 hr hS (hrb.keep M3.fr) hrr hfr hrl fun rw4 w4 hf4 hn4 ho4 => ?_)
    obtain ⟨A, c, erw⟩ := ho4.len
    subst erw
    have hn5 := New.mk' w4 (.cells #[.slice A (valC (roots.map (val m))).length c] 57)
    refine C.run_of (bsRows A _ c) (C.run_of (bView _ _ _) (C.new_of fun b9 w6 hn6 => C.store_all (x := .agg #[.slice (some ⟨w4.heap.size, 0, none⟩) 1 1, .slice none 0 0]) hn6.at_ rfl (by simp [Value.cells, Value.oneCell']) rfl fun w7 hu7 => ?_))
    have i6 := hn6.is
    have z5 := hn5.sz
    have z6 := hn6.sz
    have f47 : Fr [] w4 w7 := (hn5.fr.trans hn6.fr).then hu7.fr fun z hz => .inr (by simp only [List.mem_singleton] at hz; omega)
    have M7 := (M3.keep hf4).keep f47
    -- the rows
    have rows7 : OwnRows w3.heap.size w7 (.slice (some ⟨w4.heap.size, 0, none⟩) 1 1) [roots.map (val m)] [.slice A (valC (roots.map (val m))).length c] := by
      have hat : w7.heap[w4.heap.size]? = some (.cells #[.slice A (valC (roots.map (val m))).length c] 57 (0, 0)) := hu7.fr.at_ (hn6.fr.at_ hn5.at_ (by simp)) (by simp; omega)
      refine ⟨OwnS.of_block hat rfl (by simp) (by simp) rfl (by simp [slC, Value.oneCell']) (by simp [slC]), fun g hg => ?_, rfl, fun i a b => ?_⟩
      · have := mem_blkS.1 hg
        simp only [Value.ownBlock, Option.some.injEq] at this
        have := hf4.size
        omega
      · have : i = 0 := by simp at a; omega
        subst this
        exact ⟨ho4.keep f47 (by simp), fun g hg => hn4 g (mem_blkS.1 hg)⟩
    try simp only [C.ite_true, C.ite_false, C.pick_true, C.pick_false, C.not_bool, C.field_ptr, C.nilCheck_ptr, C.add_mk, C.sub_mk, C.mul_mk, C.eql_mk, C.neq_mk, C.lss_mk, C.leq_mk, C.gtr_mk, C.geq_mk, C.conv_mk, C.len_mk, C.ext_0, C.ext_1, C.ext3_0, C.ext3_1, C.ext3_2, C.guarded_yes, C.guarded_tf, C.guarded_ft, C.guarded_undef, Bool.not_true, Bool.not_false, Nat.zero_add, eq_self, decide_true, decide_false]
    refine C.load1_of (v := ov3) M7.blk rfl (SortI_c M7.own (by rw [ordL_len]; have := (ordO_pls m roots).len; omega) fun w8 hf8 ho8 => ?_)
    rw [ordL_srt hS] at ho8
    have hmb8 := hf8.at_ M7.blk (M7.own.nb M7.blk (by decide))
    have h98 : w8.heap[b9]? = some (.cells #[.slice (some ⟨w4.heap.size, 0, none⟩) 1 1, .slice none 0 0] 42 (0, 0)) := hf8.at_ hu7.at_ (M7.own.nb hu7.at_ (by decide))
    have rows8 := rows7.keep hf8 fun g hg => by
      obtain ⟨⟨_, hx⟩, _⟩ := M7.own
      rcases hx with ⟨e, _⟩ | ⟨k, cap, cur, e, _, hh, _⟩
      · rw [e] at hg; simp [blkS, Value.ownBlock] at hg
      · rw [e] at hg
        simp [blkS, Value.ownBlock] at hg
        subst hg
        exact .inr (.inr ⟨_, _, _, hh, by decide, by decide⟩)
    have fb8 : Fr [] Wb w8 := M7.fr.then hf8 fun z hz => .inr (M7.new z (mem_blkS.1 hz))
    have hb4 : b4 < Wb.heap.size := by have := hfb.size; omega
    try simp only [C.ite_true, C.ite_false, C.pick_true, C.pick_false, C.not_bool, C.field_ptr, C.nilCheck_ptr, C.add_mk, C.sub_mk, C.mul_mk, C.eql_mk, C.neq_mk, C.lss_mk, C.leq_mk, C.gtr_mk, C.geq_mk, C.conv_mk, C.len_mk, C.ext_0, C.ext_1, C.ext3_0, C.ext3_1, C.ext3_2, C.guarded_yes, C.guarded_tf, C.guarded_ft, C.guarded_undef, Bool.not_true, Bool.not_false, Nat.zero_add, eq_self, decide_true, decide_false]
    refine C.load1_of (v := ov3) hmb8 rfl (C.len_rd ho8.rd ?_)
    rw [intC_len, ordL_len]
    have hne9 : mb ≠ b9 := by
      have := lt_of_at (M3.keep hf4).blk
      omega
    have hl9 : l ≠ [] → b9 ∉ blkS lv := fun e hc9 => by
      have := hlb.lt (fun e2 => e (by cases l with | nil => rfl | cons x t => simp [intC] at e2)) b9 hc9
      have := (M3.keep hf4).fr.size
      omega
    refine EView_nodes (W1 := w8) (tb := tb) hO (hlb.keep fb8) hsb.one.2 hsb.one.1 hr (slO_pls m roots) hmb8 ho8 hne9 (lt_of_at h98) hl9 (ho8.nb h98 (by decide)) (fun nodes fs w9 hI => ?_) (slO m roots).length 0 w8 (.slice none 0 0) [] (by omega) ⟨Fr.refl _ _, h98, ⟨rfl, OwnS.nil _ _ _, fun g hg => by simp [blkS, Value.ownBlock] at hg, fun i a b => by simp at b⟩⟩
    refine F18.k17.to ?_
    simp only [C.ite_true, C.ite_false, C.pick_true, C.pick_false, C.not_bool, C.field_ptr, C.nilCheck_ptr, C.add_mk, C.sub_mk, C.mul_mk, C.eql_mk, C.neq_mk, C.lss_mk, C.leq_mk, C.gtr_mk, C.geq_mk, C.conv_mk, C.len_mk, C.ext_0, C.ext_1, C.ext3_0, C.ext3_1, C.ext3_2, C.guarded_yes, C.guarded_tf, C.guarded_ft, C.guarded_undef, Bool.not_true, Bool.not_false, Nat.zero_add, eq_self, decide_true, decide_false]
    have hsl := (slO_pls m roots).len
    refine C.load1_of (v := nodes) hI.h9 rfl (SortNodes_c hI.own (by simp; omega) fun P w10 hf10 hP hsP hoP => ?_)
    rw [nodes_srt hP hsP] at hoP
    have h910 := hf10.at_ hI.h9 (hI.own.sp.nb hI.h9 (by decide))
    have rows9 := rows8.keep hI.fr fun g hg => by
      simp only [List.mem_singleton] at hg
      subst hg
      exact .inr (.inr ⟨_, _, _, h98, by decide, by decide⟩)
    have rows10 := rows9.keep hf10 fun g hg => by
      have := hI.own.ge g hg
      obtain ⟨⟨_, hx⟩, _⟩ := hI.own.sp
      rcases hx with ⟨e, _⟩ | ⟨k, cap, cur, e, _, hh, _⟩
      · rw [e] at hg; simp [blkS, Value.ownBlock] at hg
      · rw [e] at hg
        simp [blkS, Value.ownBlock] at hg
        subst hg
        exact .inr (.inr ⟨_, _, _, hh, by decide, by decide⟩)
    have e3 := img_cells rows10.sp.one.2 hoP.sp.one.2
    have h410 : w10.heap[b4]? = some (.cells #[.slice none 0 0, .slice none 0 0] 42 (0, 0)) := by
      have a1 := hfb.at_ h40 (by simp)
      have a2 := fb8.at_ a1 (by simp)
      have hz := fb8.size
      have a3 := hI.fr.at_ a2 (by simp only [List.mem_singleton]; have := (M3.keep hf4).fr.size; omega)
      exact hf10.at_ a3 fun hg => by have := hI.own.ge _ hg; omega
    refine C.loadA_all h910 rfl (C.store_all (x := .agg #[_, nodes]) h410 (by rw [e3]; rfl) (img_ones rows10.sp.one.2 hoP.sp.one.2 rows10.sp.one.1 hoP.sp.one.1) rfl fun w11 hu11 => ?_)
    have h411 := hu11.at_
    rw [e3] at h411
    refine C.loadA_all h411 rfl (h0 m _ nodes w11 hcr ?_ ⟨(rows10.keep hu11.fr fun g hg => ?_).rd, (hoP.keep hu11.fr fun g hg => ?_).rd⟩)
    · have a1 : Fr [] w Wb := hn0.fr.trans hfb
      have a2 : Fr [] w w8 := a1.trans fb8
      have sw : w.heap.size ≤ b9 := by have := a1.size; have := (M3.keep hf4).fr.size; omega
      have a3 : Fr [] w w9 := a2.then hI.fr fun z hz => .inr (by simp only [List.mem_singleton] at hz; omega)
      have a4 : Fr [] w w10 := a3.then hf10 fun z hz => .inr (by have := hI.own.ge z hz; have := a2.size; omega)
      exact a4.then hu11.fr fun z hz => .inr (by simp only [List.mem_singleton] at hz; omega)
    · simp only [List.mem_singleton] at hg
      subst hg
      exact .inr (.inr ⟨_, _, _, h410, by decide, by decide⟩)
    · simp only [List.mem_singleton] at hg
      subst hg
      exact .inr (.inr ⟨_, _, _, h410, by decide, by decide⟩)
end
end Go.Proofs.YtfjilngljnlkjaaV
