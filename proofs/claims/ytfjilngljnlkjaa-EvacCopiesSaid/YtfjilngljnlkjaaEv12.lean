/- What an image shows, by the program: View. -/
import Derived.Test.YtfjilngljnlkjaaEv11
import Derived.Test.YtfjilngljnlkjaaSt6
import Derived.Test.YtfjilngljnlkjaaLibSortI
namespace Go.Proofs.YtfjilngljnlkjaaV
open Go Go.Proofs Go.RowKit
set_option linter.unusedVariables false
set_option linter.unusedSimpArgs false
set_option maxRecDepth 10000
/-! ### 1. Plain: the order of the nodes -/
theorem srt_places {m : List Ob} {O R A : List Nat} (hO : O.Pairwise (· < ·)) (hR : O.Perm R) (hA : A.Perm (List.range O.length)) (hs : SrtL (fun i => serA m (O.getD i 0)) A) : A.map (fun i => O.getD i 0) = srtS m R := by
  have hRn : R.Nodup := hR.nodup_iff.1 (hO.imp fun h => by omega)
  have hAn : A.Nodup := hA.nodup_iff.2 List.nodup_range
  refine sorted_same (lt := fun p q => leS m p q = true ∧ p ≠ q) (fun x h => h.2 rfl) (fun x y h1 h2 => ?_) ?_ ?_ fun x => ?_
  · have a := h1.1; have b := h2.1; have c := h1.2
    unfold leS at a b
    simp only [decide_eq_true_eq] at a b
    omega
  · rw [List.pairwise_map]
    refine List.Pairwise.imp_of_mem (fun {a b} ha hb h => ?_) (hs.and hAn)
    have la := List.mem_range.1 (hA.mem_iff.1 ha)
    have lb := List.mem_range.1 (hA.mem_iff.1 hb)
    obtain ⟨h1, h2⟩ := h
    have h1' : serA m (O.getD a 0) < serA m (O.getD b 0) ∨ serA m (O.getD a 0) = serA m (O.getD b 0) ∧ a ≤ b := h1
    have key : a < b → O.getD a 0 < O.getD b 0 := fun hab => by
      rw [List.getD_eq_getElem?_getD, List.getD_eq_getElem?_getD, List.getElem?_eq_getElem la, List.getElem?_eq_getElem lb]
      exact List.pairwise_iff_getElem.1 hO a b la lb hab
    unfold leS
    simp only [decide_eq_true_eq]
    rcases h1' with c | ⟨c, d⟩
    · exact ⟨.inl c, fun e => by rw [e] at c; omega⟩
    · have := key (by omega)
      exact ⟨.inr ⟨c, by omega⟩, by omega⟩
  · exact (srtS_sorted m R).and ((srtS_perm m R).nodup_iff.2 hRn)
  · rw [(srtS_perm m R).mem_iff, ← hR.mem_iff, List.mem_map]
    constructor
    · rintro ⟨i, hi, rfl⟩
      have li := List.mem_range.1 (hA.mem_iff.1 hi)
      rw [List.getD_eq_getElem?_getD, List.getElem?_eq_getElem li]
      exact List.getElem_mem li
    · intro hx
      obtain ⟨i, hi, rfl⟩ := List.getElem_of_mem hx
      exact ⟨i, hA.mem_iff.2 (List.mem_range.2 hi), by rw [List.getD_eq_getElem?_getD, List.getElem?_eq_getElem hi]; rfl⟩
section
variable {K : VK} {w : World}
/-! ### 2. Nodes sorted -/
theorem bodied_v1 : bodied Try.prog 42 = true := by kernel_rfl
theorem cmpW {a b : Int} (h : K (.int .i64 (cmpI a b)) w) : C.call Try.prog 43 #[.int .i64 a, .int .i64 b] w K := by
  refine F43.sh (F60.sh ?_)
  rw [C.neq_mk, decide_eq_false (fun h => h rfl)]
  refine F60.sh ?_
  rw [C.neq_mk, decide_eq_false (fun h => h rfl)]
  simp only [C.ite_true, C.ite_false, C.pick_true, C.pick_false, C.not_bool, C.field_ptr, C.nilCheck_ptr, C.add_mk, C.sub_mk, C.mul_mk, C.eql_mk, C.neq_mk, C.lss_mk, C.leq_mk, C.gtr_mk, C.geq_mk, C.conv_mk, C.len_mk, C.ext_0, C.ext_1, C.ext3_0, C.ext3_1, C.ext3_2, C.guarded_yes, C.guarded_tf, C.guarded_ft, C.guarded_undef, Bool.not_true, Bool.not_false, Nat.zero_add, eq_self, decide_true, decide_false]
  refine F43.k7.to ?_
  simp only [C.ite_true, C.ite_false, C.pick_true, C.pick_false, C.not_bool, C.field_ptr, C.nilCheck_ptr, C.add_mk, C.sub_mk, C.mul_mk, C.eql_mk, C.neq_mk, C.lss_mk, C.leq_mk, C.gtr_mk, C.geq_mk, C.conv_mk, C.len_mk, C.ext_0, C.ext_1, C.ext3_0, C.ext3_1, C.ext3_2, C.guarded_yes, C.guarded_tf, C.guarded_ft, C.guarded_undef, Bool.not_true, Bool.not_false, Nat.zero_add, eq_self, decide_true, decide_false]
  refine F43.k9.to ?_
  unfold cmpI at h
  by_cases c : a < b
  · rw [if_pos c] at h
    simp only [C.ite_true, C.ite_false, C.pick_true, C.pick_false, C.not_bool, C.field_ptr, C.nilCheck_ptr, C.add_mk, C.sub_mk, C.mul_mk, C.eql_mk, C.neq_mk, C.lss_mk, C.leq_mk, C.gtr_mk, C.geq_mk, C.conv_mk, C.len_mk, C.ext_0, C.ext_1, C.ext3_0, C.ext3_1, C.ext3_2, C.guarded_yes, C.guarded_tf, C.guarded_ft, C.guarded_undef, Bool.not_true, Bool.not_false, Nat.zero_add, eq_self, decide_true, decide_false, c]
    exact h
  · rw [if_neg c] at h
    simp only [C.ite_true, C.ite_false, C.pick_true, C.pick_false, C.not_bool, C.field_ptr, C.nilCheck_ptr, C.add_mk, C.sub_mk, C.mul_mk, C.eql_mk, C.neq_mk, C.lss_mk, C.leq_mk, C.gtr_mk, C.geq_mk, C.conv_mk, C.len_mk, C.ext_0, C.ext_1, C.ext3_0, C.ext3_1, C.ext3_2, C.guarded_yes, C.guarded_tf, C.guarded_ft, C.guarded_undef, Bool.not_true, Bool.not_false, Nat.zero_add, eq_self, decide_true, decide_false, c]
    refine F43.k11.to ?_
    by_cases d : a > b
    · rw [if_pos d] at h
      simp only [C.ite_true, C.ite_false, C.pick_true, C.pick_false, C.not_bool, C.field_ptr, C.nilCheck_ptr, C.add_mk, C.sub_mk, C.mul_mk, C.eql_mk, C.neq_mk, C.lss_mk, C.leq_mk, C.gtr_mk, C.geq_mk, C.conv_mk, C.len_mk, C.ext_0, C.ext_1, C.ext3_0, C.ext3_1, C.ext3_2, C.guarded_yes, C.guarded_tf, C.guarded_ft, C.guarded_undef, Bool.not_true, Bool.not_false, Nat.zero_add, eq_self, decide_true, decide_false, d]
      exact h
    · rw [if_neg d] at h
      simp only [C.ite_true, C.ite_false, C.pick_true, C.pick_false, C.not_bool, C.field_ptr, C.nilCheck_ptr, C.add_mk, C.sub_mk, C.mul_mk, C.eql_mk, C.neq_mk, C.lss_mk, C.leq_mk, C.gtr_mk, C.geq_mk, C.conv_mk, C.len_mk, C.ext_0, C.ext_1, C.ext3_0, C.ext3_1, C.ext3_2, C.guarded_yes, C.guarded_tf, C.guarded_ft, C.guarded_undef, Bool.not_true, Bool.not_false, Nat.zero_add, eq_self, decide_true, decide_false, d]
      exact F43.k13.to h
theorem cmpOk_view {ser : Nat → Int} {f : Nat → Value} (hf : ∀ i, (f i).oneCell' = true ∧ (f i).cells = #[f i]) : CmpOk ser f (.func (.func 42) #[] #[]) where
  one := hf
  pl := fun l a b h => by cases h
  cmp := fun i j w K h => by
    have c1 : ∀ i, (Value.agg #[.int .i64 (ser i), f i]).cells = #[.int .i64 (ser i), f i] := fun i => by simp [Value.cells, (hf i).2]
    refine vcCall_of bodied_v1 (F42.sh ?_)
    rw [c1, c1]
    refine C.new_of fun b1 w1 hn1 => C.new_of fun b2 w2 hn2 => ?_
    simp only [C.ite_true, C.ite_false, C.pick_true, C.pick_false, C.not_bool, C.field_ptr, C.nilCheck_ptr, C.add_mk, C.sub_mk, C.mul_mk, C.eql_mk, C.neq_mk, C.lss_mk, C.leq_mk, C.gtr_mk, C.geq_mk, C.conv_mk, C.len_mk, C.ext_0, C.ext_1, C.ext3_0, C.ext3_1, C.ext3_2, C.guarded_yes, C.guarded_tf, C.guarded_ft, C.guarded_undef, Bool.not_true, Bool.not_false, Nat.zero_add, eq_self, decide_true, decide_false]
    refine C.load1_of (v := .int .i64 (ser i)) (hn2.fr.at_ hn1.at_ (by simp)) rfl ?_
    try simp only [C.ite_true, C.ite_false, C.pick_true, C.pick_false, C.not_bool, C.field_ptr, C.nilCheck_ptr, C.add_mk, C.sub_mk, C.mul_mk, C.eql_mk, C.neq_mk, C.lss_mk, C.leq_mk, C.gtr_mk, C.geq_mk, C.conv_mk, C.len_mk, C.ext_0, C.ext_1, C.ext3_0, C.ext3_1, C.ext3_2, C.guarded_yes, C.guarded_tf, C.guarded_ft, C.guarded_undef, Bool.not_true, Bool.not_false, Nat.zero_add, eq_self, decide_true, decide_false]
    refine C.load1_of (v := .int .i64 (ser j)) hn2.at_ rfl (cmpW ?_)
    exact h w2 (hn1.fr.trans hn2.fr)
def nodeD (N : List Nd) (i : Nat) : Nd := N.getD i (0, [])
def fldD (fs : List Value) (i : Nat) : Value := fs.getD i (.slice none 0 0)
theorem RW_range {N : List Nd} {fs : List Value} (h : fs.length = N.length) : RW (fun i => (nodeD N i).1) (fldD fs) (List.range N.length) = ndC N fs := by
  apply List.ext_getElem?
  intro i
  by_cases hi : i < N.length
  · have hi' : i < fs.length := by omega
    rw [ndC_get hi hi', RW_get (List.getElem?_range hi)]
    simp [rw2, nodeD, fldD, List.getD_eq_getElem?_getD, List.getElem?_eq_getElem hi, List.getElem?_eq_getElem hi']
  · rw [List.getElem?_eq_none (by rw [RW_len, List.length_range]; omega), List.getElem?_eq_none (by rw [ndC_len h]; omega)]
theorem RW_map (N : List Nd) (fs : List Value) : ∀ A : List Nat, RW (fun i => (nodeD N i).1) (fldD fs) A = ndC (A.map (nodeD N)) (A.map (fldD fs))
  | [] => rfl
  | a :: A => by
    have := RW_map N fs A
    simp only [RW, List.map_cons, ndC, List.zipWith_cons_cons, rw2] at *
    rw [this]
theorem SortNodes_c {lo : Nat} {nv : Value} {N : List Nd} {fs : List Value} (ho : OwnNodes lo w nv N fs) (hn : N.length ≤ 10000)
    (h : ∀ A w', Fr (blkS nv) w w' → A.Perm (List.range N.length) → SrtL (fun i => (nodeD N i).1) A → OwnNodes lo w' nv (A.map (nodeD N)) (A.map (fldD fs)) → K (.tuple #[]) w') :
    C.call Try.prog 41 #[nv, .func (.func 42) #[] #[]] w K := by
  have hf : ∀ i, (fldD fs i).oneCell' = true ∧ (fldD fs i).cells = #[fldD fs i] := fun i => by
    unfold fldD
    rw [List.getD_eq_getElem?_getD]
    by_cases hi : i < fs.length
    · rw [List.getElem?_eq_getElem hi]
      exact (ho.row i (by rw [← ho.len]; exact hi) hi).1.one
    · rw [List.getElem?_eq_none (by omega)]
      exact ⟨rfl, rfl⟩
  have hsp := ho.sp
  rw [← RW_range ho.len] at hsp
  refine SortStable_c (cmpOk_view hf) hn hsp fun A w1 hf1 hA hs ho1 => ?_
  rw [RW_map] at ho1
  refine h A w1 hf1 hA hs ⟨by simp, ho1, ho.ge, fun i a b => ?_⟩
  have ia : i < A.length := by simpa using a
  have hin := List.mem_range.1 (hA.mem_iff.1 (List.getElem_mem ia))
  have hin' : A[i] < fs.length := by rw [ho.len]; exact hin
  have hrow := ho.row A[i] hin hin'
  simp only [List.getElem_map]
  have e1 : fldD fs A[i] = fs[A[i]] := by unfold fldD; rw [List.getD_eq_getElem?_getD, List.getElem?_eq_getElem hin']; rfl
  have e2 : nodeD N A[i] = N[A[i]] := by unfold nodeD; rw [List.getD_eq_getElem?_getD, List.getElem?_eq_getElem hin]; rfl
  rw [e1, e2]
  exact ⟨hrow.1.keep' hf1 (hrow.1.ne ho.sp (by decide)), hrow.2⟩
/-! ### 3. View -/
structure EI (Wb w : World) (mb tb : Nat) (lv sv ov : Value) (roots : List Int) (m : List Ob) (o : List Nat) (k : Nat) : Prop where
  mv : MV Wb w mb tb lv sv ov m o
  pls : Pls m o
  done : ∀ i p, i < k → o[i]? = some p → ∀ x ∈ fsA m p, ∀ q, wPl m x = some q → q ∈ o
theorem EView_loop {Wb : World} {mb tb b4 : Nat} {lv sv rv : Value} {l roots : List Int} {m : List Ob} (hC : Opn l m roots) (hlv : RdS Wb lv 1 (intC l)) (hsv : RdS Wb sv 1 (intC (atL m))) (hr : Rng l)
    (h : ∀ ov w', MV Wb w' mb tb lv sv ov m (ordO m roots) → F18.k9 K lv rv (.pointer (some ⟨b4, 0, none⟩)) (.pointer (some ⟨mb, 0, none⟩)) w') :
    ∀ (f k : Nat) (w : World) (o : List Nat) (ov : Value), m.length < k + f → k ≤ 100000 → bfs m f o k = ordO m roots → EI Wb w mb tb lv sv ov roots m o k →
      F18.l6 K lv rv (.pointer (some ⟨b4, 0, none⟩)) (.pointer (some ⟨mb, 0, none⟩)) (.int .i64 (k : Int)) w := by
  have hO := hC.spl
  have hlen := hC.few
  have hml := hO.len
  have fin : ∀ (k : Nat) (w : World) (o : List Nat) (ov : Value), o.length ≤ k → k ≤ 100000 → o = ordO m roots → EI Wb w mb tb lv sv ov roots m o k → F18.l6 K lv rv (.pointer (some ⟨b4, 0, none⟩)) (.pointer (some ⟨mb, 0, none⟩)) (.int .i64 (k : Int)) w := by
    intro k w o ov hk hk2 ho hI
    refine F18.l6.to ?_
    simp only [C.ite_true, C.ite_false, C.pick_true, C.pick_false, C.not_bool, C.field_ptr, C.nilCheck_ptr, C.add_mk, C.sub_mk, C.mul_mk, C.eql_mk, C.neq_mk, C.lss_mk, C.leq_mk, C.gtr_mk, C.geq_mk, C.conv_mk, C.len_mk, C.ext_0, C.ext_1, C.ext3_0, C.ext3_1, C.ext3_2, C.guarded_yes, C.guarded_tf, C.guarded_ft, C.guarded_undef, Bool.not_true, Bool.not_false, Nat.zero_add, eq_self, decide_true, decide_false]
    refine C.load1_of (v := ov) hI.mv.blk rfl (C.len_rd hI.mv.own.rd ?_)
    rw [intC_len, ordL_len]
    simp only [C.ite_true, C.ite_false, C.pick_true, C.pick_false, C.not_bool, C.field_ptr, C.nilCheck_ptr, C.add_mk, C.sub_mk, C.mul_mk, C.eql_mk, C.neq_mk, C.lss_mk, C.leq_mk, C.gtr_mk, C.geq_mk, C.conv_mk, C.len_mk, C.ext_0, C.ext_1, C.ext3_0, C.ext3_1, C.ext3_2, C.guarded_yes, C.guarded_tf, C.guarded_ft, C.guarded_undef, Bool.not_true, Bool.not_false, Nat.zero_add, eq_self, decide_true, decide_false, show ¬ ((k : Int) < (o.length : Int)) by omega]
    exact h ov w (by rw [← ho]; exact hI.mv)
  intro f
  induction f with
  | zero => exact fun k w o ov hf hk hb hI => fin k w o ov (by have := hI.pls.len; omega) hk hb hI
  | succ f ih =>
    intro k w o ov hf hk2 hb hI
    have hol := hI.pls.len
    by_cases hk : o.length ≤ k
    · refine fin k w o ov hk hk2 ?_ hI
      rw [← hb]
      unfold bfs
      rw [List.getElem?_eq_none hk]
    have kl : k < o.length := by omega
    have kl' : k < (ordL m o).length := by rw [ordL_len]; exact kl
    have hp := hI.pls.2 o[k] (List.getElem_mem kl)
    have hOb := (hO.get o[k] hp).1
    have hal : m[o[k]].at_ < l.length := by have := hOb.end_; omega
    have hfl := hOb.n
    refine F18.l6.to ?_
    simp only [C.ite_true, C.ite_false, C.pick_true, C.pick_false, C.not_bool, C.field_ptr, C.nilCheck_ptr, C.add_mk, C.sub_mk, C.mul_mk, C.eql_mk, C.neq_mk, C.lss_mk, C.leq_mk, C.gtr_mk, C.geq_mk, C.conv_mk, C.len_mk, C.ext_0, C.ext_1, C.ext3_0, C.ext3_1, C.ext3_2, C.guarded_yes, C.guarded_tf, C.guarded_ft, C.guarded_undef, Bool.not_true, Bool.not_false, Nat.zero_add, eq_self, decide_true, decide_false]
    refine C.load1_of (v := ov) hI.mv.blk rfl (C.len_rd hI.mv.own.rd ?_)
    rw [intC_len, ordL_len]
    simp only [C.ite_true, C.ite_false, C.pick_true, C.pick_false, C.not_bool, C.field_ptr, C.nilCheck_ptr, C.add_mk, C.sub_mk, C.mul_mk, C.eql_mk, C.neq_mk, C.lss_mk, C.leq_mk, C.gtr_mk, C.geq_mk, C.conv_mk, C.len_mk, C.ext_0, C.ext_1, C.ext3_0, C.ext3_1, C.ext3_2, C.guarded_yes, C.guarded_tf, C.guarded_ft, C.guarded_undef, Bool.not_true, Bool.not_false, Nat.zero_add, eq_self, decide_true, decide_false, show ((k : Int) < (o.length : Int)) by omega]
    refine F18.k8.to ?_
    have hS0 : ∀ (w' : World) ov' o', MV Wb w' mb tb lv sv ov' m o' → (∃ ov n, w'.heap[mb]? = some (.cells #[lv, sv, .map (some tb), ov, n] 72 (0, 0))) := fun w' ov' o' M => ⟨_, _, M.blk⟩
    refine C.draw_of (fun w' => (∃ ov n, w'.heap[mb]? = some (.cells #[lv, sv, .map (some tb), ov, n] 72 (0, 0)))) fun w1 hf1 he1 => ⟨hS0 w1 _ _ (hI.mv.keep hf1), ?_⟩
    have M1 := hI.mv.keep hf1
    simp only [C.ite_true, C.ite_false, C.pick_true, C.pick_false, C.not_bool, C.field_ptr, C.nilCheck_ptr, C.add_mk, C.sub_mk, C.mul_mk, C.eql_mk, C.neq_mk, C.lss_mk, C.leq_mk, C.gtr_mk, C.geq_mk, C.conv_mk, C.len_mk, C.ext_0, C.ext_1, C.ext3_0, C.ext3_1, C.ext3_2, C.guarded_yes, C.guarded_tf, C.guarded_ft, C.guarded_undef, Bool.not_true, Bool.not_false, Nat.zero_add, eq_self, decide_true, decide_false, and_true]
    refine C.loadAS_of (vs := [lv, sv]) (fun w' hw => by obtain ⟨ov', n, x⟩ := hw; exact ⟨_, _, _, x, by simp, by simp⟩) ?_
    refine C.load1_of (v := ov) M1.blk rfl ⟨hS0 _ _ _ M1, C.idx_int M1.own.rd kl' fun g oo cs e fz hg hcv => C.load1_of hg hcv ⟨hS0 _ _ _ M1, ?_⟩⟩
    rw [ordL_get kl kl', atA_get hp]
    refine fields_c (hlv.keep M1.fr) hsv.one.2 hr hOb fun fv w4 hf4 hfv hfb => ⟨hS0 _ _ _ (M1.keep hf4), ?_⟩
    have M4 := M1.keep hf4
    have hoff : ∀ g ∈ mb :: tb :: blkS ov, g ∉ blkS fv := fun g hg c => by
      have h2 : g < Wb.heap.size := hlv.lt (fun e => by
        have h0 : (intC l).length = 0 := by rw [e]; rfl
        rw [intC_len] at h0
        omega) g (hfb g c)
      obtain ⟨l1, l2, l3⟩ := M4.lo
      rcases List.mem_cons.1 hg with d | d
      · omega
      · rcases List.mem_cons.1 d with d | d
        · omega
        · have := M4.new g (mem_blkS.1 d); omega
    refine moved_c hO hlen hlv hsv.one.2 hr hI.pls M4 hfv (hr.fs hO hp) (hC.fine _ (List.getElem_mem hp)) (by omega) (fun _ => hoff) fun nv ov5 w5 M5 hf5 hg5 hn5 ho5 => ⟨hS0 _ _ _ M5, ?_⟩
    refine F18.k7.to ?_
    simp only [C.ite_true, C.ite_false, C.pick_true, C.pick_false, C.not_bool, C.field_ptr, C.nilCheck_ptr, C.add_mk, C.sub_mk, C.mul_mk, C.eql_mk, C.neq_mk, C.lss_mk, C.leq_mk, C.gtr_mk, C.geq_mk, C.conv_mk, C.len_mk, C.ext_0, C.ext_1, C.ext3_0, C.ext3_1, C.ext3_2, C.guarded_yes, C.guarded_tf, C.guarded_ft, C.guarded_undef, Bool.not_true, Bool.not_false, Nat.zero_add, eq_self, decide_true, decide_false]
    rw [wrap64_id (n := (k : Int) + 1) (by omega), show (k : Int) + 1 = ((k + 1 : Nat) : Int) by omega]
    have hfs := fsA_get hp
    rw [← hfs] at M5
    have hpre := vis_pre m (fsA m o[k]) o
    refine ih (k + 1) w5 (vis m o (fsA m o[k])) ov5 (by omega) (by omega) ?_ ⟨M5, hI.pls.vis _, fun i p hi hip x hx q hq => ?_⟩
    · rw [← hb]
      conv => rhs; unfold bfs
      rw [List.getElem?_eq_getElem kl]
    · have e : (vis m o (fsA m o[k]))[i]? = o[i]? := by
        obtain ⟨t, ht⟩ := hpre
        rw [← ht, List.getElem?_append_left (by omega)]
      rw [e] at hip
      by_cases c : i = k
      · subst c
        rw [List.getElem?_eq_getElem kl] at hip
        simp only [Option.some.injEq] at hip
        subst hip
        exact (vis_mem _).2 (.inr ⟨x, hx, hq⟩)
      · exact hpre.subset (hI.done i p (by omega) hip x hx q hq)
end
end Go.Proofs.YtfjilngljnlkjaaV
