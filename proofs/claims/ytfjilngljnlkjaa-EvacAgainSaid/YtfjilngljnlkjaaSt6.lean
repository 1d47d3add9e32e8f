/- Sorting that keeps the order of equals, by the library: the whole. -/
import Derived.Test.YtfjilngljnlkjaaSt5
namespace Go.Proofs.YtfjilngljnlkjaaV
open Go Go.Proofs Go.RowKit
set_option linter.unusedVariables false
set_option linter.unusedSimpArgs false
set_option maxRecDepth 10000
def seg (A : List Nat) (a b : Nat) : List Nat := (A.drop a).take (b - a)
theorem seg_len {A : List Nat} {a b : Nat} (h : a ≤ b) (hb : b ≤ A.length) : (seg A a b).length = b - a := by
  unfold seg
  rw [List.length_take, List.length_drop]
  omega
theorem seg_split {A : List Nat} {a b : Nat} (h : a ≤ b) : A = A.take a ++ (seg A a b ++ A.drop b) := by
  unfold seg
  have e : A.drop b = (A.drop a).drop (b - a) := by rw [List.drop_drop]; congr 1; omega
  rw [e, List.take_append_drop, List.take_append_drop]
theorem seg_app {A : List Nat} {a m b : Nat} (h1 : a ≤ m) (h2 : m ≤ b) : seg A a b = seg A a m ++ seg A m b := by
  unfold seg
  have e : A.drop m = (A.drop a).drop (m - a) := by rw [List.drop_drop]; congr 1; omega
  rw [e, show b - a = (m - a) + (b - m) by omega, List.take_add]
/-- A part is put anew. -/
def putS (A : List Nat) (a b : Nat) (W : List Nat) : List Nat := A.take a ++ (W ++ A.drop b)
theorem putS_len {A W : List Nat} {a b : Nat} (h : a ≤ b) (hb : b ≤ A.length) (hW : W.length = b - a) : (putS A a b W).length = A.length := by
  unfold putS
  simp only [List.length_append, List.length_take, List.length_drop]
  omega
theorem seg_put {A W : List Nat} {a b : Nat} (h : a ≤ b) (hb : b ≤ A.length) (hW : W.length = b - a) : seg (putS A a b W) a b = W := by
  unfold seg putS
  have l : (A.take a).length = a := List.length_take_of_le (by omega)
  conv => lhs; arg 2; arg 1; rw [← l]
  rw [List.drop_left, ← hW]
  simp
theorem seg_before {A W : List Nat} {a b c d : Nat} (hb : a ≤ A.length) (hd : d ≤ a) (hcd : c ≤ d) : seg (putS A a b W) c d = seg A c d := by
  unfold seg putS
  have l : (A.take a).length = a := List.length_take_of_le (by omega)
  rw [List.drop_append_of_le_length (by omega), List.take_append_of_le_length (by rw [List.length_drop]; omega), List.drop_take, List.take_take]
  congr 1
  omega
theorem seg_behind {A W : List Nat} {a b c d : Nat} (h : a ≤ b) (hb : b ≤ A.length) (hW : W.length = b - a) (hc : b ≤ c) : seg (putS A a b W) c d = seg A c d := by
  unfold seg putS
  have l : (A.take a).length = a := List.length_take_of_le (by omega)
  congr 1
  rw [← List.append_assoc]
  have l2 : (A.take a ++ W).length = b := by simp; omega
  rw [show c = (A.take a ++ W).length + (c - b) by omega, ← List.drop_drop, List.drop_left, List.drop_drop]
  congr 1
  omega
theorem drop_put {A W : List Nat} {a b : Nat} (h : a ≤ b) (hb : b ≤ A.length) (hW : W.length = b - a) : (putS A a b W).drop b = A.drop b := by
  unfold putS
  rw [← List.append_assoc]
  have l2 : (A.take a ++ W).length = b := by simp; omega
  conv => lhs; arg 1; rw [← l2]
  rw [List.drop_left]
def Good (ser : Nat → Int) (A : List Nat) (a b : Nat) : Prop := (seg A a b).Perm (List.range' a (b - a)) ∧ SrtL ser (seg A a b)
theorem Good.low {ser : Nat → Int} {A : List Nat} {a m b : Nat} (h1 : Good ser A a m) (h2 : Good ser A m b) (ham : a ≤ m) : Low (seg A a m) (seg A m b) := fun u hu v hv => by
  have := h1.1.mem_iff.1 hu
  have := h2.1.mem_iff.1 hv
  simp only [List.mem_range'_1] at *
  omega
theorem Good.merge {ser : Nat → Int} {A W : List Nat} {a m b : Nat} (h1 : Good ser A a m) (h2 : Good ser A m b) (ham : a ≤ m) (hmb : m ≤ b) (hb : b ≤ A.length) (hp : W.Perm (seg A a m ++ seg A m b)) (hs : SrtL ser W) : W.length = b - a ∧ Good ser (putS A a b W) a b := by
  have hl : W.length = b - a := by
    rw [hp.length_eq, List.length_append, seg_len ham (by omega), seg_len hmb hb]
    omega
  refine ⟨hl, ?_, ?_⟩
  · rw [seg_put (by omega) hb hl]
    refine hp.trans ((h1.1.append h2.1).trans ?_)
    have e := List.range'_append_1 (s := a) (m := m - a) (n := b - m)
    rw [show a + (m - a) = m by omega, show m - a + (b - m) = b - a by omega] at e
    rw [e]
  · rw [seg_put (by omega) hb hl]
    exact hs
/-- Blocks of a length, each sorted. -/
def Blk (ser : Nat → Int) (A : List Nat) (bs n : Nat) : Prop := ∀ a, bs ∣ a → a < n → Good ser A a (min (a + bs) n)
theorem dvd_eq {b x y : Nat} (hx : b ∣ x) (hy : b ∣ y) (h : x ≤ y) (h2 : y < x + b) : y = x := by
  have hd : b ∣ y - x := Nat.dvd_sub hy hx
  rcases Nat.eq_zero_or_pos (y - x) with c | c
  · omega
  · have := Nat.le_of_dvd c hd; omega
theorem dvd_gap {b x y : Nat} (hx : b ∣ x) (hy : b ∣ y) (h : x < y) : x + b ≤ y := by
  have hd : b ∣ y - x := Nat.dvd_sub hy hx
  have := Nat.le_of_dvd (by omega) hd
  omega
section
variable {K : VK} {w : World} {ser : Nat → Int} {f : Nat → Value} {nv cv : Value}
/-- One pass: two blocks each become one. -/
theorem st_pass (hC : CmpOk ser f cv) {W0 : World} {bs n : Nat} (hbs : 0 < bs) (hbs2 : bs ≤ n) (hn : n ≤ 10000)
    (h : ∀ A w', Fr (blkS nv) W0 w' → A.length = n → Blk ser A (2 * bs) n → OwnS w' nv 59 2 (RW ser f A) → F59.k16 K nv (.int .i64 (n : Int)) cv (.int .i64 (bs : Int)) w') :
    ∀ (d a : Nat) (A : List Nat) (w : World), n ≤ a + d → a ≤ n → 2 * bs ∣ a → A.length = n → (∀ c, 2 * bs ∣ c → c < a → Good ser A c (c + 2 * bs)) → (∀ c, bs ∣ c → a ≤ c → c < n → Good ser A c (min (c + bs) n)) → Fr (blkS nv) W0 w → OwnS w nv 59 2 (RW ser f A) →
      F59.l9 K nv (.int .i64 (n : Int)) cv (.int .i64 (bs : Int)) (.int .i64 (a : Int)) (.int .i64 ((a + 2 * bs : Nat) : Int)) w := by
  have d2 : bs ∣ 2 * bs := ⟨2, by omega⟩
  -- the end
  have fin : ∀ (a : Nat) (A : List Nat) (w : World), a ≤ n → n < a + 2 * bs → 2 * bs ∣ a → A.length = n → (∀ c, 2 * bs ∣ c → c < a → Good ser A c (c + 2 * bs)) → (∀ c, bs ∣ c → a ≤ c → c < n → Good ser A c (min (c + bs) n)) → Fr (blkS nv) W0 w → OwnS w nv 59 2 (RW ser f A) →
      F59.k13 K nv (.int .i64 (n : Int)) cv (.int .i64 (bs : Int)) (.int .i64 (a : Int)) w := by
    intro a A w han hna hda hA h1 h2 hfr ho
    refine F59.k13.to ?_
    simp only [C.ite_true, C.ite_false, C.pick_true, C.pick_false, C.not_bool, C.field_ptr, C.nilCheck_ptr, C.add_mk, C.sub_mk, C.mul_mk, C.eql_mk, C.neq_mk, C.lss_mk, C.leq_mk, C.gtr_mk, C.geq_mk, C.conv_mk, C.len_mk, C.ext_0, C.ext_1, C.ext3_0, C.ext3_1, C.ext3_2, C.guarded_yes, C.guarded_tf, C.guarded_ft, C.guarded_undef, Bool.not_true, Bool.not_false, Nat.zero_add, eq_self, decide_true, decide_false]
    rw [wrap64_id (n := (a : Int) + (bs : Int)) (by omega), show (a : Int) + (bs : Int) = ((a + bs : Nat) : Int) by omega]
    by_cases c : a + bs < n
    · simp only [C.ite_true, C.ite_false, C.pick_true, C.pick_false, C.not_bool, C.field_ptr, C.nilCheck_ptr, C.add_mk, C.sub_mk, C.mul_mk, C.eql_mk, C.neq_mk, C.lss_mk, C.leq_mk, C.gtr_mk, C.geq_mk, C.conv_mk, C.len_mk, C.ext_0, C.ext_1, C.ext3_0, C.ext3_1, C.ext3_2, C.guarded_yes, C.guarded_tf, C.guarded_ft, C.guarded_undef, Bool.not_true, Bool.not_false, Nat.zero_add, eq_self, decide_true, decide_false, show (((a + bs : Nat) : Int) < (n : Int)) by omega]
      have g1 := h2 a (Nat.dvd_trans d2 hda) (Nat.le_refl _) (by omega)
      have g2 := h2 (a + bs) (Nat.dvd_add (Nat.dvd_trans d2 hda) ⟨1, by omega⟩) (by omega) c
      rw [Nat.min_eq_left (by omega)] at g1
      rw [Nat.min_eq_right (by omega)] at g2
      have lU := seg_len (A := A) (a := a) (b := a + bs) (by omega) (by omega)
      have lV := seg_len (A := A) (a := a + bs) (b := n) (by omega) (by omega)
      have hA1 : A = A.take a ++ (seg A a (a + bs) ++ (seg A (a + bs) n ++ A.drop n)) := by
        have := seg_split (A := A) (a := a) (b := n) han
        rwa [seg_app (m := a + bs) (by omega) (by omega), List.append_assoc] at this
      have ho' := ho
      rw [hA1] at ho'
      refine symMerge_c hC _ _ w (A.take a) (A.drop n) (seg A a (a + bs)) (seg A (a + bs) n) a (a + bs) n (Nat.le_refl _) (by omega) (by omega) (List.length_take_of_le (by omega)) (by omega) (by omega) (by omega) g1.2 g2.2 (g1.low g2 (by omega)) ho' fun W w1 hf1 hp hs ho1 => ?_
      obtain ⟨hl, hg⟩ := g1.merge g2 (by omega) (by omega) (by omega) hp hs
      refine h (putS A a n W) w1 (hfr.trans hf1) (by rw [putS_len han (by omega) hl, hA]) (fun x hx hxn => ?_) ho1
      by_cases e : x < a
      · have := dvd_gap hx hda e
        rw [Nat.min_eq_left (by omega)]
        have g := h1 x hx e
        unfold Good at g ⊢
        rwa [seg_before (by omega) (by omega) (by omega)]
      · have := dvd_eq hda hx (by omega) (by omega)
        subst this
        rw [Nat.min_eq_right (by omega)]
        exact hg
    · simp only [C.ite_true, C.ite_false, C.pick_true, C.pick_false, C.not_bool, C.field_ptr, C.nilCheck_ptr, C.add_mk, C.sub_mk, C.mul_mk, C.eql_mk, C.neq_mk, C.lss_mk, C.leq_mk, C.gtr_mk, C.geq_mk, C.conv_mk, C.len_mk, C.ext_0, C.ext_1, C.ext3_0, C.ext3_1, C.ext3_2, C.guarded_yes, C.guarded_tf, C.guarded_ft, C.guarded_undef, Bool.not_true, Bool.not_false, Nat.zero_add, eq_self, decide_true, decide_false, show ¬ (((a + bs : Nat) : Int) < (n : Int)) by omega]
      refine h A w hfr hA (fun x hx hxn => ?_) ho
      by_cases e : x < a
      · have := dvd_gap hx hda e
        rw [Nat.min_eq_left (by omega)]
        exact h1 x hx e
      · have := dvd_eq hda hx (by omega) (by omega)
        subst this
        have g := h2 x (Nat.dvd_trans d2 hda) (Nat.le_refl _) hxn
        rw [Nat.min_eq_right (by omega)] at g ⊢
        exact g
  intro d
  induction d with
  | zero =>
    intro a A w hd han hda hA h1 h2 hfr ho
    refine F59.l9.to ?_
    simp only [C.ite_true, C.ite_false, C.pick_true, C.pick_false, C.not_bool, C.field_ptr, C.nilCheck_ptr, C.add_mk, C.sub_mk, C.mul_mk, C.eql_mk, C.neq_mk, C.lss_mk, C.leq_mk, C.gtr_mk, C.geq_mk, C.conv_mk, C.len_mk, C.ext_0, C.ext_1, C.ext3_0, C.ext3_1, C.ext3_2, C.guarded_yes, C.guarded_tf, C.guarded_ft, C.guarded_undef, Bool.not_true, Bool.not_false, Nat.zero_add, eq_self, decide_true, decide_false, show ¬ (((a + 2 * bs : Nat) : Int) ≤ (n : Int)) by omega]
    exact fin a A w han (by omega) hda hA h1 h2 hfr ho
  | succ d ih =>
    intro a A w hd han hda hA h1 h2 hfr ho
    by_cases e : a + 2 * bs ≤ n
    · refine F59.l9.to ?_
      simp only [C.ite_true, C.ite_false, C.pick_true, C.pick_false, C.not_bool, C.field_ptr, C.nilCheck_ptr, C.add_mk, C.sub_mk, C.mul_mk, C.eql_mk, C.neq_mk, C.lss_mk, C.leq_mk, C.gtr_mk, C.geq_mk, C.conv_mk, C.len_mk, C.ext_0, C.ext_1, C.ext3_0, C.ext3_1, C.ext3_2, C.guarded_yes, C.guarded_tf, C.guarded_ft, C.guarded_undef, Bool.not_true, Bool.not_false, Nat.zero_add, eq_self, decide_true, decide_false, show (((a + 2 * bs : Nat) : Int) ≤ (n : Int)) by omega]
      refine F59.k10.to ?_
      simp only [C.ite_true, C.ite_false, C.pick_true, C.pick_false, C.not_bool, C.field_ptr, C.nilCheck_ptr, C.add_mk, C.sub_mk, C.mul_mk, C.eql_mk, C.neq_mk, C.lss_mk, C.leq_mk, C.gtr_mk, C.geq_mk, C.conv_mk, C.len_mk, C.ext_0, C.ext_1, C.ext3_0, C.ext3_1, C.ext3_2, C.guarded_yes, C.guarded_tf, C.guarded_ft, C.guarded_undef, Bool.not_true, Bool.not_false, Nat.zero_add, eq_self, decide_true, decide_false]
      rw [wrap64_id (n := (a : Int) + (bs : Int)) (by omega), show (a : Int) + (bs : Int) = ((a + bs : Nat) : Int) by omega]
      have g1 := h2 a (Nat.dvd_trans d2 hda) (Nat.le_refl _) (by omega)
      have g2 := h2 (a + bs) (Nat.dvd_add (Nat.dvd_trans d2 hda) ⟨1, by omega⟩) (by omega) (by omega)
      rw [Nat.min_eq_left (by omega)] at g1 g2
      rw [show a + bs + bs = a + 2 * bs by omega] at g2
      have lU := seg_len (A := A) (a := a) (b := a + bs) (by omega) (by omega)
      have lV := seg_len (A := A) (a := a + bs) (b := a + 2 * bs) (by omega) (by omega)
      have hA1 : A = A.take a ++ (seg A a (a + bs) ++ (seg A (a + bs) (a + 2 * bs) ++ A.drop (a + 2 * bs))) := by
        have := seg_split (A := A) (a := a) (b := a + 2 * bs) (by omega)
        rwa [seg_app (m := a + bs) (by omega) (by omega), List.append_assoc] at this
      have ho' := ho
      rw [hA1] at ho'
      refine symMerge_c hC _ _ w (A.take a) (A.drop (a + 2 * bs)) (seg A a (a + bs)) (seg A (a + bs) (a + 2 * bs)) a (a + bs) (a + 2 * bs) (Nat.le_refl _) (by omega) (by omega) (List.length_take_of_le (by omega)) (by omega) (by omega) (by omega) g1.2 g2.2 (g1.low g2 (by omega)) ho' fun W w1 hf1 hp hs ho1 => ?_
      obtain ⟨hl, hg⟩ := g1.merge g2 (by omega) (by omega) (by omega) hp hs
      try simp only [C.ite_true, C.ite_false, C.pick_true, C.pick_false, C.not_bool, C.field_ptr, C.nilCheck_ptr, C.add_mk, C.sub_mk, C.mul_mk, C.eql_mk, C.neq_mk, C.lss_mk, C.leq_mk, C.gtr_mk, C.geq_mk, C.conv_mk, C.len_mk, C.ext_0, C.ext_1, C.ext3_0, C.ext3_1, C.ext3_2, C.guarded_yes, C.guarded_tf, C.guarded_ft, C.guarded_undef, Bool.not_true, Bool.not_false, Nat.zero_add, eq_self, decide_true, decide_false]
      rw [wrap64_id (n := 2 * (bs : Int)) (by omega), wrap64_id (n := ((a + 2 * bs : Nat) : Int) + 2 * (bs : Int)) (by omega), show ((a + 2 * bs : Nat) : Int) + 2 * (bs : Int) = ((a + 2 * bs + 2 * bs : Nat) : Int) by omega]
      refine ih (a + 2 * bs) (putS A a (a + 2 * bs) W) w1 (by omega) e (Nat.dvd_add hda ⟨1, by omega⟩) (by rw [putS_len (by omega) (by omega) hl, hA]) (fun x hx hxa => ?_) (fun x hx hxa hxn => ?_) (hfr.trans hf1) ho1
      · by_cases c : x < a
        · have := dvd_gap hx hda c
          have g := h1 x hx c
          unfold Good at g ⊢
          rwa [seg_before (by omega) (by omega) (by omega)]
        · have := dvd_eq hda hx (by omega) hxa
          subst this
          exact hg
      · have g := h2 x hx (by omega) hxn
        unfold Good at g ⊢
        rwa [seg_behind (by omega) (by omega) hl hxa]
    · refine F59.l9.to ?_
      simp only [C.ite_true, C.ite_false, C.pick_true, C.pick_false, C.not_bool, C.field_ptr, C.nilCheck_ptr, C.add_mk, C.sub_mk, C.mul_mk, C.eql_mk, C.neq_mk, C.lss_mk, C.leq_mk, C.gtr_mk, C.geq_mk, C.conv_mk, C.len_mk, C.ext_0, C.ext_1, C.ext3_0, C.ext3_1, C.ext3_2, C.guarded_yes, C.guarded_tf, C.guarded_ft, C.guarded_undef, Bool.not_true, Bool.not_false, Nat.zero_add, eq_self, decide_true, decide_false, show ¬ (((a + 2 * bs : Nat) : Int) ≤ (n : Int)) by omega]
      exact fin a A w han (by omega) hda hA h1 h2 hfr ho
theorem st_merge (hC : CmpOk ser f cv) {W0 : World} {n : Nat} (hn : n ≤ 10000) (h : ∀ A w', Fr (blkS nv) W0 w' → A.Perm (List.range n) → SrtL ser A → OwnS w' nv 59 2 (RW ser f A) → K (.tuple #[]) w') :
    ∀ (d bs : Nat) (A : List Nat) (w : World), n ≤ bs + d → 0 < bs → A.length = n → Blk ser A bs n → Fr (blkS nv) W0 w → OwnS w nv 59 2 (RW ser f A) → bs ≤ 20000 → F59.l7 K nv (.int .i64 (n : Int)) cv (.int .i64 (bs : Int)) w := by
  have fin : ∀ (bs : Nat) (A : List Nat) (w : World), n ≤ bs → A.length = n → Blk ser A bs n → Fr (blkS nv) W0 w → OwnS w nv 59 2 (RW ser f A) → F59.l7 K nv (.int .i64 (n : Int)) cv (.int .i64 (bs : Int)) w := by
    intro bs A w hnb hA hB hfr ho
    refine F59.l7.to ?_
    simp only [C.ite_true, C.ite_false, C.pick_true, C.pick_false, C.not_bool, C.field_ptr, C.nilCheck_ptr, C.add_mk, C.sub_mk, C.mul_mk, C.eql_mk, C.neq_mk, C.lss_mk, C.leq_mk, C.gtr_mk, C.geq_mk, C.conv_mk, C.len_mk, C.ext_0, C.ext_1, C.ext3_0, C.ext3_1, C.ext3_2, C.guarded_yes, C.guarded_tf, C.guarded_ft, C.guarded_undef, Bool.not_true, Bool.not_false, Nat.zero_add, eq_self, decide_true, decide_false, show ¬ ((bs : Int) < (n : Int)) by omega]
    rcases Nat.eq_zero_or_pos n with c | c
    · have : A = [] := List.eq_nil_of_length_eq_zero (by omega)
      subst this
      subst c
      exact h [] w hfr (by simp) List.Pairwise.nil ho
    · have g := hB 0 (Nat.dvd_zero _) c
      rw [Nat.zero_add, Nat.min_eq_right hnb] at g
      have e : seg A 0 n = A := by unfold seg; rw [List.drop_zero, Nat.sub_zero, ← hA, List.take_length]
      unfold Good at g
      rw [e, Nat.sub_zero, ← List.range_eq_range'] at g
      exact h A w hfr g.1 g.2 ho
  intro d
  induction d with
  | zero => exact fun bs A w hd h0 hA hB hfr ho _ => fin bs A w (by omega) hA hB hfr ho
  | succ d ih =>
    intro bs A w hd h0 hA hB hfr ho h2
    by_cases e : n ≤ bs
    · exact fin bs A w e hA hB hfr ho
    refine F59.l7.to ?_
    simp only [C.ite_true, C.ite_false, C.pick_true, C.pick_false, C.not_bool, C.field_ptr, C.nilCheck_ptr, C.add_mk, C.sub_mk, C.mul_mk, C.eql_mk, C.neq_mk, C.lss_mk, C.leq_mk, C.gtr_mk, C.geq_mk, C.conv_mk, C.len_mk, C.ext_0, C.ext_1, C.ext3_0, C.ext3_1, C.ext3_2, C.guarded_yes, C.guarded_tf, C.guarded_ft, C.guarded_undef, Bool.not_true, Bool.not_false, Nat.zero_add, eq_self, decide_true, decide_false, show ((bs : Int) < (n : Int)) by omega]
    refine F59.k8.to ?_
    simp only [C.ite_true, C.ite_false, C.pick_true, C.pick_false, C.not_bool, C.field_ptr, C.nilCheck_ptr, C.add_mk, C.sub_mk, C.mul_mk, C.eql_mk, C.neq_mk, C.lss_mk, C.leq_mk, C.gtr_mk, C.geq_mk, C.conv_mk, C.len_mk, C.ext_0, C.ext_1, C.ext3_0, C.ext3_1, C.ext3_2, C.guarded_yes, C.guarded_tf, C.guarded_ft, C.guarded_undef, Bool.not_true, Bool.not_false, Nat.zero_add, eq_self, decide_true, decide_false]
    rw [wrap64_id (n := 2 * (bs : Int)) (by omega), show 2 * (bs : Int) = ((0 + 2 * bs : Nat) : Int) by omega]
    refine st_pass hC h0 (by omega) hn (fun A' w' hf' hA' hB' ho' => ?_) n 0 A w (by omega) (by omega) (Nat.dvd_zero _) hA (fun c _ hc => by omega) (fun c hc _ hcn => hB c hc hcn) hfr ho
    refine F59.k16.to ?_
    simp only [C.ite_true, C.ite_false, C.pick_true, C.pick_false, C.not_bool, C.field_ptr, C.nilCheck_ptr, C.add_mk, C.sub_mk, C.mul_mk, C.eql_mk, C.neq_mk, C.lss_mk, C.leq_mk, C.gtr_mk, C.geq_mk, C.conv_mk, C.len_mk, C.ext_0, C.ext_1, C.ext3_0, C.ext3_1, C.ext3_2, C.guarded_yes, C.guarded_tf, C.guarded_ft, C.guarded_undef, Bool.not_true, Bool.not_false, Nat.zero_add, eq_self, decide_true, decide_false]
    rw [wrap64_id (n := (bs : Int) * 2) (by omega), show (bs : Int) * 2 = ((2 * bs : Nat) : Int) by omega]
    exact ih (2 * bs) A' w' (by omega) (by omega) hA' hB' hf' ho' (by omega)
theorem st_ins (hC : CmpOk ser f cv) {W0 : World} {n : Nat} (hn : n ≤ 10000) (h : ∀ A w', Fr (blkS nv) W0 w' → A.length = n → Blk ser A 20 n → OwnS w' nv 59 2 (RW ser f A) → F59.l7 K nv (.int .i64 (n : Int)) cv (.int .i64 20) w') :
    ∀ (d a : Nat) (A : List Nat) (w : World), n ≤ a + d → a ≤ n → 20 ∣ a → A.length = n → (∀ c, 20 ∣ c → c < a → Good ser A c (c + 20)) → A.drop a = List.range' a (n - a) → Fr (blkS nv) W0 w → OwnS w nv 59 2 (RW ser f A) →
      F59.l2 K nv (.int .i64 (n : Int)) cv (.int .i64 20) (.int .i64 (a : Int)) (.int .i64 ((a + 20 : Nat) : Int)) w := by
  have rise : ∀ a k : Nat, (List.range' a k).Pairwise (· < ·) := fun a k => List.pairwise_lt_range'
  have fin : ∀ (a : Nat) (A : List Nat) (w : World), a ≤ n → n < a + 20 → 20 ∣ a → A.length = n → (∀ c, 20 ∣ c → c < a → Good ser A c (c + 20)) → A.drop a = List.range' a (n - a) → Fr (blkS nv) W0 w → OwnS w nv 59 2 (RW ser f A) →
      F59.k6 K nv (.int .i64 (n : Int)) cv (.int .i64 20) (.int .i64 (a : Int)) w := by
    intro a A w han hna hda hA h1 hdr hfr ho
    have es : seg A a n = List.range' a (n - a) := by unfold seg; rw [hdr, List.take_of_length_le (by simp)]
    have hA1 := seg_split (A := A) (a := a) (b := n) han
    rw [es] at hA1
    have ho' := ho
    rw [hA1] at ho'
    refine F59.k6.to (insertion_c hC (X := A.take a) (Y := A.drop n) (List.length_take_of_le (by omega)) (by simp; omega) (by omega) (rise a (n - a)) ho' fun W w1 hf1 hp hs ho1 => ?_)
    have hl : W.length = n - a := by rw [hp.length_eq]; simp
    refine h (putS A a n W) w1 (hfr.trans hf1) (by rw [putS_len han (by omega) hl, hA]) (fun x hx hxn => ?_) ho1
    by_cases e : x < a
    · have := dvd_gap hx hda e
      rw [Nat.min_eq_left (by omega)]
      have g := h1 x hx e
      unfold Good at g ⊢
      rwa [seg_before (by omega) (by omega) (by omega)]
    · have := dvd_eq hda hx (by omega) (by omega)
      subst this
      rw [Nat.min_eq_right (by omega)]
      unfold Good
      rw [seg_put han (by omega) hl]
      exact ⟨hp, hs⟩
  intro d
  induction d with
  | zero =>
    intro a A w hd han hda hA h1 hdr hfr ho
    refine F59.l2.to ?_
    simp only [C.ite_true, C.ite_false, C.pick_true, C.pick_false, C.not_bool, C.field_ptr, C.nilCheck_ptr, C.add_mk, C.sub_mk, C.mul_mk, C.eql_mk, C.neq_mk, C.lss_mk, C.leq_mk, C.gtr_mk, C.geq_mk, C.conv_mk, C.len_mk, C.ext_0, C.ext_1, C.ext3_0, C.ext3_1, C.ext3_2, C.guarded_yes, C.guarded_tf, C.guarded_ft, C.guarded_undef, Bool.not_true, Bool.not_false, Nat.zero_add, eq_self, decide_true, decide_false, show ¬ (((a + 20 : Nat) : Int) ≤ (n : Int)) by omega]
    exact fin a A w han (by omega) hda hA h1 hdr hfr ho
  | succ d ih =>
    intro a A w hd han hda hA h1 hdr hfr ho
    by_cases e : a + 20 ≤ n
    · refine F59.l2.to ?_
      simp only [C.ite_true, C.ite_false, C.pick_true, C.pick_false, C.not_bool, C.field_ptr, C.nilCheck_ptr, C.add_mk, C.sub_mk, C.mul_mk, C.eql_mk, C.neq_mk, C.lss_mk, C.leq_mk, C.gtr_mk, C.geq_mk, C.conv_mk, C.len_mk, C.ext_0, C.ext_1, C.ext3_0, C.ext3_1, C.ext3_2, C.guarded_yes, C.guarded_tf, C.guarded_ft, C.guarded_undef, Bool.not_true, Bool.not_false, Nat.zero_add, eq_self, decide_true, decide_false, show (((a + 20 : Nat) : Int) ≤ (n : Int)) by omega]
      have es : seg A a (a + 20) = List.range' a 20 := by
        unfold seg
        have e2 := List.range'_append_1 (s := a) (m := 20) (n := n - a - 20)
        rw [show 20 + (n - a - 20) = n - a by omega] at e2
        rw [hdr, ← e2, show a + 20 - a = 20 by omega]
        exact List.take_left' (by simp)
      have hA1 := seg_split (A := A) (a := a) (b := a + 20) (by omega)
      rw [es] at hA1
      have ho' := ho
      rw [hA1] at ho'
      refine F59.k3.to (insertion_c hC (X := A.take a) (Y := A.drop (a + 20)) (List.length_take_of_le (by omega)) (by simp) (by omega) (rise a 20) ho' fun W w1 hf1 hp hs ho1 => ?_)
      have hl : W.length = a + 20 - a := by rw [hp.length_eq]; simp
      try simp only [C.ite_true, C.ite_false, C.pick_true, C.pick_false, C.not_bool, C.field_ptr, C.nilCheck_ptr, C.add_mk, C.sub_mk, C.mul_mk, C.eql_mk, C.neq_mk, C.lss_mk, C.leq_mk, C.gtr_mk, C.geq_mk, C.conv_mk, C.len_mk, C.ext_0, C.ext_1, C.ext3_0, C.ext3_1, C.ext3_2, C.guarded_yes, C.guarded_tf, C.guarded_ft, C.guarded_undef, Bool.not_true, Bool.not_false, Nat.zero_add, eq_self, decide_true, decide_false]
      rw [wrap64_id (n := ((a + 20 : Nat) : Int) + 20) (by omega), show ((a + 20 : Nat) : Int) + 20 = ((a + 20 + 20 : Nat) : Int) by omega]
      refine ih (a + 20) (putS A a (a + 20) W) w1 (by omega) e (Nat.dvd_add hda ⟨1, rfl⟩) (by rw [putS_len (by omega) (by omega) hl, hA]) (fun x hx hxa => ?_) ?_ (hfr.trans hf1) ho1
      · by_cases c : x < a
        · have := dvd_gap hx hda c
          have g := h1 x hx c
          unfold Good at g ⊢
          rwa [seg_before (by omega) (by omega) (by omega)]
        · have := dvd_eq hda hx (by omega) hxa
          subst this
          unfold Good
          rw [seg_put (by omega) (by omega) hl, show x + 20 - x = 20 by omega]
          exact ⟨hp, hs⟩
      · rw [drop_put (by omega) (by omega) hl]
        have := congrArg (List.drop 20) hdr
        rw [List.drop_drop, List.drop_range'] at this
        rw [this]
        congr 1
    · refine F59.l2.to ?_
      simp only [C.ite_true, C.ite_false, C.pick_true, C.pick_false, C.not_bool, C.field_ptr, C.nilCheck_ptr, C.add_mk, C.sub_mk, C.mul_mk, C.eql_mk, C.neq_mk, C.lss_mk, C.leq_mk, C.gtr_mk, C.geq_mk, C.conv_mk, C.len_mk, C.ext_0, C.ext_1, C.ext3_0, C.ext3_1, C.ext3_2, C.guarded_yes, C.guarded_tf, C.guarded_ft, C.guarded_undef, Bool.not_true, Bool.not_false, Nat.zero_add, eq_self, decide_true, decide_false, show ¬ (((a + 20 : Nat) : Int) ≤ (n : Int)) by omega]
      exact fin a A w han (by omega) hda hA h1 hdr hfr ho
theorem SortStable_c (hC : CmpOk ser f cv) {n : Nat} (hn : n ≤ 10000) (ho : OwnS w nv 59 2 (RW ser f (List.range n))) (h : ∀ A w', Fr (blkS nv) w w' → A.Perm (List.range n) → SrtL ser A → OwnS w' nv 59 2 (RW ser f A) → K (.tuple #[]) w') :
    C.call Try.prog 41 #[nv, cv] w K := by
  refine F41.sh (C.len_rd ho.rd ?_)
  rw [RW_len, List.length_range]
  refine F59.sh ?_
  have := st_ins (K := fun _ w2 => K (.tuple #[]) w2) hC hn (fun A w1 hf1 hA hB ho1 => st_merge (K := fun _ w2 => K (.tuple #[]) w2) hC hn (fun A w2 hf2 hp hs ho2 => h A w2 hf2 hp hs ho2) n 20 A w1 (by omega) (by omega) hA hB hf1 ho1 (by omega)) n 0 (List.range n) w (by omega) (by omega) (Nat.dvd_zero _) (by simp) (fun c _ hc => by omega) (by rw [List.drop_zero, Nat.sub_zero, List.range_eq_range']) (Fr.refl _ _) ho
  exact this
end
end Go.Proofs.YtfjilngljnlkjaaV
