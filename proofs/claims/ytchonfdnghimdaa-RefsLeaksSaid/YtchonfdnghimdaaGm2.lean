/- From, Leads: what the calls come to. -/
import Derived.Test.YtchonfdnghimdaaGm
namespace Go.Proofs.YtchonfdnghimdaaV
open Go Go.Proofs Go.RowKit
set_option linter.unusedVariables false
set_option linter.unusedSimpArgs false
set_option maxRecDepth 10000
def boolC (l : List Bool) : List (List Value) := l.map fun b => [.bool b]
theorem boolC_len (l : List Bool) : (boolC l).length = l.length := by simp [boolC]
theorem boolC_get {l : List Bool} {j : Nat} (h : j < l.length) : (boolC l)[j]? = some [.bool l[j]] := by simp [boolC, h]
theorem boolC_set (l : List Bool) (j : Nat) (b : Bool) : (boolC l).set j [.bool b] = boolC (l.set j b) := by simp [boolC, List.map_set]
def natI (o : List Nat) : List Int := o.map fun p : Nat => (p : Int)
theorem natI_len (o : List Nat) : (natI o).length = o.length := by simp [natI]
theorem natI_get {o : List Nat} {j : Nat} (h : j < o.length) (h' : j < (natI o).length) : (natI o)[j] = (o[j] : Int) := by simp [natI]
theorem natI_app (a b : List Nat) : natI (a ++ b) = natI a ++ natI b := by simp [natI]
section
variable {K : VK} {w : World}
theorem C.idx_intS {S : World → Prop} {v : Value} {l : List Int} {i : Nat} (h : ∀ w', S w' → RdS w' v 1 (intC l)) (hS : S w) (hi : i < l.length) (hk : ∀ g o, (∀ w', S w' → ∃ cs e fz, w'.heap[g]? = some (.cells cs e fz) ∧ cs[o]? = some (.int .i64 l[i])) → K (.pointer (some ⟨g, o, none⟩)) w) :
    C.idx 1 v (.int .i64 (i : Int)) w K :=
  C.idx_rdS h hS (by omega) (by rw [Int.toNat_natCast]; exact intC_get hi) fun g o _ hs => hk g o fun w' hw => by
    obtain ⟨cs, e, fz, hg, hc⟩ := hs w' hw
    exact ⟨cs, e, fz, hg, by simpa using hc 0 (by omega)⟩
/-- A flag, read. -/
theorem C.idx_bool {v : Value} {l : List Bool} {i : Nat} (h : RdS w v 1 (boolC l)) (hi : i < l.length) (hk : K (.bool l[i]) w) : C.idx 1 v (.int .i64 (i : Int)) w fun p w1 => C.load1 p w1 K :=
  C.idx_rd h (by omega) (by rw [Int.toNat_natCast]; exact boolC_get hi) fun g o cs e fz hg _ hc => C.load1_of hg (v := .bool l[i]) (by simpa using hc 0 (by omega)) hk
/-- A flag, set. -/
theorem flag_set {W0 : World} {v : Value} {l : List Bool} {j : Nat} {b : Bool} {F : World → Prop} (hf : Fr [] W0 w) (hn : NewS W0 v) (ho : OwnS w v 4 1 (boolC l)) (hj : j < l.length)
    (hk : ∀ w', Fr [] W0 w' → OwnS w' v 4 1 (boolC (l.set j b)) → Fr (blkS v) w w' → F w') : C.idx 1 v (.int .i64 (j : Int)) w fun p w1 => C.store 1 p (.bool b) w1 F :=
  C.storeAt_own ho (by omega) (by rw [boolC_len]; omega) rfl (by intro u hu; simp [Value.cells] at hu; subst hu; rfl) fun w' ho' hf' _ =>
    hk w' (hf.then hf' fun y hy => .inr (hn y (mem_blkS.1 hy))) (by rw [Int.toNat_natCast] at ho'; rw [← boolC_set]; exact ho') hf'
/-- Flags, made. -/
theorem flags_new {n : Nat} (hn : n ≤ 1000000) (hk : ∀ v w', Fr [] w w' → NewS w v → OwnS w' v 4 1 (boolC (List.replicate n false)) → K v w') : C.run Try.prog (Instr.makeSlice 28 (.int .i64 (n : Int)) (.int .i64 (n : Int))) w K := by
  refine C.make_of (e := 4) (sz := 1) (bytes := 1) (z := .bool false) n Try.underlying28 (by kernel_rfl) rfl (by decide) (by intro u hu; simp [Value.cells] at hu; subst hu; rfl) (by omega) (by omega) fun gf w7 hn7 ho7 => hk _ w7 hn7.fr (fun g hg => ?_) ?_
  · simp only [Value.ownBlock, Option.some.injEq] at hg
    have := hn7.is
    omega
  · have e2 : boolC (List.replicate n false) = List.replicate n (Value.cells (.bool false)).toList := by simp [boolC, Value.cells]
    rw [e2]
    exact ho7
theorem bGr (A : Option Addr) (n c : Nat) (B : Option Addr) (m d : Nat) : (Instr.build 30 #[(0, .slice A n c), (1, .slice B m d)]).run Try.prog w = .ok (.agg #[.slice A n c, .slice B m d]) w := by kernel_rfl
def Gr.fromL (G : Gr) (i : Nat) : List Bool := (List.range G.n).map (G.ld i)
theorem from_loop {W0 : World} {G : Gr} {dv v : Value} {i : Nat} (hd : RdS W0 dv 1 (intC (G.at_ i).distL)) (hn : NewS W0 v) (hfew : G.n ≤ 1000)
    (h : ∀ w', Fr [] W0 w' → OwnS w' v 4 1 (boolC (G.fromL i)) → K v w') :
    ∀ (d j : Nat) (w : World) (l : List Bool), G.n = j + d → Fr [] W0 w → OwnS w v 4 1 (boolC l) → l.length = G.n → (∀ k (hk : k < l.length), k < j → l[k] = G.ld i k) → F9.l4 K dv v (.int .i64 (j : Int)) w := by
  have dl : (G.at_ i).distL.length = G.n := by simp [Gr.distL, at_n]
  intro d
  induction d with
  | zero =>
    intro j w l hj hf ho hl hq
    refine F9.l4.to (C.len_rd (hd.keep hf) ?_)
    rw [intC_len, dl]
    simp only [C.ite_true, C.ite_false, C.pick_true, C.pick_false, C.not_bool, C.field_ptr, C.nilCheck_ptr, C.add_mk, C.sub_mk, C.mul_mk, C.eql_mk, C.neq_mk, C.lss_mk, C.leq_mk, C.gtr_mk, C.geq_mk, C.conv_mk, C.len_mk, C.ext_0, C.ext_1, C.ext3_0, C.ext3_1, C.ext3_2, C.guarded_yes, C.guarded_tf, C.guarded_ft, C.guarded_undef, Bool.not_true, Bool.not_false, Nat.zero_add, eq_self, decide_true, decide_false, show ¬ ((j : Int) < (G.n : Int)) by omega]
    have e : l = G.fromL i := by
      apply List.ext_getElem
      · simp [Gr.fromL, hl]
      · intro k h1 h2
        rw [hq k h1 (by omega)]
        simp [Gr.fromL]
    subst e
    exact F9.k7.to (h w hf ho)
  | succ d ih =>
    intro j w l hj hf ho hl hq
    have jn : j < G.n := by omega
    have jd : j < (G.at_ i).distL.length := by omega
    refine F9.l4.to (C.len_rd (hd.keep hf) ?_)
    rw [intC_len, dl]
    simp only [C.ite_true, C.ite_false, C.pick_true, C.pick_false, C.not_bool, C.field_ptr, C.nilCheck_ptr, C.add_mk, C.sub_mk, C.mul_mk, C.eql_mk, C.neq_mk, C.lss_mk, C.leq_mk, C.gtr_mk, C.geq_mk, C.conv_mk, C.len_mk, C.ext_0, C.ext_1, C.ext3_0, C.ext3_1, C.ext3_2, C.guarded_yes, C.guarded_tf, C.guarded_ft, C.guarded_undef, Bool.not_true, Bool.not_false, Nat.zero_add, eq_self, decide_true, decide_false, show ((j : Int) < (G.n : Int)) by omega]
    refine F9.k6.to (C.idx_int (hd.keep hf) jd fun g o cs e fz hg hc => C.load1_of hg hc ?_)
    simp only [C.ite_true, C.ite_false, C.pick_true, C.pick_false, C.not_bool, C.field_ptr, C.nilCheck_ptr, C.add_mk, C.sub_mk, C.mul_mk, C.eql_mk, C.neq_mk, C.lss_mk, C.leq_mk, C.gtr_mk, C.geq_mk, C.conv_mk, C.len_mk, C.ext_0, C.ext_1, C.ext3_0, C.ext3_1, C.ext3_2, C.guarded_yes, C.guarded_tf, C.guarded_ft, C.guarded_undef, Bool.not_true, Bool.not_false, Nat.zero_add, eq_self, decide_true, decide_false]
    have eb : decide ((G.at_ i).distL[j] ≥ 0) = G.ld i j := by
      simp [Gr.distL, Gr.ld, Gr.rch]
    rw [eb]
    refine flag_set hf hn ho (by omega) fun w1 hf1 ho1 _ => ?_
    refine F9.k5.to ?_
    simp only [C.ite_true, C.ite_false, C.pick_true, C.pick_false, C.not_bool, C.field_ptr, C.nilCheck_ptr, C.add_mk, C.sub_mk, C.mul_mk, C.eql_mk, C.neq_mk, C.lss_mk, C.leq_mk, C.gtr_mk, C.geq_mk, C.conv_mk, C.len_mk, C.ext_0, C.ext_1, C.ext3_0, C.ext3_1, C.ext3_2, C.guarded_yes, C.guarded_tf, C.guarded_ft, C.guarded_undef, Bool.not_true, Bool.not_false, Nat.zero_add, eq_self, decide_true, decide_false]
    rw [wrap64_id (n := (j : Int) + 1) (by omega), show (j : Int) + 1 = ((j + 1 : Nat) : Int) by omega]
    refine ih (j + 1) w1 _ (by omega) hf1 ho1 (by simpa using hl) fun k hk hkj => ?_
    rw [List.getElem_set]
    by_cases e : j = k
    · subst e; rw [if_pos rfl]
    · rw [if_neg e]
      exact hq k (by simpa using hk) (by omega)
theorem From_c {nv rv : Value} {G : Gr} {i : Nat} (hG : IsG w nv rv G) (h : ∀ v w', Fr [] w w' → NewS w v → OwnS w' v 4 1 (boolC (G.fromL i)) → K v w') : C.call Try.prog 9 #[.agg #[nv, rv], .int .i64 (i : Int)] w K := by
  refine F9.sh (GBlk.new hG fun b w1 hf1 _ hb hG1 => hb.next (C.run_of (bsI (i : Int)) ?_))
  have hn2 := New.mk' w1 (.cells #[.int .i64 (i : Int)] 3)
  have hG2 := hG1.keep hn2.fr
  obtain ⟨A, c, B, d, rfl, rfl⟩ := hG.slices
  refine C.run_of (bGr A G.n c (some ⟨w1.heap.size, 0, none⟩) 1 1) ?_
  have hGa : IsG (w1.alloc (.cells #[.int .i64 (i : Int)] 3)) (.slice A G.n c) (.slice (some ⟨w1.heap.size, 0, none⟩) 1 1) (G.at_ i) := ⟨hG2.next, RdS.of_block hn2.at_ rfl (by simp) (by simp) (by simp [intC, Gr.at_]) (by simp [intC, Gr.at_]), hG.few, by simp [Gr.at_], hG.nlen⟩
  refine refDist_c hGa fun dv w3 hf3 hn3 ho3 => C.len_rd ho3.rd ?_
  have dl : (G.at_ i).distL.length = G.n := by simp [Gr.distL, at_n]
  rw [intC_len, dl]
  have hfew := hG.few
  refine flags_new (by omega) fun v w4 hf4 hn4 ho4 => ?_
  have f3 := (hf1.trans hn2.fr).trans hf3
  exact from_loop (W0 := w3) ho3.rd hn4 hG.few (fun w' a b => h v w' (f3.trans a) (hn4.mono f3.size) b) G.n 0 w4 _ (by omega) hf4 ho4 (by simp) fun k _ hk => by omega
theorem leads_loop {W0 : World} {nv rv : Value} {G : Gr} {i : Nat} {j : Int} {b : Nat} (hG : IsG W0 nv rv G) (hb : GBlk W0 b 30 nv rv) (hi : i < G.n) (h : K (.bool (decide (j ∈ G.row i))) W0) :
    ∀ (d k : Nat), (G.row i).length = k + d → (∀ q (hq : q < (G.row i).length), q < k → (G.row i)[q] ≠ j) → F16.l2 K (.int .i64 (i : Int)) (.int .i64 j) (.pointer (some ⟨b, 0, none⟩)) (.int .i64 (k : Int)) W0 := by
  have hle := row_len hG i
  intro d
  induction d with
  | zero =>
    intro k hk hn
    refine F16.l2.to (hb.row hG hi fun v hv => C.len_rd hv ?_)
    rw [intC_len]
    simp only [C.ite_true, C.ite_false, C.pick_true, C.pick_false, C.not_bool, C.field_ptr, C.nilCheck_ptr, C.add_mk, C.sub_mk, C.mul_mk, C.eql_mk, C.neq_mk, C.lss_mk, C.leq_mk, C.gtr_mk, C.geq_mk, C.conv_mk, C.len_mk, C.ext_0, C.ext_1, C.ext3_0, C.ext3_1, C.ext3_2, C.guarded_yes, C.guarded_tf, C.guarded_ft, C.guarded_undef, Bool.not_true, Bool.not_false, Nat.zero_add, eq_self, decide_true, decide_false, show ¬ ((k : Int) < ((G.row i).length : Int)) by omega]
    refine F16.k6.to ?_
    rwa [decide_eq_false fun hm => by obtain ⟨q, hq, e⟩ := List.getElem_of_mem hm; exact hn q hq (by omega) e] at h
  | succ d ih =>
    intro k hk hn
    have kl : k < (G.row i).length := by omega
    refine F16.l2.to (hb.row hG hi fun v hv => C.len_rd hv ?_)
    rw [intC_len]
    simp only [C.ite_true, C.ite_false, C.pick_true, C.pick_false, C.not_bool, C.field_ptr, C.nilCheck_ptr, C.add_mk, C.sub_mk, C.mul_mk, C.eql_mk, C.neq_mk, C.lss_mk, C.leq_mk, C.gtr_mk, C.geq_mk, C.conv_mk, C.len_mk, C.ext_0, C.ext_1, C.ext3_0, C.ext3_1, C.ext3_2, C.guarded_yes, C.guarded_tf, C.guarded_ft, C.guarded_undef, Bool.not_true, Bool.not_false, Nat.zero_add, eq_self, decide_true, decide_false, show ((k : Int) < ((G.row i).length : Int)) by omega]
    refine F16.k4.to (hb.row hG hi fun v hv => C.idx_int hv kl fun g o cs e fz hg hc => C.load1_of hg hc ?_)
    by_cases c : (G.row i)[k] = j
    · simp only [C.ite_true, C.ite_false, C.pick_true, C.pick_false, C.not_bool, C.field_ptr, C.nilCheck_ptr, C.add_mk, C.sub_mk, C.mul_mk, C.eql_mk, C.neq_mk, C.lss_mk, C.leq_mk, C.gtr_mk, C.geq_mk, C.conv_mk, C.len_mk, C.ext_0, C.ext_1, C.ext3_0, C.ext3_1, C.ext3_2, C.guarded_yes, C.guarded_tf, C.guarded_ft, C.guarded_undef, Bool.not_true, Bool.not_false, Nat.zero_add, eq_self, decide_true, decide_false, c]
      rwa [decide_eq_true (c ▸ List.getElem_mem kl)] at h
    · simp only [C.ite_true, C.ite_false, C.pick_true, C.pick_false, C.not_bool, C.field_ptr, C.nilCheck_ptr, C.add_mk, C.sub_mk, C.mul_mk, C.eql_mk, C.neq_mk, C.lss_mk, C.leq_mk, C.gtr_mk, C.geq_mk, C.conv_mk, C.len_mk, C.ext_0, C.ext_1, C.ext3_0, C.ext3_1, C.ext3_2, C.guarded_yes, C.guarded_tf, C.guarded_ft, C.guarded_undef, Bool.not_true, Bool.not_false, Nat.zero_add, eq_self, decide_true, decide_false, c]
      refine F16.k3.to ?_
      simp only [C.ite_true, C.ite_false, C.pick_true, C.pick_false, C.not_bool, C.field_ptr, C.nilCheck_ptr, C.add_mk, C.sub_mk, C.mul_mk, C.eql_mk, C.neq_mk, C.lss_mk, C.leq_mk, C.gtr_mk, C.geq_mk, C.conv_mk, C.len_mk, C.ext_0, C.ext_1, C.ext3_0, C.ext3_1, C.ext3_2, C.guarded_yes, C.guarded_tf, C.guarded_ft, C.guarded_undef, Bool.not_true, Bool.not_false, Nat.zero_add, eq_self, decide_true, decide_false]
      rw [wrap64_id (n := (k : Int) + 1) (by omega), show (k : Int) + 1 = ((k + 1 : Nat) : Int) by omega]
      refine ih (k + 1) (by omega) fun q hq hqk => ?_
      by_cases e : q = k
      · subst e; exact c
      · exact hn q hq (by omega)
theorem Leads_c {nv rv : Value} {G : Gr} {i : Nat} {j : Int} (hG : IsG w nv rv G) (hi : i < G.n) (h : ∀ w', Fr [] w w' → K (.bool (decide (j ∈ G.row i))) w') : C.call Try.prog 16 #[.agg #[nv, rv], .int .i64 (i : Int), .int .i64 j] w K :=
  F16.sh (GBlk.new hG fun b w1 hf1 _ hb hG1 => leads_loop hG1 hb hi (h w1 hf1) (G.row i).length 0 (by omega) fun q _ hq => by omega)
end
end Go.Proofs.YtchonfdnghimdaaV
