/- After CloseTo the entries, if they are not too many, all balances are 0; and CloseTo is what the reference tells: for every code. Conditions: none. -/
import Derived.Test.YtgapjelooefofaaPFnCloseTox0
import Derived.Test.YtgapjelooefofaaPFnCloseTox1
import Derived.Test.YtgapjelooefofaaPFnCloseTox2
import Derived.Test.YtgapjelooefofaaMFnCloseTox3
import Derived.Test.YtgapjelooefofaaMFnCloseTox4
import Derived.Test.YtgapjelooefofaaMFnCloseTox5
import Derived.Test.YtgapjelooefofaaMFnCloseTox6
import Derived.Test.YtgapjelooefofaaBase
set_option linter.unusedVariables false
set_option linter.unusedSimpArgs false
namespace Go.Proofs.Ytgapjelooefofaa.Pure
open Go.RowKit Go.Proofs.Ytgapjelooefofaa.PFnCloseTo Go.Proofs.YtgapjelooefofaaW.PrintWords Go.Proofs.YtgapjelooefofaaW.PrintLast Go.Proofs.YtgapjelooefofaaW.PrintMore Go.Proofs.Ytgapjelooefofaa.Base
theorem u8_range {x : Int} (h : (Lit.int .u8 x).wf = true) : 0 ≤ x ∧ x ≤ 255 := by
  simp [Lit.wf, IntKind.min, IntKind.max, IntKind.bits, IntKind.signed] at h
  omega
/-! ## The reader that draws. -/
structure BytesOk (b : List Int) : Prop where
  len : b.length ≤ 2000
  mem : ∀ x ∈ b, 0 ≤ x ∧ x ≤ 255

theorem newReader_ok (l : List Int) (h : ∀ x ∈ l, 0 ≤ x ∧ x ≤ 255) : ∃ b, spec_newReader.f l = some (b, 0) ∧ BytesOk b := by
  unfold spec_newReader.f
  by_cases c : (l.length : Int) > 2000
  · rw [if_pos c, if_pos (by omega)]
    exact ⟨_, rfl, by rw [List.length_take]; omega, fun x hx => h x (List.mem_of_mem_take hx)⟩
  · rw [if_neg c]
    exact ⟨_, rfl, by omega, h⟩

theorem pick_ok (b : List Int) (p n : Int) (hb : BytesOk b) (h0 : 0 ≤ p) (h1 : p ≤ 100000) :
    EvS (fun k => spec_reader_pick.f k b p n) (fun r => 0 ≤ r.1 ∧ (1 ≤ n → r.1 < n) ∧ (n < 1 → r.1 = 0) ∧ r.2 = p + 1) := by
  have hp : wrap64 (p + 1) = p + 1 := w64 (by omega) (by omega)
  have hq : wrap64 (p + 1 - 1) = p := by rw [show p + 1 - 1 = p by omega]; exact w64 (by omega) (by omega)
  have hbl := hb.len
  simp only [spec_reader_pick.f]
  rw [hp]
  by_cases hn : n < 1
  · refine EvS.pos hn ?_
    refine EvS.step (fun k => by rw [spec_reader_pick.j0]) ?_
    refine EvS.pos rfl ?_
    exact EvS.now ⟨by simp, fun h => by omega, fun _ => rfl, rfl⟩
  · refine EvS.neg hn ?_
    refine EvS.step (fun k => by rw [spec_reader_pick.j0]) ?_
    simp only [hq]
    by_cases hl : b.length = 0
    · refine EvS.pos (by simp [hl]) ?_
      exact EvS.now ⟨by simp, fun h => by simp; omega, fun _ => rfl, rfl⟩
    · refine EvS.neg (by simp; intro h; exact hl (by simp [h])) ?_
      by_cases hpl : p < b.length
      · refine EvS.pos hpl (EvS.pos h0 (EvS.neg (by omega) ?_))
        have hr := rd_range hb.mem p h0 hpl
        rw [w64 (by omega) (by omega)]
        have ht := tmod_range (rd b p) n (by omega) (by omega)
        exact EvS.now ⟨ht.1, fun _ => ht.2, fun h => by omega, rfl⟩
      · refine EvS.neg hpl (EvS.neg (by omega) ?_)
        have e1 : wrap64 (wrap64 (p * 7) + 3) = p * 7 + 3 := by
          rw [w64 (x := p * 7) (by omega) (by omega)]; exact w64 (by omega) (by omega)
        simp only [e1]
        have i1 := tmod_range p b.length h0 (by omega)
        have i2 := tmod_range (p * 7 + 3) b.length (by omega) (by omega)
        refine EvS.pos i1.1 (EvS.pos i1.2 (EvS.pos i2.1 (EvS.pos i2.2 (EvS.neg (by omega) ?_))))
        have r1 := rd_range hb.mem _ i1.1 i1.2
        have r2 := rd_range hb.mem _ i2.1 i2.2
        generalize rd b (Int.tmod p b.length) = v1 at r1 ⊢
        generalize rd b (Int.tmod (p * 7 + 3) b.length) = v2 at r2 ⊢
        have d0 : 0 ≤ Int.tdiv p b.length ∧ Int.tdiv p b.length ≤ p := by
          rw [tdiv_pos _ _ h0]
          exact ⟨Int.ediv_nonneg h0 (by omega), Int.ediv_le_self _ h0⟩
        generalize Int.tdiv p b.length = dv at d0 ⊢
        simp (disch := omega) only [w64]
        have hx0 : 0 ≤ v1 * 131 + v2 * 1117 + p * 29 + dv * 53 := by omega
        have hx1 : v1 * 131 + v2 * 1117 + p * 29 + dv * 53 < 1000000000 := by omega
        generalize v1 * 131 + v2 * 1117 + p * 29 + dv * 53 = X at hx0 hx1 ⊢
        rw [tdiv_pos X 64 hx0, w64 (x := X / 64) (by omega) (by omega)]
        have ht := tmod_range (Go.bits .xor .i64 X (X / 64)) n (xor_nonneg _ _ (by omega) (by omega) (by omega) (by omega)) (by omega)
        exact EvS.now ⟨ht.1, fun _ => ht.2, fun h => by omega, rfl⟩

theorem one_ok (b : List Int) (p : Int) (l : List Int) (hb : BytesOk b) (h0 : 0 ≤ p) (h1 : p ≤ 100000) (hl : 1 ≤ l.length) :
    EvS (fun k => spec_reader_one.f k b p l) (fun r => r.1 ∈ l ∧ r.2 = p + 1) := by
  simp only [spec_reader_one.f]
  refine EvS.bind (pick_ok b p l.length hb h0 h1) ?_
  rintro ⟨v, q⟩ ⟨a1, a2, a3, a4⟩
  have a5 := a2 (by omega)
  refine EvS.pos a1 (EvS.pos a5 ?_)
  exact EvS.now ⟨rd_mem _ a1 a5, a4⟩
/-! ## Entries that are drawn. -/
theorem someEntries_l0 (b : List Int) (hb : BytesOk b) (d : Nat) : ∀ (x3 : List S33) (x4 p : Int), x4 ≤ d → 0 ≤ p → p + 8 * d ≤ 10000 → x3.length + 2 * d ≤ 1000 →
    EvS (fun k => spec_someEntries.l0 k x3 x4 b p) (fun r => r.1.length ≤ x3.length + 2 * d ∧ p ≤ r.2 ∧ r.2 ≤ p + 8 * d) := by
  induction d with
  | zero =>
    intro x3 x4 p h1 h2 h3 h4
    refine EvS.step (fun k => by rw [spec_someEntries.l0]) ?_
    exact EvS.neg (by omega) (EvS.now ⟨by simp, by simp, by simp⟩)
  | succ d ih =>
    intro x3 x4 p h1 h2 h3 h4
    refine EvS.step (fun k => by rw [spec_someEntries.l0]) ?_
    refine EvS.ite (fun c => ?_) (fun c => EvS.now ⟨by simp, by simp, by simp; omega⟩)
    refine EvS.bind (pick_ok _ _ _ hb (by omega) (by omega)) ?_
    rintro ⟨v1, _⟩ ⟨v1_0, v1_1, v1_2, rfl⟩
    dsimp only at v1_0 v1_1 v1_2 ⊢
    refine EvS.bind (pick_ok _ _ _ hb (by omega) (by omega)) ?_
    rintro ⟨v2, _⟩ ⟨v2_0, v2_1, v2_2, rfl⟩
    dsimp only at v2_0 v2_1 v2_2 ⊢
    refine EvS.bind (pick_ok _ _ _ hb (by omega) (by omega)) ?_
    rintro ⟨v3, _⟩ ⟨v3_0, v3_1, v3_2, rfl⟩
    dsimp only at v3_0 v3_1 v3_2 ⊢
    refine EvS.bind (pick_ok _ _ _ hb (by omega) (by omega)) ?_
    rintro ⟨v4, _⟩ ⟨v4_0, v4_1, v4_2, rfl⟩
    dsimp only at v4_0 v4_1 v4_2 ⊢
    refine EvS.bind (pick_ok _ _ _ hb (by omega) (by omega)) ?_
    rintro ⟨v5, _⟩ ⟨v5_0, v5_1, v5_2, rfl⟩
    dsimp only at v5_0 v5_1 v5_2 ⊢
    refine EvS.bind (one_ok _ _ _ hb (by omega) (by omega) (by simp)) ?_
    rintro ⟨v6, _⟩ ⟨v6_m, rfl⟩
    dsimp only at v6_m ⊢
    refine EvS.pos (by omega) (EvS.onsome ?_)
    refine EvS.bind (pick_ok _ _ _ hb (by omega) (by omega)) ?_
    rintro ⟨v7, _⟩ ⟨v7_0, v7_1, v7_2, rfl⟩
    dsimp only at v7_0 v7_1 v7_2 ⊢
    refine EvS.ite (fun _ => ?_) (fun _ => ?_)
    · refine EvS.bind (pick_ok _ _ _ hb (by omega) (by omega)) ?_
      rintro ⟨v8, _⟩ ⟨v8_0, v8_1, v8_2, rfl⟩
      dsimp only at v8_0 v8_1 v8_2 ⊢
      have := v8_1 (by simp; omega)
      refine EvS.pos v8_0 (EvS.pos this (EvS.pos (by simp; omega) ?_))
      rw [w64 (x := x4 - 1) (by omega) (by omega)]
      refine EvS.mono (ih _ _ _ (by omega) (by omega) (by omega) (by simp; omega)) (fun r hr => ?_)
      obtain ⟨g1, g2, g3⟩ := hr
      simp at g1
      exact ⟨by omega, by omega, by omega⟩
    · rw [w64 (x := x4 - 1) (by omega) (by omega)]
      refine EvS.mono (ih _ _ _ (by omega) (by omega) (by omega) (by simp; omega)) (fun r hr => ?_)
      obtain ⟨g1, g2, g3⟩ := hr
      simp at g1
      exact ⟨by omega, by omega, by omega⟩
theorem someEntries_ok (b : List Int) (p : Int) (hb : BytesOk b) (h0 : 0 ≤ p) (h1 : p ≤ 1000) :
    EvS (fun k => spec_someEntries.f k b p) (fun r => r.1.length ≤ 20 ∧ p ≤ r.2 ∧ r.2 ≤ p + 81) := by
  simp only [spec_someEntries.f]
  refine EvS.bind (one_ok _ _ _ hb (by omega) (by omega) (by simp)) ?_
  rintro ⟨v1, _⟩ ⟨v1_m, rfl⟩
  dsimp only at v1_m ⊢
  have hv : v1 ≤ (10 : Nat) := by simp at v1_m; omega
  refine EvS.mono (someEntries_l0 b hb 10 [] v1 _ hv (by omega) (by omega) (by simp)) (fun r hr => ?_)
  obtain ⟨g1, g2, g3⟩ := hr
  simp at g1
  exact ⟨by omega, by omega, by omega⟩
theorem anyEntries_ok (b : List Int) (p : Int) (hb : BytesOk b) (h0 : 0 ≤ p) (h1 : p ≤ 1000) :
    EvS (fun k => spec_anyEntries.f k b p) (fun r => r.1.length ≤ 20 ∧ p ≤ r.2 ∧ r.2 ≤ p + 90) := by
  simp only [spec_anyEntries.f]
  refine EvS.bind (someEntries_ok b p hb h0 h1) ?_
  rintro ⟨es, q⟩ ⟨g1, g2, g3⟩
  dsimp only at g1 g2 g3 ⊢
  refine EvS.ite (fun c => ?_) (fun c => EvS.now ⟨g1, by dsimp only; omega, by dsimp only; omega⟩)
  refine EvS.bind (pick_ok _ _ _ hb (by omega) (by omega)) ?_
  rintro ⟨v1, _⟩ ⟨v1_0, v1_1, v1_2, rfl⟩
  dsimp only at v1_0 v1_1 v1_2 ⊢
  refine EvS.bind (pick_ok _ _ _ hb (by omega) (by omega)) ?_
  rintro ⟨v2, _⟩ ⟨v2_0, v2_1, v2_2, rfl⟩
  dsimp only at v2_0 v2_1 v2_2 ⊢
  have hv := v1_1 (by omega)
  refine EvS.ite (fun _ => ?_) (fun _ => EvS.ite (fun _ => ?_) (fun _ => EvS.ite (fun _ => ?_) (fun _ => ?_)))
  · refine EvS.bind (one_ok _ _ _ hb (by omega) (by omega) (by simp)) ?_
    rintro ⟨v3, _⟩ ⟨v3_m, rfl⟩
    dsimp only at v3_m ⊢
    exact EvS.pos v1_0 (EvS.pos hv (EvS.now ⟨by simp; omega, by dsimp only; omega, by dsimp only; omega⟩))
  · refine EvS.pos v1_0 (EvS.pos hv ?_)
    refine EvS.bind (one_ok _ _ _ hb (by omega) (by omega) (by simp)) ?_
    rintro ⟨v3, _⟩ ⟨v3_m, rfl⟩
    dsimp only at v3_m ⊢
    exact EvS.now ⟨by simp; omega, by dsimp only; omega, by dsimp only; omega⟩
  · refine EvS.bind (one_ok _ _ _ hb (by omega) (by omega) (by simp)) ?_
    rintro ⟨v3, _⟩ ⟨v3_m, rfl⟩
    dsimp only at v3_m ⊢
    exact EvS.pos v1_0 (EvS.pos hv (EvS.now ⟨by simp; omega, by dsimp only; omega, by dsimp only; omega⟩))
  · exact EvS.now ⟨g1, by dsimp only; omega, by dsimp only; omega⟩
/-! ## Valid entries, and balances. -/
def VE (e : S33) : Prop := 0 ≤ e.f0 ∧ e.f0 ≤ 999 ∧ 0 ≤ e.f1 ∧ e.f1 ≤ 7 ∧ 0 ≤ e.f2 ∧ e.f2 ≤ 7 ∧ e.f1 ≠ e.f2 ∧ 1 ≤ e.f3 ∧ e.f3 ≤ 1000000
instance (e : S33) : Decidable (VE e) := by unfold VE; infer_instance
def VEs (l : List S33) : Prop := l.length ≤ 40 ∧ ∀ e ∈ l, VE e
instance (l : List S33) : Decidable (VEs l) := by unfold VEs; infer_instance
theorem at_rdE {xs ys : List S33} {i : Int} {y : S33} (h : At xs i (y :: ys)) : rd_T33 xs i = y := h.getD _

theorem inRange_eq (n lo hi : Int) : spec_inRange.f n lo hi = some (decide (lo ≤ n ∧ n ≤ hi)) := by
  unfold spec_inRange.f
  split
  · exact congrArg some (decide_eq_decide.2 (by omega))
  · exact congrArg some (decide_eq_false (by omega)).symm
theorem validAccount_eq (n : Int) : impl_validAccount.f n = some (decide (0 ≤ n ∧ n ≤ 7)) := by
  unfold impl_validAccount.f
  split
  · exact congrArg some (decide_eq_decide.2 (by omega))
  · exact congrArg some (decide_eq_false (by omega)).symm
theorem impl_validEntry_ok (a b c d : Int) : EvS (fun k => impl_validEntry.f k a b c d) (· = decide (VE ⟨a, b, c, d⟩)) := by
  have jt : ¬ VE ⟨a, b, c, d⟩ → EvS (fun k => impl_validEntry.j0 k true a b c d) (· = decide (VE ⟨a, b, c, d⟩)) := by
    intro h
    refine EvS.step (fun k => by rw [impl_validEntry.j0]) ?_
    exact EvS.pos rfl (EvS.now (decide_eq_false h).symm)
  simp only [impl_validEntry.f]
  refine EvS.ite (fun h => jt (by unfold VE; dsimp only; omega)) (fun h1 => EvS.ite (fun h => jt (by unfold VE; dsimp only; omega)) (fun h2 => EvS.ite (fun h => jt (by unfold VE; dsimp only; omega)) (fun h3 => ?_)))
  by_cases h4 : d > 1000000
  · rw [decide_eq_true h4]; exact jt (by unfold VE; dsimp only; omega)
  · rw [decide_eq_false h4]
    refine EvS.step (fun k => by rw [impl_validEntry.j0]) ?_
    refine EvS.neg (by simp) (EvS.call (validAccount_eq b) (EvS.ite (fun h5 => EvS.call (validAccount_eq c) (EvS.ite (fun h6 => EvS.now ?_) (fun h6 => EvS.now ?_))) (fun h5 => EvS.now ?_)))
    · have h5 := of_decide_eq_true h5
      have h6 := of_decide_eq_true h6
      by_cases hbc : b = c
      · rw [decide_eq_false (by unfold VE; dsimp only; omega)]; simp [hbc]
      · rw [decide_eq_true (by unfold VE; dsimp only; omega)]; simp [hbc]
    · simp at h6
      exact (decide_eq_false (by unfold VE; dsimp only; omega)).symm
    · simp at h5
      exact (decide_eq_false (by unfold VE; dsimp only; omega)).symm
theorem spec_validEntry_eq (a b c d : Int) : spec_validEntry.f a b c d = some (decide (VE ⟨a, b, c, d⟩)) := by
  unfold spec_validEntry.f
  simp only [inRange_eq, Option.bind_some]
  split
  · rename_i h1
    have h1 := of_decide_eq_true h1
    split
    · rename_i h2
      have h2 := of_decide_eq_true h2
      split
      · rename_i h3
        have h3 := of_decide_eq_true h3
        split
        · exact congrArg some (decide_eq_false (by unfold VE; dsimp only; omega)).symm
        · exact congrArg some (decide_eq_decide.2 (by unfold VE; dsimp only; omega))
      · rename_i h3; simp at h3
        exact congrArg some (decide_eq_false (by unfold VE; dsimp only; omega)).symm
    · rename_i h2; simp at h2
      exact congrArg some (decide_eq_false (by unfold VE; dsimp only; omega)).symm
  · rename_i h1; simp at h1
    exact congrArg some (decide_eq_false (by unfold VE; dsimp only; omega)).symm

theorem impl_ValidEntries_l0 (xs : List S33) (hl : xs.length ≤ 1000000) (ys : List S33) : ∀ i : Int, At xs i ys → EvS (fun k => impl_ValidEntries.l0 k xs xs.length i) (· = decide (∀ e ∈ ys, VE e)) := by
  induction ys with
  | nil =>
    intro i h
    refine EvS.step (fun k => by rw [impl_ValidEntries.l0]) ?_
    exact EvS.neg (by have := h.ge; omega) (EvS.now (by simp))
  | cons y ys ih =>
    intro i h
    refine EvS.step (fun k => by rw [impl_ValidEntries.l0]) ?_
    refine EvS.pos h.lt (EvS.pos h.nonneg (EvS.pos h.lt ?_))
    rw [at_rdE h]
    refine EvS.bindv (impl_validEntry_ok y.f0 y.f1 y.f2 y.f3) (EvS.ite (fun c => ?_) (fun c => EvS.now ?_))
    · have c := of_decide_eq_true c
      refine EvS.mono (ih _ (h.wnext (by omega))) (fun r hr => ?_)
      rw [hr]
      exact decide_eq_decide.2 ⟨fun g e he => by rcases List.mem_cons.1 he with rfl | he; exact c; exact g e he, fun g e he => g e (List.mem_cons_of_mem _ he)⟩
    · simp at c
      exact (decide_eq_false (fun g => c (g y List.mem_cons_self))).symm
theorem impl_ValidEntries_ok (xs : List S33) (hl : xs.length ≤ 1000000) : EvS (fun k => impl_ValidEntries.f k xs) (· = decide (VEs xs)) := by
  simp only [impl_ValidEntries.f]
  refine EvS.ite (fun c => EvS.now (decide_eq_false (fun g => by have := g.1; omega)).symm) (fun c => ?_)
  refine EvS.mono (impl_ValidEntries_l0 xs hl xs 0 (At.zero xs)) (fun r hr => ?_)
  rw [hr]
  exact decide_eq_decide.2 ⟨fun g => ⟨by omega, g⟩, fun g => g.2⟩
theorem spec_validEntries_l0 (xs : List S33) (hl : xs.length ≤ 1000000) (ys : List S33) : ∀ i : Int, At xs i ys → EvS (fun k => spec_validEntries.l0 k xs i) (· = decide (xs.length ≤ 40 ∧ ∀ e ∈ ys, VE e)) := by
  induction ys with
  | nil =>
    intro i h
    refine EvS.step (fun k => by rw [spec_validEntries.l0]) ?_
    exact EvS.neg (by have := h.ge; omega) (EvS.now (decide_eq_decide.2 ⟨fun g => ⟨by omega, by simp⟩, fun g => by omega⟩))
  | cons y ys ih =>
    intro i h
    refine EvS.step (fun k => by rw [spec_validEntries.l0]) ?_
    refine EvS.pos h.lt (EvS.pos h.nonneg ?_)
    rw [at_rdE h]
    refine EvS.call (spec_validEntry_eq y.f0 y.f1 y.f2 y.f3) (EvS.ite (fun c => ?_) (fun c => EvS.now ?_))
    · have c := of_decide_eq_true c
      refine EvS.mono (ih _ (h.wnext (by omega))) (fun r hr => ?_)
      rw [hr]
      exact decide_eq_decide.2 ⟨fun g => ⟨g.1, fun e he => by rcases List.mem_cons.1 he with rfl | he; exact c; exact g.2 e he⟩, fun g => ⟨g.1, fun e he => g.2 e (List.mem_cons_of_mem _ he)⟩⟩
    · simp at c
      exact (decide_eq_false (fun g => c (g.2 y List.mem_cons_self))).symm
theorem spec_validEntries_ok (xs : List S33) (hl : xs.length ≤ 1000000) : EvS (fun k => spec_validEntries.f k xs) (· = decide (VEs xs)) := by
  simp only [spec_validEntries.f]
  exact spec_validEntries_l0 xs hl xs 0 (At.zero xs)
/-- What comes to account j by entries. -/
def delta : List S33 → Int → Int
  | [], _ => 0
  | e :: l, j => ((if e.f2 = j then e.f3 else 0) - (if e.f1 = j then e.f3 else 0)) + delta l j
theorem delta_append (a b : List S33) (j : Int) : delta (a ++ b) j = delta a j + delta b j := by
  induction a with
  | nil => simp [delta]
  | cons e a ih => simp only [List.cons_append, delta, ih]; omega
theorem delta_bound (l : List S33) (h : ∀ e ∈ l, VE e) (j : Int) : -(1000000 * (l.length : Int)) ≤ delta l j ∧ delta l j ≤ 1000000 * (l.length : Int) := by
  induction l with
  | nil => simp [delta]
  | cons e l ih =>
    have h1 := ih (fun x hx => h x (List.mem_cons_of_mem _ hx))
    obtain ⟨_, _, _, _, _, _, a, b, c⟩ := h e List.mem_cons_self
    simp only [delta, List.length_cons]
    split <;> split <;> omega
/-- All balances, as a list. -/
def sal (l : List S33) : List Int := [delta l 0, delta l 1, delta l 2, delta l 3, delta l 4, delta l 5, delta l 6, delta l 7]
theorem sal_of {s : List Int} {f : Int → Int} (h : s.length = 8) (hs : ∀ j : Int, 0 ≤ j → j < 8 → rd s j = f j) : s = [f 0, f 1, f 2, f 3, f 4, f 5, f 6, f 7] := by
  obtain ⟨s0, s1, s2, s3, s4, s5, s6, s7, rfl⟩ : ∃ a b c d e f g h, s = [a, b, c, d, e, f, g, h] := by
    match s, h with
    | [a, b, c, d, e, f, g, h], _ => exact ⟨a, b, c, d, e, f, g, h, rfl⟩
  have e0 := hs 0 (by omega) (by omega)
  have e1 := hs 1 (by omega) (by omega)
  have e2 := hs 2 (by omega) (by omega)
  have e3 := hs 3 (by omega) (by omega)
  have e4 := hs 4 (by omega) (by omega)
  have e5 := hs 5 (by omega) (by omega)
  have e6 := hs 6 (by omega) (by omega)
  have e7 := hs 7 (by omega) (by omega)
  simp [rd] at e0 e1 e2 e3 e4 e5 e6 e7
  rw [← e0, ← e1, ← e2, ← e3, ← e4, ← e5, ← e6, ← e7]
theorem rd_set (xs : List Int) (i j v : Int) (h0 : 0 ≤ i) (h1 : i < xs.length) (h2 : 0 ≤ j) : rd (xs.set i.toNat v) j = if i = j then v else rd xs j := by
  unfold rd
  rw [List.getD_eq_getElem?_getD, List.getElem?_set]
  by_cases c : i = j
  · subst c; rw [if_pos rfl, if_pos (by omega), if_pos rfl]; rfl
  · rw [if_neg (by omega), if_neg c, List.getD_eq_getElem?_getD]
theorem rd_zeros (n : Nat) (j : Int) : rd (List.replicate n 0) j = 0 := by
  unfold rd
  rw [List.getD_eq_getElem?_getD, List.getElem?_replicate]
  split <;> rfl
theorem impl_saldi_l0 (xs : List S33) (hl : VEs xs) (ys : List S33) : ∀ (i : Int) (s : List Int), At xs i ys → s.length = 8 → (∀ j : Int, 0 ≤ j → j < 8 → rd s j + delta ys j = delta xs j) → EvS (fun k => impl_SaldiOf.l0 k s xs xs.length i) (· = sal xs) := by
  have hxl := hl.1
  induction ys with
  | nil =>
    intro i s h h8 hs
    refine EvS.step (fun k => by rw [impl_SaldiOf.l0]) ?_
    refine EvS.neg (by have := h.ge; omega) (EvS.now ?_)
    exact sal_of (f := delta xs) h8 (fun j h0 h1 => by have := hs j h0 h1; simp [delta] at this; exact this)
  | cons y ys ih =>
    intro i s h h8 hs
    refine EvS.step (fun k => by rw [impl_SaldiOf.l0]) ?_
    refine EvS.pos h.lt (EvS.pos h.nonneg (EvS.pos h.lt ?_))
    rw [at_rdE h]
    have hy := hl.2 y h.mem
    obtain ⟨g1, g2, g3, g4, g5, g6, g7, g8, g9⟩ := hy
    have hb := delta_bound (y :: ys) (fun e he => hl.2 e (h.sub e he))
    have hbx := delta_bound xs hl.2
    have hyl : (y :: ys).length ≤ 40 := by have := h.len; have := h.nonneg; omega
    have b1 : -100000000 ≤ rd s y.f2 ∧ rd s y.f2 ≤ 100000000 := by have := hs y.f2 g5 (by omega); have := hb y.f2; have := hbx y.f2; omega
    have b2 : -100000000 ≤ rd s y.f1 ∧ rd s y.f1 ≤ 100000000 := by have := hs y.f1 g3 (by omega); have := hb y.f1; have := hbx y.f1; omega
    refine EvS.pos g5 (EvS.pos (by omega) (EvS.onsome ?_))
    refine EvS.pos g3 (EvS.pos (by first | omega | (rw [List.length_set]; omega)) ?_)
    rw [rd_set _ _ _ _ g5 (by omega) g3, if_neg (by omega), w64 (x := rd s y.f2 + y.f3) (by omega) (by omega), w64 (x := rd s y.f1 - y.f3) (by omega) (by omega)]
    refine ih _ _ (h.wnext (by omega)) (by simp; omega) (fun j h0 h1 => ?_)
    rw [rd_set (s.set y.f2.toNat (rd s y.f2 + y.f3)) _ _ _ g3 (by simp; omega) h0, rd_set _ _ _ _ g5 (by omega) h0]
    have := hs j h0 h1
    simp only [delta] at this
    by_cases c1 : y.f1 = j
    · rw [if_pos c1]; rw [if_neg (by omega), if_pos c1] at this; rw [c1] at *; omega
    · rw [if_neg c1]; rw [if_neg c1] at this
      by_cases c2 : y.f2 = j
      · rw [if_pos c2]; rw [if_pos c2] at this; rw [c2] at *; omega
      · rw [if_neg c2]; rw [if_neg c2] at this; omega
theorem impl_SaldiOf_ok (xs : List S33) (h : xs.length ≤ 1000000) : EvS (fun k => impl_SaldiOf.f k xs) (· = if VEs xs then sal xs else []) := by
  simp only [impl_SaldiOf.f]
  refine EvS.bindv (impl_ValidEntries_ok xs h) ?_
  by_cases hv : VEs xs
  · rw [if_pos hv]
    refine EvS.pos (decide_eq_true hv) (EvS.pos (by omega) ?_)
    exact impl_saldi_l0 xs hv xs 0 _ (At.zero xs) (by simp) (fun j _ _ => by rw [rd_zeros]; omega)
  · rw [if_neg hv]
    exact EvS.neg (by simp [hv]) (EvS.now rfl)
theorem spec_saldi_l0 (xs : List S33) (hl : VEs xs) (ys : List S33) : ∀ (i : Int) (s : List Int), At xs i ys → s.length = 8 → (∀ j : Int, 0 ≤ j → j < 8 → rd s j + delta ys j = delta xs j) → EvS (fun k => spec_saldi.l0 k xs s i) (· = sal xs) := by
  have hxl := hl.1
  induction ys with
  | nil =>
    intro i s h h8 hs
    refine EvS.step (fun k => by rw [spec_saldi.l0]) ?_
    refine EvS.neg (by have := h.ge; omega) (EvS.now ?_)
    exact sal_of (f := delta xs) h8 (fun j h0 h1 => by have := hs j h0 h1; simp [delta] at this; exact this)
  | cons y ys ih =>
    intro i s h h8 hs
    refine EvS.step (fun k => by rw [spec_saldi.l0]) ?_
    refine EvS.pos h.lt (EvS.pos h.nonneg ?_)
    rw [at_rdE h]
    have hy := hl.2 y h.mem
    obtain ⟨g1, g2, g3, g4, g5, g6, g7, g8, g9⟩ := hy
    have hb := delta_bound (y :: ys) (fun e he => hl.2 e (h.sub e he))
    have hbx := delta_bound xs hl.2
    have hyl : (y :: ys).length ≤ 40 := by have := h.len; have := h.nonneg; omega
    have b1 : -100000000 ≤ rd s y.f2 ∧ rd s y.f2 ≤ 100000000 := by have := hs y.f2 g5 (by omega); have := hb y.f2; have := hbx y.f2; omega
    have b2 : -100000000 ≤ rd s y.f1 ∧ rd s y.f1 ≤ 100000000 := by have := hs y.f1 g3 (by omega); have := hb y.f1; have := hbx y.f1; omega
    refine EvS.pos g3 (EvS.pos (by omega) (EvS.onsome ?_))
    refine EvS.pos g5 (EvS.pos (by first | omega | (rw [List.length_set]; omega)) ?_)
    rw [rd_set _ _ _ _ g3 (by omega) g5, if_neg (by omega), w64 (x := rd s y.f2 + y.f3) (by omega) (by omega), w64 (x := rd s y.f1 - y.f3) (by omega) (by omega)]
    refine ih _ _ (h.wnext (by omega)) (by simp; omega) (fun j h0 h1 => ?_)
    rw [rd_set (s.set y.f1.toNat (rd s y.f1 - y.f3)) _ _ _ g5 (by simp; omega) h0, rd_set _ _ _ _ g3 (by omega) h0]
    have := hs j h0 h1
    simp only [delta] at this
    by_cases c1 : y.f1 = j
    · rw [if_neg (by omega), if_pos c1]; rw [if_neg (by omega), if_pos c1] at this; rw [c1] at *; omega
    · rw [if_neg c1] at this
      by_cases c2 : y.f2 = j
      · rw [if_pos c2]; rw [if_pos c2] at this; rw [c2] at *; omega
      · rw [if_neg c2, if_neg c1]; rw [if_neg c2] at this; omega
theorem spec_saldi_ok (xs : List S33) (hv : VEs xs) : EvS (fun k => spec_saldi.f k xs) (· = sal xs) := by
  simp only [spec_saldi.f]
  refine EvS.pos (by omega) ?_
  exact spec_saldi_l0 xs hv xs 0 _ (At.zero xs) (by simp) (fun j _ _ => by rw [rd_zeros]; omega)

/-! ## The closing entries. -/
def closeL (acc day : Int) : Int → List Int → List S33 → List S33
  | _, [], out => out
  | i, s :: ss, out => if i = acc ∨ s = 0 then closeL acc day (i + 1) ss out else if s > 1000000 ∨ s < -1000000 then [] else closeL acc day (i + 1) ss (out ++ [if s < 0 then ⟨day, acc, i, -s⟩ else ⟨day, i, acc, s⟩])

theorem impl_close_l0 (acc day : Int) (xs : List Int) (hl : xs.length = 8) (ys : List Int) : ∀ (i : Int) (out : List S33), At xs i ys → out.length ≤ i →
    EvS (fun k => impl_CloseTo.l0 k acc day out xs xs.length i) (· = closeL acc day i ys out) := by
  induction ys with
  | nil =>
    intro i out h ho
    refine EvS.step (fun k => by rw [impl_CloseTo.l0]) ?_
    exact EvS.neg (by have := h.ge; omega) (EvS.now rfl)
  | cons y ys ih =>
    intro i out h ho
    have hlt := h.lt
    have h0 := h.nonneg
    have hi : wrap64 (i + 1) = i + 1 := w64 (by omega) (by omega)
    refine EvS.step (fun k => by rw [impl_CloseTo.l0]) ?_
    refine EvS.pos h.lt (EvS.pos h.nonneg (EvS.pos h.lt ?_))
    rw [At.rd h]
    have skip : i = acc ∨ y = 0 → EvS (fun k => impl_CloseTo.j2 k acc day out i y xs xs.length i true) (· = closeL acc day i (y :: ys) out) := by
      intro g
      refine EvS.step (fun k => by rw [impl_CloseTo.j2]) ?_
      rw [closeL, if_pos g]
      refine EvS.pos rfl ?_
      rw [hi]
      exact ih _ _ h.next (by omega)
    refine EvS.ite (fun c => skip (.inl c)) (fun c => ?_)
    by_cases cy : y = 0
    · rw [beq_dec, decide_eq_true cy]; exact skip (.inr cy)
    · rw [beq_dec, decide_eq_false cy]
      refine EvS.step (fun k => by rw [impl_CloseTo.j2]) ?_
      rw [closeL, if_neg (by omega)]
      refine EvS.neg (by simp) ?_
      have jt : y > 1000000 ∨ y < -1000000 → EvS (fun k => impl_CloseTo.j3 k acc day out i y xs xs.length i true) (· = if y > 1000000 ∨ y < -1000000 then [] else closeL acc day (i + 1) ys (out ++ [if y < 0 then ⟨day, acc, i, -y⟩ else ⟨day, i, acc, y⟩])) := by
        intro g
        refine EvS.step (fun k => by rw [impl_CloseTo.j3]) ?_
        rw [if_pos g]
        exact EvS.pos rfl (EvS.now rfl)
      refine EvS.ite (fun g => jt (.inl g)) (fun g => ?_)
      by_cases g2 : y < -1000000
      · rw [decide_eq_true g2]; exact jt (.inr g2)
      · rw [decide_eq_false g2, if_neg (by omega)]
        refine EvS.step (fun k => by rw [impl_CloseTo.j3]) ?_
        refine EvS.neg (by simp) ?_
        rw [hi]
        by_cases g3 : y < 0
        · rw [if_pos g3, w64 (x := -y) (by omega) (by omega)]
          exact EvS.pos g3 (EvS.pos (by omega) (ih _ _ h.next (by simp; omega)))
        · rw [if_neg g3]
          exact EvS.neg g3 (EvS.pos (by omega) (ih _ _ h.next (by simp; omega)))

theorem spec_close_l0 (acc day : Int) (ha : 0 ≤ acc ∧ acc ≤ 7) (hd : 0 ≤ day ∧ day ≤ 999) (xs : List Int) (hl : xs.length = 8) (hb : ∀ x ∈ xs, -100000000 ≤ x ∧ x ≤ 100000000) (ys : List Int) : ∀ (i : Int) (out : List S33), At xs i ys → out.length ≤ i →
    EvS (fun k => spec_CloseTo.l0 k acc day out xs i) (· = closeL acc day i ys out) := by
  induction ys with
  | nil =>
    intro i out h ho
    refine EvS.step (fun k => by rw [spec_CloseTo.l0]) ?_
    exact EvS.neg (by have := h.ge; omega) (EvS.now rfl)
  | cons y ys ih =>
    intro i out h ho
    have hlt := h.lt
    have h0 := h.nonneg
    have hi : wrap64 (i + 1) = i + 1 := w64 (by omega) (by omega)
    have hy := hb y h.mem
    refine EvS.step (fun k => by rw [spec_CloseTo.l0]) ?_
    refine EvS.pos h.lt ?_
    rw [At.rd h]
    have skip : i = acc ∨ y = 0 → EvS (fun k => spec_CloseTo.j2 k acc day out xs i true) (· = closeL acc day i (y :: ys) out) := by
      intro g
      refine EvS.step (fun k => by rw [spec_CloseTo.j2]) ?_
      rw [closeL, if_pos g]
      refine EvS.pos rfl ?_
      rw [hi]
      exact ih _ _ h.next (by omega)
    refine EvS.ite (fun c => skip (.inl c)) (fun c => EvS.pos h.nonneg ?_)
    by_cases cy : y = 0
    · rw [beq_dec, decide_eq_true cy]; exact skip (.inr cy)
    · rw [beq_dec, decide_eq_false cy]
      refine EvS.step (fun k => by rw [spec_CloseTo.j2]) ?_
      rw [closeL, if_neg (by omega)]
      refine EvS.neg (by simp) (EvS.pos h.nonneg (EvS.pos h.lt ?_))
      rw [At.rd h, hi, w64 (x := -y) (by omega) (by omega)]
      by_cases g3 : y < 0
      · rw [if_pos g3]
        refine EvS.pos g3 (EvS.call (spec_validEntry_eq _ _ _ _) ?_)
        by_cases g4 : y > 1000000 ∨ y < -1000000
        · rw [if_pos g4]
          exact EvS.neg (by rw [decide_eq_false (by unfold VE; dsimp only; omega)]; simp) (EvS.now rfl)
        · rw [if_neg g4]
          exact EvS.pos (decide_eq_true (by unfold VE; dsimp only; omega)) (EvS.pos (by omega) (ih _ _ h.next (by simp; omega)))
      · rw [if_neg g3]
        refine EvS.neg g3 (EvS.call (spec_validEntry_eq _ _ _ _) ?_)
        by_cases g4 : y > 1000000 ∨ y < -1000000
        · rw [if_pos g4]
          exact EvS.neg (by rw [decide_eq_false (by unfold VE; dsimp only; omega)]; simp) (EvS.now rfl)
        · rw [if_neg g4]
          exact EvS.pos (decide_eq_true (by unfold VE; dsimp only; omega)) (EvS.pos (by omega) (ih _ _ h.next (by simp; omega)))

/-- What CloseTo tells. -/
def closes (l : List S33) (acc day : Int) : List S33 := if VEs l ∧ (0 ≤ acc ∧ acc ≤ 7) ∧ (0 ≤ day ∧ day ≤ 999) then closeL acc day 0 (sal l) [] else []
theorem sal_bound (l : List S33) (h : VEs l) : ∀ x ∈ sal l, -100000000 ≤ x ∧ x ≤ 100000000 := by
  have hb := delta_bound l h.2
  have hl := h.1
  intro x hx
  simp only [sal, List.mem_cons, List.not_mem_nil, or_false] at hx
  rcases hx with rfl | rfl | rfl | rfl | rfl | rfl | rfl | rfl
  · have := hb 0; omega
  · have := hb 1; omega
  · have := hb 2; omega
  · have := hb 3; omega
  · have := hb 4; omega
  · have := hb 5; omega
  · have := hb 6; omega
  · have := hb 7; omega

theorem impl_CloseTo_ok (l : List S33) (hl : l.length ≤ 1000000) (acc day : Int) : EvS (fun k => impl_CloseTo.f k l acc day) (· = closes l acc day) := by
  have jt : ¬ (VEs l ∧ (0 ≤ acc ∧ acc ≤ 7) ∧ (0 ≤ day ∧ day ≤ 999)) → EvS (fun k => impl_CloseTo.j0 k l acc day true) (· = closes l acc day) := by
    intro g
    refine EvS.step (fun k => by rw [impl_CloseTo.j0]) ?_
    exact EvS.pos rfl (EvS.now (by rw [closes, if_neg g]))
  simp only [impl_CloseTo.f]
  refine EvS.bindv (impl_ValidEntries_ok l hl) (EvS.ite (fun c1 => EvS.call (validAccount_eq acc) (EvS.ite (fun c2 => EvS.ite (fun c3 => jt (by omega)) (fun c3 => ?_)) (fun c2 => jt (by simp at c2; omega)))) (fun c1 => jt (by simp at c1; exact fun g => c1 g.1)))
  have c1 := of_decide_eq_true c1
  have c2 := of_decide_eq_true c2
  by_cases c4 : day > 999
  · rw [decide_eq_true c4]; exact jt (by omega)
  · rw [decide_eq_false c4]
    refine EvS.step (fun k => by rw [impl_CloseTo.j0]) ?_
    have e := impl_SaldiOf_ok l hl
    rw [if_pos c1] at e
    refine EvS.neg (by simp) (EvS.bindv e ?_)
    rw [closes, if_pos ⟨c1, c2, by omega⟩]
    exact impl_close_l0 acc day (sal l) rfl (sal l) 0 [] (At.zero _) (by simp)
theorem spec_CloseTo_ok (l : List S33) (hl : l.length ≤ 1000000) (acc day : Int) : EvS (fun k => spec_CloseTo.f k l acc day) (· = closes l acc day) := by
  have jt : ¬ (VEs l ∧ (0 ≤ acc ∧ acc ≤ 7) ∧ (0 ≤ day ∧ day ≤ 999)) → EvS (fun k => spec_CloseTo.j0 k l acc day true) (· = closes l acc day) := by
    intro g
    refine EvS.step (fun k => by rw [spec_CloseTo.j0]) ?_
    exact EvS.pos rfl (EvS.now (by rw [closes, if_neg g]))
  simp only [spec_CloseTo.f]
  refine EvS.bindv (spec_validEntries_ok l hl) (EvS.ite (fun c1 => EvS.call (inRange_eq acc _ _) (EvS.ite (fun c2 => EvS.call (inRange_eq day _ _) ?_) (fun c2 => jt (by simp at c2; omega)))) (fun c1 => jt (by simp at c1; exact fun g => c1 g.1)))
  have c1 := of_decide_eq_true c1
  have c2 := of_decide_eq_true c2
  by_cases c4 : 0 ≤ day ∧ day ≤ 999
  · rw [decide_eq_true c4]
    refine EvS.step (fun k => by rw [spec_CloseTo.j0]) ?_
    refine EvS.neg (by simp) (EvS.bindv (spec_saldi_ok l c1) ?_)
    rw [closes, if_pos ⟨c1, c2, c4⟩]
    exact spec_close_l0 acc day c2 c4 (sal l) rfl (sal_bound l c1) (sal l) 0 [] (At.zero _) (by simp)
  · rw [decide_eq_false c4]; exact jt (by omega)

/-! ## Equal lists. -/
theorem equalEntries_l0 (xs : List S33) (hl : xs.length ≤ 1000000) (ys : List S33) : ∀ i : Int, At xs i ys → EvS (fun k => laws_equalEntries.l0 k xs xs i) (· = true) := by
  induction ys with
  | nil =>
    intro i h
    refine EvS.step (fun k => by rw [laws_equalEntries.l0]) ?_
    exact EvS.neg (by have := h.ge; omega) (EvS.now rfl)
  | cons y ys ih =>
    intro i h
    refine EvS.step (fun k => by rw [laws_equalEntries.l0]) ?_
    exact EvS.pos h.lt (EvS.pos h.nonneg (EvS.pos h.lt (EvS.neg (by simp) (ih _ (h.wnext (by omega))))))
theorem equalEntries_ok (xs : List S33) (hl : xs.length ≤ 1000000) : EvS (fun k => laws_equalEntries.f k xs xs) (· = true) := by
  simp only [laws_equalEntries.f]
  exact EvS.pos (by simp) (equalEntries_l0 xs hl xs 0 (At.zero xs))

/-! ## What closing entries do to balances. -/
def contrib (acc : Int) : Int → List Int → Int → Int
  | _, [], _ => 0
  | i, s :: ss, j => (if i = acc then 0 else (if j = acc then s else 0) - (if j = i then s else 0)) + contrib acc (i + 1) ss j
theorem closeL_delta (acc day : Int) (ys : List Int) : ∀ (i : Int) (out : List S33), closeL acc day i ys out = [] ∨ ∀ j, delta (closeL acc day i ys out) j = delta out j + contrib acc i ys j := by
  induction ys with
  | nil => intro i out; exact .inr (fun j => by simp [closeL, contrib])
  | cons s ss ih =>
    intro i out
    rw [closeL]
    split
    · rename_i c
      refine (ih (i + 1) out).imp id (fun h j => ?_)
      rw [h j, contrib]
      split
      · omega
      · have : s = 0 := by omega
        subst this
        simp
    · rename_i c
      split
      · exact .inl rfl
      · refine (ih (i + 1) _).imp id (fun h j => ?_)
        rw [h j, contrib, delta_append, if_neg (show ¬ i = acc by omega)]
        have : delta [if s < 0 then (⟨day, acc, i, -s⟩ : S33) else ⟨day, i, acc, s⟩] j = (if j = acc then s else 0) - (if j = i then s else 0) := by
          by_cases hs : s < 0
          · rw [if_pos hs]
            simp only [delta]
            repeat' split
            all_goals omega
          · rw [if_neg hs]
            simp only [delta]
            repeat' split
            all_goals omega
        omega
theorem closeL_valid (acc day : Int) (ha : 0 ≤ acc ∧ acc ≤ 7) (hd : 0 ≤ day ∧ day ≤ 999) (ys : List Int) : ∀ (i : Int) (out : List S33), 0 ≤ i → i + ys.length ≤ 8 → (∀ e ∈ out, VE e) → (∀ e ∈ closeL acc day i ys out, VE e) ∧ (closeL acc day i ys out).length ≤ out.length + ys.length := by
  induction ys with
  | nil => intro i out h0 h1 h; exact ⟨by simpa [closeL] using h, by simp [closeL]⟩
  | cons s ss ih =>
    intro i out h0 h1 h
    simp only [List.length_cons] at h1
    rw [closeL]
    split
    · have := ih (i + 1) out (by omega) (by omega) h
      exact ⟨this.1, by have := this.2; simp only [List.length_cons]; omega⟩
    · rename_i c
      split
      · exact ⟨by simp, by simp⟩
      · rename_i c2
        have := ih (i + 1) (out ++ [if s < 0 then ⟨day, acc, i, -s⟩ else ⟨day, i, acc, s⟩]) (by omega) (by omega) (fun e he => by
          rcases List.mem_append.1 he with he | he
          · exact h e he
          · simp only [List.mem_singleton] at he
            subst he
            split <;> (unfold VE; dsimp only; omega))
        exact ⟨this.1, by have := this.2; simp only [List.length_append, List.length_cons, List.length_nil] at this ⊢; omega⟩
theorem delta_sum (l : List S33) (h : ∀ e ∈ l, VE e) : delta l 0 + delta l 1 + delta l 2 + delta l 3 + delta l 4 + delta l 5 + delta l 6 + delta l 7 = 0 := by
  induction l with
  | nil => simp [delta]
  | cons e l ih =>
    have h1 := ih (fun x hx => h x (List.mem_cons_of_mem _ hx))
    obtain ⟨_, _, a1, a2, b1, b2, _, _, _⟩ := h e List.mem_cons_self
    have key : ∀ v x : Int, 0 ≤ v → v ≤ 7 → (if v = 0 then x else 0) + (if v = 1 then x else 0) + (if v = 2 then x else 0) + (if v = 3 then x else 0) + (if v = 4 then x else 0) + (if v = 5 then x else 0) + (if v = 6 then x else 0) + (if v = 7 then x else 0) = x := by
      intro v x h0 h7
      obtain rfl | rfl | rfl | rfl | rfl | rfl | rfl | rfl : v = 0 ∨ v = 1 ∨ v = 2 ∨ v = 3 ∨ v = 4 ∨ v = 5 ∨ v = 6 ∨ v = 7 := by omega
      all_goals simp
    have k1 := key e.f1 e.f3 a1 a2
    have k2 := key e.f2 e.f3 b1 b2
    simp only [delta]
    omega
theorem closed_zero (l : List S33) (h : ∀ e ∈ l, VE e) (acc j : Int) (ha : 0 ≤ acc ∧ acc ≤ 7) (hj : 0 ≤ j ∧ j ≤ 7) : delta l j + contrib acc 0 (sal l) j = 0 := by
  have hs := delta_sum l h
  simp only [sal, contrib]
  obtain ⟨ha0, ha7⟩ := ha
  obtain ⟨hj0, hj7⟩ := hj
  obtain rfl | rfl | rfl | rfl | rfl | rfl | rfl | rfl : acc = 0 ∨ acc = 1 ∨ acc = 2 ∨ acc = 3 ∨ acc = 4 ∨ acc = 5 ∨ acc = 6 ∨ acc = 7 := by omega
  all_goals
    obtain rfl | rfl | rfl | rfl | rfl | rfl | rfl | rfl : j = 0 ∨ j = 1 ∨ j = 2 ∨ j = 3 ∨ j = 4 ∨ j = 5 ∨ j = 6 ∨ j = 7 := by omega
    all_goals (simp; try omega)

theorem zeros_l0 (out : List S33) (hl : out.length ≤ 1000) (hv : VEs out) (xs : List Int) (hx : xs.length = 8) (hz : ∀ x ∈ xs, x = 0) (ys : List Int) : ∀ i : Int, At xs i ys → EvS (fun k => laws_FnCloseTo.l0 k out xs i) (· = true) := by
  induction ys with
  | nil =>
    intro i h
    refine EvS.step (fun k => by rw [laws_FnCloseTo.l0]) ?_
    exact EvS.neg (by have := h.ge; omega) (EvS.bindv (impl_ValidEntries_ok out (by omega)) (EvS.now (decide_eq_true hv)))
  | cons y ys ih =>
    intro i h
    refine EvS.step (fun k => by rw [laws_FnCloseTo.l0]) ?_
    exact EvS.pos h.lt (EvS.pos h.nonneg (EvS.pos (by rw [At.rd h]; exact hz y h.mem) (ih _ (h.wnext (by omega)))))

theorem draw_ok (l : List Int) (hl : ∀ x ∈ l, 0 ≤ x ∧ x ≤ 255) : EvS (fun k => spec_DrawCloseTo.f k l) (fun r => r.1.length ≤ 20) := by
  simp only [spec_DrawCloseTo.f]
  obtain ⟨b, be, hb⟩ := newReader_ok l hl
  refine EvS.call be ?_
  dsimp only
  refine EvS.bind (anyEntries_ok b 0 hb (by omega) (by omega)) ?_
  rintro ⟨es, q⟩ ⟨g1, g2, g3⟩
  dsimp only at g1 g2 g3 ⊢
  refine EvS.bind (one_ok _ _ _ hb (by omega) (by omega) (by simp)) ?_
  rintro ⟨v1, _⟩ ⟨v1_m, rfl⟩
  dsimp only at v1_m ⊢
  refine EvS.bind (one_ok _ _ _ hb (by omega) (by omega) (by simp)) ?_
  rintro ⟨v2, _⟩ ⟨v2_m, rfl⟩
  dsimp only at v2_m ⊢
  exact EvS.now g1

theorem FnCloseTo : laws_FnCloseTo.Pure := by
  intro l0 _ _ hw
  refine EvS.holds ?_
  simp only [laws_FnCloseTo.f]
  refine EvS.ite (fun _ => EvS.now rfl) (fun _ => ?_)
  refine EvS.bind (draw_ok l0 (fun x hx => u8_range (hw x hx))) ?_
  rintro ⟨l, acc, day⟩ hl
  dsimp only at hl ⊢
  have hcl : (closes l acc day).length ≤ 8 ∧ ((closes l acc day) ≠ [] → VEs l ∧ (0 ≤ acc ∧ acc ≤ 7) ∧ (0 ≤ day ∧ day ≤ 999) ∧ VEs (closes l acc day) ∧ ∀ j : Int, 0 ≤ j ∧ j ≤ 7 → delta (l ++ closes l acc day) j = 0) := by
    unfold closes
    split
    · rename_i g
      obtain ⟨g1, g2, g3⟩ := g
      have hv := closeL_valid acc day g2 g3 (sal l) 0 [] (by omega) (by simp [sal]) (by simp)
      have hlen : (closeL acc day 0 (sal l) []).length ≤ 8 := by have := hv.2; simpa [sal] using this
      refine ⟨hlen, fun hne => ⟨g1, g2, g3, ⟨by omega, hv.1⟩, fun j hj => ?_⟩⟩
      rw [delta_append, ((closeL_delta acc day (sal l) 0 []).resolve_left hne) j]
      have := closed_zero l g1.2 acc j g2 hj
      simp only [delta]
      omega
    · exact ⟨by simp, fun h => absurd rfl h⟩
  refine EvS.bindv (impl_CloseTo_ok l (by omega) acc day) (EvS.bindv (spec_CloseTo_ok l (by omega) acc day) (EvS.bindv (equalEntries_ok _ (by omega)) (EvS.pos rfl ?_)))
  by_cases he : closes l acc day = []
  · rw [he]
    refine EvS.step (fun k => by rw [laws_FnCloseTo.j0]) ?_
    refine EvS.pos (by simp) (EvS.bindv (spec_CloseTo_ok l (by omega) acc day) ?_)
    rw [he]
    exact EvS.bindv (equalEntries_ok _ (by simp)) (EvS.now rfl)
  · obtain ⟨hv, ha, hd, hvc, hz⟩ := hcl.2 he
    have hcl := hcl.1
    generalize closes l acc day = out at *
    refine EvS.step (fun k => by rw [laws_FnCloseTo.j0]) ?_
    refine EvS.neg (by cases out with | nil => exact absurd rfl he | cons x xs => simp; omega) (EvS.onsome (EvS.pos (by simp; omega) (EvS.onsome (EvS.pos (by simp; omega) (EvS.onsome ?_)))))
    simp only [List.nil_append]
    refine EvS.ite (fun _ => EvS.now rfl) (fun c => ?_)
    have hb : VEs (l ++ out) := ⟨by simp at c ⊢; omega, fun e he => by
      rcases List.mem_append.1 he with he | he
      · exact hv.2 e he
      · exact hvc.2 e he⟩
    have e := impl_SaldiOf_ok (l ++ out) (by have := hb.1; omega)
    rw [if_pos hb] at e
    refine EvS.bindv e (zeros_l0 out (by omega) hvc _ rfl ?_ _ 0 (At.zero _))
    intro x hx
    simp only [sal, List.mem_cons, List.not_mem_nil, or_false] at hx
    rcases hx with rfl | rfl | rfl | rfl | rfl | rfl | rfl | rfl
    all_goals exact hz _ (by omega)
end Go.Proofs.Ytgapjelooefofaa.Pure
