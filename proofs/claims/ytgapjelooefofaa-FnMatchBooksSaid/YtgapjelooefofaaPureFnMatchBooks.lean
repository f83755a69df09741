/- MatchBooks tells partners that are the same, none twice, and each his own in one book; and it is what the reference tells: for every code. Conditions: none. -/
import Derived.Test.YtgapjelooefofaaMFnMatchBooksx0
import Derived.Test.YtgapjelooefofaaMFnMatchBooksx1
import Derived.Test.YtgapjelooefofaaMFnMatchBooksx2
import Derived.Test.YtgapjelooefofaaMFnMatchBooksx3
import Derived.Test.YtgapjelooefofaaMFnMatchBooksx4
import Derived.Test.YtgapjelooefofaaMFnMatchBooksx5
import Derived.Test.YtgapjelooefofaaMFnMatchBooksx6
import Derived.Test.YtgapjelooefofaaMFnMatchBooksx7
import Derived.Test.YtgapjelooefofaaBase
set_option linter.unusedVariables false
set_option linter.unusedSimpArgs false
namespace Go.Proofs.Ytgapjelooefofaa.Pure
open Go.RowKit Go.Proofs.Ytgapjelooefofaa.PFnMatchBooks Go.Proofs.YtgapjelooefofaaW.PrintWords Go.Proofs.YtgapjelooefofaaW.PrintLast Go.Proofs.YtgapjelooefofaaW.PrintMore Go.Proofs.Ytgapjelooefofaa.Base
theorem u8_range {x : Int} (h : (Lit.int .u8 x).wf = true) : 0 ≤ x ∧ x ≤ 255 := by
 simp [Lit.wf, IntKind.min, IntKind.max, IntKind.bits, IntKind.signed] at h
 omega
/-! ## The reader that draws. -/
structure BytesOk (b : List Int) : Prop where
 len : b.length ≤ 2000
 mem : ∀ x ∈ b, 0 ≤ x ∧ x ≤ 255

theorem newReader_ok (l : List Int) (h : ∀ x ∈ l, 0 ≤ x ∧ x ≤ 255) : ∃ b, spec_newReader.f l = some (b, 0) ∧ BytesOk b := by
 unfold spec_newReader.f
 by_cases c : (l.length : Int) > 2000
 ·rw [if_pos c, if_pos (by omega)]
  exact ⟨_, rfl, by rw [List.length_take]; omega, fun x hx => h x (List.mem_of_mem_take hx)⟩
 ·rw [if_neg c]
  exact ⟨_, rfl, by omega, h⟩

theorem pick_ok (b : List Int) (p n : Int) (hb : BytesOk b) (h0 : 0 ≤ p) (h1 : p ≤ 100000) :
  EvS (fun k => spec_reader_pick.f k b p n) (fun r => 0 ≤ r.1 ∧ (1 ≤ n → r.1 < n) ∧ (n < 1 → r.1 = 0) ∧ r.2 = p + 1) := by
 have hp : wrap64 (p + 1) = p + 1 := w64 (by omega) (by omega)
 have hq : wrap64 (p + 1 - 1) = p := by rw [show p + 1 - 1 = p by omega]; exact w64 (by omega) (by omega)
 have hbl := hb.len
 simp only [spec_reader_pick.f]
 rw [hp]
 by_cases hn : n < 1
 ·refine EvS.pos hn ?_
  refine EvS.step (fun k => by rw [spec_reader_pick.j0]) ?_
  refine EvS.pos rfl ?_
  exact EvS.now ⟨by simp, fun h => by omega, fun _ => rfl, rfl⟩
 ·refine EvS.neg hn ?_
  refine EvS.step (fun k => by rw [spec_reader_pick.j0]) ?_
  simp only [hq]
  by_cases hl : b.length = 0
  ·refine EvS.pos (by simp [hl]) ?_
   exact EvS.now ⟨by simp, fun h => by simp; omega, fun _ => rfl, rfl⟩
  ·refine EvS.neg (by simp; intro h; exact hl (by simp [h])) ?_
   by_cases hpl : p < b.length
   ·refine EvS.pos hpl (EvS.pos h0 (EvS.neg (by omega) ?_))
    have hr := rd_range hb.mem p h0 hpl
    rw [w64 (by omega) (by omega)]
    have ht := tmod_range (rd b p) n (by omega) (by omega)
    exact EvS.now ⟨ht.1, fun _ => ht.2, fun h => by omega, rfl⟩
   ·refine EvS.neg hpl (EvS.neg (by omega) ?_)
    have e1 : wrap64 (wrap64 (p * 7) + 3) = p * 7 + 3 := by
     rw [w64 (x := p * 7) (by omega) (by omega)]; exact w64 (by omega) (by omega)
    simp only [e1]
    have i1 := tmod_range p b.length h0 (by omega)
    have i2 := tmod_range (p * 7 + 3) b.length (by omega) (by omega)
    refine EvS.pos i1.1 (EvS.pos i1.2 (EvS.pos i2.1 (EvS.pos i2.2 (EvS.neg (by omega) ?_))))
    have r1 := rd_range hb.mem _ i1.1 i1.2
    have r2 := rd_range hb.mem _ i2.1 i2.2
    generalize rd b (Int.tmod p b.length) = v1 at r1 ⊢
    generalize rd b (Int.tmod (p * 7 + 3) b.length) = v2 at r2 ⊢
    have d0 : 0 ≤ Int.tdiv p b.length ∧ Int.tdiv p b.length ≤ p := by
     rw [tdiv_pos _ _ h0]
     exact ⟨Int.ediv_nonneg h0 (by omega), Int.ediv_le_self _ h0⟩
    generalize Int.tdiv p b.length = dv at d0 ⊢
    simp (disch := omega) only [w64]
    have hx0 : 0 ≤ v1 * 131 + v2 * 1117 + p * 29 + dv * 53 := by omega
    have hx1 : v1 * 131 + v2 * 1117 + p * 29 + dv * 53 < 1000000000 := by omega
    generalize v1 * 131 + v2 * 1117 + p * 29 + dv * 53 = X at hx0 hx1 ⊢
    rw [tdiv_pos X 64 hx0, w64 (x := X / 64) (by omega) (by omega)]
    have ht := tmod_range (Go.bits .xor .i64 X (X / 64)) n (xor_nonneg _ _ (by omega) (by omega) (by omega) (by omega)) (by omega)
    exact EvS.now ⟨ht.1, fun _ => ht.2, fun h => by omega, rfl⟩

theorem one_ok (b : List Int) (p : Int) (l : List Int) (hb : BytesOk b) (h0 : 0 ≤ p) (h1 : p ≤ 100000) (hl : 1 ≤ l.length) :
  EvS (fun k => spec_reader_one.f k b p l) (fun r => r.1 ∈ l ∧ r.2 = p + 1) := by
 simp only [spec_reader_one.f]
 refine EvS.bind (pick_ok b p l.length hb h0 h1) ?_
 rintro ⟨v, q⟩ ⟨a1, a2, a3, a4⟩
 have a5 := a2 (by omega)
 refine EvS.pos a1 (EvS.pos a5 ?_)
 exact EvS.now ⟨rd_mem _ a1 a5, a4⟩
/-! ## Membership, equality. -/
theorem isIn_l0 (xs : List Int) (hl : xs.length ≤ 1099511627776) (v : Int) (ys : List Int) : ∀ i : Int, At xs i ys → EvS (fun k => laws_isIn.l0 k xs v i) (· = decide (v ∈ ys)) := by
 induction ys with
 | nil =>
  intro i h
  refine EvS.step (fun k => by rw [laws_isIn.l0]) ?_
  exact EvS.neg (by have := h.ge; omega) (EvS.now (by simp))
 | cons y ys ih =>
  intro i h
  refine EvS.step (fun k => by rw [laws_isIn.l0]) ?_
  refine EvS.pos h.lt (EvS.pos h.nonneg ?_)
  rw [At.rd h]
  by_cases c : y = v
  ·exact EvS.pos c (EvS.now (by simp [c]))
  ·refine EvS.neg c (EvS.mono (ih _ (h.wnext (by omega))) (fun r hr => ?_))
   rw [hr]
   exact decide_eq_decide.2 ⟨fun g => List.mem_cons_of_mem _ g, fun g => (List.mem_cons.1 g).resolve_left (fun e => c e.symm)⟩
theorem isIn_ok (xs : List Int) (hl : xs.length ≤ 1099511627776) (v : Int) : EvS (fun k => laws_isIn.f k xs v) (· = decide (v ∈ xs)) := by
 simp only [laws_isIn.f]
 exact isIn_l0 xs hl v xs 0 (At.zero xs)
theorem equalInts_l0 (xs : List Int) (hl : xs.length ≤ 1099511627776) (ys : List Int) : ∀ i : Int, At xs i ys → EvS (fun k => laws_equalInts.l0 k xs xs i) (· = true) := by
 induction ys with
 | nil =>
  intro i h
  refine EvS.step (fun k => by rw [laws_equalInts.l0]) ?_
  exact EvS.neg (by have := h.ge; omega) (EvS.now rfl)
 | cons y ys ih =>
  intro i h
  refine EvS.step (fun k => by rw [laws_equalInts.l0]) ?_
  exact EvS.pos h.lt (EvS.pos h.nonneg (EvS.pos h.lt (EvS.pos (by simp) (ih _ (h.wnext (by omega))))))
theorem equalInts_ok (xs : List Int) (hl : xs.length ≤ 1099511627776) : EvS (fun k => laws_equalInts.f k xs xs) (· = true) := by
 simp only [laws_equalInts.f]
 exact EvS.pos (by trivial) (equalInts_l0 xs hl xs 0 (At.zero xs))
/-! ## Valid entries, and balances. -/
def VE (e : S33) : Prop := 0 ≤ e.f0 ∧ e.f0 ≤ 999 ∧ 0 ≤ e.f1 ∧ e.f1 ≤ 7 ∧ 0 ≤ e.f2 ∧ e.f2 ≤ 7 ∧ e.f1 ≠ e.f2 ∧ 1 ≤ e.f3 ∧ e.f3 ≤ 1000000
instance (e : S33) : Decidable (VE e) := by unfold VE; infer_instance
def VEs (l : List S33) : Prop := l.length ≤ 40 ∧ ∀ e ∈ l, VE e
instance (l : List S33) : Decidable (VEs l) := by unfold VEs; infer_instance
theorem at_rdE {xs ys : List S33} {i : Int} {y : S33} (h : At xs i (y :: ys)) : rd_T33 xs i = y := h.getD _

theorem inRange_eq (n lo hi : Int) : spec_inRange.f n lo hi = some (decide (lo ≤ n ∧ n ≤ hi)) := by
 unfold spec_inRange.f
 split
 ·exact congrArg some (decide_eq_decide.2 (by omega))
 ·exact congrArg some (decide_eq_false (by omega)).symm
theorem validAccount_eq (n : Int) : impl_validAccount.f n = some (decide (0 ≤ n ∧ n ≤ 7)) := by
 unfold impl_validAccount.f
 split
 ·exact congrArg some (decide_eq_decide.2 (by omega))
 ·exact congrArg some (decide_eq_false (by omega)).symm
theorem impl_validEntry_ok (a b c d : Int) : EvS (fun k => impl_validEntry.f k a b c d) (· = decide (VE ⟨a, b, c, d⟩)) := by
 have jt : ¬ VE ⟨a, b, c, d⟩ → EvS (fun k => impl_validEntry.j0 k true a b c d) (· = decide (VE ⟨a, b, c, d⟩)) := by
  intro h
  refine EvS.step (fun k => by rw [impl_validEntry.j0]) ?_
  exact EvS.pos rfl (EvS.now (decide_eq_false h).symm)
 simp only [impl_validEntry.f]
 refine EvS.ite (fun h => jt (by unfold VE; dsimp only; omega)) (fun h1 => EvS.ite (fun h => jt (by unfold VE; dsimp only; omega)) (fun h2 => EvS.ite (fun h => jt (by unfold VE; dsimp only; omega)) (fun h3 => ?_)))
 by_cases h4 : d > 1000000
 ·rw [decide_eq_true h4]; exact jt (by unfold VE; dsimp only; omega)
 ·rw [decide_eq_false h4]
  refine EvS.step (fun k => by rw [impl_validEntry.j0]) ?_
  refine EvS.neg (by simp) (EvS.call (validAccount_eq b) (EvS.ite (fun h5 => EvS.call (validAccount_eq c) (EvS.ite (fun h6 => EvS.now ?_) (fun h6 => EvS.now ?_))) (fun h5 => EvS.now ?_)))
  ·have h5 := of_decide_eq_true h5
   have h6 := of_decide_eq_true h6
   by_cases hbc : b = c
   ·rw [decide_eq_false (by unfold VE; dsimp only; omega)]; simp [hbc]
   ·rw [decide_eq_true (by unfold VE; dsimp only; omega)]; simp [hbc]
  ·simp at h6
   exact (decide_eq_false (by unfold VE; dsimp only; omega)).symm
  ·simp at h5
   exact (decide_eq_false (by unfold VE; dsimp only; omega)).symm
theorem spec_validEntry_eq (a b c d : Int) : spec_validEntry.f a b c d = some (decide (VE ⟨a, b, c, d⟩)) := by
 unfold spec_validEntry.f
 simp only [inRange_eq, Option.bind_some]
 split
 ·rename_i h1
  have h1 := of_decide_eq_true h1
  split
  ·rename_i h2
   have h2 := of_decide_eq_true h2
   split
   ·rename_i h3
    have h3 := of_decide_eq_true h3
    split
    ·exact congrArg some (decide_eq_false (by unfold VE; dsimp only; omega)).symm
    ·exact congrArg some (decide_eq_decide.2 (by unfold VE; dsimp only; omega))
   ·rename_i h3; simp at h3
    exact congrArg some (decide_eq_false (by unfold VE; dsimp only; omega)).symm
  ·rename_i h2; simp at h2
   exact congrArg some (decide_eq_false (by unfold VE; dsimp only; omega)).symm
 ·rename_i h1; simp at h1
  exact congrArg some (decide_eq_false (by unfold VE; dsimp only; omega)).symm

theorem impl_ValidEntries_l0 (xs : List S33) (hl : xs.length ≤ 2000000) (ys : List S33) : ∀ i : Int, At xs i ys → EvS (fun k => impl_ValidEntries.l0 k xs xs.length i) (· = decide (∀ e ∈ ys, VE e)) := by
 induction ys with
 | nil =>
  intro i h
  refine EvS.step (fun k => by rw [impl_ValidEntries.l0]) ?_
  exact EvS.neg (by have := h.ge; omega) (EvS.now (by simp))
 | cons y ys ih =>
  intro i h
  refine EvS.step (fun k => by rw [impl_ValidEntries.l0]) ?_
  refine EvS.pos h.lt (EvS.pos h.nonneg (EvS.pos h.lt ?_))
  rw [at_rdE h]
  refine EvS.bindv (impl_validEntry_ok y.f0 y.f1 y.f2 y.f3) (EvS.ite (fun c => ?_) (fun c => EvS.now ?_))
  ·have c := of_decide_eq_true c
   refine EvS.mono (ih _ (h.wnext (by omega))) (fun r hr => ?_)
   rw [hr]
   exact decide_eq_decide.2 ⟨fun g e he => by rcases List.mem_cons.1 he with rfl | he; exact c; exact g e he, fun g e he => g e (List.mem_cons_of_mem _ he)⟩
  ·simp at c
   exact (decide_eq_false (fun g => c (g y List.mem_cons_self))).symm
theorem impl_ValidEntries_ok (xs : List S33) (hl : xs.length ≤ 2000000) : EvS (fun k => impl_ValidEntries.f k xs) (· = decide (VEs xs)) := by
 simp only [impl_ValidEntries.f]
 refine EvS.ite (fun c => EvS.now (decide_eq_false (fun g => by have := g.1; omega)).symm) (fun c => ?_)
 refine EvS.mono (impl_ValidEntries_l0 xs hl xs 0 (At.zero xs)) (fun r hr => ?_)
 rw [hr]
 exact decide_eq_decide.2 ⟨fun g => ⟨by omega, g⟩, fun g => g.2⟩
theorem spec_validEntries_l0 (xs : List S33) (hl : xs.length ≤ 2000000) (ys : List S33) : ∀ i : Int, At xs i ys → EvS (fun k => spec_validEntries.l0 k xs i) (· = decide (xs.length ≤ 40 ∧ ∀ e ∈ ys, VE e)) := by
 induction ys with
 | nil =>
  intro i h
  refine EvS.step (fun k => by rw [spec_validEntries.l0]) ?_
  exact EvS.neg (by have := h.ge; omega) (EvS.now (decide_eq_decide.2 ⟨fun g => ⟨by omega, by simp⟩, fun g => by omega⟩))
 | cons y ys ih =>
  intro i h
  refine EvS.step (fun k => by rw [spec_validEntries.l0]) ?_
  refine EvS.pos h.lt (EvS.pos h.nonneg ?_)
  rw [at_rdE h]
  refine EvS.call (spec_validEntry_eq y.f0 y.f1 y.f2 y.f3) (EvS.ite (fun c => ?_) (fun c => EvS.now ?_))
  ·have c := of_decide_eq_true c
   refine EvS.mono (ih _ (h.wnext (by omega))) (fun r hr => ?_)
   rw [hr]
   exact decide_eq_decide.2 ⟨fun g => ⟨g.1, fun e he => by rcases List.mem_cons.1 he with rfl | he; exact c; exact g.2 e he⟩, fun g => ⟨g.1, fun e he => g.2 e (List.mem_cons_of_mem _ he)⟩⟩
  ·simp at c
   exact (decide_eq_false (fun g => c (g.2 y List.mem_cons_self))).symm
theorem spec_validEntries_ok (xs : List S33) (hl : xs.length ≤ 2000000) : EvS (fun k => spec_validEntries.f k xs) (· = decide (VEs xs)) := by
 simp only [spec_validEntries.f]
 exact spec_validEntries_l0 xs hl xs 0 (At.zero xs)
/-! ## Entries that are drawn. -/
theorem someEntries_l0 (b : List Int) (hb : BytesOk b) (d : Nat) : ∀ (x3 : List S33) (x4 p : Int), x4 ≤ d → 0 ≤ p → p + 8 * d ≤ 10000 → x3.length + 2 * d ≤ 1000 →
  EvS (fun k => spec_someEntries.l0 k x3 x4 b p) (fun r => r.1.length ≤ x3.length + 2 * d ∧ p ≤ r.2 ∧ r.2 ≤ p + 8 * d) := by
 induction d with
 | zero =>
  intro x3 x4 p h1 h2 h3 h4
  refine EvS.step (fun k => by rw [spec_someEntries.l0]) ?_
  exact EvS.neg (by omega) (EvS.now ⟨by simp, by simp, by simp⟩)
 | succ d ih =>
  intro x3 x4 p h1 h2 h3 h4
  refine EvS.step (fun k => by rw [spec_someEntries.l0]) ?_
  refine EvS.ite (fun c => ?_) (fun c => EvS.now ⟨by simp, by simp, by simp; omega⟩)
  refine EvS.bind (pick_ok _ _ _ hb (by omega) (by omega)) ?_
  rintro ⟨v1, _⟩ ⟨v1_0, v1_1, v1_2, rfl⟩
  dsimp only at v1_0 v1_1 v1_2 ⊢
  refine EvS.bind (pick_ok _ _ _ hb (by omega) (by omega)) ?_
  rintro ⟨v2, _⟩ ⟨v2_0, v2_1, v2_2, rfl⟩
  dsimp only at v2_0 v2_1 v2_2 ⊢
  refine EvS.bind (pick_ok _ _ _ hb (by omega) (by omega)) ?_
  rintro ⟨v3, _⟩ ⟨v3_0, v3_1, v3_2, rfl⟩
  dsimp only at v3_0 v3_1 v3_2 ⊢
  refine EvS.bind (pick_ok _ _ _ hb (by omega) (by omega)) ?_
  rintro ⟨v4, _⟩ ⟨v4_0, v4_1, v4_2, rfl⟩
  dsimp only at v4_0 v4_1 v4_2 ⊢
  refine EvS.bind (pick_ok _ _ _ hb (by omega) (by omega)) ?_
  rintro ⟨v5, _⟩ ⟨v5_0, v5_1, v5_2, rfl⟩
  dsimp only at v5_0 v5_1 v5_2 ⊢
  refine EvS.bind (one_ok _ _ _ hb (by omega) (by omega) (by simp)) ?_
  rintro ⟨v6, _⟩ ⟨v6_m, rfl⟩
  dsimp only at v6_m ⊢
  refine EvS.pos (by omega) (EvS.onsome ?_)
  refine EvS.bind (pick_ok _ _ _ hb (by omega) (by omega)) ?_
  rintro ⟨v7, _⟩ ⟨v7_0, v7_1, v7_2, rfl⟩
  dsimp only at v7_0 v7_1 v7_2 ⊢
  refine EvS.ite (fun _ => ?_) (fun _ => ?_)
  ·refine EvS.bind (pick_ok _ _ _ hb (by omega) (by omega)) ?_
   rintro ⟨v8, _⟩ ⟨v8_0, v8_1, v8_2, rfl⟩
   dsimp only at v8_0 v8_1 v8_2 ⊢
   have := v8_1 (by simp; omega)
   refine EvS.pos v8_0 (EvS.pos this (EvS.pos (by simp; omega) ?_))
   rw [w64 (x := x4 - 1) (by omega) (by omega)]
   refine EvS.mono (ih _ _ _ (by omega) (by omega) (by omega) (by simp; omega)) (fun r hr => ?_)
   obtain ⟨g1, g2, g3⟩ := hr
   simp at g1
   exact ⟨by omega, by omega, by omega⟩
  ·rw [w64 (x := x4 - 1) (by omega) (by omega)]
   refine EvS.mono (ih _ _ _ (by omega) (by omega) (by omega) (by simp; omega)) (fun r hr => ?_)
   obtain ⟨g1, g2, g3⟩ := hr
   simp at g1
   exact ⟨by omega, by omega, by omega⟩
theorem someEntries_ok (b : List Int) (p : Int) (hb : BytesOk b) (h0 : 0 ≤ p) (h1 : p ≤ 1000) :
  EvS (fun k => spec_someEntries.f k b p) (fun r => r.1.length ≤ 20 ∧ p ≤ r.2 ∧ r.2 ≤ p + 81) := by
 simp only [spec_someEntries.f]
 refine EvS.bind (one_ok _ _ _ hb (by omega) (by omega) (by simp)) ?_
 rintro ⟨v1, _⟩ ⟨v1_m, rfl⟩
 dsimp only at v1_m ⊢
 have hv : v1 ≤ (10 : Nat) := by simp at v1_m; omega
 refine EvS.mono (someEntries_l0 b hb 10 [] v1 _ hv (by omega) (by omega) (by simp)) (fun r hr => ?_)
 obtain ⟨g1, g2, g3⟩ := hr
 simp at g1
 exact ⟨by omega, by omega, by omega⟩
theorem anyEntries_ok (b : List Int) (p : Int) (hb : BytesOk b) (h0 : 0 ≤ p) (h1 : p ≤ 1000) :
  EvS (fun k => spec_anyEntries.f k b p) (fun r => r.1.length ≤ 20 ∧ p ≤ r.2 ∧ r.2 ≤ p + 90) := by
 simp only [spec_anyEntries.f]
 refine EvS.bind (someEntries_ok b p hb h0 h1) ?_
 rintro ⟨es, q⟩ ⟨g1, g2, g3⟩
 dsimp only at g1 g2 g3 ⊢
 refine EvS.ite (fun c => ?_) (fun c => EvS.now ⟨g1, by dsimp only; omega, by dsimp only; omega⟩)
 refine EvS.bind (pick_ok _ _ _ hb (by omega) (by omega)) ?_
 rintro ⟨v1, _⟩ ⟨v1_0, v1_1, v1_2, rfl⟩
 dsimp only at v1_0 v1_1 v1_2 ⊢
 refine EvS.bind (pick_ok _ _ _ hb (by omega) (by omega)) ?_
 rintro ⟨v2, _⟩ ⟨v2_0, v2_1, v2_2, rfl⟩
 dsimp only at v2_0 v2_1 v2_2 ⊢
 have hv := v1_1 (by omega)
 refine EvS.ite (fun _ => ?_) (fun _ => EvS.ite (fun _ => ?_) (fun _ => EvS.ite (fun _ => ?_) (fun _ => ?_)))
 ·refine EvS.bind (one_ok _ _ _ hb (by omega) (by omega) (by simp)) ?_
  rintro ⟨v3, _⟩ ⟨v3_m, rfl⟩
  dsimp only at v3_m ⊢
  exact EvS.pos v1_0 (EvS.pos hv (EvS.now ⟨by simp; omega, by dsimp only; omega, by dsimp only; omega⟩))
 ·refine EvS.pos v1_0 (EvS.pos hv ?_)
  refine EvS.bind (one_ok _ _ _ hb (by omega) (by omega) (by simp)) ?_
  rintro ⟨v3, _⟩ ⟨v3_m, rfl⟩
  dsimp only at v3_m ⊢
  exact EvS.now ⟨by simp; omega, by dsimp only; omega, by dsimp only; omega⟩
 ·refine EvS.bind (one_ok _ _ _ hb (by omega) (by omega) (by simp)) ?_
  rintro ⟨v3, _⟩ ⟨v3_m, rfl⟩
  dsimp only at v3_m ⊢
  exact EvS.pos v1_0 (EvS.pos hv (EvS.now ⟨by simp; omega, by dsimp only; omega, by dsimp only; omega⟩))
 ·exact EvS.now ⟨g1, by dsimp only; omega, by dsimp only; omega⟩
/-! ## Two books. -/
def eqE (a b : S33) : Bool := a.f0 == b.f0 && (a.f1 == b.f1 && (a.f2 == b.f2 && (a.f3 == b.f3)))
theorem eqE_iff (a b : S33) : eqE a b = true ↔ a = b := by
 cases a; cases b
 simp [eqE]
theorem eqE_symm (a b : S33) : eqE a b = eqE b a := by
 rw [Bool.eq_iff_iff, eqE_iff, eqE_iff]
 exact ⟨fun h => h.symm, fun h => h.symm⟩
/-- The first entry, from place i on, that is e and is not used. -/
def find1 (e : S33) : List S33 → List Bool → Int → Int
 | b :: bs, u :: us, i => if u = true then find1 e bs us (i + 1) else if eqE b e = true then i else find1 e bs us (i + 1)
 | _, _, _ => -1
def mark1 (u : List Bool) (p : Int) : List Bool := if p < 0 then u else u.set p.toNat true
def partn (b : List S33) : List S33 → List Bool → List Int
 | [], _ => []
 | e :: es, u => find1 e b u 0 :: partn b es (mark1 u (find1 e b u 0))
theorem partn_len (b : List S33) (es : List S33) : ∀ u : List Bool, (partn b es u).length = es.length := by
 induction es with
 | nil => intro u; rfl
 | cons e es ih => intro u; simp [partn, ih]
theorem mark1_len (u : List Bool) (p : Int) : (mark1 u p).length = u.length := by unfold mark1; split <;> simp
theorem impl_match_l1 {P : List Int → Prop} (a b : List S33) (hb : b.length ≤ 2000000) (u : List Bool) (hu : u.length = b.length) (out : List Int) (ho : out.length ≤ 4000000) (e : S33) (m i p : Int)
  (K : EvS (fun k => impl_MatchBooks.l0 k b (mark1 u p) (out ++ [p]) a m (wrap64 (i + 1))) P) (ys : List S33) : ∀ (us : List Bool) (j : Int), At b j ys → At u j us → find1 e ys us j = p →
  EvS (fun k => impl_MatchBooks.l1 k b u out (-1) a m i b b.length j e.f0 e.f1 e.f2 e.f3) P := by
 induction ys with
 | nil =>
  intro us j h g ep
  simp only [find1] at ep
  subst ep
  refine EvS.step (fun k => by rw [impl_MatchBooks.l1]) ?_
  exact EvS.neg (by have := h.ge; omega) (EvS.pos (by omega) K)
 | cons y ys ih =>
  intro us j h g ep
  have h0 := h.nonneg
  have h1 := h.lt
  have h2 := h.len
  have g2 := g.len
  cases us with
  | nil => simp at h2 g2; omega
  | cons v us =>
   refine EvS.step (fun k => by rw [impl_MatchBooks.l1]) ?_
   refine EvS.pos h.lt (EvS.pos h.nonneg (EvS.pos h.lt (EvS.pos (by omega) ?_)))
   rw [show rdOf false u j = v from g.getD false, at_rdE h]
   have hn := h.wnext (by omega)
   have gn := g.wnext (by omega)
   rw [w64 (x := j + 1) (by omega) (by omega)] at hn gn ⊢
   simp only [find1] at ep
   refine EvS.ite (fun c => ?_) (fun c => ?_)
   ·rw [if_pos c] at ep
    exact ih us _ hn gn ep
   ·rw [if_neg c] at ep
    refine EvS.ite (fun d => ?_) (fun d => ?_)
    ·rw [if_pos (show eqE y e = true from d)] at ep
     subst ep
     refine EvS.pos (by omega) ?_
     have : mark1 u j = u.set j.toNat true := by unfold mark1; rw [if_neg (by omega)]
     rw [this] at K
     exact K
    ·rw [if_neg (show ¬ eqE y e = true from d)] at ep
     exact ih us _ hn gn ep
theorem impl_match_l0 (a b : List S33) (ha : a.length ≤ 2000000) (hb : b.length ≤ 2000000) (ys : List S33) : ∀ (i : Int) (u : List Bool) (out : List Int), At a i ys → u.length = b.length → out.length ≤ i →
  EvS (fun k => impl_MatchBooks.l0 k b u out a a.length i) (· = out ++ partn b ys u) := by
 induction ys with
 | nil =>
  intro i u out h hu ho
  refine EvS.step (fun k => by rw [impl_MatchBooks.l0]) ?_
  exact EvS.neg (by have := h.ge; omega) (EvS.now (by simp [partn]))
 | cons y ys ih =>
  intro i u out h hu ho
  have h1 := h.lt
  have h0 := h.nonneg
  refine EvS.step (fun k => by rw [impl_MatchBooks.l0]) ?_
  refine EvS.pos h.lt (EvS.pos h.nonneg (EvS.pos h.lt ?_))
  rw [at_rdE h]
  refine impl_match_l1 a b hb u hu out (by omega) y _ i (find1 y b u 0) ?_ b u 0 (At.zero _) (At.zero _) rfl
  rw [w64 (x := i + 1) (by omega) (by omega)]
  refine EvS.mono (ih (i + 1) _ _ h.next (by rw [mark1_len, hu]) (by simp; omega)) (fun r hr => ?_)
  rw [hr, partn]
  simp
/-- The partners that MatchBooks tells. -/
def partners (a b : List S33) : List Int := if VEs a ∧ VEs b then partn b a (List.replicate b.length false) else []
theorem partners_len (a b : List S33) : (partners a b).length ≤ 40 := by
 unfold partners
 split
 ·rename_i h
  rw [partn_len]
  exact h.1.1
 ·simp
theorem impl_MatchBooks_ok (a b : List S33) (ha : a.length ≤ 2000000) (hb : b.length ≤ 2000000) : EvS (fun k => impl_MatchBooks.f k a b) (· = partners a b) := by
 have jt : ¬ (VEs a ∧ VEs b) → EvS (fun k => impl_MatchBooks.j0 k a b true) (· = partners a b) := by
  intro g
  refine EvS.step (fun k => by rw [impl_MatchBooks.j0]) ?_
  exact EvS.pos rfl (EvS.now (by unfold partners; rw [if_neg g]))
 simp only [impl_MatchBooks.f]
 refine EvS.bindv (impl_ValidEntries_ok a ha) (EvS.ite (fun c => EvS.bindv (impl_ValidEntries_ok b hb) ?_) (fun c => jt (fun g => ndec c g.1)))
 by_cases d : VEs b
 ·rw [decide_eq_true d]
  refine EvS.step (fun k => by rw [impl_MatchBooks.j0]) ?_
  refine EvS.neg (by simp) (EvS.pos (by omega) (EvS.pos (by omega) ?_))
  refine EvS.mono (impl_match_l0 a b ha hb a 0 _ [] (At.zero _) (by simp) (by simp)) (fun r hr => ?_)
  rw [hr]
  unfold partners
  rw [if_pos ⟨of_decide_eq_true c, d⟩]
  simp
 ·rw [decide_eq_false d]
  exact jt (fun g => d g.2)
theorem spec_part_done {P : List Int → Prop} (a b : List S33) (u : List Bool) (out : List Int) (ho : out.length ≤ 4000000) (i p : Int) (hp : 0 ≤ p) (K : EvS (fun k => spec_partners.l0 k a b u (out ++ [p]) (wrap64 (i + 1))) P) (j : Int) : EvS (fun k => spec_partners.l1 k a b u out i p j) P := by
 have jf : EvS (fun k => spec_partners.j2 k a b u out i p j false) P := by
  refine EvS.step (fun k => by rw [spec_partners.j2]) ?_
  exact EvS.neg (by simp) (EvS.pos (by omega) K)
 refine EvS.step (fun k => by rw [spec_partners.l1]) ?_
 rw [decide_eq_false (show ¬ p < 0 by omega)]
 exact EvS.ite (fun _ => jf) (fun _ => jf)
theorem spec_part_l1 {P : List Int → Prop} (a b : List S33) (hb : b.length ≤ 2000000) (u : List Bool) (hu : u.length = b.length) (out : List Int) (ho : out.length ≤ 4000000) (e : S33) (i p : Int) (i0 : 0 ≤ i) (i1 : i < a.length) (he : rd_T33 a i = e)
  (K : EvS (fun k => spec_partners.l0 k a b (mark1 u p) (out ++ [p]) (wrap64 (i + 1))) P) (ys : List S33) : ∀ (us : List Bool) (j : Int), At b j ys → At u j us → find1 e ys us j = p →
  EvS (fun k => spec_partners.l1 k a b u out i (-1) j) P := by
 induction ys with
 | nil =>
  intro us j h g ep
  simp only [find1] at ep
  subst ep
  refine EvS.step (fun k => by rw [spec_partners.l1]) ?_
  refine EvS.neg (by have := h.ge; omega) (EvS.step (fun k => by rw [spec_partners.j2]) ?_)
  exact EvS.neg (by simp) (EvS.pos (by omega) K)
 | cons y ys ih =>
  intro us j h g ep
  have h0 := h.nonneg
  have h1 := h.lt
  have h2 := h.len
  have g2 := g.len
  cases us with
  | nil => simp at h2 g2; omega
  | cons v us =>
   refine EvS.step (fun k => by rw [spec_partners.l1]) ?_
   refine EvS.pos h.lt (EvS.step (fun k => by rw [spec_partners.j2]) ?_)
   refine EvS.pos (by simp) (EvS.pos h.nonneg (EvS.pos (by omega) ?_))
   rw [show rdOf false u j = v from g.getD false, at_rdE h, he]
   have hn := h.wnext (by omega)
   have gn := g.wnext (by omega)
   rw [w64 (x := j + 1) (by omega) (by omega)] at hn gn ⊢
   simp only [find1] at ep
   refine EvS.ite (fun c => ?_) (fun c => ?_)
   ·rw [if_pos c] at ep
    exact ih us _ hn gn ep
   ·rw [if_neg c] at ep
    refine EvS.pos i0 (EvS.pos i1 (EvS.pos h.lt (EvS.ite (fun d => ?_) (fun d => ?_))))
    ·rw [if_pos (show eqE y e = true by rw [eqE_symm]; exact d)] at ep
     subst ep
     have : mark1 u j = u.set j.toNat true := by unfold mark1; rw [if_neg (by omega)]
     rw [this] at K
     exact spec_part_done a b _ out ho i j h0 K _
    ·rw [if_neg (show ¬ eqE y e = true by rw [eqE_symm]; exact d)] at ep
     exact ih us _ hn gn ep
theorem spec_part_l0 (a b : List S33) (ha : a.length ≤ 2000000) (hb : b.length ≤ 2000000) (ys : List S33) : ∀ (i : Int) (u : List Bool) (out : List Int), At a i ys → u.length = b.length → out.length ≤ i →
  EvS (fun k => spec_partners.l0 k a b u out i) (· = out ++ partn b ys u) := by
 induction ys with
 | nil =>
  intro i u out h hu ho
  refine EvS.step (fun k => by rw [spec_partners.l0]) ?_
  exact EvS.neg (by have := h.ge; omega) (EvS.now (by simp [partn]))
 | cons y ys ih =>
  intro i u out h hu ho
  have h1 := h.lt
  have h0 := h.nonneg
  refine EvS.step (fun k => by rw [spec_partners.l0]) ?_
  refine EvS.pos h.lt ?_
  refine spec_part_l1 a b hb u hu out (by omega) y i (find1 y b u 0) h0 h1 (at_rdE h) ?_ b u 0 (At.zero _) (At.zero _) rfl
  rw [w64 (x := i + 1) (by omega) (by omega)]
  refine EvS.mono (ih (i + 1) _ _ h.next (by rw [mark1_len, hu]) (by simp; omega)) (fun r hr => ?_)
  rw [hr, partn]
  simp
theorem spec_partners_ok (a b : List S33) (ha : a.length ≤ 2000000) (hb : b.length ≤ 2000000) : EvS (fun k => spec_partners.f k a b) (· = partn b a (List.replicate b.length false)) := by
 simp only [spec_partners.f]
 refine EvS.pos (by omega) (EvS.pos (by omega) ?_)
 refine EvS.mono (spec_part_l0 a b ha hb a 0 _ [] (At.zero _) (by simp) (by simp)) (fun r hr => ?_)
 rw [hr]
 simp
theorem spec_MatchBooks_ok (a b : List S33) (ha : a.length ≤ 2000000) (hb : b.length ≤ 2000000) : EvS (fun k => spec_MatchBooks.f k a b) (· = partners a b) := by
 have no : ¬ (VEs a ∧ VEs b) → EvS (fun _ => some ([] : List Int)) (· = partners a b) := fun g => EvS.now (by unfold partners; rw [if_neg g])
 simp only [spec_MatchBooks.f]
 refine EvS.bindv (spec_validEntries_ok a ha) (EvS.ite (fun c => EvS.bindv (spec_validEntries_ok b hb) (EvS.ite (fun d => ?_) (fun d => no (fun g => ndec d g.2)))) (fun c => no (fun g => ndec c g.1)))
 refine EvS.bindv (spec_partners_ok a b ha hb) (EvS.now ?_)
 unfold partners
 rw [if_pos ⟨of_decide_eq_true c, of_decide_eq_true d⟩]
/-! ## Two books that are drawn. -/
theorem copyInts_eq2 (l : List Int) (h : l.length ≤ 1000000) : spec_copyInts.f l = some l := by
 simp only [spec_copyInts.f, Option.bind_some, List.length_nil, List.nil_append]
 rw [if_pos (by omega)]
theorem wr_range (x : Int) : -9223372036854775808 ≤ wrap64 x ∧ wrap64 x ≤ 9223372036854775807 := by
 unfold wrap64
 omega
theorem digits_ok (d : Nat) (hd : d ≤ 100) : ∀ a : Int, a < 10 ^ d → a ≤ 9223372036854775807 → EvS (fun k => spec_digits.f k a) (fun r => 1 ≤ r.length ∧ r.length ≤ d + 1) := by
 induction d with
 | zero =>
  intro a h _
  have h : a < 1 := by simpa using h
  refine EvS.step (fun k => by rw [spec_digits.f]) ?_
  exact EvS.pos (by omega) (EvS.now (by simp))
 | succ d ih =>
  intro a h h2
  rw [Int.pow_succ] at h
  have ih := ih (by omega)
  generalize (10 : Int) ^ d = T at h ih
  refine EvS.step (fun k => by rw [spec_digits.f]) ?_
  refine EvS.ite (fun _ => EvS.now (by simp)) (fun c => ?_)
  have e : Int.tdiv a 10 = a / 10 := Int.tdiv_eq_ediv_of_nonneg (by omega)
  rw [e, w64 (x := a / 10) (by omega) (by omega)]
  exact EvS.bind (ih (a / 10) (by omega) (by omega)) (fun r hr => EvS.pos (by omega) (EvS.now (by simp; omega)))
theorem digits_any (a : Int) : EvS (fun k => spec_digits.f k a) (fun r => 1 ≤ r.length ∧ r.length ≤ 21) := by
 refine EvS.step (fun k => by rw [spec_digits.f]) ?_
 refine EvS.ite (fun _ => EvS.now (by simp)) (fun c => ?_)
 have hr := wr_range (Int.tdiv a 10)
 have hp : (10 : Int) ^ 19 = 10000000000000000000 := by decide
 exact EvS.bind (digits_ok 19 (by omega) _ (by omega) (by omega)) (fun r hr => EvS.pos (by omega) (EvS.now (by simp; omega)))
theorem valueOf_l0 (l : List Int) (hl : l.length ≤ 1000) (ys : List Int) : ∀ i v : Int, At l i ys → EvS (fun k => spec_valueOf.l0 k l v i) (fun _ => True) := by
 induction ys with
 | nil =>
  intro i v h
  refine EvS.step (fun k => by rw [spec_valueOf.l0]) ?_
  exact EvS.neg (by have := h.ge; omega) (EvS.now trivial)
 | cons y ys ih =>
  intro i v h
  refine EvS.step (fun k => by rw [spec_valueOf.l0]) ?_
  exact EvS.pos h.lt (EvS.pos h.nonneg (ih _ _ (h.wnext (by omega))))
theorem valueOf_ok (l : List Int) (hl : l.length ≤ 1000) : EvS (fun k => spec_valueOf.f k l) (fun _ => True) := by
 simp only [spec_valueOf.f]
 exact valueOf_l0 l hl l 0 0 (At.zero _)
theorem swaps_l0 (l : List Int) (hl : 1 ≤ l.length ∧ l.length ≤ 100) (d : Nat) : ∀ (i : Int) (out : List Int), i + 1 + d = l.length → 0 ≤ i → out.length ≤ i → EvS (fun k => spec_swaps.l0 k out l i) (fun _ => True) := by
 induction d with
 | zero =>
  intro i out e h0 ho
  refine EvS.step (fun k => by rw [spec_swaps.l0]) ?_
  rw [w64 (x := i + 1) (by omega) (by omega)]
  exact EvS.neg (by omega) (EvS.now trivial)
 | succ d ih =>
  intro i out e h0 ho
  refine EvS.step (fun k => by rw [spec_swaps.l0]) ?_
  rw [w64 (x := i + 1) (by omega) (by omega)]
  refine EvS.pos (by omega) (EvS.call (copyInts_eq2 l (by omega)) (EvS.pos (by omega) (EvS.pos h0 (EvS.pos (by omega) (EvS.pos (by omega) (EvS.pos (by omega) (EvS.onsome (EvS.pos (by omega) (EvS.ite (fun _ => EvS.ite (fun _ => ?_) (fun _ => ?_)) (fun _ => ?_))))))))))
  ·exact ih _ _ (by omega) (by omega) (by omega)
  ·refine EvS.bind (valueOf_ok _ (by simp; omega)) (fun v _ => EvS.pos (by omega) ?_)
   exact ih _ _ (by omega) (by omega) (by simp; omega)
  ·exact ih _ _ (by omega) (by omega) (by omega)
theorem swaps_ok (a : Int) : EvS (fun k => spec_swaps.f k a) (fun _ => True) := by
 simp only [spec_swaps.f]
 refine EvS.bind (digits_any a) (fun l hl => ?_)
 exact swaps_l0 l ⟨hl.1, by omega⟩ (l.length - 1) 0 [] (by omega) (by omega) (by simp)
theorem twoBooks_l0 (b : List Int) (hb : BytesOk b) (x4 : List S33) (h4 : x4.length ≤ 20) (ys : List S33) : ∀ (i p : Int) (x5 : List S33), At x4 i ys → 0 ≤ p → p + 4 * ys.length ≤ 10000 → x5.length ≤ 2 * i →
  EvS (fun k => spec_twoBooks.l0 k x4 x5 i b p) (fun r => r.1.length ≤ 20 ∧ r.2.1.length ≤ 40) := by
 induction ys with
 | nil =>
  intro i p x5 h h0 h1 h2
  have := h.ge
  refine EvS.step (fun k => by rw [spec_twoBooks.l0]) ?_
  exact EvS.neg (by omega) (EvS.now ⟨h4, by dsimp only; omega⟩)
 | cons y ys ih =>
  intro i p x5 h h0 h1 h2
  rw [List.length_cons] at h1
  have hi := h.nonneg
  have hl := h.lt
  have nx : ∀ (z : List S33) (q : Int), z.length ≤ 2 * (i + 1) → p ≤ q → q ≤ p + 4 → EvS (fun k => spec_twoBooks.l0 k x4 z (wrap64 (i + 1)) b q) (fun r => r.1.length ≤ 20 ∧ r.2.1.length ≤ 40) := by
   intro z q hz q0 q1
   rw [w64 (x := i + 1) (by omega) (by omega)]
   exact ih _ _ _ h.next (by omega) (by omega) hz
  refine EvS.step (fun k => by rw [spec_twoBooks.l0]) ?_
  refine EvS.pos h.lt (EvS.pos h.nonneg ?_)
  refine EvS.bind (pick_ok _ _ _ hb (by omega) (by omega)) ?_
  rintro ⟨v1, _⟩ ⟨v1_0, v1_1, v1_2, rfl⟩
  dsimp only at v1_0 v1_1 v1_2 ⊢
  rw [w64 (x := (x5.length : Int) + 1) (by omega) (by omega)]
  refine EvS.ite (fun _ => EvS.bind (swaps_ok _) (fun t _ => EvS.ite (fun c => ?_) (fun _ => ?_))) (fun _ => EvS.ite (fun _ => ?_) (fun _ => EvS.ite (fun _ => ?_) (fun _ => EvS.ite (fun _ => ?_) (fun _ => EvS.ite (fun _ => ?_) (fun _ => ?_)))))
  ·refine EvS.bind (pick_ok _ _ _ hb (by omega) (by omega)) ?_
   rintro ⟨v2, _⟩ ⟨v2_0, v2_1, v2_2, rfl⟩
   dsimp only at v2_0 v2_1 v2_2 ⊢
   have v2_r := v2_1 (by omega)
   refine EvS.pos v2_0 (EvS.pos v2_r ?_)
   refine EvS.bind (pick_ok _ _ _ hb (by omega) (by omega)) ?_
   rintro ⟨v3, _⟩ ⟨v3_0, v3_1, v3_2, rfl⟩
   dsimp only at v3_0 v3_1 v3_2 ⊢
   have v3_r := v3_1 (by first | omega | (simp; omega))
   try simp only [List.length_append, List.length_cons, List.length_nil] at v3_r
   refine EvS.onsome (EvS.pos v3_0 (EvS.pos (by first | omega | (simp; omega)) (EvS.onsome (EvS.pos (by first | omega | (simp; omega)) (EvS.onsome (EvS.onsome (EvS.pos (by first | omega | (simp; omega)) (EvS.onsome (EvS.pos (by first | omega | (simp; omega)) ?_)))))))))
   exact nx _ _ (by simp; omega) (by omega) (by omega)
  ·refine EvS.bind (pick_ok _ _ _ hb (by omega) (by omega)) ?_
   rintro ⟨v3, _⟩ ⟨v3_0, v3_1, v3_2, rfl⟩
   dsimp only at v3_0 v3_1 v3_2 ⊢
   have v3_r := v3_1 (by first | omega | (simp; omega))
   try simp only [List.length_append, List.length_cons, List.length_nil] at v3_r
   refine EvS.onsome (EvS.pos v3_0 (EvS.pos (by first | omega | (simp; omega)) (EvS.onsome (EvS.pos (by first | omega | (simp; omega)) (EvS.onsome (EvS.onsome (EvS.pos (by first | omega | (simp; omega)) (EvS.onsome (EvS.pos (by first | omega | (simp; omega)) ?_)))))))))
   exact nx _ _ (by simp; omega) (by omega) (by omega)
  ·refine EvS.bind (pick_ok _ _ _ hb (by omega) (by omega)) ?_
   rintro ⟨v3, _⟩ ⟨v3_0, v3_1, v3_2, rfl⟩
   dsimp only at v3_0 v3_1 v3_2 ⊢
   have v3_r := v3_1 (by first | omega | (simp; omega))
   try simp only [List.length_append, List.length_cons, List.length_nil] at v3_r
   refine EvS.onsome (EvS.pos v3_0 (EvS.pos (by first | omega | (simp; omega)) (EvS.onsome (EvS.pos (by first | omega | (simp; omega)) (EvS.onsome (EvS.onsome (EvS.pos (by first | omega | (simp; omega)) (EvS.onsome (EvS.pos (by first | omega | (simp; omega)) ?_)))))))))
   exact nx _ _ (by simp; omega) (by omega) (by omega)
  ·refine EvS.bind (pick_ok _ _ _ hb (by omega) (by omega)) ?_
   rintro ⟨v2, _⟩ ⟨v2_0, v2_1, v2_2, rfl⟩
   dsimp only at v2_0 v2_1 v2_2 ⊢
   refine EvS.bind (pick_ok _ _ _ hb (by omega) (by omega)) ?_
   rintro ⟨v3, _⟩ ⟨v3_0, v3_1, v3_2, rfl⟩
   dsimp only at v3_0 v3_1 v3_2 ⊢
   have v3_r := v3_1 (by first | omega | (simp; omega))
   try simp only [List.length_append, List.length_cons, List.length_nil] at v3_r
   refine EvS.onsome (EvS.pos v3_0 (EvS.pos (by first | omega | (simp; omega)) (EvS.onsome (EvS.pos (by first | omega | (simp; omega)) (EvS.onsome (EvS.onsome (EvS.pos (by first | omega | (simp; omega)) (EvS.onsome (EvS.pos (by first | omega | (simp; omega)) ?_)))))))))
   exact nx _ _ (by simp; omega) (by omega) (by omega)
  ·exact nx _ _ (by omega) (by omega) (by omega)
  ·refine EvS.pos (by omega) (EvS.onsome ?_)
   rw [w64 (x := _ + 1) (by simp; omega) (by simp; omega)]
   refine EvS.bind (pick_ok _ _ _ hb (by omega) (by omega)) ?_
   rintro ⟨v3, _⟩ ⟨v3_0, v3_1, v3_2, rfl⟩
   dsimp only at v3_0 v3_1 v3_2 ⊢
   have v3_r := v3_1 (by first | omega | (simp; omega))
   try simp only [List.length_append, List.length_cons, List.length_nil] at v3_r
   refine EvS.onsome (EvS.pos v3_0 (EvS.pos (by first | omega | (simp; omega)) (EvS.onsome (EvS.pos (by first | omega | (simp; omega)) (EvS.onsome (EvS.onsome (EvS.pos (by first | omega | (simp; omega)) (EvS.onsome (EvS.pos (by first | omega | (simp; omega)) ?_)))))))))
   exact nx _ _ (by simp; omega) (by omega) (by omega)
  ·refine EvS.bind (pick_ok _ _ _ hb (by omega) (by omega)) ?_
   rintro ⟨v3, _⟩ ⟨v3_0, v3_1, v3_2, rfl⟩
   dsimp only at v3_0 v3_1 v3_2 ⊢
   have v3_r := v3_1 (by first | omega | (simp; omega))
   try simp only [List.length_append, List.length_cons, List.length_nil] at v3_r
   refine EvS.onsome (EvS.pos v3_0 (EvS.pos (by first | omega | (simp; omega)) (EvS.onsome (EvS.pos (by first | omega | (simp; omega)) (EvS.onsome (EvS.onsome (EvS.pos (by first | omega | (simp; omega)) (EvS.onsome (EvS.pos (by first | omega | (simp; omega)) ?_)))))))))
   exact nx _ _ (by simp; omega) (by omega) (by omega)
theorem twoBooks_ok (b : List Int) (hb : BytesOk b) : EvS (fun k => spec_twoBooks.f k b 0) (fun r => r.1.length ≤ 20 ∧ r.2.1.length ≤ 40) := by
 simp only [spec_twoBooks.f]
 refine EvS.bind (anyEntries_ok b 0 hb (by omega) (by omega)) ?_
 rintro ⟨es, q⟩ ⟨g1, g2, g3⟩
 dsimp only at g1 g2 g3 ⊢
 exact twoBooks_l0 b hb es g1 es 0 q [] (At.zero _) (by omega) (by omega) (by simp)
/-! ## What partners are. -/
instance : BEq S33 := ⟨eqE⟩
instance : LawfulBEq S33 where
 eq_of_beq h := (eqE_iff _ _).1 h
 rfl := (eqE_iff _ _).2 rfl
/-- The entries that are not used. -/
def free : List S33 → List Bool → List S33
 | b :: bs, u :: us => if u = true then free bs us else b :: free bs us
 | _, _ => []
theorem free_all (bs : List S33) : free bs (List.replicate bs.length false) = bs := by
 induction bs with
 | nil => rfl
 | cons b bs ih => simp only [List.length_cons, List.replicate_succ, free, ih]; simp
theorem find1_spec (e : S33) (ys : List S33) : ∀ (us : List Bool) (j : Int), 0 ≤ j → us.length = ys.length →
  (find1 e ys us j = -1 ∧ (free ys us).count e = 0) ∨ (j ≤ find1 e ys us j ∧ find1 e ys us j < j + ys.length ∧ ys.getD (find1 e ys us j - j).toNat z33 = e ∧ rdOf false us (find1 e ys us j - j) = false ∧ ∀ x, (free ys us).count x = (free ys (us.set (find1 e ys us j - j).toNat true)).count x + if (e == x) = true then 1 else 0) := by
 induction ys with
 | nil => intro us j _ _; exact .inl ⟨by simp [find1], by simp [free]⟩
 | cons b bs ih =>
  intro us j h0 hl
  cases us with
  | nil => simp at hl
  | cons u us =>
   rw [List.length_cons, List.length_cons] at hl
   have h := ih us (j + 1) (by omega) (by omega)
   have up : ∀ p : Int, j + 1 ≤ p → (p - j).toNat = (p - (j + 1)).toNat + 1 := fun p hp => by omega
   have ur : ∀ p : Int, j + 1 ≤ p → rdOf false (u :: us) (p - j) = rdOf false us (p - (j + 1)) := fun p hp => by unfold rdOf; rw [up p hp, List.getD_cons_succ]
   simp only [find1, free]
   by_cases hu : u = true
   ·rw [if_pos hu, if_pos hu]
    rcases h with h | ⟨a1, a2, a3, a4, a5⟩
    ·exact .inl h
    ·refine .inr ⟨by omega, by rw [List.length_cons]; omega, by rw [up _ a1, List.getD_cons_succ]; exact a3, by rw [ur _ a1]; exact a4, fun x => ?_⟩
     rw [up _ a1, List.set_cons_succ]
     simp only [free]
     rw [if_pos hu]
     exact a5 x
   ·rw [if_neg hu, if_neg hu]
    by_cases he : eqE b e = true
    ·rw [if_pos he]
     have e' := (eqE_iff b e).1 he
     refine .inr ⟨Int.le_refl _, by rw [List.length_cons]; omega, ?_, ?_, fun x => ?_⟩
     ·rw [Int.sub_self]; exact e'
     ·rw [Int.sub_self]; show u = false; simpa using hu
     ·rw [Int.sub_self]
      simp only [Int.toNat_zero, List.set_cons_zero, free, if_true]
      rw [List.count_cons, e']
    ·rw [if_neg he]
     have hne : ¬ (b == e) = true := fun g => he ((eqE_iff b e).2 (eq_of_beq g))
     rcases h with h | ⟨a1, a2, a3, a4, a5⟩
     ·exact .inl ⟨h.1, by rw [List.count_cons, if_neg hne]; exact h.2⟩
     ·refine .inr ⟨by omega, by rw [List.length_cons]; omega, by rw [up _ a1, List.getD_cons_succ]; exact a3, by rw [ur _ a1]; exact a4, fun x => ?_⟩
      rw [up _ a1, List.set_cons_succ]
      simp only [free]
      rw [if_neg hu, List.count_cons, List.count_cons, a5 x]
      omega
def upL : Nat → Int → List Int
 | 0, _ => []
 | d + 1, i => i :: upL d (i + 1)
theorem upL_len (d : Nat) : ∀ i : Int, (upL d i).length = d := by
 induction d with
 | zero => intro i; rfl
 | succ d ih => intro i; simp only [upL, List.length_cons, ih]
theorem numbers_l0 (n : Int) (hn : n ≤ 2000000) (d : Nat) : ∀ (i : Int) (out : List Int), i + d = n → 0 ≤ i → out.length ≤ i → EvS (fun k => laws_numbers.l0 k n out i) (· = out ++ upL d i) := by
 induction d with
 | zero =>
  intro i out h1 h2 h3
  refine EvS.step (fun k => by rw [laws_numbers.l0]) ?_
  exact EvS.neg (by omega) (EvS.now (by simp [upL]))
 | succ d ih =>
  intro i out h1 h2 h3
  refine EvS.step (fun k => by rw [laws_numbers.l0]) ?_
  rw [w64 (x := i + 1) (by omega) (by omega)]
  refine EvS.pos (by omega) (EvS.pos (by omega) ?_)
  refine EvS.mono (ih (i + 1) _ (by omega) (by omega) (by simp; omega)) (fun r hr => ?_)
  rw [hr, upL]
  simp
theorem numbers_ok (n : Nat) (hn : n ≤ 2000000) : EvS (fun k => laws_numbers.f k n) (· = upL n 0) := by
 simp only [laws_numbers.f]
 refine EvS.mono (numbers_l0 n (by omega) n 0 [] (by omega) (by omega) (by simp)) (fun r hr => ?_)
 rw [hr]; simp
theorem find1_own (e : S33) (es : List S33) (us : List Bool) (pre : List S33) : ∀ j : Int, find1 e (pre ++ e :: es) (List.replicate pre.length true ++ false :: us) j = j + pre.length := by
 induction pre with
 | nil =>
  intro j
  simp only [List.nil_append, List.length_nil, List.replicate_zero, find1]
  rw [if_neg (by simp), if_pos ((eqE_iff e e).2 rfl)]
  omega
 | cons x pre ih =>
  intro j
  simp only [List.cons_append, List.length_cons, List.replicate_succ, find1]
  rw [if_pos trivial, ih (j + 1)]
  omega
theorem partn_own (es : List S33) : ∀ pre : List S33, partn (pre ++ es) es (List.replicate pre.length true ++ List.replicate es.length false) = upL es.length pre.length := by
 induction es with
 | nil => intro pre; rfl
 | cons e es ih =>
  intro pre
  have h := find1_own e es (List.replicate es.length false) pre 0
  rw [Int.zero_add] at h
  simp only [partn, List.length_cons, List.replicate_succ, upL]
  rw [h]
  have hm : mark1 (List.replicate pre.length true ++ false :: List.replicate es.length false) (pre.length : Int) = List.replicate (pre ++ [e]).length true ++ List.replicate es.length false := by
   unfold mark1
   rw [if_neg (by omega), Int.toNat_natCast, List.set_append_right _ _ (by simp), List.length_replicate, Nat.sub_self, List.set_cons_zero, List.length_append, List.length_singleton, List.replicate_succ', List.append_assoc]
   rfl
  rw [hm]
  have h2 := ih (pre ++ [e])
  rw [List.append_assoc] at h2
  rw [show pre ++ e :: es = pre ++ ([e] ++ es) from rfl, h2]
  simp
theorem partn_self (a : List S33) : partn a a (List.replicate a.length false) = upL a.length 0 := by
 have := partn_own a []
 simpa using this
theorem rdOf_set (u : List Bool) (p q : Int) (p0 : 0 ≤ p) (p1 : p < u.length) (q0 : 0 ≤ q) : rdOf false (u.set p.toNat true) q = if p = q then true else rdOf false u q := by
 unfold rdOf
 rw [List.getD_eq_getElem?_getD, List.getD_eq_getElem?_getD, List.getElem?_set]
 by_cases e : p = q
 ·subst e
  rw [if_pos rfl, if_pos (by omega), if_pos rfl]; rfl
 ·rw [if_neg (by omega), if_neg e]
theorem law_l0 (a b : List S33) (ha : a.length ≤ 1000) (hb : b.length ≤ 1000) (out : List Int) (ho : out.length = a.length) (K : EvS (fun k => (impl_MatchBooks.f k a a).bind fun t451 => ((laws_numbers.f k (a.length : Int)).bind fun t454 => ((laws_equalInts.f k t451 t454).bind fun t457 => (some t457)))) (· = true)) (es : List S33) :
  ∀ (i : Int) (u : List Bool), At a i es → At out i (partn b es u) → u.length = b.length → (∀ q ∈ out.take i.toNat, 0 ≤ q → rdOf false u q = true) → EvS (fun k => laws_FnMatchBooks.l0 k a b out i) (· = true) := by
 induction es with
 | nil =>
  intro i u h g hu hq
  have hi := h.ge
  refine EvS.step (fun k => by rw [laws_FnMatchBooks.l0]) ?_
  exact EvS.neg (by omega) K
 | cons e es ih =>
  intro i u h g hu hq
  have h0 := h.nonneg
  have h1 := h.lt
  simp only [partn] at g
  have g1 := g.lt
  have hs := find1_spec e b u 0 (by omega) hu
  have gt := g.take
  refine EvS.step (fun k => by rw [laws_FnMatchBooks.l0]) ?_
  rw [At.rd g, at_rdE h, w64 (x := i + 1) (by omega) (by omega)]
  generalize find1 e b u 0 = p at hs g gt
  rcases hs with ⟨hp, _⟩ | ⟨p0, p1, p2, p3, _⟩
  ·have hm : mark1 u p = u := by unfold mark1; rw [hp]; rfl
   refine EvS.pos g.lt (EvS.pos h0 (EvS.neg (by omega) (ih (i + 1) (mark1 u p) h.next g.next (by rw [hm]; exact hu) ?_)))
   rw [gt, hm]
   intro q hqm q0
   rcases List.mem_append.1 hqm with hqm | hqm
   ·exact hq q hqm q0
   ·rw [List.mem_singleton] at hqm; omega
  ·have hm : mark1 u p = u.set p.toNat true := by unfold mark1; rw [if_neg (by omega)]
   rw [Int.sub_zero] at p2 p3
   have hbe : rd_T33 b p = e := p2
   refine EvS.pos g.lt (EvS.pos h0 (EvS.pos p0 (EvS.pos h.lt (EvS.pos p0 (EvS.pos (by omega) ?_)))))
   rw [hbe]
   refine EvS.neg (by simp) (EvS.pos (by omega) (EvS.bindv (isIn_ok _ (by rw [List.length_take]; omega) p) (EvS.neg ?_ (ih (i + 1) (mark1 u p) h.next g.next (by rw [mark1_len]; exact hu) ?_))))
   ·simp only [decide_eq_true_eq]
    intro hmem
    have := hq p hmem p0
    rw [p3] at this
    simp at this
   ·rw [gt, hm]
    intro q hqm q0
    rw [rdOf_set u p q p0 (by omega) q0]
    rcases List.mem_append.1 hqm with hqm | hqm
    ·split
     ·rfl
     ·exact hq q hqm q0
    ·rw [List.mem_singleton] at hqm
     rw [if_pos hqm.symm]
theorem draw_ok (l : List Int) (hl : ∀ x ∈ l, 0 ≤ x ∧ x ≤ 255) : EvS (fun k => spec_DrawMatchBooks.f k l) (fun r => r.1.length ≤ 20 ∧ r.2.length ≤ 40) := by
 simp only [spec_DrawMatchBooks.f]
 obtain ⟨b, eb, hb⟩ := newReader_ok l hl
 exact EvS.call eb (EvS.bind (twoBooks_ok b hb) (fun r hr => EvS.now hr))
theorem FnMatchBooks : laws_FnMatchBooks.Pure := by
 intro l0 _ _ hw
 refine EvS.holds ?_
 simp only [laws_FnMatchBooks.f]
 refine EvS.ite (fun _ => EvS.now rfl) (fun _ => EvS.bind (draw_ok l0 (fun x hx => u8_range (hw x hx))) ?_)
 rintro ⟨a, b⟩ ⟨ha, hb⟩
 dsimp only at ha hb ⊢
 have hlen := partners_len a b
 refine EvS.bindv (impl_MatchBooks_ok a b (by omega) (by omega)) (EvS.bindv (spec_MatchBooks_ok a b (by omega) (by omega)) (EvS.bindv (equalInts_ok _ (by omega)) (EvS.pos rfl ?_)))
 by_cases c : (partners a b).length = 0
 ·rw [show (((partners a b).length : Int) == 0) = true by simp [c]]
  refine EvS.step (fun k => by rw [laws_FnMatchBooks.j0]) ?_
  exact EvS.pos rfl (EvS.bindv (spec_MatchBooks_ok a b (by omega) (by omega)) (EvS.bindv (equalInts_ok _ (by omega)) (EvS.now rfl)))
 ·rw [show (((partners a b).length : Int) == 0) = false by simp; intro q; rw [q] at c; simp at c]
  have hv : VEs a ∧ VEs b := by
   by_cases v : VEs a ∧ VEs b
   ·exact v
   ·exfalso; apply c; unfold partners; rw [if_neg v]; rfl
  have e1 : partners a b = partn b a (List.replicate b.length false) := by unfold partners; rw [if_pos hv]
  have e2 : partners a a = upL a.length 0 := by unfold partners; rw [if_pos ⟨hv.1, hv.1⟩]; exact partn_self a
  refine EvS.step (fun k => by rw [laws_FnMatchBooks.j0]) ?_
  refine EvS.neg (by simp) ?_
  rw [e1]
  refine law_l0 a b (by omega) (by omega) _ (partn_len _ _ _) ?_ a 0 (List.replicate b.length false) (At.zero _) (At.zero _) (by simp) (fun q hq => by simp at hq)
  refine EvS.bindv (impl_MatchBooks_ok a a (by omega) (by omega)) (EvS.bindv (numbers_ok a.length (by omega)) ?_)
  rw [e2]
  exact EvS.bindv (equalInts_ok _ (by rw [upL_len]; omega)) (EvS.now rfl)
end Go.Proofs.Ytgapjelooefofaa.Pure
